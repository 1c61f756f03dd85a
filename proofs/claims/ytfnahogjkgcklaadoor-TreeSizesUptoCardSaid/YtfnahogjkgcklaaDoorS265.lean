/- Texts sorted and made single: they rise; what is in them. Plain. -/
import Derived.Test.YtfnahogjkgcklaaDoorS253
namespace Go.Proofs.YtfnahogjkgcklaaDoor
open Go.RowKit
set_option linter.unusedVariables false
set_option linter.unusedSimpArgs false
theorem bl_irrefl : ∀ x : List UInt8,Op.bytesLess x x = false
 | [] => rfl
 | a :: x => by simp [Op.bytesLess,bl_irrefl x]
theorem bl_trans : ∀ x y z : List UInt8,Op.bytesLess x y = true → Op.bytesLess y z = true → Op.bytesLess x z = true
 | _,[],_,h,_ => by simp [Op.bytesLess] at h
 | _,_ :: _,[],_,h => by simp [Op.bytesLess] at h
 | [],_ :: _,_ :: _,_,_ => rfl
 | a :: x,b :: y,c :: z,h1,h2 => by
  simp only [Op.bytesLess,Bool.or_eq_true,decide_eq_true_eq,Bool.and_eq_true,beq_iff_eq,UInt8.lt_iff_toNat_lt,← UInt8.toNat_inj] at h1 h2 ⊢
  rcases h1 with h1 | ⟨e1,h1⟩ <;> rcases h2 with h2 | ⟨e2,h2⟩
  ·left; omega
  ·left; omega
  ·left; omega
  ·right; exact ⟨by omega,bl_trans x y z h1 h2⟩
theorem bl_total : ∀ x y : List UInt8,Op.bytesLess x y = false → Op.bytesLess y x = false → x = y
 | [],[],_,_ => rfl
 | [],_ :: _,h,_ => by simp [Op.bytesLess] at h
 | _ :: _,[],_,h => by simp [Op.bytesLess] at h
 | a :: x,b :: y,h1,h2 => by
  simp only [Op.bytesLess,Bool.or_eq_false_iff,decide_eq_false_iff_not,UInt8.lt_iff_toNat_lt,Nat.not_lt] at h1 h2
  have e : a = b := UInt8.toNat_inj.1 (by omega)
  subst e
  simp only [beq_self_eq_true,Bool.true_and] at h1 h2
  rw [bl_total x y h1.2 h2.2]
theorem bl_asymm {x y : List UInt8} (h : Op.bytesLess x y = true) : Op.bytesLess y x = false := by
 cases e : Op.bytesLess y x with
 | false => rfl
 | true => have := bl_trans _ _ _ h e; rw [bl_irrefl] at this; cases this
theorem bl_lt : ∀ x y : List UInt8,x < y ↔ Op.bytesLess x y = true
 | [],[] => by simp [Op.bytesLess]
 | [],_ :: _ => by simp [Op.bytesLess]
 | _ :: _,[] => by simp [Op.bytesLess]
 | a :: x,b :: y => by
  rw [List.cons_lt_cons_iff,bl_lt x y]
  simp [Op.bytesLess]
theorem bl_le (x y : List UInt8) : x ≤ y ↔ Op.bytesLess y x = false := by
 rw [← Bool.not_eq_true,← bl_lt]
 exact Iff.rfl
theorem srt_pair (xs : List (List UInt8)) : (xs.mergeSort fun x y => decide (x ≤ y)).Pairwise fun x y => Op.bytesLess y x = false := by
 refine (List.pairwise_mergeSort (le := fun x y => decide (x ≤ y)) ?_ ?_ xs).imp ?_
 ·intro a b c h1 h2
  simp only [decide_eq_true_eq,bl_le] at h1 h2 ⊢
  cases e : Op.bytesLess c a with
  | false => rfl
  | true =>
   cases e2 : Op.bytesLess b c with
   | true => rw [bl_trans _ _ _ e2 e] at h1; cases h1
   | false => rw [bl_total _ _ h2 e2] at e; rw [e] at h1; cases h1
 ·intro a b
  simp only [Bool.or_eq_true,decide_eq_true_eq,bl_le]
  cases e : Op.bytesLess b a with
  | false => exact .inl rfl
  | true => exact .inr (bl_asymm e)
 ·intro a b h
  simpa only [decide_eq_true_eq,bl_le] using h
theorem compactUpTo_app (zs : List (List UInt8)) (x : List UInt8) : ∀ m,m ≤ zs.length → Lib.compactUpTo (zs ++ [x]).toArray m = Lib.compactUpTo zs.toArray m
 | 0,_ => rfl
 | m + 1,h => by
  rw [Lib.compactUpTo_succ,Lib.compactUpTo_succ,compactUpTo_app zs x m (by omega)]
  have e : ∀ j,j < zs.length → (zs ++ [x]).toArray[j]! = zs.toArray[j]! := fun j hj => by
   simp [getElem!_def,List.getElem?_append_left hj]
  rw [e m (by omega)]
  unfold Lib.keeps
  rw [e m (by omega),e (m - 1) (by omega)]
theorem compact_snoc (zs : List (List UInt8)) (x : List UInt8) : Lib.compact (zs ++ [x]) = Lib.compact zs ++ if zs.getLast? = some x then [] else [x] := by
 unfold Lib.compact
 rw [show (zs ++ [x]).length = zs.length + 1 by simp,Lib.compactUpTo_succ,compactUpTo_app zs x _ (Nat.le_refl _)]
 have e1 : (zs ++ [x]).toArray[zs.length]! = x := by simp [getElem!_def]
 have e2 : Lib.keeps (zs ++ [x]).toArray zs.length = !decide (zs.getLast? = some x) := by
  unfold Lib.keeps
  rw [e1]
  rcases List.eq_nil_or_concat zs with rfl | ⟨i,l,rfl⟩
  ·simp
  ·have e3 : (i ++ [l] ++ [x]).toArray[(i ++ [l]).length - 1]! = l := by simp [getElem!_def]
   rw [List.concat_eq_append,e3]
   simp only [List.length_append,List.length_cons,List.length_nil,List.getLast?_append,List.getLast?_singleton,Option.some_or,Option.some.injEq]
   by_cases h : l = x
   ·simp [h]
   ·simp [h,Ne.symm h]
 rw [e1,e2]
 by_cases h : zs.getLast? = some x <;> simp [h]
theorem compact_law (n : Nat) : ∀ zs : List (List UInt8),zs.length = n → zs.Pairwise (fun x y => Op.bytesLess y x = false) → (Lib.compact zs).Pairwise (fun x y => Op.bytesLess x y = true) ∧ ∀ x,x ∈ Lib.compact zs ↔ x ∈ zs := by
 induction n with
 | zero =>
  intro zs h _
  rw [List.length_eq_zero_iff.1 h]
  exact ⟨List.Pairwise.nil,fun x => Iff.rfl⟩
 | succ n ih =>
  intro zs h hp
  rcases List.eq_nil_or_concat zs with rfl | ⟨i,x,rfl⟩
  ·simp at h
  rw [List.concat_eq_append] at h hp ⊢
  obtain ⟨p1,p2,p3⟩ := List.pairwise_append.1 hp
  obtain ⟨k1,k2⟩ := ih i (by simpa using h) p1
  rw [compact_snoc]
  split
  ·rename_i hl
   rw [List.append_nil]
   refine ⟨k1,fun y => ?_⟩
   rw [k2,List.mem_append,List.mem_singleton]
   refine ⟨.inl,fun h => h.elim id fun e => ?_⟩
   rw [e]
   exact List.mem_of_getLast? hl
  ·rename_i hl
   refine ⟨List.pairwise_append.2 ⟨k1,List.pairwise_singleton _ _,fun y hy z hz => ?_⟩,fun y => by simp only [List.mem_append,k2]⟩
   rw [List.mem_singleton.1 hz]
   have hy := (k2 y).1 hy
   have h1 := p3 y hy x (List.mem_singleton.2 rfl)
   cases e : Op.bytesLess y x with
   | true => rfl
   | false =>
    exfalso
    have := bl_total _ _ e h1
    subst this
    rcases List.eq_nil_or_concat i with rfl | ⟨j,l,rfl⟩
    ·cases hy
    ·rw [List.concat_eq_append] at hy hl p1 p3
     have hlx : l ≠ y := fun h => hl (by simp [h])
     rcases List.mem_append.1 hy with h2 | h2
     ·have h3 := (List.pairwise_append.1 p1).2.2 y h2 l (List.mem_singleton.2 rfl)
      have h4 := p3 l (by simp) y (by simp)
      exact hlx (bl_total _ _ h3 h4)
     ·exact hlx (List.mem_singleton.1 h2).symm
/-- One text before another one. -/
def ltT (a b : ByteArray) : Prop := Op.bytesLess a.toList b.toList = true
theorem toL_ofL (zs : List (List UInt8)) : toL (ofL zs) = zs := by simp [toL,ofL,Function.comp_def]
theorem mem_ofL {zs : List (List UInt8)} {b : ByteArray} : b ∈ ofL zs ↔ b.data.toList ∈ zs := by
 unfold ofL
 rw [List.mem_map]
 constructor
 ·rintro ⟨x,hx,rfl⟩; simpa using hx
 ·intro h; exact ⟨_,h,by apply ByteArray.ext; simp⟩
theorem mem_toL {xs : List ByteArray} {b : ByteArray} : b.data.toList ∈ toL xs ↔ b ∈ xs := by
 rw [← mem_ofL,ofL_toL]
theorem uniqT_mem (xs : List ByteArray) (b : ByteArray) : b ∈ uniqT xs ↔ b ∈ xs := by
 unfold uniqT srtL
 rw [toL_ofL,mem_ofL,(compact_law _ _ rfl (srt_pair _)).2,List.mem_mergeSort,mem_toL]
theorem uniqT_rise (xs : List ByteArray) : (uniqT xs).Pairwise ltT := by
 unfold uniqT srtL ofL
 rw [show toL ((toL xs).mergeSort (fun x y => decide (x ≤ y)) |>.map fun x => (⟨x.toArray⟩ : ByteArray)) = (toL xs).mergeSort fun x y => decide (x ≤ y) from toL_ofL _,List.pairwise_map]
 refine (compact_law _ _ rfl (srt_pair _)).1.imp fun {a b} h => ?_
 unfold ltT
 rw [ByteArray.toList_eq,ByteArray.toList_eq]
 exact h
theorem ltT_ne {a b : ByteArray} (h : ltT a b) : a ≠ b := by
 rintro rfl
 unfold ltT at h
 rw [bl_irrefl] at h
 cases h
theorem rise_nodup {l : List ByteArray} (h : l.Pairwise ltT) : l.Nodup := h.imp fun h => ltT_ne h
theorem nodup_le {α : Type} [DecidableEq α] : ∀ {a b : List α},a.Nodup → (∀ x ∈ a,x ∈ b) → a.length ≤ b.length
 | [],b,_,_ => Nat.zero_le _
 | x :: r,b,h,hs => by
  obtain ⟨h1,h2⟩ := List.nodup_cons.1 h
  have hx := hs x (by simp)
  have := nodup_le (b := b.erase x) h2 fun y hy => (List.mem_erase_of_ne (fun e => h1 (by rw [← e]; exact hy))).2 (hs y (by simp [hy]))
  rw [List.length_erase_of_mem hx] at this
  have := List.length_pos_of_mem hx
  simp only [List.length_cons]
  omega
theorem uniqT_le {a : List ByteArray} {b : List ByteArray} (h : ∀ x ∈ a,x ∈ b) : (uniqT a).length ≤ b.length :=
 nodup_le (rise_nodup (uniqT_rise a)) fun x hx => h x ((uniqT_mem a x).1 hx)
/-- A node's names: those of its kids, and perhaps its own. -/
theorem names_near (t : Nd) : (uniqT (nmsL t.kids)).length ≤ (uniqT (nmsL [t])).length ∧ (uniqT (nmsL [t])).length ≤ (uniqT (nmsL t.kids)).length + 1 := by
 have e : nmsL [t] = nmL t ++ nmsL t.kids := by simp [nmsL,nms_eq]
 rw [e]
 constructor
 ·refine nodup_le (rise_nodup (uniqT_rise _)) fun x hx => ?_
  rw [uniqT_mem] at hx ⊢
  exact List.mem_append_right _ hx
 ·have := uniqT_le (a := nmL t ++ nmsL t.kids) (b := nmL t ++ uniqT (nmsL t.kids)) fun x hx => by
   rw [List.mem_append] at hx ⊢
   rw [uniqT_mem]
   exact hx
  rw [List.length_append] at this
  have := nmL_len t
  omega
end Go.Proofs.YtfnahogjkgcklaaDoor
