/- Several texts in one: what each is for stands ahead of it. -/
import Derived.Test.YtfnahogjkgcklaaDoorTF
import Derived.Test.YtfnahogjkgcklaaDoorTE
import Derived.Test.YtfnahogjkgcklaaDoorS235
import Derived.Test.YtfnahogjkgcklaaDoorIc41
/- tree.Names, what it tells as a row of its own. -/
namespace Go.Proofs.YtfnahogjkgcklaaDoor
open Go.RowKit Go.Shelf Go.Sort
set_option maxRecDepth 100000
set_option linter.unusedVariables false
set_option linter.unusedSimpArgs false
def nmV (l : List Nd) (a : Nat) : AV := if nmsL l = [] then .lst 0 [] (some []) else .vec 1 a 0 (uniqT (nmsL l)).length none
def nmB (l : List Nd) : Option ABlk := if nmsL l = [] then none else some ⟨1,strs (ofL (cmpL (toL (srtL (nmsL l))))),false,9⟩
set_option maxHeartbeats 0 in
theorem names_o (l : List Nd) (ro : Option (List AV)) (hz : Nd.wtL l ≤ 2000000) (hs : Nd.sizeL l ≤ 2000000) (H : AHeap) : D Tryd.prog 10 [.lst 4 (ndL l) ro] H (.ret (nmV l H.length)) (nmB l :: H) := by
 have hE := eachNm_all l
 have hnl := nmsL_len l
 refine D_of_DK (by simp) (dk10 (E_of_ES ?_))
 simp only [ic10,ux]
 refine ES_seq_gen fun L hL => ?_
 simp -implicitDefEqProofs (maxSteps := 99999999) (disch := first | omega | (simp only [AHeap.set_length,killO_length,List.length_cons,List.length_nil]; first | done | omega)) only [vu,va,vg,vs,vw,Nat.reduceMul,ite_true,ite_false,eq_self,forall_const,implies_true,Nat.reduceAdd,Nat.reduceSub,Nat.reduceLT,Nat.reduceLeDiff,↓reduceIte,reduceCtorEq,Int.reduceEq,Int.reduceLT,Int.reduceLE,Int.reduceGT,Int.reduceGE,Int.reduceAdd,Int.reduceSub,Int.reduceNeg,Int.reduceToNat,Nat.reduceBEq,Nat.reduceEqDiff]
 refine hL _ _ ?_
 clear hL
 refine ES_seq_gen fun L hL => ?_
 simp -implicitDefEqProofs (maxSteps := 99999999) (disch := first | omega | (simp only [AHeap.set_length,killO_length,List.length_cons,List.length_nil]; first | done | omega)) only [vu,va,vg,vs,vw,Nat.reduceMul,ite_true,ite_false,eq_self,forall_const,implies_true,Nat.reduceAdd,Nat.reduceSub,Nat.reduceLT,Nat.reduceLeDiff,↓reduceIte,reduceCtorEq,Int.reduceEq,Int.reduceLT,Int.reduceLE,Int.reduceGT,Int.reduceGE,Int.reduceAdd,Int.reduceSub,Int.reduceNeg,Int.reduceToNat,Nat.reduceBEq,Nat.reduceEqDiff]
 refine hL _ _ ?_
 clear hL
 refine ES_seq_gen fun L hL => ?_
 simp -implicitDefEqProofs (maxSteps := 99999999) (disch := first | omega | (simp only [AHeap.set_length,killO_length,List.length_cons,List.length_nil]; first | done | omega)) only [vu,va,vg,vs,vw,Nat.reduceMul,ite_true,ite_false,eq_self,forall_const,implies_true,Nat.reduceAdd,Nat.reduceSub,Nat.reduceLT,Nat.reduceLeDiff,↓reduceIte,reduceCtorEq,Int.reduceEq,Int.reduceLT,Int.reduceLE,Int.reduceGT,Int.reduceGE,Int.reduceAdd,Int.reduceSub,Int.reduceNeg,Int.reduceToNat,Nat.reduceBEq,Nat.reduceEqDiff]
 have hw0 : OutW (some ⟨1,[.lst 0 [] (some [])],true,29⟩ :: H) H.length [] 0 := ⟨find_top rfl,fun e => (e rfl).elim⟩
 refine callR_rel (hE ro [] H.length 0 _ (by simp; omega) hz hw0) ?_
 rintro v G hGl ⟨rfl,io,hQ⟩
 rw [List.nil_append] at hQ
 have hbx := hQ.out.box
 simp -implicitDefEqProofs (maxSteps := 99999999) (disch := first | omega | (simp only [AHeap.set_length,killO_length,List.length_cons,List.length_nil]; first | done | omega)) only [vu,va,vg,vs,vw,Nat.reduceMul,ite_true,ite_false,eq_self,forall_const,implies_true,Nat.reduceAdd,Nat.reduceSub,Nat.reduceLT,Nat.reduceLeDiff,↓reduceIte,reduceCtorEq,Int.reduceEq,Int.reduceLT,Int.reduceLE,Int.reduceGT,Int.reduceGE,Int.reduceAdd,Int.reduceSub,Int.reduceNeg,Int.reduceToNat,Nat.reduceBEq,Nat.reduceEqDiff]
 refine hL _ _ ?_
 clear hL
 refine ES_seq_gen fun L hL => ?_
 simp -implicitDefEqProofs (maxSteps := 99999999) (disch := first | omega | (simp only [AHeap.set_length,killO_length,List.length_cons,List.length_nil]; first | done | omega)) only [vu,hbx,va,vg,vs,vw,Nat.reduceMul,ite_true,ite_false,eq_self,forall_const,implies_true,Nat.reduceAdd,Nat.reduceSub,Nat.reduceLT,Nat.reduceLeDiff,↓reduceIte,reduceCtorEq,Int.reduceEq,Int.reduceLT,Int.reduceLE,Int.reduceGT,Int.reduceGE,Int.reduceAdd,Int.reduceSub,Int.reduceNeg,Int.reduceToNat,Nat.reduceBEq,Nat.reduceEqDiff]
 refine callR_ret (sort_o (nmsL l) (by omega) io _ (fun e => (hQ.out.own e).1)) ?_
 simp -implicitDefEqProofs (maxSteps := 99999999) (disch := first | omega | (simp only [AHeap.set_length,killO_length,List.length_cons,List.length_nil]; first | done | omega)) only [vu,va,vg,vs,vw,Nat.reduceMul,ite_true,ite_false,eq_self,forall_const,implies_true,Nat.reduceAdd,Nat.reduceSub,Nat.reduceLT,Nat.reduceLeDiff,↓reduceIte,reduceCtorEq,Int.reduceEq,Int.reduceLT,Int.reduceLE,Int.reduceGT,Int.reduceGE,Int.reduceAdd,Int.reduceSub,Int.reduceNeg,Int.reduceToNat,Nat.reduceBEq,Nat.reduceEqDiff]
 by_cases e : nmsL l = []
 ·rw [if_pos e]
  rw [e] at hbx ⊢
  have hbx' : AHeap.find G H.length = some ⟨1,[.lst 0 [] (some [])],true,29⟩ := hbx
  refine hL _ _ ?_
  clear hL
  simp -implicitDefEqProofs (maxSteps := 99999999) (disch := first | omega | (simp only [AHeap.set_length,killO_length,List.length_cons,List.length_nil]; first | done | omega)) only [vu,hbx',va,vg,vs,vw,Nat.reduceMul,ite_true,ite_false,eq_self,forall_const,implies_true,Nat.reduceAdd,Nat.reduceSub,Nat.reduceLT,Nat.reduceLeDiff,↓reduceIte,reduceCtorEq,Int.reduceEq,Int.reduceLT,Int.reduceLE,Int.reduceGT,Int.reduceGE,Int.reduceAdd,Int.reduceSub,Int.reduceNeg,Int.reduceToNat,Nat.reduceBEq,Nat.reduceEqDiff]
  refine callR_ret (compact_n _) ?_
  simp -implicitDefEqProofs (maxSteps := 99999999) (disch := first | omega | (simp only [AHeap.set_length,killO_length,List.length_cons,List.length_nil]; first | done | omega)) only [vu,va,vg,vs,vw,Nat.reduceMul,ite_true,ite_false,eq_self,forall_const,implies_true,Nat.reduceAdd,Nat.reduceSub,Nat.reduceLT,Nat.reduceLeDiff,↓reduceIte,reduceCtorEq,Int.reduceEq,Int.reduceLT,Int.reduceLE,Int.reduceGT,Int.reduceGE,Int.reduceAdd,Int.reduceSub,Int.reduceNeg,Int.reduceToNat,Nat.reduceBEq,Nat.reduceEqDiff]
  unfold nmV nmB
  rw [if_pos e,if_pos e]
  refine weak_ownT (k := 1) (xs := []) (io := 0) (ty := 9) (fun i hi => ?_) (fun h => (h rfl).elim) (fun _ => .nil) (fun _ => ⟨_,rfl⟩) (fun h => (h rfl).elim)
  rw [hQ.old i (by simp; omega) (by omega) (fun h => (h rfl).elim),find_past hi]
 ·rw [if_neg e]
  obtain ⟨o1,o2⟩ := hQ.out.own e
  have o3 : H.length + 1 ≤ io := by
   rcases hQ.at_ e with ⟨h,_⟩ | h
   ·exact (h rfl).elim
   ·simpa using h
  rw [OwnB_ne (strs_ne e)] at o1
  have o4 := AHeap.find_lt o1
  have hbx' : AHeap.find (AHeap.set G io (some ⟨1,strs (srtL (nmsL l)),false,9⟩)) H.length = some ⟨1,[.vec 1 io 0 (srtL (nmsL l)).length none],true,29⟩ := by
   rw [AHeap.find_set_ne (fun h => o2 h.symm),hbx,OwnV_ne (strs_ne e),strs_length,srtL_length]
  have hfs : AHeap.find (AHeap.set G io (some ⟨1,strs (srtL (nmsL l)),false,9⟩)) io = some ⟨1,strs (srtL (nmsL l)),false,9⟩ := AHeap.find_set_same o4
  have hne : srtL (nmsL l) ≠ [] := fun h => e (by have := srtL_length (nmsL l); rw [h] at this; exact List.length_eq_zero_iff.1 (by simpa using this.symm))
  rw [show ofL ((toL (nmsL l)).mergeSort fun x y => decide (x ≤ y)) = srtL (nmsL l) from rfl]
  have hco := compact_o (srtL (nmsL l)) hne (by rw [srtL_length]; omega) io _ hfs
  have hul : uniqT (nmsL l) = ofL (Lib.compact (toL (srtL (nmsL l)))) := rfl
  obtain ⟨S,hS⟩ : ∃ S,srtL (nmsL l) = S := ⟨_,rfl⟩
  rw [hS] at hul hco hfs hbx' hne ⊢
  refine hL _ _ ?_
  clear hL
  simp -implicitDefEqProofs (maxSteps := 99999999) (disch := first | omega | (simp only [AHeap.set_length,killO_length,List.length_cons,List.length_nil]; first | done | omega)) only [vu,hbx',va,vg,vs,vw,Nat.reduceMul,ite_true,ite_false,eq_self,forall_const,implies_true,Nat.reduceAdd,Nat.reduceSub,Nat.reduceLT,Nat.reduceLeDiff,↓reduceIte,reduceCtorEq,Int.reduceEq,Int.reduceLT,Int.reduceLE,Int.reduceGT,Int.reduceGE,Int.reduceAdd,Int.reduceSub,Int.reduceNeg,Int.reduceToNat,Nat.reduceBEq,Nat.reduceEqDiff]
  refine callR_ret hco ?_
  simp -implicitDefEqProofs (maxSteps := 99999999) (disch := first | omega | (simp only [AHeap.set_length,killO_length,List.length_cons,List.length_nil]; first | done | omega)) only [vu,va,vg,vs,vw,Nat.reduceMul,ite_true,ite_false,eq_self,forall_const,implies_true,Nat.reduceAdd,Nat.reduceSub,Nat.reduceLT,Nat.reduceLeDiff,↓reduceIte,reduceCtorEq,Int.reduceEq,Int.reduceLT,Int.reduceLE,Int.reduceGT,Int.reduceGE,Int.reduceAdd,Int.reduceSub,Int.reduceNeg,Int.reduceToNat,Nat.reduceBEq,Nat.reduceEqDiff]
  rw [set_set]
  have hcl := compact_le (toL S)
  unfold nmV nmB
  rw [if_neg e,if_neg e,hul,ofL_length,hS]
  refine weak_gen [io] (by simp) (by simp) (by simp; omega) (fun id k hid hk => .inl ?_) (fun i s k hs hk => ?_) (.vecR (newId_one (by omega)) (.inl rfl))
  ·rw [find_past (by omega)] at hk
   refine ⟨hk,?_⟩
   rw [AHeap.find_set_ne (by omega),hQ.old id (by simp; omega) (by omega) (fun h => (h rfl).elim),find_past hid]
   exact hk
  ·rcases i with _ | i
   ·simp at hs
    subst hs
    rw [Nat.add_zero,find_top rfl] at hk
    cases hk
    exact ⟨_,AHeap.find_set_same o4,rfl,rfl,fun h => h,strs_gzT⟩
   ·simp at hs
end Go.Proofs.YtfnahogjkgcklaaDoor
/- The document's Names: rows that rise, plain; a row that is handed on. -/
namespace Go.Proofs.YtfnahogjkgcklaaDoor
open Go.RowKit
set_option maxRecDepth 100000
set_option linter.unusedVariables false
set_option linter.unusedSimpArgs false
def lessT (a b : ByteArray) : Bool := Op.bytesLess a.toList b.toList
def insT : List ByteArray → ByteArray → List ByteArray
 | [],s => [s]
 | x :: r,s => if lessT x s then x :: insT r s else if x = s then x :: r else s :: x :: r
theorem toList_inj {a b : ByteArray} (h : a.toList = b.toList) : a = b := by
 rw [ByteArray.toList_eq,ByteArray.toList_eq] at h
 apply ByteArray.ext
 exact Array.toList_inj.1 h
theorem insT_mem (s : ByteArray) : ∀ (xs : List ByteArray) (b : ByteArray),b ∈ insT xs s ↔ b ∈ xs ∨ b = s
 | [],b => by simp [insT]
 | x :: r,b => by
  unfold insT
  split
  ·rw [List.mem_cons,insT_mem s r,List.mem_cons]
   constructor
   ·rintro (h | h | h)
    ·exact .inl (.inl h)
    ·exact .inl (.inr h)
    ·exact .inr h
   ·rintro ((h | h) | h)
    ·exact .inl h
    ·exact .inr (.inl h)
    ·exact .inr (.inr h)
  ·split
   ·rename_i e
    subst e
    rw [List.mem_cons]
    constructor
    ·exact .inl
    ·rintro (h | h)
     ·exact h
     ·exact .inl h
   ·rw [List.mem_cons,List.mem_cons]
    constructor
    ·rintro (h | h)
     ·exact .inr h
     ·exact .inl h
    ·rintro (h | h)
     ·exact .inr h
     ·exact .inl h
theorem insT_rise (s : ByteArray) : ∀ {xs : List ByteArray},xs.Pairwise ltT → (insT xs s).Pairwise ltT
 | [],_ => List.pairwise_singleton _ _
 | x :: r,h => by
  obtain ⟨h1,h2⟩ := List.pairwise_cons.1 h
  unfold insT
  split
  ·rename_i hl
   refine List.pairwise_cons.2 ⟨fun y hy => ?_,insT_rise s h2⟩
   rcases (insT_mem s r y).1 hy with hy | rfl
   ·exact h1 y hy
   ·exact hl
  ·rename_i hl
   split
   ·exact h
   ·rename_i hne
    have hsx : ltT s x := by
     unfold ltT
     cases e : Op.bytesLess s.toList x.toList with
     | true => rfl
     | false =>
      exfalso
      refine hne (toList_inj (bl_total _ _ ?_ e))
      simpa [lessT] using hl
    refine List.pairwise_cons.2 ⟨fun y hy => ?_,h⟩
    rcases List.mem_cons.1 hy with rfl | hy
    ·exact hsx
    ·exact ltT_trans hsx (h1 y hy)
theorem fold_mem : ∀ (l xs : List ByteArray) (b : ByteArray),b ∈ l.foldl insT xs ↔ b ∈ xs ∨ b ∈ l
 | [],xs,b => by simp
 | s :: r,xs,b => by
  rw [List.foldl_cons,fold_mem r,insT_mem,List.mem_cons,or_assoc]
theorem fold_rise : ∀ (l : List ByteArray) {xs : List ByteArray},xs.Pairwise ltT → (l.foldl insT xs).Pairwise ltT
 | [],_,h => h
 | s :: r,_,h => fold_rise r (insT_rise s h)
theorem fold_uniq (l : List ByteArray) : l.foldl insT [] = uniqT l := uniqT_of (fold_rise l List.Pairwise.nil) fun x => by simp [fold_mem]
theorem insT_len (s : ByteArray) : ∀ xs : List ByteArray,(insT xs s).length ≤ xs.length + 1
 | [] => by simp [insT]
 | x :: r => by
  have := insT_len s r
  unfold insT
  split
  ·simp only [List.length_cons]; omega
  ·split <;> simp
theorem fold_len : ∀ (l xs : List ByteArray),(l.foldl insT xs).length ≤ xs.length + l.length
 | [],xs => by simp
 | s :: r,xs => by
  have := fold_len r (insT xs s)
  have := insT_len s xs
  rw [List.foldl_cons,List.length_cons]
  omega
/-- Where a text goes in. -/
theorem insT_at {s : ByteArray} : ∀ {xs : List ByteArray} {j : Nat},j ≤ xs.length → (∀ i,i < j → lessT (xs.getD i ⟨#[]⟩) s = true) → (j < xs.length → lessT (xs.getD j ⟨#[]⟩) s = false) → insT xs s = if j < xs.length ∧ xs.getD j ⟨#[]⟩ = s then xs else xs.take j ++ s :: xs.drop j
 | [],j,h,_,_ => by
  have : j = 0 := by simpa using h
  subst this
  simp [insT]
 | x :: r,0,_,_,h2 => by
  have h2 := h2 (by simp)
  simp only [List.getD_cons_zero] at h2 ⊢
  unfold insT
  rw [if_neg (by rw [h2]; simp)]
  by_cases e : x = s <;> simp [e]
 | x :: r,j + 1,h,h1,h2 => by
  have hx := h1 0 (by omega)
  simp only [List.getD_cons_zero] at hx
  have ih := insT_at (xs := r) (j := j) (by simpa using h) (fun i hi => by simpa using h1 (i + 1) (by omega)) (fun hj => by simpa using h2 (by simpa using hj))
  unfold insT
  rw [if_pos hx,ih]
  simp only [List.getD_cons_succ,List.length_cons,Nat.add_lt_add_iff_right,List.take_succ_cons,List.drop_succ_cons,List.cons_append]
  split <;> rfl
/-- A slice that came in, with a room, where what is told is a relation. -/
theorem DK_openArg {P : Program} {f : FuncId} {a b : List AV} {k i off n : Nat} {H : AHeap} {Kr : AEnd → AHeap → Prop} (h : ∀ c,n ≤ c → DK P f (a ++ .vec k i off n (some c) :: b) H Kr) : DK P f (a ++ .vec k i off n none :: b) H Kr := by
 intro φ w vs hR ha
 have : ∀ {a : List AV} {us : List Value},Rt φ (Own φ H) w (a ++ .vec k i off n none :: b) us → ∃ c,n ≤ c ∧ Rt φ (Own φ H) w (a ++ .vec k i off n (some c) :: b) us := by
  intro a
  induction a with
  | nil =>
   rintro us ⟨v,s,h1,h2,h3,h4⟩
   obtain ⟨y,⟨c,g1,rfl⟩,g2,_⟩ := open_one _ _ h3
   exact ⟨c,g1,v,s,h1,h2,g2,h4⟩
  | cons x r ih =>
   rintro us ⟨v,s,h1,h2,h3,h4⟩
   obtain ⟨c,g1,g2⟩ := ih h4
   exact ⟨c,g1,v,s,h1,h2,h3,g2⟩
 obtain ⟨c,h1,h2⟩ := this ha
 exact h c h1 φ w vs hR h2
/-- A row of texts that is handed on. -/
def RowAt (F : AHeap) (v : AV) (xs : List ByteArray) (id : Nat) : Prop :=
 (xs = [] ∧ v = .lst 0 [] (some [])) ∨ (xs ≠ [] ∧ (∃ r : Option Nat,v = .vec 1 id 0 xs.length r ∧ ∀ c,r = some c → xs.length ≤ c) ∧ AHeap.find F id = some ⟨1,strs xs,false,9⟩)
structure RowQ (F : AHeap) (xs : List ByteArray) (id : Nat) (ys : List ByteArray) (v : AV) (id' : Nat) (G : AHeap) : Prop where
 at_ : RowAt G v ys id'
 len : F.length ≤ G.length
 old : ∀ i,i < F.length → (xs ≠ [] → i ≠ id) → AHeap.find G i = AHeap.find F i
 new : ys ≠ [] → (xs ≠ [] ∧ id' = id) ∨ F.length ≤ id'
theorem RowQ.none {F : AHeap} {v : AV} {xs : List ByteArray} {id : Nat} (h : RowAt F v xs id) : RowQ F xs id xs v id F := ⟨h,Nat.le_refl _,fun _ _ _ => rfl,fun e => .inl ⟨e,rfl⟩⟩
theorem RowQ.trans {F G K : AHeap} {v u : AV} {xs ys zs : List ByteArray} {a b c : Nat} (h : RowQ F xs a ys v b G) (k : RowQ G ys b zs u c K) : RowQ F xs a zs u c K where
 at_ := k.at_
 len := Nat.le_trans h.len k.len
 old := fun i hi ha => by
  have hl := h.len
  rw [k.old i (by omega) (fun e he => ?_),h.old i hi ha]
  rcases h.new e with ⟨h1,h2⟩ | h1
  ·exact ha h1 (by omega)
  ·omega
 new := fun e => by
  have hl := h.len
  rcases k.new e with ⟨h1,h2⟩ | h1
  ·rcases h.new h1 with ⟨g1,g2⟩ | g1
   ·exact .inl ⟨g1,by omega⟩
   ·exact .inr (by omega)
  ·exact .inr (by omega)
theorem RowAt.cons {F : AHeap} {v : AV} {xs : List ByteArray} {id : Nat} (b : Option ABlk) (h : RowAt F v xs id) : RowAt (b :: F) v xs id := by
 rcases h with h | ⟨h1,h2,h3⟩
 ·exact .inl h
 ·exact .inr ⟨h1,h2,by rw [find_past (AHeap.find_lt h3),h3]⟩
end Go.Proofs.YtfnahogjkgcklaaDoor
/- clerestoryref06.names: the walk. -/
namespace Go.Proofs.YtfnahogjkgcklaaDoor
open Go.RowKit
set_option maxRecDepth 100000
set_option linter.unusedVariables false
set_option linter.unusedSimpArgs false
def NmsP (t : Nd) : Prop := ∀ (xs : List ByteArray) (v : AV) (id : Nat) (F : AHeap),RowAt F v xs id → xs.length + t.size ≤ 80000000 → DK Tryd.prog 45 [v,ndR t none] F (fun e F' => ∃ v',e = .ret v' ∧ ∃ id',RowQ F xs id ((nms t).foldl insT xs) v' id' F')
theorem strs_getT {xs : List ByteArray} {k : Nat} (h : k < xs.length) : (strs xs).getD k .top = .sc (.string (xs.getD k ⟨#[]⟩)) := by
 simp [strs,List.getD,h]
theorem RowAt.plain {F : AHeap} {v : AV} {xs : List ByteArray} {id : Nat} (h : RowAt F v xs id) : v.isTop = false ∧ v.isAgg = false := by
 rcases h with ⟨_,rfl⟩ | ⟨_,⟨r,rfl,_⟩,_⟩ <;> exact ⟨rfl,rfl⟩
set_option maxHeartbeats 0 in
theorem nmsR_of (t : Nd) (ih : ∀ k ∈ t.kids,NmsP k) : NmsP t := by
 have main : ∀ (xs : List ByteArray) (v : AV) (id : Nat) (F : AHeap),RowAt F v xs id → (∀ n,v ≠ .vec 1 id 0 n none) → xs.length + t.size ≤ 80000000 → DK Tryd.prog 45 [v,ndR t none] F (fun e F' => ∃ v',e = .ret v' ∧ ∃ id',RowQ F xs id ((nms t).foldl insT xs) v' id' F') := by
  intro xs v id F hrow hnn hsz
  have hse := Nd.size_eq t
  rw [ndR_eq]
  refine dk45 (E_of_ES ?_)
  simp only [ic45,ux]
  refine ES_seq_gen fun L hL => ?_
  simp -implicitDefEqProofs (maxSteps := 99999999) (disch := first | omega | (simp only [AHeap.set_length,killO_length,List.length_cons,List.length_nil]; first | done | omega)) only [vu,va,vg,vs,vw,Nat.reduceMul,ite_true,ite_false,eq_self,forall_const,implies_true,Nat.reduceAdd,Nat.reduceSub,Nat.reduceLT,Nat.reduceLeDiff,↓reduceIte,reduceCtorEq,Int.reduceEq,Int.reduceLT,Int.reduceLE,Int.reduceGT,Int.reduceGE,Int.reduceAdd,Int.reduceSub,Int.reduceNeg,Int.reduceToNat,Nat.reduceBEq,Nat.reduceEqDiff]
  obtain ⟨bx,hbx⟩ : ∃ b,b = (⟨4,[.agg [.sc (.int .u8 t.kind),.sc (.string t.text),.sc (.int .i64 t.num),.lst 4 (ndL t.kids) none]],true,25⟩ : ABlk) := ⟨_,rfl⟩
  rw [← hbx]
  obtain ⟨F1,hF1⟩ : ∃ F1 : AHeap,F1 = some bx :: F := ⟨_,rfl⟩
  have hF1l : F1.length = F.length + 1 := by rw [hF1]; rfl
  have b1 : AHeap.find F1 F.length = some bx := by rw [hF1]; exact find_top rfl
  have hrow1 : RowAt F1 v xs id := by rw [hF1]; exact hrow.cons _
  have hold1 : ∀ i,i < F.length → AHeap.find F1 i = AHeap.find F i := fun i hi => by rw [hF1,find_past hi]
  have hidF : xs ≠ [] → id < F.length := fun e => by
   rcases hrow with ⟨h,_⟩ | ⟨_,_,h⟩
   ·exact (e h).elim
   ·exact AHeap.find_lt h
  rw [← hF1]
  clear hF1
  refine hL _ _ ?_
  clear hL
  refine ES_seq_gen fun L hL => ?_
  have tail : ∀ ts G,(∃ (v1 : AV) (ys : List ByteArray) (id1 : Nat),RowQ F1 xs id ys v1 id1 G ∧ AHeap.find G F.length = some bx ∧ ys.length + Nd.sizeL t.kids ≤ 80000000 ∧ (nmsL t.kids).foldl insT ys = (nms t).foldl insT xs ∧ Fr [some (v1),none,none,some (.ptr 4 F.length 0 0),none,none,none,none,none,none,none,none,none,none,none,none,none,none,none,none,none,none,none,none,none,none,none,none,none,none,none,none,none,none,none,none,none,none,none,none,none,none,none,none,none,none,none,none,none,none,none,none,none,none,none,none,none,none,none,none,none,none,none,none,none,none,none,none] ts) → L ts G := by
   rintro ts G ⟨v1,ys,id1,hq,hb,hyl,hfold,hfr⟩
   obtain ⟨js,rfl⟩ := hfr.opened
   clear hfr
   refine hL _ _ ?_
   clear hL
   refine ES_seq_gen fun L hL => ?_
   simp -implicitDefEqProofs (maxSteps := 99999999) (disch := first | omega | (simp only [AHeap.set_length,killO_length,List.length_cons,List.length_nil]; first | done | omega)) only [mk,va,vg,vs,vw,Nat.reduceMul,ite_true,ite_false,eq_self,forall_const,implies_true,Nat.reduceAdd,Nat.reduceSub,Nat.reduceLT,Nat.reduceLeDiff,↓reduceIte,reduceCtorEq,Int.reduceEq,Int.reduceLT,Int.reduceLE,Int.reduceGT,Int.reduceGE,Int.reduceAdd,Int.reduceSub,Int.reduceNeg,Int.reduceToNat,Nat.reduceBEq,Nat.reduceEqDiff]
   refine ES_loopL (fun ts K => ∃ (k : Nat) (u : AV) (zs : List ByteArray) (id2 : Nat),k ≤ t.kids.length ∧ RowQ F1 xs id zs u id2 K ∧ AHeap.find K F.length = some bx ∧ zs.length + Nd.sizeL (t.kids.drop k) ≤ 80000000 ∧ (nmsL (t.kids.drop k)).foldl insT zs = (nms t).foldl insT xs ∧ Fr [some (u),none,none,some (.ptr 4 F.length 0 0),none,none,none,some (.sc (.int .i64 k)),none,none,none,none,none,none,none,none,none,none,none,none,none,none,none,none,none,none,none,none,none,none,none,none,none,none,none,none,none,none,none,none,none,none,none,none,none,none,none,none,none,none,none,none,none,none,none,none,none,none,none,none,none,none,none,none,none,none,none,none] ts) (fun ts _ => t.kids.length - (intV (ts.getD 7 .top)).toNat) ?_ ?_
   ·exact ⟨0,v1,ys,id1,Nat.zero_le _,hq,hb,by rw [List.drop_zero]; exact hyl,by rw [List.drop_zero]; exact hfold,by simp [Fr]⟩
   clear hq hb hyl hfold
   rintro ts K ⟨k,u,zs,id2,hk,hq,hb,hyl,hfold,hfr⟩ L2 hL2
   obtain ⟨js,rfl⟩ := hfr.opened
   clear hfr
   obtain ⟨u1,u2⟩ := hq.at_.plain
   have hb' := hb
   rw [hbx] at hb'
   have hkl := Nd.kids_le t
   by_cases hd : k < t.kids.length
   ·have d1 : (k : Int) < t.kids.length := by omega
    have hg := ndL_get hd
    have hmem := nthN_mem hd
    rw [List.drop_eq_getElem_cons hd,← nthN_eq hd] at hyl hfold
    simp only [Nd.sizeL] at hyl
    simp only [nmsL,List.foldl_append] at hfold
    have hc := ih _ hmem zs u id2 K hq.at_ (by omega)
    rw [ndR_eq] at hc
    simp -implicitDefEqProofs (maxSteps := 99999999) (disch := first | omega | (simp only [AHeap.set_length,killO_length,List.length_cons,List.length_nil]; first | done | omega)) only [mk,d1,hb',hg,ndL_length,u1,u2,va,vg,vs,vw,Nat.reduceMul,ite_true,ite_false,eq_self,forall_const,implies_true,Nat.reduceAdd,Nat.reduceSub,Nat.reduceLT,Nat.reduceLeDiff,↓reduceIte,reduceCtorEq,Int.reduceEq,Int.reduceLT,Int.reduceLE,Int.reduceGT,Int.reduceGE,Int.reduceAdd,Int.reduceSub,Int.reduceNeg,Int.reduceToNat,Nat.reduceBEq,Nat.reduceEqDiff]
    refine ⟨by omega,callR_rel hc ?_⟩
    rintro w K2 hKl ⟨id3,hq2⟩
    obtain ⟨w1,w2⟩ := hq2.at_.plain
    have hq3 := hq.trans hq2
    simp -implicitDefEqProofs (maxSteps := 99999999) (disch := first | omega | (simp only [AHeap.set_length,killO_length,List.length_cons,List.length_nil]; first | done | omega)) only [w1,w2,va,vg,vs,vw,Nat.reduceMul,ite_true,ite_false,eq_self,forall_const,implies_true,Nat.reduceAdd,Nat.reduceSub,Nat.reduceLT,Nat.reduceLeDiff,↓reduceIte,reduceCtorEq,Int.reduceEq,Int.reduceLT,Int.reduceLE,Int.reduceGT,Int.reduceGE,Int.reduceAdd,Int.reduceSub,Int.reduceNeg,Int.reduceToNat,Nat.reduceBEq,Nat.reduceEqDiff]
    refine hL2 _ _ ⟨k + 1,w,_,id3,by omega,hq3,?_,?_,hfold,by simp [Fr]⟩ (by simp [intV,mk]; omega)
    ·rw [hq2.old _ (AHeap.find_lt hb) (fun e => ?_),hb]
     rcases hq.new e with ⟨h1,h2⟩ | h1
     ·have := hidF h1; omega
     ·omega
    ·have := fold_len (nms (nthN t.kids k)) zs
     have := nms_len (nthN t.kids k)
     omega
   ·have d1 : ¬ (k : Int) < t.kids.length := by omega
    rw [List.drop_of_length_le (by omega)] at hfold
    simp only [nmsL,List.foldl_nil] at hfold
    simp -implicitDefEqProofs (maxSteps := 99999999) (disch := first | omega | (simp only [AHeap.set_length,killO_length,List.length_cons,List.length_nil]; first | done | omega)) only [mk,d1,hb',ndL_length,u1,u2,va,vg,vs,vw,Nat.reduceMul,ite_true,ite_false,eq_self,forall_const,implies_true,Nat.reduceAdd,Nat.reduceSub,Nat.reduceLT,Nat.reduceLeDiff,↓reduceIte,reduceCtorEq,Int.reduceEq,Int.reduceLT,Int.reduceLE,Int.reduceGT,Int.reduceGE,Int.reduceAdd,Int.reduceSub,Int.reduceNeg,Int.reduceToNat,Nat.reduceBEq,Nat.reduceEqDiff]
    refine hL _ _ ?_
    clear hL
    simp -implicitDefEqProofs (maxSteps := 99999999) (disch := first | omega | (simp only [AHeap.set_length,killO_length,List.length_cons,List.length_nil]; first | done | omega)) only [u1,u2,va,vg,vs,vw,Nat.reduceMul,ite_true,ite_false,eq_self,forall_const,implies_true,Nat.reduceAdd,Nat.reduceSub,Nat.reduceLT,Nat.reduceLeDiff,↓reduceIte,reduceCtorEq,Int.reduceEq,Int.reduceLT,Int.reduceLE,Int.reduceGT,Int.reduceGE,Int.reduceAdd,Int.reduceSub,Int.reduceNeg,Int.reduceToNat,Nat.reduceBEq,Nat.reduceEqDiff]
    refine ⟨_,rfl,id2,?_⟩
    rw [← hfold]
    have hql := hq.len
    exact ⟨hq.at_,by omega,fun i hi h => by rw [hq.old i (by omega) h,hold1 i hi],fun e => (hq.new e).elim .inl fun h => .inr (by omega)⟩
  clear hL
  have b1' := b1
  rw [hbx] at b1'
  have hv := hrow1.plain
  simp -implicitDefEqProofs (maxSteps := 99999999) (disch := first | omega | (simp only [AHeap.set_length,killO_length,List.length_cons,List.length_nil]; first | done | omega)) only [b1',va,vg,vs,vw,Nat.reduceMul,ite_true,ite_false,eq_self,forall_const,implies_true,Nat.reduceAdd,Nat.reduceSub,Nat.reduceLT,Nat.reduceLeDiff,↓reduceIte,reduceCtorEq,Int.reduceEq,Int.reduceLT,Int.reduceLE,Int.reduceGT,Int.reduceGE,Int.reduceAdd,Int.reduceSub,Int.reduceNeg,Int.reduceToNat,Nat.reduceBEq,Nat.reduceEqDiff]
  refine callR_ret (namedR_d _ _) ?_
  have hnm : nms t = nmL t ++ nmsL t.kids := nms_eq t
  cases hn : namedP t.kind with
  | false =>
   have e0 : nmL t = [] := by simp [nmL,hn]
   simp -implicitDefEqProofs (maxSteps := 99999999) (disch := first | omega | (simp only [AHeap.set_length,killO_length,List.length_cons,List.length_nil]; first | done | omega)) only [vu,va,vg,vs,vw,Nat.reduceMul,ite_true,ite_false,eq_self,forall_const,implies_true,Nat.reduceAdd,Nat.reduceSub,Nat.reduceLT,Nat.reduceLeDiff,↓reduceIte,reduceCtorEq,Int.reduceEq,Int.reduceLT,Int.reduceLE,Int.reduceGT,Int.reduceGE,Int.reduceAdd,Int.reduceSub,Int.reduceNeg,Int.reduceToNat,Nat.reduceBEq,Nat.reduceEqDiff]
   exact tail _ _ ⟨v,xs,id,.none hrow1,b1,by omega,by rw [hnm,e0]; rfl,by simp [Fr]⟩
  | true =>
  have e0 : nmL t = [t.text] := by simp [nmL,hn]
  have hfo : (nms t).foldl insT xs = (nmsL t.kids).foldl insT (insT xs t.text) := by rw [hnm,e0]; rfl
  have hil := insT_len t.text xs
  rcases hrow1 with ⟨rfl,rfl⟩ | ⟨hne,⟨r,rfl,hr⟩,hfd⟩
  ·have hins : insT [] t.text = [t.text] := rfl
   rw [hins] at hfo
   simp -implicitDefEqProofs (maxSteps := 99999999) (disch := first | omega | (simp only [AHeap.set_length,killO_length,List.length_cons,List.length_nil]; first | done | omega)) only [vu,va,vg,vs,vw,Nat.reduceMul,ite_true,ite_false,eq_self,forall_const,implies_true,Nat.reduceAdd,Nat.reduceSub,Nat.reduceLT,Nat.reduceLeDiff,↓reduceIte,reduceCtorEq,Int.reduceEq,Int.reduceLT,Int.reduceLE,Int.reduceGT,Int.reduceGE,Int.reduceAdd,Int.reduceSub,Int.reduceNeg,Int.reduceToNat,Nat.reduceBEq,Nat.reduceEqDiff]
   refine ES_loopL (fun ts K => K = F1 ∧ Fr [some (.lst 0 [] (some [])),none,none,some (.ptr 4 F.length 0 0),none,some (.sc (.int .i64 0)),none,none,none,none,none,none,none,none,none,none,none,none,none,none,none,none,none,none,none,none,none,none,none,none,none,none,none,none,none,none,none,none,none,none,none,none,none,none,none,none,none,none,none,none,none,none,none,none,none,none,none,none,none,none,none,none,none,none,none,none,none,none] ts) (fun ts _ => 0) ⟨rfl,by simp [Fr]⟩ ?_
   rintro ts K ⟨rfl,hfr⟩ L2 hL2
   obtain ⟨js,rfl⟩ := hfr.opened
   clear hfr hL2
   simp -implicitDefEqProofs (maxSteps := 99999999) (disch := first | omega | (simp only [AHeap.set_length,killO_length,List.length_cons,List.length_nil]; first | done | omega)) only [mk,b1',va,vg,vs,vw,Nat.reduceMul,ite_true,ite_false,eq_self,forall_const,implies_true,Nat.reduceAdd,Nat.reduceSub,Nat.reduceLT,Nat.reduceLeDiff,↓reduceIte,reduceCtorEq,Int.reduceEq,Int.reduceLT,Int.reduceLE,Int.reduceGT,Int.reduceGE,Int.reduceAdd,Int.reduceSub,Int.reduceNeg,Int.reduceToNat,Nat.reduceBEq,Nat.reduceEqDiff]
   have hbl := AHeap.find_lt b1
   refine tail _ _ ⟨.vec 1 (K.length + 1) 0 1 none,[t.text],K.length + 1,⟨.inr ⟨by simp,⟨none,rfl,fun c h => by cases h⟩,find_top rfl⟩,by simp; omega,fun i hi _ => by rw [find_past (by simp; omega),find_past hi],fun _ => .inr (by omega)⟩,by rw [find_past (by simp; omega),find_past hbl,b1],by simp; omega,hfo.symm,by simp [Fr]⟩
  ·obtain ⟨c,rfl⟩ : ∃ c,r = some c := by
    cases r with
    | none => exact (hnn _ rfl).elim
    | some c => exact ⟨c,rfl⟩
   have hc := hr c rfl
   clear hr hnn
   have hsl := strs_length xs
   have hidl := hidF hne
   simp -implicitDefEqProofs (maxSteps := 99999999) (disch := first | omega | (simp only [AHeap.set_length,killO_length,List.length_cons,List.length_nil]; first | done | omega)) only [vu,va,vg,vs,vw,Nat.reduceMul,ite_true,ite_false,eq_self,forall_const,implies_true,Nat.reduceAdd,Nat.reduceSub,Nat.reduceLT,Nat.reduceLeDiff,↓reduceIte,reduceCtorEq,Int.reduceEq,Int.reduceLT,Int.reduceLE,Int.reduceGT,Int.reduceGE,Int.reduceAdd,Int.reduceSub,Int.reduceNeg,Int.reduceToNat,Nat.reduceBEq,Nat.reduceEqDiff]
   refine ES_loopL (fun ts K => ∃ j : Nat,(j ≤ xs.length ∧ ∀ i,i < j → lessT (xs.getD i ⟨#[]⟩) t.text = true) ∧ K = F1 ∧ Fr [some (.vec 1 id 0 xs.length (some c)),none,none,some (.ptr 4 F.length 0 0),none,some (.sc (.int .i64 j)),none,none,none,none,none,none,none,none,none,none,none,none,none,none,none,none,none,none,none,none,none,none,none,none,none,none,none,none,none,none,none,none,none,none,none,none,none,none,none,none,none,none,none,none,none,none,none,none,none,none,none,none,none,none,none,none,none,none,none,none,none,none] ts) (fun ts _ => xs.length - (intV (ts.getD 5 .top)).toNat) ?_ ?_
   ·exact ⟨0,⟨Nat.zero_le _,fun i hi => by omega⟩,rfl,by simp [Fr]⟩
   rintro ts K ⟨j,⟨hj,hless⟩,rfl,hfr⟩ L2 hL2
   obtain ⟨js,rfl⟩ := hfr.opened
   clear hfr
   by_cases hd : j < xs.length
   ·have d1 : (j : Int) < xs.length := by omega
    have hg := strs_getT hd
    have d2 : ¬ (j : Int) = xs.length := by omega
    have hself := bl_irrefl t.text.toList
    cases hlt : lessT (xs.getD j ⟨#[]⟩) t.text with
    | true =>
     have hlt' : Op.bytesLess (xs.getD j ⟨#[]⟩).toList t.text.toList = true := hlt
     simp -implicitDefEqProofs (maxSteps := 99999999) (disch := first | omega | (simp only [AHeap.set_length,killO_length,List.length_cons,List.length_nil]; first | done | omega)) only [mk,d1,b1',hfd,hsl,hg,hlt',va,vg,vs,vw,Nat.reduceMul,ite_true,ite_false,eq_self,forall_const,implies_true,Nat.reduceAdd,Nat.reduceSub,Nat.reduceLT,Nat.reduceLeDiff,↓reduceIte,reduceCtorEq,Int.reduceEq,Int.reduceLT,Int.reduceLE,Int.reduceGT,Int.reduceGE,Int.reduceAdd,Int.reduceSub,Int.reduceNeg,Int.reduceToNat,Nat.reduceBEq,Nat.reduceEqDiff]
     refine ⟨by omega,hd,hL2 _ _ ⟨j + 1,⟨by omega,fun i hi => ?_⟩,rfl,by simp [Fr]⟩ (by simp [intV,mk]; omega)⟩
     by_cases e : i = j
     ·rw [e]; exact hlt
     ·exact hless i (by omega)
    | false =>
     have hlt' : Op.bytesLess (xs.getD j ⟨#[]⟩).toList t.text.toList = false := hlt
     have hat := insT_at (s := t.text) hj hless (fun _ => hlt)
     by_cases he : xs.getD j ⟨#[]⟩ = t.text
     ·rw [if_pos ⟨hd,he⟩] at hat
      rw [hat] at hfo
      simp -implicitDefEqProofs (maxSteps := 99999999) (disch := first | omega | (simp only [AHeap.set_length,killO_length,List.length_cons,List.length_nil]; first | done | omega)) only [mk,d1,d2,b1',hfd,hsl,hg,hlt',he,hself,va,vg,vs,vw,Nat.reduceMul,ite_true,ite_false,eq_self,forall_const,implies_true,Nat.reduceAdd,Nat.reduceSub,Nat.reduceLT,Nat.reduceLeDiff,↓reduceIte,reduceCtorEq,Int.reduceEq,Int.reduceLT,Int.reduceLE,Int.reduceGT,Int.reduceGE,Int.reduceAdd,Int.reduceSub,Int.reduceNeg,Int.reduceToNat,Nat.reduceBEq,Nat.reduceEqDiff]
      refine ⟨by omega,hd,?_⟩
      exact ⟨by omega,hd,tail _ _ ⟨_,xs,id,.none (.inr ⟨hne,⟨some c,rfl,fun c' h => by cases h; exact hc⟩,hfd⟩),b1,by omega,hfo.symm,by simp [Fr]⟩⟩
     ·rw [if_neg (fun h => he h.2)] at hat
      obtain ⟨q,hq⟩ : ∃ q,q = xs.length - (j + 1) := ⟨_,rfl⟩
      have hjc : j < c := by omega
      have h0c : 0 < c := by omega
      have hj1c : j + 1 ≤ c := hjc
      have hql : ((strs xs).drop (j + 1)).length = q := by rw [List.length_drop,hsl,hq]
      have hdc : List.take (xs.length - j) (List.drop j (strs xs)) = .sc (.string (xs.getD j ⟨#[]⟩)) :: (strs xs).drop (j + 1) := by
       rw [List.take_of_length_le (by rw [List.length_drop,hsl]; exact Nat.le_refl _),List.drop_eq_getElem_cons (by omega)]
       congr 1
       simp [strs,List.getD,hd]
      have hbl := AHeap.find_lt b1
      have hidl2 := AHeap.find_lt hfd
      have hA : ((strs xs).take j).length = j := by rw [List.length_take,hsl]; omega
      have hMl : (List.take j (strs xs) ++ AV.sc (.string t.text) :: List.drop (j + 1) (strs xs)).length = j + 1 + q := by rw [List.length_append,hA,List.length_cons,hql]; omega
      have hT : List.take (j + 1) (List.take j (strs xs) ++ AV.sc (.string t.text) :: List.drop (j + 1) (strs xs)) = List.take j (strs xs) ++ [AV.sc (.string t.text)] := by
       rw [List.take_append,hA,List.take_of_length_le (by omega),Nat.add_sub_cancel_left]
       rfl
      have hD : List.drop (j + (1 + (q + 1))) (List.take j (strs xs) ++ AV.sc (.string t.text) :: List.drop (j + 1) (strs xs)) = [] := List.drop_of_length_le (by omega)
      have hM : strs (insT xs t.text) = List.take j (strs xs) ++ AV.sc (.string t.text) :: AV.sc (.string (xs.getD j ⟨#[]⟩)) :: List.drop (j + 1) (strs xs) := by
       have e : List.take (xs.length - j) (List.drop j (strs xs)) = List.drop j (strs xs) := List.take_of_length_le (by rw [List.length_drop,hsl]; exact Nat.le_refl _)
       rw [hat,← hdc,e]
       simp [strs,List.map_take,List.map_drop]
      have hine : insT xs t.text ≠ [] := by rw [hat]; simp
      have hilen : (insT xs t.text).length = j + (1 + (q + 1)) := by rw [hat]; simp; omega
      have hqt : List.take q ((strs xs).drop (j + 1)) = (strs xs).drop (j + 1) := List.take_of_length_le (by omega)
      by_cases hnc : j + (1 + (q + 1)) ≤ c
      ·simp -implicitDefEqProofs (maxSteps := 99999999) (disch := first | omega | (simp only [AHeap.set_length,killO_length,List.length_cons,List.length_nil]; first | done | omega)) only [mk,d1,d2,b1',hfd,hsl,hg,hlt',he,hself,hjc,hj1c,h0c,hdc,hql,hqt,hnc,Nat.sub_zero,va,vg,vs,vw,Nat.reduceMul,ite_true,ite_false,eq_self,forall_const,implies_true,Nat.reduceAdd,Nat.reduceSub,Nat.reduceLT,Nat.reduceLeDiff,↓reduceIte,reduceCtorEq,Int.reduceEq,Int.reduceLT,Int.reduceLE,Int.reduceGT,Int.reduceGE,Int.reduceAdd,Int.reduceSub,Int.reduceNeg,Int.reduceToNat,Nat.reduceBEq,Nat.reduceEqDiff]
       refine ⟨by omega,hd,by omega,hd,⟨by omega,rfl,by omega,by omega⟩,⟨by omega,by omega⟩,⟨by omega,rfl,by omega,by omega⟩,⟨by omega,by omega⟩,⟨Nat.le_refl _,by omega,by rw [hMl]; omega⟩,tail _ _ ⟨.vec 1 id 0 (j + (1 + (q + 1))) (some c),insT xs t.text,id,⟨.inr ⟨hine,⟨some c,by rw [hilen],fun c' h => by cases h; rw [hilen]; exact hnc⟩,?_⟩,by simp [AHeap.set_length],fun i hi h => ?_,fun _ => .inl ⟨hne,rfl⟩⟩,?_,by omega,hfo.symm,by simp [Fr]⟩⟩
       ·rw [find_past (by simp [AHeap.set_length]; omega),AHeap.find_set_same (by rw [AHeap.set_length]; exact hidl2),hT,hM,hD,List.append_nil]
        simp only [List.append_assoc,List.singleton_append]
       ·rw [find_past (by simp [AHeap.set_length]; omega),AHeap.find_set_ne (h hne),AHeap.find_set_ne (h hne)]
       ·rw [find_past (by simp [AHeap.set_length]; omega),AHeap.find_set_ne (by omega),AHeap.find_set_ne (by omega),b1]
      ·simp -implicitDefEqProofs (maxSteps := 99999999) (disch := first | omega | (simp only [AHeap.set_length,killO_length,List.length_cons,List.length_nil]; first | done | omega)) only [mk,d1,d2,b1',hfd,hsl,hg,hlt',he,hself,hjc,hj1c,h0c,hdc,hql,hqt,hnc,Nat.sub_zero,va,vg,vs,vw,Nat.reduceMul,ite_true,ite_false,eq_self,forall_const,implies_true,Nat.reduceAdd,Nat.reduceSub,Nat.reduceLT,Nat.reduceLeDiff,↓reduceIte,reduceCtorEq,Int.reduceEq,Int.reduceLT,Int.reduceLE,Int.reduceGT,Int.reduceGE,Int.reduceAdd,Int.reduceSub,Int.reduceNeg,Int.reduceToNat,Nat.reduceBEq,Nat.reduceEqDiff]
       refine ⟨by omega,hd,by omega,hd,⟨by omega,rfl,by omega,by omega⟩,⟨by omega,by omega⟩,⟨by omega,rfl,by omega,by omega⟩,⟨by omega,by omega⟩,⟨Nat.le_refl _,by omega,by rw [hMl]; omega⟩,tail _ _ ⟨.vec 1 (K.length + 1) 0 (j + (1 + (q + 1))) none,insT xs t.text,K.length + 1,⟨.inr ⟨hine,⟨none,by rw [hilen],fun c' h => by cases h⟩,?_⟩,by simp [AHeap.set_length]; omega,fun i hi h => ?_,fun _ => .inr (by omega)⟩,?_,by omega,hfo.symm,by simp [Fr]⟩⟩
       ·rw [find_top (by simp [AHeap.set_length]),hT,hM]
        simp only [List.append_assoc,List.singleton_append]
       ·rw [find_past (by simp [AHeap.set_length]; omega),find_past (by rw [AHeap.set_length]; exact hi),AHeap.find_set_ne (h hne)]
       ·rw [find_past (by simp [AHeap.set_length]; omega),find_past (by rw [AHeap.set_length]; exact hbl),AHeap.find_set_ne (by omega),b1]
   ·have hjl : j = xs.length := by omega
    have d1 : ¬ (j : Int) < xs.length := by omega
    have hat := insT_at (s := t.text) hj hless (fun h => (hd h).elim)
    rw [if_neg (fun h => hd h.1)] at hat
    subst hjl
    have h0c : 0 < c := by
     have : 0 < xs.length := by cases xs with
      | nil => exact (hne rfl).elim
      | cons _ _ => simp
     omega
    rw [List.take_length,List.drop_length] at hat
    have hstr : strs xs ++ [AV.sc (.string t.text)] = strs (insT xs t.text) := by rw [hat,strs_app]; rfl
    have hine : insT xs t.text ≠ [] := by rw [hat]; simp
    have hilen : (insT xs t.text).length = xs.length + 1 := by rw [hat]; simp
    have hbl := AHeap.find_lt b1
    have hidl2 := AHeap.find_lt hfd
    have hfn : (strs xs).take xs.length = strs xs := List.take_of_length_le (by omega)
    have hfn1 : (strs xs).drop (xs.length + 1) = [] := List.drop_of_length_le (by omega)
    simp -implicitDefEqProofs (maxSteps := 99999999) (disch := first | omega | (simp only [AHeap.set_length,killO_length,List.length_cons,List.length_nil]; first | done | omega)) only [mk,d1,b1',hfd,hsl,va,vg,vs,vw,Nat.reduceMul,ite_true,ite_false,eq_self,forall_const,implies_true,Nat.reduceAdd,Nat.reduceSub,Nat.reduceLT,Nat.reduceLeDiff,↓reduceIte,reduceCtorEq,Int.reduceEq,Int.reduceLT,Int.reduceLE,Int.reduceGT,Int.reduceGE,Int.reduceAdd,Int.reduceSub,Int.reduceNeg,Int.reduceToNat,Nat.reduceBEq,Nat.reduceEqDiff]
    refine ⟨⟨by omega,rfl,Nat.le_refl _,by omega⟩,?_⟩
    by_cases hnc : xs.length + 1 ≤ c
    ·have hnc0 : xs.length < c := hnc
     simp -implicitDefEqProofs (maxSteps := 99999999) (disch := first | omega | (simp only [AHeap.set_length,killO_length,List.length_cons,List.length_nil]; first | done | omega)) only [hnc,hnc0,b1',hfd,hsl,h0c,Nat.sub_self,Nat.sub_zero,hfn,hfn1,va,vg,vs,vw,Nat.reduceMul,ite_true,ite_false,eq_self,forall_const,implies_true,Nat.reduceAdd,Nat.reduceSub,Nat.reduceLT,Nat.reduceLeDiff,↓reduceIte,reduceCtorEq,Int.reduceEq,Int.reduceLT,Int.reduceLE,Int.reduceGT,Int.reduceGE,Int.reduceAdd,Int.reduceSub,Int.reduceNeg,Int.reduceToNat,Nat.reduceBEq,Nat.reduceEqDiff]
     refine ⟨Nat.le_refl _,⟨by omega,rfl,by omega,by omega⟩,⟨by omega,by omega⟩,⟨by omega,by simp [hsl]⟩,tail _ _ ⟨.vec 1 id 0 (xs.length + 1) (some c),insT xs t.text,id,⟨.inr ⟨hine,⟨some c,by rw [hilen],fun c' h => by cases h; omega⟩,?_⟩,by simp [AHeap.set_length],fun i hi h => by rw [AHeap.find_set_ne (h hne),AHeap.find_set_ne (h hne)],fun _ => .inl ⟨hne,rfl⟩⟩,?_,by omega,hfo.symm,by simp [Fr]⟩⟩
     ·rw [AHeap.find_set_same (by rw [AHeap.set_length]; omega),List.take_append_drop,hstr]
     ·rw [AHeap.find_set_ne (by omega),AHeap.find_set_ne (by omega),b1]
    ·have hnc0 : ¬ xs.length < c := hnc
     simp -implicitDefEqProofs (maxSteps := 99999999) (disch := first | omega | (simp only [AHeap.set_length,killO_length,List.length_cons,List.length_nil]; first | done | omega)) only [hnc,hnc0,b1',hfd,hsl,h0c,Nat.sub_self,Nat.sub_zero,hfn,hfn1,va,vg,vs,vw,Nat.reduceMul,ite_true,ite_false,eq_self,forall_const,implies_true,Nat.reduceAdd,Nat.reduceSub,Nat.reduceLT,Nat.reduceLeDiff,↓reduceIte,reduceCtorEq,Int.reduceEq,Int.reduceLT,Int.reduceLE,Int.reduceGT,Int.reduceGE,Int.reduceAdd,Int.reduceSub,Int.reduceNeg,Int.reduceToNat,Nat.reduceBEq,Nat.reduceEqDiff]
     refine ⟨⟨by omega,rfl,by omega,by omega⟩,⟨by omega,by omega⟩,⟨by omega,by simp [hsl]⟩,tail _ _ ⟨.vec 1 (K.length + 1) 0 (xs.length + 1) none,insT xs t.text,K.length + 1,⟨.inr ⟨hine,⟨none,by rw [hilen],fun c h => by cases h⟩,by rw [← hstr]; exact find_top rfl⟩,by simp; omega,fun i hi _ => by rw [find_past (by simp; omega),find_past hi],fun _ => .inr (by omega)⟩,by rw [find_past (by simp; omega),find_past hbl,b1],by omega,hfo.symm,by simp [Fr]⟩⟩
 intro xs v id F hrow hsz
 rcases hrow with ⟨h1,h2⟩ | ⟨h1,⟨r,h2,h3⟩,h4⟩
 ·exact main xs v id F (.inl ⟨h1,h2⟩) (fun n h => by rw [h2] at h; cases h) hsz
 ·cases r with
  | some c => exact main xs v id F (.inr ⟨h1,⟨some c,h2,h3⟩,h4⟩) (fun n h => by rw [h2] at h; cases h) hsz
  | none =>
   rw [h2]
   exact DK_openArg (a := []) fun c hc => main xs _ id F (.inr ⟨h1,⟨some c,rfl,fun c' h => by cases h; exact hc⟩,h4⟩) (fun n h => by cases h) hsz
theorem nmsR_all (t : Nd) : NmsP t := by
 induction t using Nd.ind with
 | _ t ih => exact nmsR_of t ih
set_option maxHeartbeats 0 in
theorem namesR_d (l : List Nd) (hz : Nd.sizeL l ≤ 1000000) (ro : Option (List AV)) (H : AHeap) : D Tryd.prog 20 [.lst 4 (ndL l) ro] H (.ret (.lst 1 (strs (uniqT (nmsL l))) none)) H := by
 have hlen := Nd.len_le l
 refine D_of_DK (Nat.le_refl _) (dk20 (E_of_ES ?_))
 simp only [ic20,ux]
 refine ES_seq_gen fun L hL => ?_
 simp -implicitDefEqProofs (maxSteps := 99999999) (disch := first | omega | (simp only [AHeap.set_length,killO_length,List.length_cons,List.length_nil]; first | done | omega)) only [vu,va,vg,vs,vw,Nat.reduceMul,ite_true,ite_false,eq_self,forall_const,implies_true,Nat.reduceAdd,Nat.reduceSub,Nat.reduceLT,Nat.reduceLeDiff,↓reduceIte,reduceCtorEq,Int.reduceEq,Int.reduceLT,Int.reduceLE,Int.reduceGT,Int.reduceGE,Int.reduceAdd,Int.reduceSub,Int.reduceNeg,Int.reduceToNat,Nat.reduceBEq,Nat.reduceEqDiff]
 refine hL _ _ ?_
 clear hL
 refine ES_seq_gen fun L hL => ?_
 simp -implicitDefEqProofs (maxSteps := 99999999) (disch := first | omega | (simp only [AHeap.set_length,killO_length,List.length_cons,List.length_nil]; first | done | omega)) only [vu,va,vg,vs,vw,Nat.reduceMul,ite_true,ite_false,eq_self,forall_const,implies_true,Nat.reduceAdd,Nat.reduceSub,Nat.reduceLT,Nat.reduceLeDiff,↓reduceIte,reduceCtorEq,Int.reduceEq,Int.reduceLT,Int.reduceLE,Int.reduceGT,Int.reduceGE,Int.reduceAdd,Int.reduceSub,Int.reduceNeg,Int.reduceToNat,Nat.reduceBEq,Nat.reduceEqDiff]
 refine hL _ _ ?_
 clear hL
 refine ES_seq_gen fun L hL => ?_
 simp -implicitDefEqProofs (maxSteps := 99999999) (disch := first | omega | (simp only [AHeap.set_length,killO_length,List.length_cons,List.length_nil]; first | done | omega)) only [vu,va,vg,vs,vw,Nat.reduceMul,ite_true,ite_false,eq_self,forall_const,implies_true,Nat.reduceAdd,Nat.reduceSub,Nat.reduceLT,Nat.reduceLeDiff,↓reduceIte,reduceCtorEq,Int.reduceEq,Int.reduceLT,Int.reduceLE,Int.reduceGT,Int.reduceGE,Int.reduceAdd,Int.reduceSub,Int.reduceNeg,Int.reduceToNat,Nat.reduceBEq,Nat.reduceEqDiff]
 refine ES_loopL (fun ts K => ∃ (k : Nat) (u : AV) (zs : List ByteArray) (id : Nat),k ≤ l.length ∧ RowQ H [] 0 zs u id K ∧ zs.length + Nd.sizeL (l.drop k) ≤ 80000000 ∧ (nmsL (l.drop k)).foldl insT zs = uniqT (nmsL l) ∧ Fr [some (.lst 4 (ndL l) ro),none,none,some (u),some (.sc (.int .i64 k)),none,none,none,none,none,none,none,none,none,none,none,none,none] ts) (fun ts _ => l.length - (intV (ts.getD 4 .top)).toNat) ?_ ?_
 ·exact ⟨0,.lst 0 [] (some []),[],0,Nat.zero_le _,.none (.inl ⟨rfl,rfl⟩),by rw [List.drop_zero]; simp; omega,by rw [List.drop_zero]; exact fold_uniq _,by simp [Fr]⟩
 rintro ts K ⟨k,u,zs,id,hk,hq,hyl,hfold,hfr⟩ L2 hL2
 obtain ⟨js,rfl⟩ := hfr.opened
 clear hfr
 obtain ⟨u1,u2⟩ := hq.at_.plain
 by_cases hd : k < l.length
 ·have d1 : (k : Int) < l.length := by omega
  have hg := ndL_get hd
  rw [List.drop_eq_getElem_cons hd,← nthN_eq hd] at hyl hfold
  simp only [Nd.sizeL] at hyl
  simp only [nmsL,List.foldl_append] at hfold
  have hc := nmsR_all (nthN l k) zs u id K hq.at_ (by omega)
  rw [ndR_eq] at hc
  simp -implicitDefEqProofs (maxSteps := 99999999) (disch := first | omega | (simp only [AHeap.set_length,killO_length,List.length_cons,List.length_nil]; first | done | omega)) only [mk,d1,hg,ndL_length,u1,u2,va,vg,vs,vw,Nat.reduceMul,ite_true,ite_false,eq_self,forall_const,implies_true,Nat.reduceAdd,Nat.reduceSub,Nat.reduceLT,Nat.reduceLeDiff,↓reduceIte,reduceCtorEq,Int.reduceEq,Int.reduceLT,Int.reduceLE,Int.reduceGT,Int.reduceGE,Int.reduceAdd,Int.reduceSub,Int.reduceNeg,Int.reduceToNat,Nat.reduceBEq,Nat.reduceEqDiff]
  refine ⟨by omega,callR_rel hc ?_⟩
  rintro w K2 hKl ⟨id3,hq2⟩
  obtain ⟨w1,w2⟩ := hq2.at_.plain
  have hq3 := hq.trans hq2
  simp -implicitDefEqProofs (maxSteps := 99999999) (disch := first | omega | (simp only [AHeap.set_length,killO_length,List.length_cons,List.length_nil]; first | done | omega)) only [w1,w2,va,vg,vs,vw,Nat.reduceMul,ite_true,ite_false,eq_self,forall_const,implies_true,Nat.reduceAdd,Nat.reduceSub,Nat.reduceLT,Nat.reduceLeDiff,↓reduceIte,reduceCtorEq,Int.reduceEq,Int.reduceLT,Int.reduceLE,Int.reduceGT,Int.reduceGE,Int.reduceAdd,Int.reduceSub,Int.reduceNeg,Int.reduceToNat,Nat.reduceBEq,Nat.reduceEqDiff]
  refine hL2 _ _ ⟨k + 1,w,_,id3,by omega,hq3,?_,hfold,by simp [Fr]⟩ (by simp [intV,mk]; omega)
  have := fold_len (nms (nthN l k)) zs
  have := nms_len (nthN l k)
  omega
 ·have d1 : ¬ (k : Int) < l.length := by omega
  rw [List.drop_of_length_le (by omega)] at hfold
  simp only [nmsL,List.foldl_nil] at hfold
  simp -implicitDefEqProofs (maxSteps := 99999999) (disch := first | omega | (simp only [AHeap.set_length,killO_length,List.length_cons,List.length_nil]; first | done | omega)) only [mk,d1,ndL_length,u1,u2,va,vg,vs,vw,Nat.reduceMul,ite_true,ite_false,eq_self,forall_const,implies_true,Nat.reduceAdd,Nat.reduceSub,Nat.reduceLT,Nat.reduceLeDiff,↓reduceIte,reduceCtorEq,Int.reduceEq,Int.reduceLT,Int.reduceLE,Int.reduceGT,Int.reduceGE,Int.reduceAdd,Int.reduceSub,Int.reduceNeg,Int.reduceToNat,Nat.reduceBEq,Nat.reduceEqDiff]
  refine hL _ _ ?_
  clear hL
  simp -implicitDefEqProofs (maxSteps := 99999999) (disch := first | omega | (simp only [AHeap.set_length,killO_length,List.length_cons,List.length_nil]; first | done | omega)) only [u1,u2,va,vg,vs,vw,Nat.reduceMul,ite_true,ite_false,eq_self,forall_const,implies_true,Nat.reduceAdd,Nat.reduceSub,Nat.reduceLT,Nat.reduceLeDiff,↓reduceIte,reduceCtorEq,Int.reduceEq,Int.reduceLT,Int.reduceLE,Int.reduceGT,Int.reduceGE,Int.reduceAdd,Int.reduceSub,Int.reduceNeg,Int.reduceToNat,Nat.reduceBEq,Nat.reduceEqDiff]
  rw [← hfold]
  refine weak_frz (fun i hi => hq.old i hi fun h => (h rfl).elim) ?_
  rcases hq.at_ with ⟨h1,h2⟩ | ⟨h1,⟨r,h2,_⟩,h4⟩
  ·rw [h1,h2]
   exact .nil
  ·rw [h2]
   have hid : H.length ≤ id := (hq.new h1).elim (fun h => (h.1 rfl).elim) _root_.id
   refine .vec (by unfold newId; rw [if_neg (by omega)]; rfl) h4 rfl (by rw [strs_length,Nat.zero_add]; exact Nat.le_refl _) ?_
   rw [List.drop_zero,List.take_of_length_le (by rw [strs_length]; exact Nat.le_refl _)]
   exact strs_gzT
end Go.Proofs.YtfnahogjkgcklaaDoor
