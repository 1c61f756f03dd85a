/- Texts of values tell them apart, plain. -/
import Derived.Test.YtpnnpooeheiedaaDoorS213
namespace Go.Proofs.YtpnnpooeheiedaaDoor
open Go.RowKit
set_option linter.unusedVariables false
set_option linter.unusedSimpArgs false
def valD (l : List UInt8) : Nat := l.foldl (fun a c => a * 10 + (c.toNat - 48)) 0
theorem valD_snoc (l : List UInt8) (c : UInt8) : valD (l ++ [c]) = valD l * 10 + (c.toNat - 48) := by simp [valD]
theorem digit_nat {d : Nat} (h : d < 10) : (UInt8.ofNat (48 + d)).toNat = 48 + d := by simp; omega
theorem decDigits_val (u : Nat) : valD (Lib.decDigits u) = u := by
 induction u using Nat.strongRecOn with
 | _ u ih =>
  rw [Lib.decDigits]
  split
  ·rename_i h
   simp only [valD,List.foldl_cons,List.foldl_nil,digit_nat h]
   omega
  ·rename_i h
   rw [valD_snoc,ih _ (by omega),digit_nat (Nat.mod_lt _ (by omega))]
   omega
theorem decDigits_mem (u : Nat) : ∀ c ∈ Lib.decDigits u,48 ≤ c.toNat ∧ c.toNat ≤ 57 := by
 induction u using Nat.strongRecOn with
 | _ u ih =>
  rw [Lib.decDigits]
  split
  ·rename_i h
   intro c hc
   rw [List.mem_singleton.1 hc,digit_nat h]
   omega
  ·rename_i h
   intro c hc
   rcases List.mem_append.1 hc with hc | hc
   ·exact ih _ (by omega) c hc
   ·rw [List.mem_singleton.1 hc,digit_nat (Nat.mod_lt _ (by omega))]
    omega
theorem decDigits_ne (u : Nat) : Lib.decDigits u ≠ [] := by
 rw [Lib.decDigits]
 split <;> simp
theorem itoa_mem (n : Int) : ∀ c ∈ Lib.itoa n,c.toNat = 45 ∨ (48 ≤ c.toNat ∧ c.toNat ≤ 57) := by
 unfold Lib.itoa
 intro c hc
 split at hc
 ·rcases List.mem_cons.1 hc with rfl | hc
  ·exact .inl rfl
  ·exact .inr (decDigits_mem _ c hc)
 ·exact .inr (decDigits_mem _ c hc)
theorem itoa_ne (n : Int) : Lib.itoa n ≠ [] := by
 unfold Lib.itoa
 split
 ·simp
 ·exact decDigits_ne _
theorem itoa_inj {n m : Int} (h : Lib.itoa n = Lib.itoa m) : n = m := by
 have bad : ∀ (u : Nat) (r : List UInt8),Lib.decDigits u ≠ 45 :: r := fun u r e => by
  have := decDigits_mem u 45 (by rw [e]; simp)
  exact absurd this.1 (by decide)
 unfold Lib.itoa at h
 split at h
 ·split at h
  ·have e := congrArg valD (List.cons.inj h).2
   rw [decDigits_val,decDigits_val] at e
   omega
  ·exact (bad _ _ h.symm).elim
 ·split at h
  ·exact (bad _ _ h).elim
  ·have e := congrArg valD h
   rw [decDigits_val,decDigits_val] at e
   omega
/-- Texts without a space, put together with spaces, are told apart. -/
theorem join_inj : ∀ (xs ys : List (List UInt8)),(∀ x ∈ xs,x ≠ [] ∧ (32 : UInt8) ∉ x) → (∀ y ∈ ys,y ≠ [] ∧ (32 : UInt8) ∉ y) → Lib.join xs [32] = Lib.join ys [32] → xs = ys
 | [],[],_,_,_ => rfl
 | [],y :: r,_,hy,h => by
  rw [Lib.join_cons,Lib.join_nil] at h
  exact ((hy y (by simp)).1 (List.append_eq_nil_iff.1 h.symm).1).elim
 | x :: r,[],hx,_,h => by
  rw [Lib.join_cons,Lib.join_nil] at h
  exact ((hx x (by simp)).1 (List.append_eq_nil_iff.1 h).1).elim
 | x :: r,y :: s,hx,hy,h => by
  rw [Lib.join_cons,Lib.join_cons] at h
  have tl : ∀ r : List (List UInt8),Lib.joinTail [32] r = match r with | [] => [] | z :: q => 32 :: Lib.join (z :: q) [32] := fun r => by
   cases r with
   | nil => rfl
   | cons z q => show Lib.joinTail [32] (z :: q) = 32 :: Lib.join (z :: q) [32]; rw [Lib.join_cons]; simp [Lib.joinTail]
  have tw : ∀ (x : List UInt8) (r : List (List UInt8)),(32 : UInt8) ∉ x → (x ++ Lib.joinTail [32] r).takeWhile (· ≠ 32) = x := fun x r hn => by
   have ha : ∀ a ∈ x,(decide (a ≠ 32)) = true := fun a ha => by
    have : a ≠ 32 := fun e => hn (e ▸ ha)
    simpa using this
   rw [List.takeWhile_append_of_pos ha,tl]
   cases r <;> simp
  have e1 := tw x r (hx x (by simp)).2
  rw [h,tw y s (hy y (by simp)).2] at e1
  subst e1
  have h2 := List.append_cancel_left h
  rw [tl,tl] at h2
  have hr : r = s := by
   cases r with
   | nil =>
    cases s with
    | nil => rfl
    | cons z q => cases h2
   | cons z q =>
    cases s with
    | nil => cases h2
    | cons z' q' =>
     exact join_inj (z :: q) (z' :: q') (fun a ha => hx a (by simp [ha])) (fun a ha => hy a (by simp [ha])) (List.cons.inj h2).2
  rw [hr]
theorem txR_join (l : List Int) : (jn (txR l)).data.toList = Lib.join (l.map Lib.itoa) [32] := by
 rw [jn_toList]
 unfold txR
 rw [List.map_map]
 rfl
theorem row_inj {l m : List Int} (h : jn (txR l) = jn (txR m)) : l = m := by
 have h2 := congrArg (fun b => b.data.toList) h
 simp only [txR_join] at h2
 have ok : ∀ l : List Int,∀ x ∈ l.map Lib.itoa,x ≠ [] ∧ (32 : UInt8) ∉ x := fun l x hx => by
  obtain ⟨n,_,rfl⟩ := List.mem_map.1 hx
  refine ⟨itoa_ne n,fun hm => ?_⟩
  rcases itoa_mem n 32 hm with h | h
  ·exact absurd h (by decide)
  ·exact absurd h.1 (by decide)
 have h3 := join_inj _ _ (ok l) (ok m) h2
 clear h h2 ok
 induction l generalizing m with
 | nil => cases m with
  | nil => rfl
  | cons => cases h3
 | cons a r ih => cases m with
  | nil => cases h3
  | cons b s =>
   simp only [List.map_cons,List.cons.injEq] at h3
   rw [itoa_inj h3.1,ih h3.2]
/-- A right value's text, by its first byte. -/
theorem oneT_head {v : Vl} (h : rightV v = true) : (v.kind = 1 ∧ v.row = [] ∧ oneT v = txI v.num) ∨ (v.kind = 2 ∧ v.row = [] ∧ ((v.num = 1 ∧ oneT v = tTrue) ∨ (v.num = 0 ∧ oneT v = tFalse))) ∨ (v.kind = 3 ∧ v.num = 0 ∧ oneT v = ⟨#[91]⟩ ++ jn (txR v.row) ++ ⟨#[93]⟩) := by
 have h0 := h
 unfold rightV at h
 split at h
 ·rename_i c
  simp at h
  refine .inl ⟨c,h,?_⟩
  unfold oneT
  rw [h0,c]
  rfl
 ·split at h
  ·rename_i c
   simp at h
   refine .inr (.inl ⟨c,h.1,?_⟩)
   rcases h.2 with e | e
   ·refine .inr ⟨e,?_⟩
    unfold oneT
    rw [h0,c,e]
    rfl
   ·refine .inl ⟨e,?_⟩
    unfold oneT
    rw [h0,c,e]
    rfl
  ·split at h
   ·rename_i c
    simp at h
    refine .inr (.inr ⟨c,h.1,?_⟩)
    unfold oneT
    rw [h0,c]
    rfl
   ·simp at h
theorem oneT_inj {a b : Vl} (ha : rightV a = true) (hb : rightV b = true) (h : oneT a = oneT b) : a = b := by
 have hd : ∀ n : Int,∃ c r,(txI n).data.toList = c :: r ∧ (c.toNat = 45 ∨ (48 ≤ c.toNat ∧ c.toNat ≤ 57)) := fun n => by
  cases e : Lib.itoa n with
  | nil => exact (itoa_ne n e).elim
  | cons c r => exact ⟨c,r,by show (Lib.itoa n).toArray.toList = _; rw [e],itoa_mem n c (by rw [e]; simp)⟩
 have hx : ∀ (n : Int) (s : ByteArray) (c : UInt8) (r : List UInt8),s.data.toList = c :: r → (c.toNat < 45 ∨ 57 < c.toNat) → txI n ≠ s := fun n s c r e hc k => by
  obtain ⟨c',r',e',hc'⟩ := hd n
  rw [k,e] at e'
  cases e'
  omega
 have hl : ∀ l : List Int,(⟨#[91]⟩ ++ jn (txR l) ++ ⟨#[93]⟩ : ByteArray).data.toList = 91 :: ((jn (txR l)).data.toList ++ [93]) := fun l => by simp [ByteArray.data_append]
 have t1 : tTrue.data.toList = [116,114,117,101] := rfl
 have t2 : tFalse.data.toList = [102,97,108,115,101] := rfl
 cases a with
 | mk ka na ra =>
  cases b with
  | mk kb nb rb =>
   rcases oneT_head ha with ⟨k1,r1,o1⟩ | ⟨k1,r1,o1⟩ | ⟨k1,r1,o1⟩ <;> rcases oneT_head hb with ⟨k2,r2,o2⟩ | ⟨k2,r2,o2⟩ | ⟨k2,r2,o2⟩ <;> simp only at k1 k2 r1 r2 o1 o2 <;> subst k1 k2 r1 r2
   ·rw [o1,o2] at h
    have h2 := congrArg (fun b => b.data.toList) h
    have : Lib.itoa na = Lib.itoa nb := h2
    rw [itoa_inj this]
   ·rcases o2 with ⟨_,o2⟩ | ⟨_,o2⟩
    ·rw [o1,o2] at h; exact (hx _ _ _ _ t1 (by decide) h).elim
    ·rw [o1,o2] at h; exact (hx _ _ _ _ t2 (by decide) h).elim
   ·rw [o1,o2] at h
    exact (hx _ _ _ _ (hl _) (by decide) h).elim
   ·rcases o1 with ⟨_,o1⟩ | ⟨_,o1⟩
    ·rw [o1,o2] at h; exact (hx _ _ _ _ t1 (by decide) h.symm).elim
    ·rw [o1,o2] at h; exact (hx _ _ _ _ t2 (by decide) h.symm).elim
   ·rcases o1 with ⟨e1,o1⟩ | ⟨e1,o1⟩ <;> rcases o2 with ⟨e2,o2⟩ | ⟨e2,o2⟩
    ·rw [e1,e2]
    ·rw [o1,o2] at h; exact absurd h (by decide)
    ·rw [o1,o2] at h; exact absurd h (by decide)
    ·rw [e1,e2]
   ·have h2 := congrArg (fun b => b.data.toList) h
    simp only [o2,hl] at h2
    rcases o1 with ⟨_,o1⟩ | ⟨_,o1⟩
    ·rw [o1,t1] at h2; exact absurd (List.cons.inj h2).1 (by decide)
    ·rw [o1,t2] at h2; exact absurd (List.cons.inj h2).1 (by decide)
   ·rw [o1,o2] at h
    exact (hx _ _ _ _ (hl _) (by decide) h.symm).elim
   ·have h2 := congrArg (fun b => b.data.toList) h
    simp only [o1,hl] at h2
    rcases o2 with ⟨_,o2⟩ | ⟨_,o2⟩
    ·rw [o2,t1] at h2; exact absurd (List.cons.inj h2).1 (by decide)
    ·rw [o2,t2] at h2; exact absurd (List.cons.inj h2).1 (by decide)
   ·have h2 := congrArg (fun b => b.data.toList) h
    simp only [o1,o2,hl] at h2
    have h3 := List.append_cancel_right (List.cons.inj h2).2
    rw [row_inj (bs_ext h3)]
end Go.Proofs.YtpnnpooeheiedaaDoor
