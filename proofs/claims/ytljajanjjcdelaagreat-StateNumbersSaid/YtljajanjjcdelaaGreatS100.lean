/- Plain laws of states: names rise; a file is put. -/
import Derived.Test.YtljajanjjcdelaaGreatS99
namespace Go.Proofs.YtljajanjjcdelaaGreat
open Go.RowKit
set_option maxRecDepth 100000
set_option linter.unusedVariables false
set_option linter.unusedSimpArgs false
theorem bl_irrefl : ∀ x : List UInt8,Op.bytesLess x x = false
 | [] => rfl
 | a :: x => by simp [Op.bytesLess,bl_irrefl x]
theorem bl_trans : ∀ x y z : List UInt8,Op.bytesLess x y = true → Op.bytesLess y z = true → Op.bytesLess x z = true
 | _,[],_,h,_ => by simp [Op.bytesLess] at h
 | _,_ :: _,[],_,h => by simp [Op.bytesLess] at h
 | [],_ :: _,_ :: _,_,_ => rfl
 | a :: x,b :: y,c :: z,h1,h2 => by
  simp only [Op.bytesLess,Bool.or_eq_true,decide_eq_true_eq,Bool.and_eq_true,beq_iff_eq,UInt8.lt_iff_toNat_lt,← UInt8.toNat_inj] at h1 h2 ⊢
  rcases h1 with h1 | ⟨e1,h1⟩ <;> rcases h2 with h2 | ⟨e2,h2⟩
  ·left; omega
  ·left; omega
  ·left; omega
  ·right; exact ⟨by omega,bl_trans x y z h1 h2⟩
theorem bl_total : ∀ x y : List UInt8,Op.bytesLess x y = false → Op.bytesLess y x = false → x = y
 | [],[],_,_ => rfl
 | [],_ :: _,h,_ => by simp [Op.bytesLess] at h
 | _ :: _,[],_,h => by simp [Op.bytesLess] at h
 | a :: x,b :: y,h1,h2 => by
  simp only [Op.bytesLess,Bool.or_eq_false_iff,decide_eq_false_iff_not,UInt8.lt_iff_toNat_lt,Nat.not_lt] at h1 h2
  have e : a = b := UInt8.toNat_inj.1 (by omega)
  subst e
  simp only [beq_self_eq_true,Bool.true_and] at h1 h2
  rw [bl_total x y h1.2 h2.2]
theorem lt_irrefl (a : ByteArray) : lt a a = false := bl_irrefl _
theorem lt_trans {a b c : ByteArray} (h : lt a b = true) (k : lt b c = true) : lt a c = true := bl_trans _ _ _ h k
theorem lt_total {a b : ByteArray} (h : lt a b = false) (k : lt b a = false) : a = b := by
 have h1 : (a.toList == b.toList) = true := by rw [bl_total _ _ h k]; simp
 rw [toList_beq] at h1
 simpa using h1
theorem lt_of {a b : ByteArray} (h : lt a b = false) (hne : b ≠ a) : lt b a = true := by
 cases e : lt b a with
 | true => rfl
 | false => exact (hne (lt_total h e).symm).elim
/-- Names rise. -/
def Rise : List Dc → Prop
 | [] => True
 | x :: r => (∀ y ∈ r,lt x.1 y.1 = true) ∧ Rise r
theorem rise_of : ∀ {l : List Dc},(∀ k,k + 1 < l.length → lt (nthD l k).1 (nthD l (k + 1)).1 = true) → Rise l
 | [],_ => trivial
 | [x],_ => ⟨by simp,trivial⟩
 | x :: y :: r,h => by
  have ih : Rise (y :: r) := rise_of fun k hk => by
   have := h (k + 1) (by simpa using hk)
   simpa [nthD] using this
  have h0 : lt x.1 y.1 = true := by simpa [nthD] using h 0 (by simp)
  refine ⟨fun z hz => ?_,ih⟩
  rcases List.mem_cons.1 hz with rfl | hz
  ·exact h0
  ·exact lt_trans h0 (ih.1 z hz)
theorem rise_of_B {l : List Dc} (h : riseB l = true) : Rise l := rise_of fun k hk => by
 have := List.all_eq_true.1 h (k + 1) (List.mem_range.2 hk)
 simpa [upAt] using this
theorem Rise.mono : ∀ {l : List Dc} (nm : ByteArray),Rise l → Mono l nm
 | [],nm,_ => fun a b _ h => by simp at h
 | x :: r,nm,h => fun a b hab hb hl => by
  obtain ⟨b',rfl⟩ : ∃ b',b = b' + 1 := ⟨b - 1,by omega⟩
  have hb' : b' < r.length := by simpa using hb
  have e : nthD (x :: r) (b' + 1) = nthD r b' := by simp [nthD]
  rw [e] at hl
  cases a with
  | zero =>
   have : nthD (x :: r) 0 = x := by simp [nthD]
   rw [this]
   exact lt_trans (h.1 _ (nthD_eq hb' ▸ List.getElem_mem hb')) hl
  | succ a =>
   have e2 : nthD (x :: r) (a + 1) = nthD r a := by simp [nthD]
   rw [e2]
   exact Rise.mono nm h.2 a b' (by omega) hb' hl
def putL (l : List Dc) (d : Dc) : List Dc := if hasD l d.1 = true then l.set (posD l d.1) d else insL l (posD l d.1) d
theorem posD_cons {x : Dc} {r : List Dc} {nm : ByteArray} : posD (x :: r) nm = if lt x.1 nm = true then posD r nm + 1 else 0 := by
 unfold posD
 rw [List.findIdx_cons]
 cases h : lt x.1 nm <;> simp
theorem hasD_cons {x : Dc} {r : List Dc} {nm : ByteArray} : hasD (x :: r) nm = if lt x.1 nm = true then hasD r nm else decide (x.1 = nm) := by
 unfold hasD
 rw [posD_cons]
 cases h : lt x.1 nm <;> simp [nthD]
theorem putL_nil {d : Dc} : putL [] d = [d] := rfl
theorem putL_cons {x d : Dc} {r : List Dc} : putL (x :: r) d = if lt x.1 d.1 = true then x :: putL r d else if x.1 = d.1 then d :: r else d :: x :: r := by
 unfold putL
 rw [hasD_cons,posD_cons]
 cases h : lt x.1 d.1
 ·by_cases e : x.1 = d.1 <;> simp [e,insL]
 ·simp only [if_true]
  cases hh : hasD r d.1 <;> simp [insL]
theorem mem_putL {l : List Dc} {d y : Dc} : y ∈ putL l d → y = d ∨ y ∈ l := by
 induction l with
 | nil => rw [putL_nil]; simp
 | cons x r ih =>
  rw [putL_cons]
  split
  ·intro h
   rcases List.mem_cons.1 h with rfl | h
   ·simp
   ·rcases ih h with h | h <;> simp [h]
  ·split
   ·intro h
    rcases List.mem_cons.1 h with h | h <;> simp [h]
   ·intro h
    simpa using h
theorem rise_putL : ∀ {l : List Dc} {d : Dc},Rise l → Rise (putL l d)
 | [],d,_ => ⟨by simp,trivial⟩
 | x :: r,d,h => by
  rw [putL_cons]
  split
  ·rename_i hlt
   refine ⟨fun y hy => ?_,rise_putL h.2⟩
   rcases mem_putL hy with rfl | hy
   ·exact hlt
   ·exact h.1 y hy
  ·rename_i hlt
   split
   ·rename_i e
    exact ⟨fun y hy => by rw [← e]; exact h.1 y hy,h.2⟩
   ·rename_i hne
    have hxd : lt d.1 x.1 = true := lt_of (by simpa using hlt) (fun e => hne e.symm)
    exact ⟨fun y hy => by
     rcases List.mem_cons.1 hy with rfl | hy
     ·exact hxd
     ·exact lt_trans hxd (h.1 y hy),h⟩
/-- As the document's answer puts it. -/
def rp (d : Dc) : Bool → List Dc → List Dc
 | done,[] => if done = true then [] else [d]
 | done,x :: r => (if (!done && !lt x.1 d.1) = true then [d] else []) ++ ((if x.1 = d.1 then [] else [x]) ++ rp d (done || !lt x.1 d.1) r)
theorem rp_done {d : Dc} : ∀ {l : List Dc},(∀ y ∈ l,lt d.1 y.1 = true) → rp d true l = l
 | [],_ => rfl
 | x :: r,h => by
  have hne : ¬ x.1 = d.1 := fun e => by
   have := h x (by simp)
   rw [e,lt_irrefl] at this
   simp at this
  simp [rp,hne,rp_done (l := r) (fun y hy => h y (List.mem_cons_of_mem _ hy))]
theorem rp_putL {d : Dc} : ∀ {l : List Dc},Rise l → rp d false l = putL l d
 | [],_ => rfl
 | x :: r,h => by
  rw [putL_cons,rp]
  cases hlt : lt x.1 d.1 with
  | true =>
   have hne : ¬ x.1 = d.1 := fun e => by rw [e,lt_irrefl] at hlt; simp at hlt
   simp [hne,rp_putL h.2]
  | false =>
   by_cases e : x.1 = d.1
   ·have := rp_done (d := d) (l := r) (fun y hy => by rw [← e]; exact h.1 y hy)
    simp [e,this]
   ·have hxd : lt d.1 x.1 = true := lt_of hlt (fun k => e k.symm)
    have := rp_done (d := d) (l := r) (fun y hy => lt_trans hxd (h.1 y hy))
    simp [e,this]
theorem putL_length {l : List Dc} {d : Dc} : (putL l d).length ≤ l.length + 1 := by
 induction l with
 | nil => simp [putL_nil]
 | cons x r ih =>
  rw [putL_cons]
  split
  ·simp; exact ih
  ·split <;> simp
end Go.Proofs.YtljajanjjcdelaaGreat
