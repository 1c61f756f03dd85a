/- Names: both functions. -/
import Derived.Test.YtfnahogjkgcklaaDoorS237
namespace Go.Proofs.YtfnahogjkgcklaaDoor
open Go.RowKit
set_option maxRecDepth 100000
set_option linter.unusedVariables false
set_option linter.unusedSimpArgs false
def byteI (s : ByteArray) (k : Nat) : Int := ((s.data.getD k 0).toNat : Int)
theorem byteI_lo (s : ByteArray) (k : Nat) : 0 ≤ byteI s k := by unfold byteI; omega
theorem byteI_hi (s : ByteArray) (k : Nat) : byteI s k < 256 := by
 unfold byteI
 have := (s.data.getD k 0).toNat_lt
 omega
def wordB (k : Int) : Bool := letQ k || digQ k
theorem wordP (s : ByteArray) (k : Nat) : (letP (byteI s k) || digQ (byteI s k)) = wordB (byteI s k) := by
 rw [let_same (byteI_lo s k) (byteI_hi s k)]; rfl
def allW (s : ByteArray) : Bool := (List.range s.size).all fun k => wordB (byteI s k)
theorem allW_t {s : ByteArray} {k : Nat} (hk : ¬ k < s.size) (h : ∀ j,j < k → wordB (byteI s j) = true) : allW s = true :=
 List.all_eq_true.2 fun j hj => h j (by have := List.mem_range.1 hj; omega)
theorem allW_f {s : ByteArray} {k : Nat} (hk : k < s.size) (h : wordB (byteI s k) = false) : allW s = false := by
 cases e : allW s
 ·rfl
 ·have := List.all_eq_true.1 e k (List.mem_range.2 hk)
  rw [h] at this
  cases this
def nameQ (s : ByteArray) : Bool := !decide (s.size = 0) && decide (s.size ≤ 24) && letQ (byteI s 0) && !memS wordsL s && allW s
theorem size0 {s : ByteArray} (h : ¬ s = ⟨#[]⟩) : s.size ≠ 0 := fun e => h (by
 cases s with
 | mk d => exact congrArg _ (Array.eq_empty_of_size_eq_zero e))
theorem lexWords_d (H : AHeap) : D Tryd.prog 80 [] H (.ret (.lst 1 (strs wordsL) none)) H := by
 have hf := fields_d ⟨#[102,117,110,99,32,118,97,114,32,105,102,32,101,108,115,101,32,119,104,105,108,101,32,114,101,116,117,114,110,32,112,114,105,110,116,32,116,114,117,101,32,102,97,108,115,101,32,108,101,110,32,114,101,97,100]⟩ wordsL (by decide +kernel) (by decide +kernel) (fun j b h => by
  have h2 : ∀ b ∈ ([102,117,110,99,32,118,97,114,32,105,102,32,101,108,115,101,32,119,104,105,108,101,32,114,101,116,117,114,110,32,112,114,105,110,116,32,116,114,117,101,32,102,97,108,115,101,32,108,101,110,32,114,101,97,100] : List UInt8),b.toNat < 128 := by decide +kernel
  exact h2 b (List.mem_of_getElem? h)) (by decide)
 refine D_of_DK (Nat.le_refl _) (dk80 (E_of_ES ?_))
 simp only [ic80,ux]
 simp -implicitDefEqProofs (maxSteps := 99999999) (disch := first | omega | (simp only [AHeap.set_length,killO_length,List.length_cons,List.length_nil]; first | done | omega)) only [vu,va,vg,vs,vw,Nat.reduceMul,ite_true,ite_false,eq_self,forall_const,implies_true,Nat.reduceAdd,Nat.reduceSub,Nat.reduceLT,Nat.reduceLeDiff,↓reduceIte,reduceCtorEq,Int.reduceEq,Int.reduceLT,Int.reduceLE,Int.reduceGT,Int.reduceGE,Int.reduceAdd,Int.reduceSub,Int.reduceNeg,Int.reduceToNat,Nat.reduceBEq,Nat.reduceEqDiff]
 refine callR_ret (hf _) ?_
 simp -implicitDefEqProofs (maxSteps := 99999999) (disch := first | omega | (simp only [AHeap.set_length,killO_length,List.length_cons,List.length_nil]; first | done | omega)) only [vu,va,vg,vs,vw,Nat.reduceMul,ite_true,ite_false,eq_self,forall_const,implies_true,Nat.reduceAdd,Nat.reduceSub,Nat.reduceLT,Nat.reduceLeDiff,↓reduceIte,reduceCtorEq,Int.reduceEq,Int.reduceLT,Int.reduceLE,Int.reduceGT,Int.reduceGE,Int.reduceAdd,Int.reduceSub,Int.reduceNeg,Int.reduceToNat,Nat.reduceBEq,Nat.reduceEqDiff]
 exact weak_over .refl (.same ⟨⟨trivial,trivial,trivial,trivial,trivial,trivial,trivial,trivial,trivial,trivial,trivial,trivial⟩,trivial⟩)
end Go.Proofs.YtfnahogjkgcklaaDoor
