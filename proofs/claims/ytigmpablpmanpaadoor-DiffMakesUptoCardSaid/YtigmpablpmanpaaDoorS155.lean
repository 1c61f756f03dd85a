/- The document's Common; diff.Common of rows of any length. -/
import Derived.Test.YtigmpablpmanpaaDoorS154
import Derived.Test.YtigmpablpmanpaaDoorS151
namespace Go.Proofs.YtigmpablpmanpaaDoor
open Go.RowKit
set_option maxRecDepth 100000
set_option linter.unusedVariables false
set_option linter.unusedSimpArgs false
/-- The pairs, none of rows that are too long. -/
def cmL (a b : List ByteArray) : List (Nat × Nat) := if a.length > 4096 ∨ b.length > 4096 then [] else cmn a b 0 0
theorem cmL_short {a b : List ByteArray} (ha : a.length ≤ 4096) (hb : b.length ≤ 4096) : cmL a b = cmn a b 0 0 := if_neg (by omega)
theorem common_g (a b : List ByteArray) (hla : a.length ≤ 100000) (hlb : b.length ≤ 100000) (H : AHeap) :
  D Tryd.prog 9 [.lst 1 (strs a) none,.lst 1 (strs b) none] H (.ret (OwnV 2 (prs (cmL a b)) H.length)) (OwnB 2 40 (prs (cmL a b)) :: H) := by
 by_cases h : a.length > 4096 ∨ b.length > 4096
 ·have e : cmL a b = [] := if_pos h
  rw [e]
  refine D_of_DK (by simp) (dk9 (E_of_ES ?_))
  by_cases c1 : (a.length : Int) > 4096
  ·simp -implicitDefEqProofs (maxSteps := 99999999) (disch := omega) only [vu,ic9,strs_length,c1,va,vg,vs,vh,Nat.reduceMul,ite_true,ite_false,eq_self,forall_const,implies_true,Nat.reduceAdd,Nat.reduceSub,Nat.reduceLT,Nat.reduceLeDiff,↓reduceIte,reduceCtorEq,Int.reduceEq,Int.reduceLT,Int.reduceLE,Int.reduceGT,Int.reduceGE,Int.reduceAdd,Int.reduceSub,Int.reduceNeg,Int.reduceToNat,Nat.reduceBEq,Nat.reduceEqDiff]
   exact weak_own (io := 0) (fun id hid => rfl) (fun h => (h rfl).elim) fun s => .nil
  ·have c2 : (b.length : Int) > 4096 := by omega
   simp -implicitDefEqProofs (maxSteps := 99999999) (disch := omega) only [vu,ic9,strs_length,c1,c2,va,vg,vs,vh,Nat.reduceMul,ite_true,ite_false,eq_self,forall_const,implies_true,Nat.reduceAdd,Nat.reduceSub,Nat.reduceLT,Nat.reduceLeDiff,↓reduceIte,reduceCtorEq,Int.reduceEq,Int.reduceLT,Int.reduceLE,Int.reduceGT,Int.reduceGE,Int.reduceAdd,Int.reduceSub,Int.reduceNeg,Int.reduceToNat,Nat.reduceBEq,Nat.reduceEqDiff]
   exact weak_own (io := 0) (fun id hid => rfl) (fun h => (h rfl).elim) fun s => .nil
 ·rw [cmL_short (by omega) (by omega)]
  exact common_o a b (by omega) (by omega) H
end Go.Proofs.YtigmpablpmanpaaDoor
