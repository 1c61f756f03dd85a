/- Marks of hunks; hunks that are marked are the same. -/
import Derived.Test.YtigmpablpmanpaaDoorS43
import Derived.Test.YtigmpablpmanpaaDoorSB
import Derived.Test.YtigmpablpmanpaaDoorSM
namespace Go.Proofs.YtigmpablpmanpaaDoor
open Go.RowKit
set_option maxRecDepth 100000
set_option linter.unusedVariables false
set_option linter.unusedSimpArgs false
def shH : Shape := ⟨3,46,true⟩
def mkH (k i : Nat) : AV := .agg [.sc (.int .i64 (markI k i)),.lst 0 [] (some []),.lst 0 [] (some [])]
theorem mkH_is {k i : Nat} : shH.is (mkH k i) := ⟨rfl,rfl,rfl⟩
theorem mkH_facts {k i : Nat} : (mkH k i).isTop = false ∧ (mkH k i).ncells = 3 ∧ (mkH k i).isAgg = true := ⟨rfl,rfl,rfl⟩
theorem markHunk_d (k i : Int) (H : AHeap) : D Tryd.prog 68 [.sc (.int .i64 k),.sc (.int .i64 i)] H (.ret (.agg [.sc (.int .i64 (markI k i)),.lst 0 [] (some []),.lst 0 [] (some [])])) H := by
 refine D_of_DK (Nat.le_refl _) (dk68 (E_of_ES ?_))
 simp -implicitDefEqProofs (maxSteps := 99999999) (disch := omega) only [ic68,va,vg,vs,vh,Nat.reduceMul,ite_true,ite_false,eq_self,forall_const,implies_true,Nat.reduceAdd,Nat.reduceSub,Nat.reduceLT,Nat.reduceLeDiff,↓reduceIte,reduceCtorEq,Int.reduceEq,Int.reduceLT,Int.reduceLE,Int.reduceGT,Int.reduceGE,Int.reduceAdd,Int.reduceSub,Int.reduceNeg,Int.reduceToNat,Nat.reduceBEq,Nat.reduceEqDiff]
 refine callR_ret (mark_d _ _ _) ?_
 simp -implicitDefEqProofs (maxSteps := 99999999) (disch := omega) only [va,vg,vs,vh,Nat.reduceMul,ite_true,ite_false,eq_self,forall_const,implies_true,Nat.reduceAdd,Nat.reduceSub,Nat.reduceLT,Nat.reduceLeDiff,↓reduceIte,reduceCtorEq,Int.reduceEq,Int.reduceLT,Int.reduceLE,Int.reduceGT,Int.reduceGE,Int.reduceAdd,Int.reduceSub,Int.reduceNeg,Int.reduceToNat,Nat.reduceBEq,Nat.reduceEqDiff]
 exact weak_gen [] (by simp) (by simp) (by simp) (fun id k hid hk => .inl ⟨hk,by rw [find_past hid]; exact hk⟩) (fun i s k hs => by simp at hs) (.same ⟨trivial,⟨trivial,trivial⟩,⟨trivial,trivial⟩,trivial⟩)
theorem sameMark_d (m : Int) (H : AHeap) : D Tryd.prog 28 [.agg [.sc (.int .i64 m),.lst 0 [] (some []),.lst 0 [] (some [])],.agg [.sc (.int .i64 m),.lst 0 [] (some []),.lst 0 [] (some [])]] H (.ret (.sc (.bool true))) H := by
 have h := sameHunk_d ⟨m,[],[]⟩ ⟨m,[],[]⟩ none none none none H ⟨by simp,by simp⟩
 have e : sameH ⟨m,[],[]⟩ ⟨m,[],[]⟩ = true := by simp [sameH]
 rw [e] at h
 exact D_le (.cons (.agg (.cons .refl (.cons .nil (.cons .nil .nil)))) (.cons (.agg (.cons .refl (.cons .nil (.cons .nil .nil)))) .nil)) h
end Go.Proofs.YtigmpablpmanpaaDoor
