/- law11.ValueRing: the walk (under way: its first test). -/
import Derived.Test.YtpnnpooeheiedaaDoorS200
namespace Go.Proofs.YtpnnpooeheiedaaDoor
open Go.RowKit
set_option maxRecDepth 100000
set_option linter.unusedVariables false
set_option linter.unusedSimpArgs false
theorem add_d (x y : Int) (hx : I64 x) (hy : I64 y) (H : AHeap) : D Tryd.prog 21 [.sc (.string ⟨#[43]⟩),.sc (.int .i64 x),.sc (.int .i64 y)] H (.ret (.sc (.int .i64 (IntKind.i64.wrap (x + y))))) H := by
 rw [← got_add]
 exact got_d _ x y hx hy H
theorem sub_d (x y : Int) (hx : I64 x) (hy : I64 y) (H : AHeap) : D Tryd.prog 21 [.sc (.string ⟨#[45]⟩),.sc (.int .i64 x),.sc (.int .i64 y)] H (.ret (.sc (.int .i64 (IntKind.i64.wrap (x - y))))) H := by
 rw [← got_sub]
 exact got_d _ x y hx hy H
theorem mul_d (x y : Int) (hx : I64 x) (hy : I64 y) (H : AHeap) : D Tryd.prog 21 [.sc (.string ⟨#[42]⟩),.sc (.int .i64 x),.sc (.int .i64 y)] H (.ret (.sc (.int .i64 (IntKind.i64.wrap (x * y))))) H := by
 rw [← got_mul]
 exact got_d _ x y hx hy H
theorem abs_d (n : Int) (H : AHeap) : D Tryd.prog 24 [.sc (.int .i64 n)] H (.ret (.sc (.int .i64 (if n < 0 then IntKind.i64.wrap (0 - n) else n)))) H := by
 refine D_of_DK (Nat.le_refl _) (dk24 (E_of_ES ?_))
 by_cases c : n < 0
 ·simp -implicitDefEqProofs (maxSteps := 99999999) (disch := first | omega | (simp only [AHeap.set_length,killO_length,List.length_cons,List.length_nil]; first | done | omega)) only [vu,ic24,c,va,vg,vs,vw,Nat.reduceMul,ite_true,ite_false,eq_self,forall_const,implies_true,Nat.reduceAdd,Nat.reduceSub,Nat.reduceLT,Nat.reduceLeDiff,↓reduceIte,reduceCtorEq,Int.reduceEq,Int.reduceLT,Int.reduceLE,Int.reduceGT,Int.reduceGE,Int.reduceAdd,Int.reduceSub,Int.reduceNeg,Int.reduceToNat,Nat.reduceBEq,Nat.reduceEqDiff]
  exact weak_over .refl (.same trivial)
 ·simp -implicitDefEqProofs (maxSteps := 99999999) (disch := first | omega | (simp only [AHeap.set_length,killO_length,List.length_cons,List.length_nil]; first | done | omega)) only [vu,ic24,c,va,vg,vs,vw,Nat.reduceMul,ite_true,ite_false,eq_self,forall_const,implies_true,Nat.reduceAdd,Nat.reduceSub,Nat.reduceLT,Nat.reduceLeDiff,↓reduceIte,reduceCtorEq,Int.reduceEq,Int.reduceLT,Int.reduceLE,Int.reduceGT,Int.reduceGE,Int.reduceAdd,Int.reduceSub,Int.reduceNeg,Int.reduceToNat,Nat.reduceBEq,Nat.reduceEqDiff]
  exact weak_over .refl (.same trivial)
end Go.Proofs.YtpnnpooeheiedaaDoor
