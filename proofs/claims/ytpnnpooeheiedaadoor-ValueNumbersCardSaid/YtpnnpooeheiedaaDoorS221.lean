/- law11.ValueNumbers: the rows of values. -/
import Derived.Test.YtpnnpooeheiedaaDoorS216
namespace Go.Proofs.YtpnnpooeheiedaaDoor
open Go.RowKit
set_option maxRecDepth 100000
set_option linter.unusedVariables false
set_option linter.unusedSimpArgs false
/-- Whatever row a value takes. -/
theorem rowX_d (x : AV) (H : AHeap) (h1 : x.isTop = false ∧ x.isAgg = false ∧ x.ncells = 1 ∧ x.cells = [x]) (h2 : x.ids (· < H.length)) : D Tryd.prog 20 [x] H (.ret (.agg [.sc (.int .u8 3),.sc (.int .i64 0),x])) H := by
 obtain ⟨a1,a2,a3,a4⟩ := h1
 refine D_of_DK (Nat.le_refl _) (dk20 (E_of_ES ?_))
 simp -implicitDefEqProofs (maxSteps := 99999999) (disch := first | omega | (simp only [AHeap.set_length,killO_length,List.length_cons,List.length_nil]; first | done | omega)) only [ic20,a1,a2,a3,a4,va,vg,vs,vw,Nat.reduceMul,ite_true,ite_false,eq_self,forall_const,implies_true,Nat.reduceAdd,Nat.reduceSub,Nat.reduceLT,Nat.reduceLeDiff,↓reduceIte,reduceCtorEq,Int.reduceEq,Int.reduceLT,Int.reduceLE,Int.reduceGT,Int.reduceGE,Int.reduceAdd,Int.reduceSub,Int.reduceNeg,Int.reduceToNat,Nat.reduceBEq,Nat.reduceEqDiff]
 exact weak_over (.cons .refl) (.same ⟨trivial,trivial,h2,trivial⟩)
def rowA (l : List Int) : AV := if l = [] then .lst 0 [] (some []) else .lst 1 (lng l) (some [])
def elA (v : Vl) : AV := .agg [.sc (.int .u8 v.kind),.sc (.int .i64 v.num),rowA v.row]
theorem rowA_view {H : AHeap} (l : List Int) : View H (rowA l) (.lst 1 (lng l) none) := by
 unfold rowA
 split
 ·rename_i e
  rw [e]
  exact .nil
 ·exact .lst ViewL.scs
theorem elA_view {H : AHeap} (v : Vl) : View H (elA v) (vlA v none) := .agg (.cons .sc (.cons .sc (.cons (rowA_view _) .nil)))
def els (l : List Vl) : List AV := l.map elA
theorem els_length (l : List Vl) : (els l).length = l.length := by simp [els]
theorem els_get {l : List Vl} {k : Nat} (h : k < l.length) : (els l).getD k .top = elA (nthV l k) := by simp [els,nthV,List.getD,h]
theorem els_view {H : AHeap} : ∀ (l : List Vl),ViewL H (els l) (vrow l)
 | [] => .nil
 | v :: r => .cons (elA_view v) (els_view r)
def opsL : List ByteArray := [⟨#[124,124]⟩,⟨#[38,38]⟩,⟨#[61,61]⟩,⟨#[33,61]⟩,⟨#[60]⟩,⟨#[60,61]⟩,⟨#[62]⟩,⟨#[62,61]⟩,⟨#[43]⟩,⟨#[45]⟩,⟨#[42]⟩,⟨#[47]⟩,⟨#[37]⟩,⟨#[33]⟩,⟨#[]⟩,⟨#[38]⟩,⟨#[61]⟩,⟨#[61,61,61]⟩,⟨#[110,101,103]⟩]
def numsL : List Int := [-9223372036854775808,-9223372036854775807,-8,-7,-3,-2,-1,0,1,2,3,7,8,9223372036854775806,9223372036854775807]
def v15 : List Vl := numsL.map fun n => ⟨1,n,[]⟩
def v13 : List Vl := [⟨2,0,[]⟩,⟨2,1,[]⟩,⟨2,2,[]⟩,⟨2,-1,[]⟩,⟨3,0,[]⟩,⟨3,0,[0]⟩,⟨3,0,[0,1]⟩,⟨3,0,[1,0]⟩,⟨0,0,[]⟩,⟨4,0,[]⟩,⟨1,0,[1]⟩,⟨2,0,[1]⟩,⟨3,1,[]⟩]
def v28 : List Vl := v15 ++ v13
theorem v28_good : ∀ v ∈ v28,v.good := by
 have h : (v28.all fun v => decide ((-9223372036854775808 ≤ v.num ∧ v.num ≤ 9223372036854775807) ∧ (0 ≤ v.kind ∧ v.kind ≤ 255) ∧ ∀ n ∈ v.row,-9223372036854775808 ≤ n ∧ n ≤ 9223372036854775807)) = true := by
  decide +kernel
 intro v hv
 have := List.all_eq_true.1 h v hv
 simp only [decide_eq_true_eq] at this
 exact this
theorem v15_take {k : Nat} (h : k < 15) : els (v15.take k) ++ [.agg [.sc (.int .u8 1),.sc (.int .i64 (nthQ numsL k)),.lst 0 [] (some [])]] = els (v15.take (k + 1)) := by
 have h15 : v15.length = 15 := rfl
 rw [take_snoc (by rw [h15]; exact h)]
 unfold els
 rw [List.map_append]
 congr 1
 have hn : k < numsL.length := h
 rw [nthQ_eq hn]
 simp [v15,elA,rowA]
end Go.Proofs.YtpnnpooeheiedaaDoor
