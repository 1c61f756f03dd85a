/- A value that is lent; kept. -/
import Derived.Test.YtpnnpooeheiedaaDoorS205
import Derived.Test.YtpnnpooeheiedaaDoorS193
namespace Go.Proofs.YtpnnpooeheiedaaDoor
open Go.RowKit
set_option maxRecDepth 100000
set_option linter.unusedVariables false
set_option linter.unusedSimpArgs false
/-- A lent row of numbers: its value, its block. -/
abbrev lentR (l : List Int) (id : Nat) : AV := .vec 1 id 0 l.length (some (l.length + 12))
abbrev lentRB (l : List Int) : Option ABlk := some ⟨1,lng (l ++ mksL 12),true,2⟩
def lvA (v : Vl) (id : Nat) : AV := .agg [.sc (.int .u8 v.kind),.sc (.int .i64 v.num),lentR v.row id]
theorem lvA_eq (v : Vl) (id : Nat) : lvA v id = .agg [.sc (.int .u8 v.kind),.sc (.int .i64 v.num),lentR v.row id] := rfl
theorem lng_gz {H : AHeap} {n : Nat} {src : List Nat} : ∀ {l : List Int},GzL H n src (lng l) (lng l)
 | [] => .nil
 | _ :: _ => .cons (.same trivial) lng_gz
theorem lentR_view {H : AHeap} {l : List Int} {id : Nat} (hf : AHeap.find H id = lentRB l) : View H (lentR l id) (.lst 1 (lng l) none) := by
 refine .vec hf rfl (by simp [lng_length]) ?_
 have : List.take l.length (List.drop 0 (lng (l ++ mksL 12))) = lng l := by
  rw [List.drop_zero,lng_append,List.take_append_of_le_length (by rw [lng_length]; exact Nat.le_refl _),List.take_of_length_le (by rw [lng_length]; exact Nat.le_refl _)]
 rw [this]
 exact ViewL.scs
theorem lvA_view {H : AHeap} {v : Vl} {id : Nat} (hf : AHeap.find H id = lentRB v.row) : View H (lvA v id) (vlA v none) := .agg (.cons .sc (.cons .sc (.cons (lentR_view hf) .nil)))
theorem vlA_view {H : AHeap} {v : Vl} {ro : Option (List AV)} : View H (vlA v ro) (vlA v none) := .agg (.cons .sc (.cons .sc (.cons (.lst ViewL.scs) .nil)))
theorem lentValue_d (v : Vl) (ro : Option (List AV)) (H : AHeap) (hl : v.row.length ≤ 1000000) : D Tryd.prog 9 [vlA v ro] H (.ret (lvA v H.length)) (lentRB v.row :: H) := by
 refine D_of_DK (by simp) (dk9 (E_of_ES ?_))
 simp -implicitDefEqProofs (maxSteps := 99999999) (disch := omega) only [ic9,vlA_eq,va,vg,vs,vh,Nat.reduceMul,ite_true,ite_false,eq_self,forall_const,implies_true,Nat.reduceAdd,Nat.reduceSub,Nat.reduceLT,Nat.reduceLeDiff,↓reduceIte,reduceCtorEq,Int.reduceEq,Int.reduceLT,Int.reduceLE,Int.reduceGT,Int.reduceGE,Int.reduceAdd,Int.reduceSub,Int.reduceNeg,Int.reduceToNat,Nat.reduceBEq,Nat.reduceEqDiff]
 refine callR_ret (lentLongs_d _ _ _ hl) ?_
 simp -implicitDefEqProofs (maxSteps := 99999999) (disch := omega) only [va,vg,vs,vh,Nat.reduceMul,ite_true,ite_false,eq_self,forall_const,implies_true,Nat.reduceAdd,Nat.reduceSub,Nat.reduceLT,Nat.reduceLeDiff,↓reduceIte,reduceCtorEq,Int.reduceEq,Int.reduceLT,Int.reduceLE,Int.reduceGT,Int.reduceGE,Int.reduceAdd,Int.reduceSub,Int.reduceNeg,Int.reduceToNat,Nat.reduceBEq,Nat.reduceEqDiff]
 refine weak_gen [H.length + 2] (by simp) (by simp) (by simp) (fun id k hid hk => .inl ?_) (fun i s k hs hk => ?_) (.agg (.cons (.same trivial) (.cons (.same trivial) (.cons (.vecR ?_ (.inl rfl)) .nil))))
 ·rw [find_past (by omega)] at hk
  refine ⟨hk,?_⟩
  rw [find_past (by simp; omega),find_past (by simp; omega),find_past (by omega)]
  exact hk
 ·rcases i with _ | i
  ·simp only [List.getElem?_cons_zero,Option.some.injEq] at hs
   subst hs
   rw [Nat.add_zero,AHeap.find_new] at hk
   cases hk
   exact ⟨⟨1,lng (v.row ++ mksL 12),true,2⟩,by simp [AHeap.find],rfl,rfl,fun h => h,lng_gz⟩
  ·simp at hs
 ·unfold newId
  rw [if_neg (by omega)]
  simp [List.idxOf?,List.findIdx?_cons]
theorem keptValue_d (v : Vl) (ro : Option (List AV)) (H : AHeap) (i : Nat) (hi : AHeap.find H i = lentRB v.row) (hl : v.row.length ≤ 1000000) :
  D Tryd.prog 13 [lvA v i,vlA v ro] H (.ret (.sc (.bool true))) H := by
 have li := AHeap.find_lt hi
 have up : ∀ {i : Nat} {a b : Option ABlk},i < H.length → AHeap.find (a :: b :: H) i = AHeap.find H i := fun h => by
  rw [AHeap.find_cons (by simp; omega),AHeap.find_cons h]
 refine D_of_DK (by simp) (dk13 (E_of_ES ?_))
 simp -implicitDefEqProofs (maxSteps := 99999999) (disch := first | omega | (simp only [AHeap.set_length,killO_length,List.length_cons,List.length_nil]; first | done | omega)) only [ic13,vlA_eq,lvA_eq,va,vg,vs,vw,Nat.reduceMul,ite_true,ite_false,eq_self,forall_const,implies_true,Nat.reduceAdd,Nat.reduceSub,Nat.reduceLT,Nat.reduceLeDiff,↓reduceIte,reduceCtorEq,Int.reduceEq,Int.reduceLT,Int.reduceLE,Int.reduceGT,Int.reduceGE,Int.reduceAdd,Int.reduceSub,Int.reduceNeg,Int.reduceToNat,Nat.reduceBEq,Nat.reduceEqDiff]
 refine callR_ret (D_view (v := .sc (.bool (sameV v v))) (args' := [vlA v none,vlA v none]) (.cons (lvA_view ((up li).trans hi)) (.cons vlA_view .nil)) .sc (sameValue_d v v none none (by omega) [])) ?_
 rw [sameV_refl]
 simp -implicitDefEqProofs (maxSteps := 99999999) (disch := first | omega | (simp only [AHeap.set_length,killO_length,List.length_cons,List.length_nil]; first | done | omega)) only [va,vg,vs,vw,Nat.reduceMul,ite_true,ite_false,eq_self,forall_const,implies_true,Nat.reduceAdd,Nat.reduceSub,Nat.reduceLT,Nat.reduceLeDiff,↓reduceIte,reduceCtorEq,Int.reduceEq,Int.reduceLT,Int.reduceLE,Int.reduceGT,Int.reduceGE,Int.reduceAdd,Int.reduceSub,Int.reduceNeg,Int.reduceToNat,Nat.reduceBEq,Nat.reduceEqDiff]
 refine callR_ret (keptLongs_d v.row _ _ i _ ((up li).trans hi) hl) ?_
 simp -implicitDefEqProofs (maxSteps := 99999999) (disch := first | omega | (simp only [AHeap.set_length,killO_length,List.length_cons,List.length_nil]; first | done | omega)) only [va,vg,vs,vw,Nat.reduceMul,ite_true,ite_false,eq_self,forall_const,implies_true,Nat.reduceAdd,Nat.reduceSub,Nat.reduceLT,Nat.reduceLeDiff,↓reduceIte,reduceCtorEq,Int.reduceEq,Int.reduceLT,Int.reduceLE,Int.reduceGT,Int.reduceGE,Int.reduceAdd,Int.reduceSub,Int.reduceNeg,Int.reduceToNat,Nat.reduceBEq,Nat.reduceEqDiff]
 exact weak_sc (.cons (.cons .refl))
end Go.Proofs.YtpnnpooeheiedaaDoor
