/- A file's place in a row; a copy of a row; what must be. -/
import Derived.Test.YtljajanjjcdelaaGreatS97
import Derived.Test.YtljajanjjcdelaaGreatVC
namespace Go.Proofs.YtljajanjjcdelaaGreat
open Go.RowKit
set_option maxRecDepth 100000
set_option linter.unusedVariables false
set_option linter.unusedSimpArgs false
theorem key_d (d : Dc) (H : AHeap) : D Tryz.prog 52 [dcA d] H (.ret (.sc (.string d.1))) H := by
 refine D_of_DK (Nat.le_refl _) (dk52 (E_of_ES ?_))
 simp -implicitDefEqProofs (maxSteps := 99999999) (disch := omega) only [ic52,va,vg,vs,vh,Nat.reduceMul,ite_true,ite_false,eq_self,forall_const,implies_true,Nat.reduceAdd,Nat.reduceSub,Nat.reduceLT,Nat.reduceLeDiff,↓reduceIte,reduceCtorEq,Int.reduceEq,Int.reduceLT,Int.reduceLE,Int.reduceGT,Int.reduceGE,Int.reduceAdd,Int.reduceSub,Int.reduceNeg,Int.reduceToNat,Nat.reduceBEq,Nat.reduceEqDiff]
 exact weak_sc (.cons .refl)
theorem cmpF_d (d : Dc) (nm : ByteArray) (H : AHeap) (ty : TypeId) : D Tryz.prog 81 [dcA d,.sc (.string nm),.ptr 1 H.length 0 0] (some ⟨1,[.fn (.func 52) [] []],true,ty⟩ :: H) (.ret (.sc (.int .i64 (cmpS d.1 nm)))) (some ⟨1,[.fn (.func 52) [] []],true,ty⟩ :: H) := by
 refine D_of_DK (Nat.le_refl _) (dk81 (E_of_ES ?_))
 simp -implicitDefEqProofs (maxSteps := 99999999) (disch := omega) only [ic81,va,vg,vs,vh,Nat.reduceMul,ite_true,ite_false,eq_self,forall_const,implies_true,Nat.reduceAdd,Nat.reduceSub,Nat.reduceLT,Nat.reduceLeDiff,↓reduceIte,reduceCtorEq,Int.reduceEq,Int.reduceLT,Int.reduceLE,Int.reduceGT,Int.reduceGE,Int.reduceAdd,Int.reduceSub,Int.reduceNeg,Int.reduceToNat,Nat.reduceBEq,Nat.reduceEqDiff]
 refine ⟨rfl,callR_ret (key_d d _) ?_⟩
 simp -implicitDefEqProofs (maxSteps := 99999999) (disch := omega) only [va,vg,vs,vh,Nat.reduceMul,ite_true,ite_false,eq_self,forall_const,implies_true,Nat.reduceAdd,Nat.reduceSub,Nat.reduceLT,Nat.reduceLeDiff,↓reduceIte,reduceCtorEq,Int.reduceEq,Int.reduceLT,Int.reduceLE,Int.reduceGT,Int.reduceGE,Int.reduceAdd,Int.reduceSub,Int.reduceNeg,Int.reduceToNat,Nat.reduceBEq,Nat.reduceEqDiff]
 refine callR_ret (compare_d d.1 nm _) ?_
 simp -implicitDefEqProofs (maxSteps := 99999999) (disch := omega) only [va,vg,vs,vh,Nat.reduceMul,ite_true,ite_false,eq_self,forall_const,implies_true,Nat.reduceAdd,Nat.reduceSub,Nat.reduceLT,Nat.reduceLeDiff,↓reduceIte,reduceCtorEq,Int.reduceEq,Int.reduceLT,Int.reduceLE,Int.reduceGT,Int.reduceGE,Int.reduceAdd,Int.reduceSub,Int.reduceNeg,Int.reduceToNat,Nat.reduceBEq,Nat.reduceEqDiff]
 exact weak_sc (.cons .refl)
theorem place_d (l : List Dc) (room : Option (List AV)) (nm : ByteArray) (H : AHeap) (hm : Mono l nm) (hl : l.length ≤ 100000000) : D Tryz.prog 51 [.lst 2 (docs l) room,.sc (.string nm),.fn (.func 52) [] []] H (.ret (.tup [.sc (.int .i64 (posD l nm : Nat)),.sc (.bool (hasD l nm))])) H := by
 refine D_of_DK (Nat.le_refl _) (dk51 (E_of_ES ?_))
 simp -implicitDefEqProofs (maxSteps := 99999999) (disch := omega) only [ic51,va,vg,vs,vh,Nat.reduceMul,ite_true,ite_false,eq_self,forall_const,implies_true,Nat.reduceAdd,Nat.reduceSub,Nat.reduceLT,Nat.reduceLeDiff,↓reduceIte,reduceCtorEq,Int.reduceEq,Int.reduceLT,Int.reduceLE,Int.reduceGT,Int.reduceGE,Int.reduceAdd,Int.reduceSub,Int.reduceNeg,Int.reduceToNat,Nat.reduceBEq,Nat.reduceEqDiff]
 refine callR_ret (search_d l room nm 81 [.ptr 1 H.length 0 0] _ rfl hm (fun d _ => cmpF_d d nm H _) hl) ?_
 simp -implicitDefEqProofs (maxSteps := 99999999) (disch := omega) only [va,vg,vs,vh,Nat.reduceMul,ite_true,ite_false,eq_self,forall_const,implies_true,Nat.reduceAdd,Nat.reduceSub,Nat.reduceLT,Nat.reduceLeDiff,↓reduceIte,reduceCtorEq,Int.reduceEq,Int.reduceLT,Int.reduceLE,Int.reduceGT,Int.reduceGE,Int.reduceAdd,Int.reduceSub,Int.reduceNeg,Int.reduceToNat,Nat.reduceBEq,Nat.reduceEqDiff]
 exact weak_over (.cons .refl) (.tup (.cons (.same trivial) (.cons (.same trivial) .nil)))
theorem docs_view {H : AHeap} : ∀ {l : List Dc},ViewL H (docs l) (docs l)
 | [] => .nil
 | _ :: _ => .cons (.agg (.cons .sc (.cons .sc .nil))) docs_view
theorem place_v {l : List Dc} {x : AV} {nm : ByteArray} {H : AHeap} (hx : View H x (.lst 2 (docs l) none)) (hm : Mono l nm) (hl : l.length ≤ 100000000) : D Tryz.prog 51 [x,.sc (.string nm),.fn (.func 52) [] []] H (.ret (.tup [.sc (.int .i64 (posD l nm : Nat)),.sc (.bool (hasD l nm))])) H :=
 D_view (.cons hx (.cons .sc (.cons (.fn .nil .nil) .nil))) (.tup .sc (.tup .sc .tup0)) (place_d l none nm [] hm hl)
theorem must_d (e : Int) (H : AHeap) : D Tryz.prog 31 [.sc (.bool true),.sc (.int .i64 e)] H (.ret (.tup [])) H := by
 refine D_of_DK (Nat.le_refl _) (dk31 (E_of_ES ?_))
 simp -implicitDefEqProofs (maxSteps := 99999999) (disch := omega) only [ic31,va,vg,vs,vh,Nat.reduceMul,ite_true,ite_false,eq_self,forall_const,implies_true,Nat.reduceAdd,Nat.reduceSub,Nat.reduceLT,Nat.reduceLeDiff,↓reduceIte,reduceCtorEq,Int.reduceEq,Int.reduceLT,Int.reduceLE,Int.reduceGT,Int.reduceGE,Int.reduceAdd,Int.reduceSub,Int.reduceNeg,Int.reduceToNat,Nat.reduceBEq,Nat.reduceEqDiff]
 exact Weak.refl _ _ _
theorem must_p (e : Int) (H : AHeap) : D Tryz.prog 31 [.sc (.bool false),.sc (.int .i64 e)] H (.pan (.ifc 32 (.sc (.int .i64 e)))) H := by
 refine D_of_DK (Nat.le_refl _) (dk31 (E_of_ES ?_))
 simp -implicitDefEqProofs (maxSteps := 99999999) (disch := omega) only [ic31,va,vg,vs,vh,Nat.reduceMul,ite_true,ite_false,eq_self,forall_const,implies_true,Nat.reduceAdd,Nat.reduceSub,Nat.reduceLT,Nat.reduceLeDiff,↓reduceIte,reduceCtorEq,Int.reduceEq,Int.reduceLT,Int.reduceLE,Int.reduceGT,Int.reduceGE,Int.reduceAdd,Int.reduceSub,Int.reduceNeg,Int.reduceToNat,Nat.reduceBEq,Nat.reduceEqDiff]
 exact Weak.refl _ _ _
theorem weak_rowD {H F : AHeap} {k s : Nat} {ty : TypeId} {xs : List AV} (hs : H.length ≤ s) (h1 : ∀ id,id < H.length → AHeap.find F id = AHeap.find H id) (h2 : xs ≠ [] → AHeap.find F s = OwnB k ty xs) (hz : GzL F H.length [s] xs xs) {x y : AV} (hv : Gz F H.length [s] x y) :
  Weak H (.ret x) F (.ret y) (OwnB k ty xs :: H) := by
 refine weak_gen [s] (by simp) (by simp) (by simpa using hs) (fun id b hid hb => .inl ?_) (fun i s' b hs' hb => ?_) hv
 ·rw [find_past hid] at hb
  exact ⟨hb,(h1 id hid).trans hb⟩
 ·rcases i with _ | i
  ·simp only [List.getElem?_cons_zero,Option.some.injEq] at hs'
   subst hs'
   rw [Nat.add_zero,find_top rfl] at hb
   obtain ⟨hx,rfl⟩ := OwnB_some hb
   exact ⟨_,(h2 hx).trans (OwnB_ne hx),rfl,rfl,fun h => h,hz⟩
  ·simp at hs'
theorem row_gzD {F : AHeap} {n s k : Nat} {xs : List AV} (h : n ≤ s) : Gz F n [s] (OwnV k xs s) (OwnV k xs n) := OwnV_gz fun _ => newId_one h
theorem nil_gzD {F : AHeap} {n s k k' : Nat} : Gz F n [s] (.lst k' [] (some [])) (OwnV k [] n) := .nil0
theorem cloneD_d (l : List Dc) (ro : Option (List AV)) (H : AHeap) (hl : l.length ≤ 100000000) : D Tryz.prog 33 [.lst 2 (docs l) ro] H (.ret (OwnV 2 (docs l) H.length)) (OwnB 2 40 (docs l) :: H) := by
 refine D_of_DK (by simp) (dk33 (E_of_ES ?_))
 cases l with
 | nil =>
  simp -implicitDefEqProofs (maxSteps := 99999999) (disch := omega) only [ic33,docs_nil,va,vg,vs,vh,Nat.reduceMul,ite_true,ite_false,eq_self,forall_const,implies_true,Nat.reduceAdd,Nat.reduceSub,Nat.reduceLT,Nat.reduceLeDiff,↓reduceIte,reduceCtorEq,Int.reduceEq,Int.reduceLT,Int.reduceLE,Int.reduceGT,Int.reduceGE,Int.reduceAdd,Int.reduceSub,Int.reduceNeg,Int.reduceToNat,Nat.reduceBEq,Nat.reduceEqDiff]
  refine ⟨?_,?_⟩
  ·simp -implicitDefEqProofs (maxSteps := 99999999) (disch := omega) only [va,vg,vs,vh,Nat.reduceMul,ite_true,ite_false,eq_self,forall_const,implies_true,Nat.reduceAdd,Nat.reduceSub,Nat.reduceLT,Nat.reduceLeDiff,↓reduceIte,reduceCtorEq,Int.reduceEq,Int.reduceLT,Int.reduceLE,Int.reduceGT,Int.reduceGE,Int.reduceAdd,Int.reduceSub,Int.reduceNeg,Int.reduceToNat,Nat.reduceBEq,Nat.reduceEqDiff]
   exact weak_rowD (xs := []) (Nat.le_refl _) (fun _ _ => rfl) (fun h => (h rfl).elim) .nil nil_gzD
  ·simp -implicitDefEqProofs (maxSteps := 99999999) (disch := omega) only [va,vg,vs,vh,Nat.reduceMul,ite_true,ite_false,eq_self,forall_const,implies_true,Nat.reduceAdd,Nat.reduceSub,Nat.reduceLT,Nat.reduceLeDiff,↓reduceIte,reduceCtorEq,Int.reduceEq,Int.reduceLT,Int.reduceLE,Int.reduceGT,Int.reduceGE,Int.reduceAdd,Int.reduceSub,Int.reduceNeg,Int.reduceToNat,Nat.reduceBEq,Nat.reduceEqDiff]
   exact weak_rowD (xs := []) (Nat.le_refl _) (fun _ _ => rfl) (fun h => (h rfl).elim) .nil nil_gzD
 | cons x r =>
  simp only [List.length_cons] at hl
  simp -implicitDefEqProofs (maxSteps := 99999999) (disch := omega) only [ic33,docs_cons,docs_length,va,vg,vs,vh,Nat.reduceMul,ite_true,ite_false,eq_self,forall_const,implies_true,Nat.reduceAdd,Nat.reduceSub,Nat.reduceLT,Nat.reduceLeDiff,↓reduceIte,reduceCtorEq,Int.reduceEq,Int.reduceLT,Int.reduceLE,Int.reduceGT,Int.reduceGE,Int.reduceAdd,Int.reduceSub,Int.reduceNeg,Int.reduceToNat,Nat.reduceBEq,Nat.reduceEqDiff]
  refine ⟨by omega,?_⟩
  have e1 : OwnV 2 (dcA x :: docs r) H.length = .vec 2 H.length 0 (r.length + 1) none := by simp [OwnV,docs_length]
  rw [e1]
  exact Weak.refl _ _ _
end Go.Proofs.YtljajanjjcdelaaGreat
