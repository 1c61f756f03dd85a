/- A file is put into a table's row. -/
import Derived.Test.YtljajanjjcdelaaGreatS98
namespace Go.Proofs.YtljajanjjcdelaaGreat
open Go.RowKit
set_option maxRecDepth 100000
set_option linter.unusedVariables false
set_option linter.unusedSimpArgs false
def tblk (o : AV) : ABlk := ⟨1,[.agg [o]],true,65⟩
abbrev DocV (l : List Dc) (id : Nat) : AV := OwnV 2 (docs l) id
abbrev DocB (l : List Dc) : Option ABlk := OwnB 2 40 (docs l)
theorem docs_ne {l : List Dc} (h : l ≠ []) : docs l ≠ [] := by cases l <;> simp [docs] at h ⊢
theorem DocV_ne {l : List Dc} {id : Nat} (h : l ≠ []) : DocV l id = .vec 2 id 0 l.length none := by rw [DocV,OwnV_ne (docs_ne h),docs_length]
theorem DocB_ne {l : List Dc} (h : l ≠ []) : DocB l = some ⟨2,docs l,false,40⟩ := OwnB_ne (docs_ne h)
theorem docs_set {l : List Dc} {k : Nat} {d : Dc} : (docs l).set k (dcA d) = docs (l.set k d) := by simp [docs,List.map_set]
theorem docs_ids {l : List Dc} {p : Nat → Prop} : AV.idsL p (docs l) := by
 induction l with
 | nil => trivial
 | cons d r ih => exact ⟨⟨trivial,trivial,trivial⟩,ih⟩
theorem vec_view {H : AHeap} {l : List Dc} {id : Nat} {c : Option Nat} {ex : Bool} {ty : TypeId} (hf : AHeap.find H id = some ⟨2,docs l,ex,ty⟩) : View H (.vec 2 id 0 l.length c) (.lst 2 (docs l) none) := by
 refine .vec hf rfl (by simp [docs_length]) ?_
 show ViewL H (((docs l).drop 0).take l.length) (docs l)
 rw [List.drop_zero,← docs_length,List.take_length]
 exact docs_view
theorem docs_gz {F : AHeap} {n : Nat} {src : List Nat} : ∀ {l : List Dc},GzL F n src (docs l) (docs l)
 | [] => .nil
 | _ :: _ => .cons (.agg (.cons (.same trivial) (.cons (.same trivial) .nil))) docs_gz
theorem weak_tab {H B : AHeap} {tid n : Nat} {ls : List Dc} {box : Option ABlk} (hti : tid < H.length) (hB : B.length = H.length) (hs : ∀ i k,AHeap.find B i = some k → AHeap.find H i = some k) :
  Weak H (.ret (.tup [])) (some ⟨2,docs ls,false,40⟩ :: box :: AHeap.set B tid (some (tblk (.vec 2 (H.length + 1) 0 n none)))) (.ret (.tup [])) (some ⟨2,docs ls,false,40⟩ :: AHeap.set B tid (some (tblk (.vec 2 H.length 0 n none)))) := by
 have hl : ∀ x : Option ABlk,(AHeap.set B tid x).length = H.length := fun x => by rw [AHeap.set_length,hB]
 refine weak_gen [H.length + 1] (by simp [hl]) (by simp) (by simp) (fun i k hid hk => ?_) (fun i s k hsr hk => ?_) (.same trivial)
 ·rw [AHeap.find_cons (by rw [hl]; exact hid)] at hk
  by_cases e : i = tid
  ·subst e
   rw [AHeap.find_set_same (by rw [hB]; exact hti)] at hk
   cases hk
   refine .inr ⟨tblk (.vec 2 (H.length + 1) 0 n none),?_,rfl,rfl,fun h => h,.cons (.agg (.cons (.vecR (newId_one (by omega)) (.inl rfl)) .nil)) .nil⟩
   rw [AHeap.find_cons (by simp [hl]; omega),AHeap.find_cons (by rw [hl]; exact hid),AHeap.find_set_same (by rw [hB]; exact hti)]
  ·rw [AHeap.find_set_ne e] at hk
   refine .inl ⟨hs _ _ hk,?_⟩
   rw [AHeap.find_cons (by simp [hl]; omega),AHeap.find_cons (by rw [hl]; exact hid),AHeap.find_set_ne e]
   exact hk
 ·rcases i with _ | i
  ·simp only [List.getElem?_cons_zero,Option.some.injEq] at hsr
   subst hsr
   rw [Nat.add_zero,find_top (by rw [hl])] at hk
   cases hk
   exact ⟨_,find_top (by simp [hl]),rfl,rfl,fun h => h,docs_gz⟩
  ·simp at hsr
theorem put_in (l : List Dc) (d : Dc) (tid id : Nat) (H : AHeap) (ht : AHeap.find H tid = some (tblk (DocV l id))) (hne : l ≠ []) (hf : AHeap.find H id = some ⟨2,docs l,false,40⟩) (hm : Mono l d.1) (hl : l.length ≤ 10000000) (hh : hasD l d.1 = true) :
  D Tryz.prog 34 [.ptr 1 tid 0 0,dcA d] H (.ret (.tup [])) (AHeap.set H id (some ⟨2,docs (l.set (posD l d.1) d),false,40⟩)) := by
 have hti := AHeap.find_lt ht
 have hid := AHeap.find_lt hf
 have hpos : posD l d.1 < l.length := by
  simp only [hasD,Bool.and_eq_true,decide_eq_true_eq] at hh
  exact hh.1
 refine D_of_DK (by simp [AHeap.set_length]) (dk34 (E_of_ES ?_))
 rw [DocV_ne hne] at ht
 unfold tblk at ht
 simp only [ic34,ux]
 refine ES_seq_gen fun L hL => ?_
 simp -implicitDefEqProofs (maxSteps := 99999999) (disch := first | omega | (simp only [AHeap.set_length,killO_length,List.length_cons,List.length_nil]; first | done | omega)) only [ht,va,vg,vs,vw,Nat.reduceMul,ite_true,ite_false,eq_self,forall_const,implies_true,Nat.reduceAdd,Nat.reduceSub,Nat.reduceLT,Nat.reduceLeDiff,↓reduceIte,reduceCtorEq,Int.reduceEq,Int.reduceLT,Int.reduceLE,Int.reduceGT,Int.reduceGE,Int.reduceAdd,Int.reduceSub,Int.reduceNeg,Int.reduceToNat,Nat.reduceBEq,Nat.reduceEqDiff]
 refine hL _ _ ?_
 clear hL
 refine ES_seq_gen fun L hL => ?_
 simp -implicitDefEqProofs (maxSteps := 99999999) (disch := first | omega | (simp only [AHeap.set_length,killO_length,List.length_cons,List.length_nil]; first | done | omega)) only [ht,va,vg,vs,vw,Nat.reduceMul,ite_true,ite_false,eq_self,forall_const,implies_true,Nat.reduceAdd,Nat.reduceSub,Nat.reduceLT,Nat.reduceLeDiff,↓reduceIte,reduceCtorEq,Int.reduceEq,Int.reduceLT,Int.reduceLE,Int.reduceGT,Int.reduceGE,Int.reduceAdd,Int.reduceSub,Int.reduceNeg,Int.reduceToNat,Nat.reduceBEq,Nat.reduceEqDiff]
 have hf2 : AHeap.find (some ⟨2,[dcA d],true,40⟩ :: H) id = some ⟨2,docs l,false,40⟩ := by rw [AHeap.find_cons hid]; exact hf
 refine callD_same (place_v (vec_view hf2) hm (by omega)) ?_
 simp -implicitDefEqProofs (maxSteps := 99999999) (disch := first | omega | (simp only [AHeap.set_length,killO_length,List.length_cons,List.length_nil]; first | done | omega)) only [ht,hf,va,vg,vs,vw,Nat.reduceMul,ite_true,ite_false,eq_self,forall_const,implies_true,Nat.reduceAdd,Nat.reduceSub,Nat.reduceLT,Nat.reduceLeDiff,↓reduceIte,reduceCtorEq,Int.reduceEq,Int.reduceLT,Int.reduceLE,Int.reduceGT,Int.reduceGE,Int.reduceAdd,Int.reduceSub,Int.reduceNeg,Int.reduceToNat,Nat.reduceBEq,Nat.reduceEqDiff]
 refine hL _ _ ?_
 clear hL
 have p0 : ((posD l d.1 : Nat) : Int) < l.length := by omega
 rw [hh]
 generalize hpp : posD l d.1 = pos at *
 have hg := docs_get hpos
 refine ES_seq_gen fun L hL => ?_
 simp -implicitDefEqProofs (maxSteps := 99999999) (disch := first | omega | (simp only [AHeap.set_length,killO_length,List.length_cons,List.length_nil]; first | done | omega)) only [ht,hf,docs_length,hg,p0,va,vg,vs,vw,Nat.reduceMul,ite_true,ite_false,eq_self,forall_const,implies_true,Nat.reduceAdd,Nat.reduceSub,Nat.reduceLT,Nat.reduceLeDiff,↓reduceIte,reduceCtorEq,Int.reduceEq,Int.reduceLT,Int.reduceLE,Int.reduceGT,Int.reduceGE,Int.reduceAdd,Int.reduceSub,Int.reduceNeg,Int.reduceToNat,Nat.reduceBEq,Nat.reduceEqDiff]
 refine ⟨by omega,hpos,?_⟩
 have e : (docs l).set pos (AV.agg [.sc (.string d.1),.sc (.string d.2)]) = docs (l.set pos d) := docs_set
 rw [e]
 refine weak_ret (G := [_]) (by rw [AHeap.set_length]; exact Nat.le_refl _) (fun i k hk => ?_) (.same trivial)
 by_cases ei : i = id
 ·subst ei
  rw [AHeap.find_set_same hid] at hk
  cases hk
  exact .inr docs_ids
 ·rw [AHeap.find_set_ne ei] at hk
  exact .inl ⟨AHeap.find_lt hk,hk⟩
theorem insert0_d (d : Dc) (H : AHeap) :
  D Tryz.prog 53 [.lst 0 [] (some []),.sc (.int .i64 0),.lst 2 [dcA d] (some [])] H (.ret (.vec 2 H.length 0 1 none)) (some ⟨2,docs [d],false,40⟩ :: H) := by
 refine D_of_DK (by simp) (dk53 (E_of_ES ?_))
 simp -implicitDefEqProofs (maxSteps := 99999999) (disch := first | omega | (simp only [AHeap.set_length,killO_length,List.length_cons,List.length_nil]; first | done | omega)) only [ic53,va,vg,vs,vw,Nat.reduceMul,ite_true,ite_false,eq_self,forall_const,implies_true,Nat.reduceAdd,Nat.reduceSub,Nat.reduceLT,Nat.reduceLeDiff,↓reduceIte,reduceCtorEq,Int.reduceEq,Int.reduceLT,Int.reduceLE,Int.reduceGT,Int.reduceGE,Int.reduceAdd,Int.reduceSub,Int.reduceNeg,Int.reduceToNat,Nat.reduceBEq,Nat.reduceEqDiff]
 exact Weak.refl _ _ _
theorem put_new (l : List Dc) (d : Dc) (tid id : Nat) (H : AHeap) (ht : AHeap.find H tid = some (tblk (DocV l id))) (hne : l ≠ []) (hf : AHeap.find H id = some ⟨2,docs l,false,40⟩) (hm : Mono l d.1) (hl : l.length ≤ 10000000) (hh : hasD l d.1 = false) (hp : posD l d.1 ≤ l.length) :
  D Tryz.prog 34 [.ptr 1 tid 0 0,dcA d] H (.ret (.tup [])) (some ⟨2,docs (insL l (posD l d.1) d),false,40⟩ :: AHeap.set (AHeap.set H id none) tid (some (tblk (.vec 2 H.length 0 (l.length + 1) none)))) := by
 have hti := AHeap.find_lt ht
 have hid := AHeap.find_lt hf
 have hne2 : tid ≠ id := fun e => by rw [e,hf] at ht; simp [tblk] at ht
 refine D_of_DK (by simp [AHeap.set_length]) (dk34 (E_of_ES ?_))
 rw [DocV_ne hne] at ht
 unfold tblk at ht
 simp only [ic34,ux]
 refine ES_seq_gen fun L hL => ?_
 simp -implicitDefEqProofs (maxSteps := 99999999) (disch := first | omega | (simp only [AHeap.set_length,killO_length,List.length_cons,List.length_nil]; first | done | omega)) only [ht,va,vg,vs,vw,Nat.reduceMul,ite_true,ite_false,eq_self,forall_const,implies_true,Nat.reduceAdd,Nat.reduceSub,Nat.reduceLT,Nat.reduceLeDiff,↓reduceIte,reduceCtorEq,Int.reduceEq,Int.reduceLT,Int.reduceLE,Int.reduceGT,Int.reduceGE,Int.reduceAdd,Int.reduceSub,Int.reduceNeg,Int.reduceToNat,Nat.reduceBEq,Nat.reduceEqDiff]
 refine hL _ _ ?_
 clear hL
 refine ES_seq_gen fun L hL => ?_
 simp -implicitDefEqProofs (maxSteps := 99999999) (disch := first | omega | (simp only [AHeap.set_length,killO_length,List.length_cons,List.length_nil]; first | done | omega)) only [ht,va,vg,vs,vw,Nat.reduceMul,ite_true,ite_false,eq_self,forall_const,implies_true,Nat.reduceAdd,Nat.reduceSub,Nat.reduceLT,Nat.reduceLeDiff,↓reduceIte,reduceCtorEq,Int.reduceEq,Int.reduceLT,Int.reduceLE,Int.reduceGT,Int.reduceGE,Int.reduceAdd,Int.reduceSub,Int.reduceNeg,Int.reduceToNat,Nat.reduceBEq,Nat.reduceEqDiff]
 have hf2 : AHeap.find (some ⟨2,[dcA d],true,40⟩ :: H) id = some ⟨2,docs l,false,40⟩ := by rw [AHeap.find_cons hid]; exact hf
 refine callD_same (place_v (vec_view hf2) hm (by omega)) ?_
 simp -implicitDefEqProofs (maxSteps := 99999999) (disch := first | omega | (simp only [AHeap.set_length,killO_length,List.length_cons,List.length_nil]; first | done | omega)) only [ht,hf,va,vg,vs,vw,Nat.reduceMul,ite_true,ite_false,eq_self,forall_const,implies_true,Nat.reduceAdd,Nat.reduceSub,Nat.reduceLT,Nat.reduceLeDiff,↓reduceIte,reduceCtorEq,Int.reduceEq,Int.reduceLT,Int.reduceLE,Int.reduceGT,Int.reduceGE,Int.reduceAdd,Int.reduceSub,Int.reduceNeg,Int.reduceToNat,Nat.reduceBEq,Nat.reduceEqDiff]
 refine hL _ _ ?_
 clear hL
 rw [hh]
 generalize posD l d.1 = pos at *
 refine ES_seq_gen fun L hL => ?_
 simp -implicitDefEqProofs (maxSteps := 99999999) (disch := first | omega | (simp only [AHeap.set_length,killO_length,List.length_cons,List.length_nil]; first | done | omega)) only [ht,hf,docs_length,va,vg,vs,vw,Nat.reduceMul,ite_true,ite_false,eq_self,forall_const,implies_true,Nat.reduceAdd,Nat.reduceSub,Nat.reduceLT,Nat.reduceLeDiff,↓reduceIte,reduceCtorEq,Int.reduceEq,Int.reduceLT,Int.reduceLE,Int.reduceGT,Int.reduceGE,Int.reduceAdd,Int.reduceSub,Int.reduceNeg,Int.reduceToNat,Nat.reduceBEq,Nat.reduceEqDiff]
 refine hL _ _ ?_
 clear hL
 simp -implicitDefEqProofs (maxSteps := 99999999) (disch := first | omega | (simp only [AHeap.set_length,killO_length,List.length_cons,List.length_nil]; first | done | omega)) only [ht,hf,docs_length,va,vg,vs,vw,Nat.reduceMul,ite_true,ite_false,eq_self,forall_const,implies_true,Nat.reduceAdd,Nat.reduceSub,Nat.reduceLT,Nat.reduceLeDiff,↓reduceIte,reduceCtorEq,Int.reduceEq,Int.reduceLT,Int.reduceLE,Int.reduceGT,Int.reduceGE,Int.reduceAdd,Int.reduceSub,Int.reduceNeg,Int.reduceToNat,Nat.reduceBEq,Nat.reduceEqDiff]
 refine callD_ret (insert_d l d pos id _ hp hl hf2) (by simp -implicitDefEqProofs (maxSteps := 99999999) (disch := first | omega | (simp only [AHeap.set_length,killO_length,List.length_cons,List.length_nil]; first | done | omega)) only [va,vg,vs,vw,Nat.reduceMul,ite_true,ite_false,eq_self,forall_const,implies_true,Nat.reduceAdd,Nat.reduceSub,Nat.reduceLT,Nat.reduceLeDiff,↓reduceIte,reduceCtorEq,Int.reduceEq,Int.reduceLT,Int.reduceLE,Int.reduceGT,Int.reduceGE,Int.reduceAdd,Int.reduceSub,Int.reduceNeg,Int.reduceToNat,Nat.reduceBEq,Nat.reduceEqDiff]) ?_
 simp -implicitDefEqProofs (maxSteps := 99999999) (disch := first | omega | (simp only [AHeap.set_length,killO_length,List.length_cons,List.length_nil]; first | done | omega)) only [ht,hne2,va,vg,vs,vw,Nat.reduceMul,ite_true,ite_false,eq_self,forall_const,implies_true,Nat.reduceAdd,Nat.reduceSub,Nat.reduceLT,Nat.reduceLeDiff,↓reduceIte,reduceCtorEq,Int.reduceEq,Int.reduceLT,Int.reduceLE,Int.reduceGT,Int.reduceGE,Int.reduceAdd,Int.reduceSub,Int.reduceNeg,Int.reduceToNat,Nat.reduceBEq,Nat.reduceEqDiff]
 exact weak_tab hti (AHeap.set_length ..) (fun i k hk => (find_kill hk).2)
theorem put_first (d : Dc) (tid id : Nat) (H : AHeap) (ht : AHeap.find H tid = some (tblk (DocV [] id))) :
  D Tryz.prog 34 [.ptr 1 tid 0 0,dcA d] H (.ret (.tup [])) (some ⟨2,docs [d],false,40⟩ :: AHeap.set H tid (some (tblk (.vec 2 H.length 0 1 none)))) := by
 have hti := AHeap.find_lt ht
 refine D_of_DK (by simp [AHeap.set_length]) (dk34 (E_of_ES ?_))
 have ht : AHeap.find H tid = some ⟨1,[.agg [.lst 0 [] (some [])]],true,65⟩ := ht
 simp only [ic34,ux]
 refine ES_seq_gen fun L hL => ?_
 simp -implicitDefEqProofs (maxSteps := 99999999) (disch := first | omega | (simp only [AHeap.set_length,killO_length,List.length_cons,List.length_nil]; first | done | omega)) only [ht,va,vg,vs,vw,Nat.reduceMul,ite_true,ite_false,eq_self,forall_const,implies_true,Nat.reduceAdd,Nat.reduceSub,Nat.reduceLT,Nat.reduceLeDiff,↓reduceIte,reduceCtorEq,Int.reduceEq,Int.reduceLT,Int.reduceLE,Int.reduceGT,Int.reduceGE,Int.reduceAdd,Int.reduceSub,Int.reduceNeg,Int.reduceToNat,Nat.reduceBEq,Nat.reduceEqDiff]
 refine hL _ _ ?_
 clear hL
 refine ES_seq_gen fun L hL => ?_
 simp -implicitDefEqProofs (maxSteps := 99999999) (disch := first | omega | (simp only [AHeap.set_length,killO_length,List.length_cons,List.length_nil]; first | done | omega)) only [ht,va,vg,vs,vw,Nat.reduceMul,ite_true,ite_false,eq_self,forall_const,implies_true,Nat.reduceAdd,Nat.reduceSub,Nat.reduceLT,Nat.reduceLeDiff,↓reduceIte,reduceCtorEq,Int.reduceEq,Int.reduceLT,Int.reduceLE,Int.reduceGT,Int.reduceGE,Int.reduceAdd,Int.reduceSub,Int.reduceNeg,Int.reduceToNat,Nat.reduceBEq,Nat.reduceEqDiff]
 refine callD_same (place_v (l := []) .nil (fun a b _ h => by simp at h) (by simp)) ?_
 simp -implicitDefEqProofs (maxSteps := 99999999) (disch := first | omega | (simp only [AHeap.set_length,killO_length,List.length_cons,List.length_nil]; first | done | omega)) only [ht,va,vg,vs,vw,Nat.reduceMul,ite_true,ite_false,eq_self,forall_const,implies_true,Nat.reduceAdd,Nat.reduceSub,Nat.reduceLT,Nat.reduceLeDiff,↓reduceIte,reduceCtorEq,Int.reduceEq,Int.reduceLT,Int.reduceLE,Int.reduceGT,Int.reduceGE,Int.reduceAdd,Int.reduceSub,Int.reduceNeg,Int.reduceToNat,Nat.reduceBEq,Nat.reduceEqDiff]
 refine hL _ _ ?_
 clear hL
 have hh : hasD [] d.1 = false := rfl
 have hp : posD [] d.1 = 0 := rfl
 rw [hh,hp]
 refine ES_seq_gen fun L hL => ?_
 simp -implicitDefEqProofs (maxSteps := 99999999) (disch := first | omega | (simp only [AHeap.set_length,killO_length,List.length_cons,List.length_nil]; first | done | omega)) only [ht,va,vg,vs,vw,Nat.reduceMul,ite_true,ite_false,eq_self,forall_const,implies_true,Nat.reduceAdd,Nat.reduceSub,Nat.reduceLT,Nat.reduceLeDiff,↓reduceIte,reduceCtorEq,Int.reduceEq,Int.reduceLT,Int.reduceLE,Int.reduceGT,Int.reduceGE,Int.reduceAdd,Int.reduceSub,Int.reduceNeg,Int.reduceToNat,Nat.reduceBEq,Nat.reduceEqDiff]
 refine hL _ _ ?_
 clear hL
 simp -implicitDefEqProofs (maxSteps := 99999999) (disch := first | omega | (simp only [AHeap.set_length,killO_length,List.length_cons,List.length_nil]; first | done | omega)) only [ht,va,vg,vs,vw,Nat.reduceMul,ite_true,ite_false,eq_self,forall_const,implies_true,Nat.reduceAdd,Nat.reduceSub,Nat.reduceLT,Nat.reduceLeDiff,↓reduceIte,reduceCtorEq,Int.reduceEq,Int.reduceLT,Int.reduceLE,Int.reduceGT,Int.reduceGE,Int.reduceAdd,Int.reduceSub,Int.reduceNeg,Int.reduceToNat,Nat.reduceBEq,Nat.reduceEqDiff]
 refine callD_ret (insert0_d d _) (by simp -implicitDefEqProofs (maxSteps := 99999999) (disch := first | omega | (simp only [AHeap.set_length,killO_length,List.length_cons,List.length_nil]; first | done | omega)) only [va,vg,vs,vw,Nat.reduceMul,ite_true,ite_false,eq_self,forall_const,implies_true,Nat.reduceAdd,Nat.reduceSub,Nat.reduceLT,Nat.reduceLeDiff,↓reduceIte,reduceCtorEq,Int.reduceEq,Int.reduceLT,Int.reduceLE,Int.reduceGT,Int.reduceGE,Int.reduceAdd,Int.reduceSub,Int.reduceNeg,Int.reduceToNat,Nat.reduceBEq,Nat.reduceEqDiff]) ?_
 simp -implicitDefEqProofs (maxSteps := 99999999) (disch := first | omega | (simp only [AHeap.set_length,killO_length,List.length_cons,List.length_nil]; first | done | omega)) only [ht,va,vg,vs,vw,Nat.reduceMul,ite_true,ite_false,eq_self,forall_const,implies_true,Nat.reduceAdd,Nat.reduceSub,Nat.reduceLT,Nat.reduceLeDiff,↓reduceIte,reduceCtorEq,Int.reduceEq,Int.reduceLT,Int.reduceLE,Int.reduceGT,Int.reduceGE,Int.reduceAdd,Int.reduceSub,Int.reduceNeg,Int.reduceToNat,Nat.reduceBEq,Nat.reduceEqDiff]
 exact weak_tab hti rfl (fun i k hk => hk)
end Go.Proofs.YtljajanjjcdelaaGreat
