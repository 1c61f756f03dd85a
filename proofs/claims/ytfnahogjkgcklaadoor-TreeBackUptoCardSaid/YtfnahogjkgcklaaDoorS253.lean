/- tree.Names. -/
import Derived.Test.YtfnahogjkgcklaaDoorS252
namespace Go.Proofs.YtfnahogjkgcklaaDoor
open Go.RowKit Go.Shelf Go.Sort
set_option maxRecDepth 100000
set_option linter.unusedVariables false
set_option linter.unusedSimpArgs false
theorem compact_n (H : AHeap) : D Tryd.prog 33 [.lst 0 [] (some [])] H (.ret (.lst 0 [] (some []))) H := by
 refine ⟨Nat.le_refl _,fun φ w vs hR ha => ?_⟩
 obtain ⟨a,r,e1,a1,a2,e3⟩ := ha
 have e3' : r = [] := e3
 obtain ⟨p,c,hv,_⟩ := VR_lst (show VR φ (Own φ H) w (.lst 0 [] (some [])) a from ⟨a1,a2⟩)
 have hvs : vs = #[.slice p 0 c] := by
  cases vs
  simp only at e1
  rw [e1,hv,e3']
  rfl
 have hv' : a = .slice p 0 c := hv
 rw [hvs]
 refine (Any.slices_Compact_string_empty lays194 p c w).mono fun en w' ⟨he,hw⟩ => ?_
 subst hw
 refine ⟨φ,?_,hR,.refl _ _ _⟩
 rw [he]
 rw [hv'] at a1 a2
 exact ⟨a1,a2⟩
def srtL (xs : List ByteArray) : List ByteArray := ofL ((toL xs).mergeSort fun x y => decide (x ≤ y))
theorem srtL_length (xs : List ByteArray) : (srtL xs).length = xs.length := by rw [srtL,ofL_length,List.length_mergeSort,toL_length]
def uniqT (xs : List ByteArray) : List ByteArray := ofL (Lib.compact (toL (srtL xs)))
theorem uniqT_nil : uniqT [] = [] := by decide +kernel
theorem strs_gzT {H1 : AHeap} {n0 : Nat} {src : List Nat} : ∀ {l : List ByteArray},GzL H1 n0 src (strs l) (strs l)
 | [] => .nil
 | _ :: _ => .cons (.same trivial) strs_gzT
set_option maxHeartbeats 0 in
theorem names_d (l : List Nd) (ro : Option (List AV)) (hz : Nd.wtL l ≤ 2000000) (hs : Nd.sizeL l ≤ 2000000) (H : AHeap) : D Tryd.prog 10 [.lst 4 (ndL l) ro] H (.ret (.lst 1 (strs (uniqT (nmsL l))) none)) H := by
 have hE := eachNm_all l
 have hnl := nmsL_len l
 refine D_of_DK (Nat.le_refl _) (dk10 (E_of_ES ?_))
 simp only [ic10,ux]
 refine ES_seq_gen fun L hL => ?_
 simp -implicitDefEqProofs (maxSteps := 99999999) (disch := first | omega | (simp only [AHeap.set_length,killO_length,List.length_cons,List.length_nil]; first | done | omega)) only [vu,va,vg,vs,vw,Nat.reduceMul,ite_true,ite_false,eq_self,forall_const,implies_true,Nat.reduceAdd,Nat.reduceSub,Nat.reduceLT,Nat.reduceLeDiff,↓reduceIte,reduceCtorEq,Int.reduceEq,Int.reduceLT,Int.reduceLE,Int.reduceGT,Int.reduceGE,Int.reduceAdd,Int.reduceSub,Int.reduceNeg,Int.reduceToNat,Nat.reduceBEq,Nat.reduceEqDiff]
 refine hL _ _ ?_
 clear hL
 refine ES_seq_gen fun L hL => ?_
 simp -implicitDefEqProofs (maxSteps := 99999999) (disch := first | omega | (simp only [AHeap.set_length,killO_length,List.length_cons,List.length_nil]; first | done | omega)) only [vu,va,vg,vs,vw,Nat.reduceMul,ite_true,ite_false,eq_self,forall_const,implies_true,Nat.reduceAdd,Nat.reduceSub,Nat.reduceLT,Nat.reduceLeDiff,↓reduceIte,reduceCtorEq,Int.reduceEq,Int.reduceLT,Int.reduceLE,Int.reduceGT,Int.reduceGE,Int.reduceAdd,Int.reduceSub,Int.reduceNeg,Int.reduceToNat,Nat.reduceBEq,Nat.reduceEqDiff]
 refine hL _ _ ?_
 clear hL
 refine ES_seq_gen fun L hL => ?_
 simp -implicitDefEqProofs (maxSteps := 99999999) (disch := first | omega | (simp only [AHeap.set_length,killO_length,List.length_cons,List.length_nil]; first | done | omega)) only [vu,va,vg,vs,vw,Nat.reduceMul,ite_true,ite_false,eq_self,forall_const,implies_true,Nat.reduceAdd,Nat.reduceSub,Nat.reduceLT,Nat.reduceLeDiff,↓reduceIte,reduceCtorEq,Int.reduceEq,Int.reduceLT,Int.reduceLE,Int.reduceGT,Int.reduceGE,Int.reduceAdd,Int.reduceSub,Int.reduceNeg,Int.reduceToNat,Nat.reduceBEq,Nat.reduceEqDiff]
 have hw0 : OutW (some ⟨1,[.lst 0 [] (some [])],true,29⟩ :: H) H.length [] 0 := ⟨find_top rfl,fun e => (e rfl).elim⟩
 refine callR_rel (hE ro [] H.length 0 _ (by simp; omega) hz hw0) ?_
 rintro v G hGl ⟨rfl,io,hQ⟩
 rw [List.nil_append] at hQ
 have hbx := hQ.out.box
 simp -implicitDefEqProofs (maxSteps := 99999999) (disch := first | omega | (simp only [AHeap.set_length,killO_length,List.length_cons,List.length_nil]; first | done | omega)) only [vu,va,vg,vs,vw,Nat.reduceMul,ite_true,ite_false,eq_self,forall_const,implies_true,Nat.reduceAdd,Nat.reduceSub,Nat.reduceLT,Nat.reduceLeDiff,↓reduceIte,reduceCtorEq,Int.reduceEq,Int.reduceLT,Int.reduceLE,Int.reduceGT,Int.reduceGE,Int.reduceAdd,Int.reduceSub,Int.reduceNeg,Int.reduceToNat,Nat.reduceBEq,Nat.reduceEqDiff]
 refine hL _ _ ?_
 clear hL
 refine ES_seq_gen fun L hL => ?_
 simp -implicitDefEqProofs (maxSteps := 99999999) (disch := first | omega | (simp only [AHeap.set_length,killO_length,List.length_cons,List.length_nil]; first | done | omega)) only [vu,hbx,va,vg,vs,vw,Nat.reduceMul,ite_true,ite_false,eq_self,forall_const,implies_true,Nat.reduceAdd,Nat.reduceSub,Nat.reduceLT,Nat.reduceLeDiff,↓reduceIte,reduceCtorEq,Int.reduceEq,Int.reduceLT,Int.reduceLE,Int.reduceGT,Int.reduceGE,Int.reduceAdd,Int.reduceSub,Int.reduceNeg,Int.reduceToNat,Nat.reduceBEq,Nat.reduceEqDiff]
 refine callR_ret (sort_o (nmsL l) (by omega) io _ (fun e => (hQ.out.own e).1)) ?_
 simp -implicitDefEqProofs (maxSteps := 99999999) (disch := first | omega | (simp only [AHeap.set_length,killO_length,List.length_cons,List.length_nil]; first | done | omega)) only [vu,va,vg,vs,vw,Nat.reduceMul,ite_true,ite_false,eq_self,forall_const,implies_true,Nat.reduceAdd,Nat.reduceSub,Nat.reduceLT,Nat.reduceLeDiff,↓reduceIte,reduceCtorEq,Int.reduceEq,Int.reduceLT,Int.reduceLE,Int.reduceGT,Int.reduceGE,Int.reduceAdd,Int.reduceSub,Int.reduceNeg,Int.reduceToNat,Nat.reduceBEq,Nat.reduceEqDiff]
 by_cases e : nmsL l = []
 ·rw [if_pos e]
  rw [e] at hbx ⊢
  have hbx' : AHeap.find G H.length = some ⟨1,[.lst 0 [] (some [])],true,29⟩ := hbx
  refine hL _ _ ?_
  clear hL
  simp -implicitDefEqProofs (maxSteps := 99999999) (disch := first | omega | (simp only [AHeap.set_length,killO_length,List.length_cons,List.length_nil]; first | done | omega)) only [vu,hbx',va,vg,vs,vw,Nat.reduceMul,ite_true,ite_false,eq_self,forall_const,implies_true,Nat.reduceAdd,Nat.reduceSub,Nat.reduceLT,Nat.reduceLeDiff,↓reduceIte,reduceCtorEq,Int.reduceEq,Int.reduceLT,Int.reduceLE,Int.reduceGT,Int.reduceGE,Int.reduceAdd,Int.reduceSub,Int.reduceNeg,Int.reduceToNat,Nat.reduceBEq,Nat.reduceEqDiff]
  refine callR_ret (compact_n _) ?_
  simp -implicitDefEqProofs (maxSteps := 99999999) (disch := first | omega | (simp only [AHeap.set_length,killO_length,List.length_cons,List.length_nil]; first | done | omega)) only [vu,va,vg,vs,vw,Nat.reduceMul,ite_true,ite_false,eq_self,forall_const,implies_true,Nat.reduceAdd,Nat.reduceSub,Nat.reduceLT,Nat.reduceLeDiff,↓reduceIte,reduceCtorEq,Int.reduceEq,Int.reduceLT,Int.reduceLE,Int.reduceGT,Int.reduceGE,Int.reduceAdd,Int.reduceSub,Int.reduceNeg,Int.reduceToNat,Nat.reduceBEq,Nat.reduceEqDiff]
  rw [e,uniqT_nil]
  refine weak_frz (fun i hi => ?_) .nil
  rw [hQ.old i (by simp; omega) (by omega) (fun h => (h rfl).elim),find_past hi]
 ·rw [if_neg e]
  obtain ⟨o1,o2⟩ := hQ.out.own e
  have o3 : H.length + 1 ≤ io := by
   rcases hQ.at_ e with ⟨h,_⟩ | h
   ·exact (h rfl).elim
   ·simpa using h
  rw [OwnB_ne (strs_ne e)] at o1
  have o4 := AHeap.find_lt o1
  have hbx' : AHeap.find (AHeap.set G io (some ⟨1,strs (srtL (nmsL l)),false,9⟩)) H.length = some ⟨1,[.vec 1 io 0 (srtL (nmsL l)).length none],true,29⟩ := by
   rw [AHeap.find_set_ne (fun h => o2 h.symm),hbx,OwnV_ne (strs_ne e),strs_length,srtL_length]
  have hfs : AHeap.find (AHeap.set G io (some ⟨1,strs (srtL (nmsL l)),false,9⟩)) io = some ⟨1,strs (srtL (nmsL l)),false,9⟩ := AHeap.find_set_same o4
  have hne : srtL (nmsL l) ≠ [] := fun h => e (by have := srtL_length (nmsL l); rw [h] at this; exact List.length_eq_zero_iff.1 (by simpa using this.symm))
  rw [show ofL ((toL (nmsL l)).mergeSort fun x y => decide (x ≤ y)) = srtL (nmsL l) from rfl]
  have hco := compact_o (srtL (nmsL l)) hne (by rw [srtL_length]; omega) io _ hfs
  have hul : uniqT (nmsL l) = ofL (Lib.compact (toL (srtL (nmsL l)))) := rfl
  rw [hul] at hL
  generalize srtL (nmsL l) = S at *
  refine hL _ _ ?_
  clear hL
  simp -implicitDefEqProofs (maxSteps := 99999999) (disch := first | omega | (simp only [AHeap.set_length,killO_length,List.length_cons,List.length_nil]; first | done | omega)) only [vu,hbx',va,vg,vs,vw,Nat.reduceMul,ite_true,ite_false,eq_self,forall_const,implies_true,Nat.reduceAdd,Nat.reduceSub,Nat.reduceLT,Nat.reduceLeDiff,↓reduceIte,reduceCtorEq,Int.reduceEq,Int.reduceLT,Int.reduceLE,Int.reduceGT,Int.reduceGE,Int.reduceAdd,Int.reduceSub,Int.reduceNeg,Int.reduceToNat,Nat.reduceBEq,Nat.reduceEqDiff]
  refine callR_ret hco ?_
  simp -implicitDefEqProofs (maxSteps := 99999999) (disch := first | omega | (simp only [AHeap.set_length,killO_length,List.length_cons,List.length_nil]; first | done | omega)) only [vu,va,vg,vs,vw,Nat.reduceMul,ite_true,ite_false,eq_self,forall_const,implies_true,Nat.reduceAdd,Nat.reduceSub,Nat.reduceLT,Nat.reduceLeDiff,↓reduceIte,reduceCtorEq,Int.reduceEq,Int.reduceLT,Int.reduceLE,Int.reduceGT,Int.reduceGE,Int.reduceAdd,Int.reduceSub,Int.reduceNeg,Int.reduceToNat,Nat.reduceBEq,Nat.reduceEqDiff]
  rw [set_set]
  have hcl := compact_le (toL S)
  refine weak_frz (fun i hi => ?_) ?_
  ·rw [AHeap.find_set_ne (by omega),hQ.old i (by simp; omega) (by omega) (fun h => (h rfl).elim),find_past hi]
  ·refine .vec (by unfold newId; rw [if_neg (by omega)]; rfl) (AHeap.find_set_same o4) rfl (by rw [strs_length,ofL_length,cmpL_length _ hcl,Nat.zero_add]; exact hcl) ?_
   have ht : ((strs (ofL (cmpL (toL S)))).drop 0).take (Lib.compact (toL S)).length = strs (ofL (Lib.compact (toL S))) := by
    simp [strs,ofL,cmpL,List.map_append,List.take_append]
   rw [ht]
   exact strs_gzT
end Go.Proofs.YtfnahogjkgcklaaDoor
