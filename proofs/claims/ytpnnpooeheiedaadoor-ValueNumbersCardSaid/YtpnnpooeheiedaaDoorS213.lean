/- Texts of values: the document's. -/
import Derived.Test.YtpnnpooeheiedaaDoorS212
namespace Go.Proofs.YtpnnpooeheiedaaDoor
open Go.RowKit
set_option maxRecDepth 100000
set_option linter.unusedVariables false
set_option linter.unusedSimpArgs false
theorem bs_app_nil (a : ByteArray) : a ++ jn [] = a := bs_ext (by simp [jn_nil,ByteArray.data_append])
theorem jn_takeS {l : List ByteArray} (x a : ByteArray) (h : l ≠ []) : a ++ jn l ++ ⟨#[32]⟩ ++ x = a ++ jn (l ++ [x]) := by
 rw [jn_snoc x h,ByteArray.append_assoc,ByteArray.append_assoc,ByteArray.append_assoc]
theorem txR_snoc {l : List Int} {k : Nat} (h : k < l.length) : txR (l.take (k + 1)) = txR (l.take k) ++ [txI (nthQ l k)] := by
 rw [take_snoc h,nthQ_eq h]
 unfold txR
 rw [List.map_append]
 rfl
theorem txs_snoc {l : List Vl} {k : Nat} (h : k < l.length) : txs (l.take (k + 1)) = txs (l.take k) ++ [oneT (nthV l k)] := by
 rw [take_snoc h,nthV_eq h]
 unfold txs
 rw [List.map_append]
 rfl
theorem szL_take (l : List ByteArray) (k : Nat) : szL (l.take k) ≤ szL l := by
 have h := szL_append (l.take k) (l.drop k)
 rw [List.take_append_drop] at h
 omega
theorem jn_take_size {l : List ByteArray} {k : Nat} : (jn (l.take k)).size ≤ szL l := Nat.le_trans (jn_size _) (szL_take l k)
theorem txR_takeE (l : List Int) (k : Nat) : txR (l.take k) = (txR l).take k := by simp [txR]
theorem txs_takeE (l : List Vl) (k : Nat) : txs (l.take k) = (txs l).take k := by simp [txs]
set_option maxHeartbeats 4000000 in
theorem rtext_d (v : Vl) (ro : Option (List AV)) (hv : v.good) (H : AHeap) : D Tryd.prog 33 [vlA v ro] H (.ret (.sc (.string (oneT v)))) H := by
 refine D_of_DK (Nat.le_refl _) (dk33 (E_of_ES ?_))
 have hR := refRight_d v ro
 rw [vlA_eq] at hR
 simp only [ic33,ux]
 refine ES_seq_gen fun L hL => ?_
 simp -implicitDefEqProofs (maxSteps := 99999999) (disch := first | omega | (simp only [AHeap.set_length,killO_length,List.length_cons,List.length_nil]; first | done | omega)) only [vu,vlA_eq,va,vg,vs,vw,Nat.reduceMul,ite_true,ite_false,eq_self,forall_const,implies_true,Nat.reduceAdd,Nat.reduceSub,Nat.reduceLT,Nat.reduceLeDiff,↓reduceIte,reduceCtorEq,Int.reduceEq,Int.reduceLT,Int.reduceLE,Int.reduceGT,Int.reduceGE,Int.reduceAdd,Int.reduceSub,Int.reduceNeg,Int.reduceToNat,Nat.reduceBEq,Nat.reduceEqDiff]
 refine hL _ _ ?_
 clear hL
 refine ES_seq_gen fun L hL => ?_
 simp -implicitDefEqProofs (maxSteps := 99999999) (disch := first | omega | (simp only [AHeap.set_length,killO_length,List.length_cons,List.length_nil]; first | done | omega)) only [vu,va,vg,vs,vw,Nat.reduceMul,ite_true,ite_false,eq_self,forall_const,implies_true,Nat.reduceAdd,Nat.reduceSub,Nat.reduceLT,Nat.reduceLeDiff,↓reduceIte,reduceCtorEq,Int.reduceEq,Int.reduceLT,Int.reduceLE,Int.reduceGT,Int.reduceGE,Int.reduceAdd,Int.reduceSub,Int.reduceNeg,Int.reduceToNat,Nat.reduceBEq,Nat.reduceEqDiff]
 refine callR_ret (hR _) ?_
 cases hr : rightV v
 case false =>
  simp -implicitDefEqProofs (maxSteps := 99999999) (disch := first | omega | (simp only [AHeap.set_length,killO_length,List.length_cons,List.length_nil]; first | done | omega)) only [vu,va,vg,vs,vw,Nat.reduceMul,ite_true,ite_false,eq_self,forall_const,implies_true,Nat.reduceAdd,Nat.reduceSub,Nat.reduceLT,Nat.reduceLeDiff,↓reduceIte,reduceCtorEq,Int.reduceEq,Int.reduceLT,Int.reduceLE,Int.reduceGT,Int.reduceGE,Int.reduceAdd,Int.reduceSub,Int.reduceNeg,Int.reduceToNat,Nat.reduceBEq,Nat.reduceEqDiff]
  exact over_s (.cons .refl) (by simp [oneT,hr])
 simp -implicitDefEqProofs (maxSteps := 99999999) (disch := first | omega | (simp only [AHeap.set_length,killO_length,List.length_cons,List.length_nil]; first | done | omega)) only [vu,va,vg,vs,vw,Nat.reduceMul,ite_true,ite_false,eq_self,forall_const,implies_true,Nat.reduceAdd,Nat.reduceSub,Nat.reduceLT,Nat.reduceLeDiff,↓reduceIte,reduceCtorEq,Int.reduceEq,Int.reduceLT,Int.reduceLE,Int.reduceGT,Int.reduceGE,Int.reduceAdd,Int.reduceSub,Int.reduceNeg,Int.reduceToNat,Nat.reduceBEq,Nat.reduceEqDiff]
 by_cases c2 : v.kind = 2
 ·by_cases c3 : v.num = 1
  ·simp -implicitDefEqProofs (maxSteps := 99999999) (disch := first | omega | (simp only [AHeap.set_length,killO_length,List.length_cons,List.length_nil]; first | done | omega)) only [vu,c2,c3,va,vg,vs,vw,Nat.reduceMul,ite_true,ite_false,eq_self,forall_const,implies_true,Nat.reduceAdd,Nat.reduceSub,Nat.reduceLT,Nat.reduceLeDiff,↓reduceIte,reduceCtorEq,Int.reduceEq,Int.reduceLT,Int.reduceLE,Int.reduceGT,Int.reduceGE,Int.reduceAdd,Int.reduceSub,Int.reduceNeg,Int.reduceToNat,Nat.reduceBEq,Nat.reduceEqDiff]
   exact over_s (.cons .refl) (by simp only [oneT,hr,c2,c3]; rfl)
  ·simp -implicitDefEqProofs (maxSteps := 99999999) (disch := first | omega | (simp only [AHeap.set_length,killO_length,List.length_cons,List.length_nil]; first | done | omega)) only [vu,c2,c3,va,vg,vs,vw,Nat.reduceMul,ite_true,ite_false,eq_self,forall_const,implies_true,Nat.reduceAdd,Nat.reduceSub,Nat.reduceLT,Nat.reduceLeDiff,↓reduceIte,reduceCtorEq,Int.reduceEq,Int.reduceLT,Int.reduceLE,Int.reduceGT,Int.reduceGE,Int.reduceAdd,Int.reduceSub,Int.reduceNeg,Int.reduceToNat,Nat.reduceBEq,Nat.reduceEqDiff]
   exact over_s (.cons .refl) (by simp only [oneT,hr,c2,c3]; rfl)
 by_cases c1 : v.kind = 1
 ·simp -implicitDefEqProofs (maxSteps := 99999999) (disch := first | omega | (simp only [AHeap.set_length,killO_length,List.length_cons,List.length_nil]; first | done | omega)) only [vu,c1,va,vg,vs,vw,Nat.reduceMul,ite_true,ite_false,eq_self,forall_const,implies_true,Nat.reduceAdd,Nat.reduceSub,Nat.reduceLT,Nat.reduceLeDiff,↓reduceIte,reduceCtorEq,Int.reduceEq,Int.reduceLT,Int.reduceLE,Int.reduceGT,Int.reduceGE,Int.reduceAdd,Int.reduceSub,Int.reduceNeg,Int.reduceToNat,Nat.reduceBEq,Nat.reduceEqDiff]
  refine callR_ret (fmtI_d v.num hv.1 _) ?_
  simp -implicitDefEqProofs (maxSteps := 99999999) (disch := first | omega | (simp only [AHeap.set_length,killO_length,List.length_cons,List.length_nil]; first | done | omega)) only [vu,va,vg,vs,vw,Nat.reduceMul,ite_true,ite_false,eq_self,forall_const,implies_true,Nat.reduceAdd,Nat.reduceSub,Nat.reduceLT,Nat.reduceLeDiff,↓reduceIte,reduceCtorEq,Int.reduceEq,Int.reduceLT,Int.reduceLE,Int.reduceGT,Int.reduceGE,Int.reduceAdd,Int.reduceSub,Int.reduceNeg,Int.reduceToNat,Nat.reduceBEq,Nat.reduceEqDiff]
  exact over_s (.cons .refl) (by simp only [oneT,hr,c1]; rfl)
 simp -implicitDefEqProofs (maxSteps := 99999999) (disch := first | omega | (simp only [AHeap.set_length,killO_length,List.length_cons,List.length_nil]; first | done | omega)) only [vu,c1,c2,va,vg,vs,vw,Nat.reduceMul,ite_true,ite_false,eq_self,forall_const,implies_true,Nat.reduceAdd,Nat.reduceSub,Nat.reduceLT,Nat.reduceLeDiff,↓reduceIte,reduceCtorEq,Int.reduceEq,Int.reduceLT,Int.reduceLE,Int.reduceGT,Int.reduceGE,Int.reduceAdd,Int.reduceSub,Int.reduceNeg,Int.reduceToNat,Nat.reduceBEq,Nat.reduceEqDiff]
 have hlen := right_row hr
 have hone : oneT v = ⟨#[91]⟩ ++ jn (txR v.row) ++ ⟨#[93]⟩ := by simp [oneT,hr,c1,c2]
 have hz := szL_txR hv.2.2
 have hsz : ∀ k,(⟨#[91]⟩ ++ jn (txR (v.row.take k)) : ByteArray).size ≤ 1 + 22 * v.row.length := fun k => by
  rw [ByteArray.size_append,txR_takeE]
  have := jn_take_size (l := txR v.row) (k := k)
  show 1 + _ ≤ _
  omega
 refine hL _ _ ?_
 clear hL
 refine ES_seq_gen fun L hL => ?_
 simp -implicitDefEqProofs (maxSteps := 99999999) (disch := first | omega | (simp only [AHeap.set_length,killO_length,List.length_cons,List.length_nil]; first | done | omega)) only [vu,va,vg,vs,vw,Nat.reduceMul,ite_true,ite_false,eq_self,forall_const,implies_true,Nat.reduceAdd,Nat.reduceSub,Nat.reduceLT,Nat.reduceLeDiff,↓reduceIte,reduceCtorEq,Int.reduceEq,Int.reduceLT,Int.reduceLE,Int.reduceGT,Int.reduceGE,Int.reduceAdd,Int.reduceSub,Int.reduceNeg,Int.reduceToNat,Nat.reduceBEq,Nat.reduceEqDiff]
 refine hL _ _ ?_
 clear hL
 refine ES_seq_gen fun L hL => ?_
 simp -implicitDefEqProofs (maxSteps := 99999999) (disch := first | omega | (simp only [AHeap.set_length,killO_length,List.length_cons,List.length_nil]; first | done | omega)) only [vu,va,vg,vs,vw,Nat.reduceMul,ite_true,ite_false,eq_self,forall_const,implies_true,Nat.reduceAdd,Nat.reduceSub,Nat.reduceLT,Nat.reduceLeDiff,↓reduceIte,reduceCtorEq,Int.reduceEq,Int.reduceLT,Int.reduceLE,Int.reduceGT,Int.reduceGE,Int.reduceAdd,Int.reduceSub,Int.reduceNeg,Int.reduceToNat,Nat.reduceBEq,Nat.reduceEqDiff]
 refine ES_loopL (fun ts F => ∃ k : Nat,k ≤ v.row.length ∧ F = some ⟨3,[AV.agg [.sc (.int .u8 v.kind),.sc (.int .i64 v.num),.lst 1 (lng v.row) ro]],true,25⟩ :: H ∧ Fr [none,some (.ptr 3 H.length 0 0),none,some (.sc (.string (⟨#[91]⟩ ++ jn (txR (v.row.take k))))),some (.sc (.int .i64 k)),none,none,none,none,none,none,none,none,none,none,none,none,none,none,none,none,none,none,none,none,none,none,none,none,none,none,none,none,none,none,none,none,none,none,none,none,none,none,none] ts) (fun ts _ => v.row.length - (intV (ts.getD 4 .top)).toNat) ?_ ?_
 ·exact ⟨0,Nat.zero_le _,rfl,by simp [Fr,txR,bs_app_nil]⟩
 ·rintro ts F ⟨k,hk,rfl,hfr⟩ L2 hL2
  obtain ⟨js,rfl⟩ := hfr.opened
  clear hfr
  have hsk := hsz k
  by_cases h1 : k < v.row.length
  ·have h1' : (k : Int) < v.row.length := by omega
   have hgn := good_nth hv h1
   have hti := txI_size hgn
   by_cases c0 : k = 0
   ·have hp : ¬ (k : Int) > 0 := by omega
    have f1 : fits ((⟨#[91]⟩ ++ jn (txR (v.row.take k)) : ByteArray).size + (txI (nthQ v.row k)).size) = true := fits_le (by omega)
    have e : (⟨#[91]⟩ ++ jn (txR (v.row.take k)) ++ txI (nthQ v.row k) : ByteArray) = ⟨#[91]⟩ ++ jn (txR (v.row.take (k + 1))) := by
     rw [txR_snoc h1]
     subst c0
     rw [List.take_zero,show txR [] = [] from rfl,List.nil_append,jn_one,bs_app_nil]
    simp -implicitDefEqProofs (maxSteps := 99999999) (disch := first | omega | (simp only [AHeap.set_length,killO_length,List.length_cons,List.length_nil]; first | done | omega)) only [vu,mk,h1',hp,lng_length,lng_getN h1,va,vg,vs,vw,Nat.reduceMul,ite_true,ite_false,eq_self,forall_const,implies_true,Nat.reduceAdd,Nat.reduceSub,Nat.reduceLT,Nat.reduceLeDiff,↓reduceIte,reduceCtorEq,Int.reduceEq,Int.reduceLT,Int.reduceLE,Int.reduceGT,Int.reduceGE,Int.reduceAdd,Int.reduceSub,Int.reduceNeg,Int.reduceToNat,Nat.reduceBEq,Nat.reduceEqDiff]
    refine ⟨by omega,callR_ret (fmtI_d _ hgn _) ?_⟩
    rw [show (⟨(Lib.itoa (nthQ v.row k)).toArray⟩ : ByteArray) = txI (nthQ v.row k) from rfl]
    simp -implicitDefEqProofs (maxSteps := 99999999) (disch := first | omega | (simp only [AHeap.set_length,killO_length,List.length_cons,List.length_nil]; first | done | omega)) only [vu,f1,e,va,vg,vs,vw,Nat.reduceMul,ite_true,ite_false,eq_self,forall_const,implies_true,Nat.reduceAdd,Nat.reduceSub,Nat.reduceLT,Nat.reduceLeDiff,↓reduceIte,reduceCtorEq,Int.reduceEq,Int.reduceLT,Int.reduceLE,Int.reduceGT,Int.reduceGE,Int.reduceAdd,Int.reduceSub,Int.reduceNeg,Int.reduceToNat,Nat.reduceBEq,Nat.reduceEqDiff]
    exact hL2 _ _ ⟨k + 1,by omega,rfl,by simp [Fr]⟩ (by simp [mk,intV]; omega)
   ·have hne : txR (v.row.take k) ≠ [] := fun e => by
     have := congrArg List.length e
     simp only [txR_length,List.length_take,List.length_nil] at this
     omega
    have hp : (k : Int) > 0 := by omega
    have f1 : fits ((⟨#[91]⟩ ++ jn (txR (v.row.take k)) : ByteArray).size + (⟨#[32]⟩ : ByteArray).size) = true := fits_le (by show _ + 1 ≤ _; omega)
    have f2 : fits ((⟨#[91]⟩ ++ jn (txR (v.row.take k)) ++ ⟨#[32]⟩ : ByteArray).size + (txI (nthQ v.row k)).size) = true := fits_le (by rw [ByteArray.size_append]; show _ + 1 + _ ≤ _; omega)
    simp -implicitDefEqProofs (maxSteps := 99999999) (disch := first | omega | (simp only [AHeap.set_length,killO_length,List.length_cons,List.length_nil]; first | done | omega)) only [vu,mk,h1',hp,f1,lng_length,lng_getN h1,va,vg,vs,vw,Nat.reduceMul,ite_true,ite_false,eq_self,forall_const,implies_true,Nat.reduceAdd,Nat.reduceSub,Nat.reduceLT,Nat.reduceLeDiff,↓reduceIte,reduceCtorEq,Int.reduceEq,Int.reduceLT,Int.reduceLE,Int.reduceGT,Int.reduceGE,Int.reduceAdd,Int.reduceSub,Int.reduceNeg,Int.reduceToNat,Nat.reduceBEq,Nat.reduceEqDiff]
    refine ⟨by omega,callR_ret (fmtI_d _ hgn _) ?_⟩
    rw [show (⟨(Lib.itoa (nthQ v.row k)).toArray⟩ : ByteArray) = txI (nthQ v.row k) from rfl]
    simp -implicitDefEqProofs (maxSteps := 99999999) (disch := first | omega | (simp only [AHeap.set_length,killO_length,List.length_cons,List.length_nil]; first | done | omega)) only [vu,f2,va,vg,vs,vw,Nat.reduceMul,ite_true,ite_false,eq_self,forall_const,implies_true,Nat.reduceAdd,Nat.reduceSub,Nat.reduceLT,Nat.reduceLeDiff,↓reduceIte,reduceCtorEq,Int.reduceEq,Int.reduceLT,Int.reduceLE,Int.reduceGT,Int.reduceGE,Int.reduceAdd,Int.reduceSub,Int.reduceNeg,Int.reduceToNat,Nat.reduceBEq,Nat.reduceEqDiff]
    refine hL2 _ _ ⟨k + 1,by omega,rfl,?_⟩ (by simp [mk,intV]; omega)
    rw [txR_snoc h1,← jn_takeS _ _ hne]
    simp [Fr]
  ·have h1' : ¬ (k : Int) < v.row.length := by omega
   have hkl : k = v.row.length := by omega
   subst hkl
   rw [List.take_length] at *
   have f1 : fits ((⟨#[91]⟩ ++ jn (txR v.row) : ByteArray).size + (⟨#[93]⟩ : ByteArray).size) = true := fits_le (by show _ + 1 ≤ _; omega)
   simp -implicitDefEqProofs (maxSteps := 99999999) (disch := first | omega | (simp only [AHeap.set_length,killO_length,List.length_cons,List.length_nil]; first | done | omega)) only [vu,mk,h1',lng_length,va,vg,vs,vw,Nat.reduceMul,ite_true,ite_false,eq_self,forall_const,implies_true,Nat.reduceAdd,Nat.reduceSub,Nat.reduceLT,Nat.reduceLeDiff,↓reduceIte,reduceCtorEq,Int.reduceEq,Int.reduceLT,Int.reduceLE,Int.reduceGT,Int.reduceGE,Int.reduceAdd,Int.reduceSub,Int.reduceNeg,Int.reduceToNat,Nat.reduceBEq,Nat.reduceEqDiff]
   refine hL _ _ ?_
   clear hL
   simp -implicitDefEqProofs (maxSteps := 99999999) (disch := first | omega | (simp only [AHeap.set_length,killO_length,List.length_cons,List.length_nil]; first | done | omega)) only [vu,f1,va,vg,vs,vw,Nat.reduceMul,ite_true,ite_false,eq_self,forall_const,implies_true,Nat.reduceAdd,Nat.reduceSub,Nat.reduceLT,Nat.reduceLeDiff,↓reduceIte,reduceCtorEq,Int.reduceEq,Int.reduceLT,Int.reduceLE,Int.reduceGT,Int.reduceGE,Int.reduceAdd,Int.reduceSub,Int.reduceNeg,Int.reduceToNat,Nat.reduceBEq,Nat.reduceEqDiff]
   exact over_s (.cons .refl) hone.symm
set_option maxHeartbeats 4000000 in
theorem rText_d (l : List Vl) (ro : Option (List AV)) (hv : ∀ v ∈ l,v.good) (hs : szV l ≤ 1000000) (H : AHeap) : D Tryd.prog 16 [.lst 3 (vrow l) ro] H (.ret (.sc (.string (textL l)))) H := by
 refine D_of_DK (Nat.le_refl _) (dk16 (E_of_ES ?_))
 have hln := (szV_mem (l := l)).1
 have hz := szL_txs hv
 have hsz : ∀ k,(jn (txs (l.take k)) : ByteArray).size ≤ 31000000 := fun k => by
  rw [txs_takeE]
  have := jn_take_size (l := txs l) (k := k)
  omega
 simp only [ic16,ux]
 refine ES_seq_gen fun L hL => ?_
 simp -implicitDefEqProofs (maxSteps := 99999999) (disch := first | omega | (simp only [AHeap.set_length,killO_length,List.length_cons,List.length_nil]; first | done | omega)) only [vu,va,vg,vs,vw,Nat.reduceMul,ite_true,ite_false,eq_self,forall_const,implies_true,Nat.reduceAdd,Nat.reduceSub,Nat.reduceLT,Nat.reduceLeDiff,↓reduceIte,reduceCtorEq,Int.reduceEq,Int.reduceLT,Int.reduceLE,Int.reduceGT,Int.reduceGE,Int.reduceAdd,Int.reduceSub,Int.reduceNeg,Int.reduceToNat,Nat.reduceBEq,Nat.reduceEqDiff]
 refine hL _ _ ?_
 clear hL
 refine ES_seq_gen fun L hL => ?_
 simp -implicitDefEqProofs (maxSteps := 99999999) (disch := first | omega | (simp only [AHeap.set_length,killO_length,List.length_cons,List.length_nil]; first | done | omega)) only [vu,va,vg,vs,vw,Nat.reduceMul,ite_true,ite_false,eq_self,forall_const,implies_true,Nat.reduceAdd,Nat.reduceSub,Nat.reduceLT,Nat.reduceLeDiff,↓reduceIte,reduceCtorEq,Int.reduceEq,Int.reduceLT,Int.reduceLE,Int.reduceGT,Int.reduceGE,Int.reduceAdd,Int.reduceSub,Int.reduceNeg,Int.reduceToNat,Nat.reduceBEq,Nat.reduceEqDiff]
 refine hL _ _ ?_
 clear hL
 refine ES_seq_gen fun L hL => ?_
 simp -implicitDefEqProofs (maxSteps := 99999999) (disch := first | omega | (simp only [AHeap.set_length,killO_length,List.length_cons,List.length_nil]; first | done | omega)) only [vu,va,vg,vs,vw,Nat.reduceMul,ite_true,ite_false,eq_self,forall_const,implies_true,Nat.reduceAdd,Nat.reduceSub,Nat.reduceLT,Nat.reduceLeDiff,↓reduceIte,reduceCtorEq,Int.reduceEq,Int.reduceLT,Int.reduceLE,Int.reduceGT,Int.reduceGE,Int.reduceAdd,Int.reduceSub,Int.reduceNeg,Int.reduceToNat,Nat.reduceBEq,Nat.reduceEqDiff]
 refine ES_loopL (fun ts F => ∃ k : Nat,k ≤ l.length ∧ F = H ∧ Fr [some (.lst 3 (vrow l) ro),none,none,some (.sc (.string (jn (txs (l.take k))))),some (.sc (.int .i64 k)),none,none,none,none,none,none,none,none,none,none,none,none,none,none,none,none,none,none] ts) (fun ts _ => l.length - (intV (ts.getD 4 .top)).toNat) ?_ ?_
 ·exact ⟨0,Nat.zero_le _,rfl,by simp [Fr,txs,jn_nil]⟩
 ·rintro ts F ⟨k,hk,rfl,hfr⟩ L2 hL2
  obtain ⟨js,rfl⟩ := hfr.opened
  clear hfr
  have hsk := hsz k
  by_cases h1 : k < l.length
  ·have h1' : (k : Int) < l.length := by omega
   have hgn := hv _ (nthV_mem h1)
   have hti : (oneT (nthV l k)).size + 1 ≤ szL (txs l) := szL_mem (by unfold txs; exact List.mem_map_of_mem (nthV_mem h1))
   have hg := rtext_d (nthV l k) none hgn
   rw [vlA_eq] at hg
   by_cases c0 : k = 0
   ·have hp : ¬ (k : Int) > 0 := by omega
    have f1 : fits ((jn (txs (l.take k)) : ByteArray).size + (oneT (nthV l k)).size) = true := fits_le (by omega)
    have e : (jn (txs (l.take k)) ++ oneT (nthV l k) : ByteArray) = jn (txs (l.take (k + 1))) := by
     rw [txs_snoc h1]
     subst c0
     rw [List.take_zero,show txs [] = [] from rfl,List.nil_append,jn_one]
     exact bs_ext (by simp [jn_nil,ByteArray.data_append])
    simp -implicitDefEqProofs (maxSteps := 99999999) (disch := first | omega | (simp only [AHeap.set_length,killO_length,List.length_cons,List.length_nil]; first | done | omega)) only [vu,mk,h1',hp,vrow_length,vrow_get h1,va,vg,vs,vw,Nat.reduceMul,ite_true,ite_false,eq_self,forall_const,implies_true,Nat.reduceAdd,Nat.reduceSub,Nat.reduceLT,Nat.reduceLeDiff,↓reduceIte,reduceCtorEq,Int.reduceEq,Int.reduceLT,Int.reduceLE,Int.reduceGT,Int.reduceGE,Int.reduceAdd,Int.reduceSub,Int.reduceNeg,Int.reduceToNat,Nat.reduceBEq,Nat.reduceEqDiff]
    refine ⟨by omega,callR_ret (hg _) ?_⟩
    simp -implicitDefEqProofs (maxSteps := 99999999) (disch := first | omega | (simp only [AHeap.set_length,killO_length,List.length_cons,List.length_nil]; first | done | omega)) only [vu,f1,e,va,vg,vs,vw,Nat.reduceMul,ite_true,ite_false,eq_self,forall_const,implies_true,Nat.reduceAdd,Nat.reduceSub,Nat.reduceLT,Nat.reduceLeDiff,↓reduceIte,reduceCtorEq,Int.reduceEq,Int.reduceLT,Int.reduceLE,Int.reduceGT,Int.reduceGE,Int.reduceAdd,Int.reduceSub,Int.reduceNeg,Int.reduceToNat,Nat.reduceBEq,Nat.reduceEqDiff]
    exact hL2 _ _ ⟨k + 1,by omega,rfl,by simp [Fr]⟩ (by simp [mk,intV]; omega)
   ·have hne : txs (l.take k) ≠ [] := fun e => by
     have := congrArg List.length e
     simp only [txs_length,List.length_take,List.length_nil] at this
     omega
    have hp : (k : Int) > 0 := by omega
    have f1 : fits ((jn (txs (l.take k)) : ByteArray).size + (⟨#[32]⟩ : ByteArray).size) = true := fits_le (by show _ + 1 ≤ _; omega)
    have f2 : fits ((jn (txs (l.take k)) ++ ⟨#[32]⟩ : ByteArray).size + (oneT (nthV l k)).size) = true := fits_le (by rw [ByteArray.size_append]; show _ + 1 + _ ≤ _; omega)
    simp -implicitDefEqProofs (maxSteps := 99999999) (disch := first | omega | (simp only [AHeap.set_length,killO_length,List.length_cons,List.length_nil]; first | done | omega)) only [vu,mk,h1',hp,f1,vrow_length,vrow_get h1,va,vg,vs,vw,Nat.reduceMul,ite_true,ite_false,eq_self,forall_const,implies_true,Nat.reduceAdd,Nat.reduceSub,Nat.reduceLT,Nat.reduceLeDiff,↓reduceIte,reduceCtorEq,Int.reduceEq,Int.reduceLT,Int.reduceLE,Int.reduceGT,Int.reduceGE,Int.reduceAdd,Int.reduceSub,Int.reduceNeg,Int.reduceToNat,Nat.reduceBEq,Nat.reduceEqDiff]
    refine ⟨by omega,callR_ret (hg _) ?_⟩
    simp -implicitDefEqProofs (maxSteps := 99999999) (disch := first | omega | (simp only [AHeap.set_length,killO_length,List.length_cons,List.length_nil]; first | done | omega)) only [vu,f2,va,vg,vs,vw,Nat.reduceMul,ite_true,ite_false,eq_self,forall_const,implies_true,Nat.reduceAdd,Nat.reduceSub,Nat.reduceLT,Nat.reduceLeDiff,↓reduceIte,reduceCtorEq,Int.reduceEq,Int.reduceLT,Int.reduceLE,Int.reduceGT,Int.reduceGE,Int.reduceAdd,Int.reduceSub,Int.reduceNeg,Int.reduceToNat,Nat.reduceBEq,Nat.reduceEqDiff]
    refine hL2 _ _ ⟨k + 1,by omega,rfl,?_⟩ (by simp [mk,intV]; omega)
    rw [txs_snoc h1,jn_snoc _ hne]
    simp [Fr]
  ·have h1' : ¬ (k : Int) < l.length := by omega
   have hkl : k = l.length := by omega
   subst hkl
   rw [List.take_length] at *
   simp -implicitDefEqProofs (maxSteps := 99999999) (disch := first | omega | (simp only [AHeap.set_length,killO_length,List.length_cons,List.length_nil]; first | done | omega)) only [vu,mk,h1',vrow_length,va,vg,vs,vw,Nat.reduceMul,ite_true,ite_false,eq_self,forall_const,implies_true,Nat.reduceAdd,Nat.reduceSub,Nat.reduceLT,Nat.reduceLeDiff,↓reduceIte,reduceCtorEq,Int.reduceEq,Int.reduceLT,Int.reduceLE,Int.reduceGT,Int.reduceGE,Int.reduceAdd,Int.reduceSub,Int.reduceNeg,Int.reduceToNat,Nat.reduceBEq,Nat.reduceEqDiff]
   refine hL _ _ ?_
   clear hL
   simp -implicitDefEqProofs (maxSteps := 99999999) (disch := first | omega | (simp only [AHeap.set_length,killO_length,List.length_cons,List.length_nil]; first | done | omega)) only [vu,va,vg,vs,vw,Nat.reduceMul,ite_true,ite_false,eq_self,forall_const,implies_true,Nat.reduceAdd,Nat.reduceSub,Nat.reduceLT,Nat.reduceLeDiff,↓reduceIte,reduceCtorEq,Int.reduceEq,Int.reduceLT,Int.reduceLE,Int.reduceGT,Int.reduceGE,Int.reduceAdd,Int.reduceSub,Int.reduceNeg,Int.reduceToNat,Nat.reduceBEq,Nat.reduceEqDiff]
   exact over_s .refl rfl
end Go.Proofs.YtpnnpooeheiedaaDoor
