/- Texts of values: the program's text of many. -/
import Derived.Test.YtpnnpooeheiedaaDoorS211
namespace Go.Proofs.YtpnnpooeheiedaaDoor
open Go.RowKit
set_option maxRecDepth 100000
set_option linter.unusedVariables false
set_option linter.unusedSimpArgs false
def vrow (l : List Vl) : List AV := l.map fun v => vlA v none
theorem vrow_length (l : List Vl) : (vrow l).length = l.length := by simp [vrow]
def nthV (l : List Vl) (k : Nat) : Vl := l.getD k ⟨0,0,[]⟩
theorem nthV_eq {l : List Vl} {k : Nat} (h : k < l.length) : nthV l k = l[k] := by simp [nthV,List.getD,h]
theorem vrow_get {l : List Vl} {k : Nat} (h : k < l.length) : (vrow l).getD k .top = .agg [.sc (.int .u8 (nthV l k).kind),.sc (.int .i64 (nthV l k).num),.lst 1 (lng (nthV l k).row) none] := by
 simp [vrow,nthV,List.getD,h,vlA]
theorem nthV_mem {l : List Vl} {k : Nat} (h : k < l.length) : nthV l k ∈ l := by rw [nthV_eq h]; exact List.getElem_mem _
def txs (l : List Vl) : List ByteArray := l.map oneT
theorem txs_length (l : List Vl) : (txs l).length = l.length := by simp [txs]
theorem txs_take {l : List Vl} {k : Nat} (h : k < l.length) : strs (txs (l.take k)) ++ [.sc (.string (oneT (nthV l k)))] = strs (txs (l.take (k + 1))) := by
 rw [take_snoc h,nthV_eq h]
 unfold txs strs
 rw [List.map_append,List.map_append]
 rfl
theorem szL_txs {l : List Vl} (h : ∀ v ∈ l,v.good) : szL (txs l) ≤ 31 * szV l := by
 induction l with
 | nil => simp [txs,szL]
 | cons n r ih =>
  have h1 := oneT_size (h n (by simp))
  have h2 := ih fun m hm => h m (by simp [hm])
  simp only [txs,List.map_cons,szL,szV] at h2 ⊢
  omega
/-- The values' texts. -/
def textL (l : List Vl) : ByteArray := jn (txs l)
theorem textL_size {l : List Vl} (h : ∀ v ∈ l,v.good) : (textL l).size ≤ 31 * szV l := Nat.le_trans (jn_size _) (szL_txs h)
set_option maxHeartbeats 4000000 in
theorem vText_d (l : List Vl) (ro : Option (List AV)) (hv : ∀ v ∈ l,v.good) (hs : szV l ≤ 1000000) (H : AHeap) : D Tryd.prog 15 [.lst 3 (vrow l) ro] H (.ret (.sc (.string (textL l)))) H := by
 refine D_of_DK (Nat.le_refl _) (dk15 (E_of_ES ?_))
 have hln := (szV_mem (l := l)).1
 simp only [ic15,ux]
 refine ES_seq_gen fun L hL => ?_
 simp -implicitDefEqProofs (maxSteps := 99999999) (disch := first | omega | (simp only [AHeap.set_length,killO_length,List.length_cons,List.length_nil]; first | done | omega)) only [vu,va,vg,vs,vw,Nat.reduceMul,ite_true,ite_false,eq_self,forall_const,implies_true,Nat.reduceAdd,Nat.reduceSub,Nat.reduceLT,Nat.reduceLeDiff,↓reduceIte,reduceCtorEq,Int.reduceEq,Int.reduceLT,Int.reduceLE,Int.reduceGT,Int.reduceGE,Int.reduceAdd,Int.reduceSub,Int.reduceNeg,Int.reduceToNat,Nat.reduceBEq,Nat.reduceEqDiff]
 refine hL _ _ ?_
 clear hL
 refine ES_seq_gen fun L hL => ?_
 simp -implicitDefEqProofs (maxSteps := 99999999) (disch := first | omega | (simp only [AHeap.set_length,killO_length,List.length_cons,List.length_nil]; first | done | omega)) only [vu,va,vg,vs,vw,Nat.reduceMul,ite_true,ite_false,eq_self,forall_const,implies_true,Nat.reduceAdd,Nat.reduceSub,Nat.reduceLT,Nat.reduceLeDiff,↓reduceIte,reduceCtorEq,Int.reduceEq,Int.reduceLT,Int.reduceLE,Int.reduceGT,Int.reduceGE,Int.reduceAdd,Int.reduceSub,Int.reduceNeg,Int.reduceToNat,Nat.reduceBEq,Nat.reduceEqDiff]
 refine hL _ _ ?_
 clear hL
 refine ES_seq_gen fun L hL => ?_
 simp -implicitDefEqProofs (maxSteps := 99999999) (disch := first | omega | (simp only [AHeap.set_length,killO_length,List.length_cons,List.length_nil]; first | done | omega)) only [vu,vrow_length,va,vg,vs,vw,Nat.reduceMul,ite_true,ite_false,eq_self,forall_const,implies_true,Nat.reduceAdd,Nat.reduceSub,Nat.reduceLT,Nat.reduceLeDiff,↓reduceIte,reduceCtorEq,Int.reduceEq,Int.reduceLT,Int.reduceLE,Int.reduceGT,Int.reduceGE,Int.reduceAdd,Int.reduceSub,Int.reduceNeg,Int.reduceToNat,Nat.reduceBEq,Nat.reduceEqDiff]
 refine ES_loopL (fun ts F => ∃ k io : Nat,k ≤ l.length ∧ ((strs (txs (l.take k)) ≠ [] → AHeap.find F io = OwnB 1 9 (strs (txs (l.take k))) ∧ H.length ≤ io) ∧ (∀ id,id < H.length → AHeap.find F id = AHeap.find H id) ∧ H.length ≤ F.length) ∧ Fr [none,none,none,some (OwnV 1 (strs (txs (l.take k))) io),none,none,some (.lst 3 (vrow l) ro),some (.sc (.int .i64 l.length)),some (.sc (.int .i64 k)),none,none,none,none,none,none,none,none,none,none,none] ts) (fun ts _ => l.length - (intV (ts.getD 8 .top)).toNat) ?_ ?_
 ·exact ⟨0,0,Nat.zero_le _,⟨fun h => absurd rfl h,fun _ _ => rfl,Nat.le_refl _⟩,by simp [Fr]; exact rfl⟩
 ·rintro ts F ⟨k,io,hk,⟨m1,m2,m3⟩,hfr⟩ L2 hL2
  obtain ⟨js,rfl⟩ := hfr.opened
  clear hfr
  have fo : strs (txs (l.take k)) ≠ [] → AHeap.find F io = OwnB 1 9 (strs (txs (l.take k))) := fun e => (m1 e).1
  have lo : (strs (txs (l.take k))).length = k := by rw [strs_length,txs_length,List.length_take]; omega
  by_cases h1 : k < l.length
  ·have h1' : (k : Int) < l.length := by omega
   have hg := vtext_d (nthV l k) none (hv _ (nthV_mem h1))
   rw [vlA_eq] at hg
   obtain ⟨io1,G1,p1,p2,p3,p4,p5,p6⟩ := apAny (H := some ⟨3,[.agg [.sc (.int .u8 (nthV l k).kind),.sc (.int .i64 (nthV l k).num),.lst 1 (lng (nthV l k).row) none]],true,25⟩ :: F) (k := 1) (ty := 9) (ys := [AV.sc (.string (oneT (nthV l k)))]) (fun e => (find_past (AHeap.find_lt ((fo e).trans (OwnB_ne e)))).trans (fo e)) (by rw [lo]; simp; omega)
   rw [txs_take h1] at p2 p4
   simp only [List.length_cons] at p4 p5 p6
   simp -implicitDefEqProofs (maxSteps := 99999999) (disch := first | omega | (simp only [AHeap.set_length,killO_length,List.length_cons,List.length_nil]; first | done | omega)) only [vu,mk,h1',vrow_length,vrow_get h1,va,vg,vs,vw,Nat.reduceMul,ite_true,ite_false,eq_self,forall_const,implies_true,Nat.reduceAdd,Nat.reduceSub,Nat.reduceLT,Nat.reduceLeDiff,↓reduceIte,reduceCtorEq,Int.reduceEq,Int.reduceLT,Int.reduceLE,Int.reduceGT,Int.reduceGE,Int.reduceAdd,Int.reduceSub,Int.reduceNeg,Int.reduceToNat,Nat.reduceBEq,Nat.reduceEqDiff]
   refine ⟨by omega,callR_ret (hg _) ?_⟩
   simp -implicitDefEqProofs (maxSteps := 99999999) (disch := first | omega | (simp only [AHeap.set_length,killO_length,List.length_cons,List.length_nil]; first | done | omega)) only [vu,p1,p2,p3,va,vg,vs,vw,Nat.reduceMul,ite_true,ite_false,eq_self,forall_const,implies_true,Nat.reduceAdd,Nat.reduceSub,Nat.reduceLT,Nat.reduceLeDiff,↓reduceIte,reduceCtorEq,Int.reduceEq,Int.reduceLT,Int.reduceLE,Int.reduceGT,Int.reduceGE,Int.reduceAdd,Int.reduceSub,Int.reduceNeg,Int.reduceToNat,Nat.reduceBEq,Nat.reduceEqDiff]
   exact hL2 _ _ ⟨k + 1,io1,by omega,⟨fun h => ⟨(p4 h).1,by have := (p4 h).2; omega⟩,fun id hid => by rw [p6 id (by omega) (fun e => by have := (m1 e).2; omega),find_past (by omega)]; exact m2 id hid,by omega⟩,by simp [Fr]⟩ (by simp [mk,intV]; omega)
  ·have h1' : ¬ (k : Int) < l.length := by omega
   have hkl : k = l.length := by omega
   subst hkl
   rw [List.take_length] at *
   simp -implicitDefEqProofs (maxSteps := 99999999) (disch := first | omega | (simp only [AHeap.set_length,killO_length,List.length_cons,List.length_nil]; first | done | omega)) only [vu,mk,h1',va,vg,vs,vw,Nat.reduceMul,ite_true,ite_false,eq_self,forall_const,implies_true,Nat.reduceAdd,Nat.reduceSub,Nat.reduceLT,Nat.reduceLeDiff,↓reduceIte,reduceCtorEq,Int.reduceEq,Int.reduceLT,Int.reduceLE,Int.reduceGT,Int.reduceGE,Int.reduceAdd,Int.reduceSub,Int.reduceNeg,Int.reduceToNat,Nat.reduceBEq,Nat.reduceEqDiff]
   refine hL _ _ ?_
   clear hL
   have hj := joinT_d (txs l) ⟨#[32]⟩ (by rw [txs_length]; omega) (by have := textL_size hv; show (textL l).size ≤ _; omega) []
   simp -implicitDefEqProofs (maxSteps := 99999999) (disch := first | omega | (simp only [AHeap.set_length,killO_length,List.length_cons,List.length_nil]; first | done | omega)) only [vu,va,vg,vs,vw,Nat.reduceMul,ite_true,ite_false,eq_self,forall_const,implies_true,Nat.reduceAdd,Nat.reduceSub,Nat.reduceLT,Nat.reduceLeDiff,↓reduceIte,reduceCtorEq,Int.reduceEq,Int.reduceLT,Int.reduceLE,Int.reduceGT,Int.reduceGE,Int.reduceAdd,Int.reduceSub,Int.reduceNeg,Int.reduceToNat,Nat.reduceBEq,Nat.reduceEqDiff]
   refine callR_ret (D_view (.cons (ViewL.own fo ViewL.scs) (.cons .sc .nil)) .sc hj) ?_
   simp -implicitDefEqProofs (maxSteps := 99999999) (disch := first | omega | (simp only [AHeap.set_length,killO_length,List.length_cons,List.length_nil]; first | done | omega)) only [vu,va,vg,vs,vw,Nat.reduceMul,ite_true,ite_false,eq_self,forall_const,implies_true,Nat.reduceAdd,Nat.reduceSub,Nat.reduceLT,Nat.reduceLeDiff,↓reduceIte,reduceCtorEq,Int.reduceEq,Int.reduceLT,Int.reduceLE,Int.reduceGT,Int.reduceGE,Int.reduceAdd,Int.reduceSub,Int.reduceNeg,Int.reduceToNat,Nat.reduceBEq,Nat.reduceEqDiff]
   exact weak_frz m2 (.same trivial)
end Go.Proofs.YtpnnpooeheiedaaDoor
