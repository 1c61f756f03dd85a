/- Names into a row of one's own: all nodes. -/
import Derived.Test.YtfnahogjkgcklaaDoorS250
namespace Go.Proofs.YtfnahogjkgcklaaDoor
open Go.RowKit
set_option maxRecDepth 100000
set_option linter.unusedVariables false
set_option linter.unusedSimpArgs false
mutual
def nms : Nd → List ByteArray
 | ⟨k,s,n,l⟩ => nmL ⟨k,s,n,l⟩ ++ nmsL l
def nmsL : List Nd → List ByteArray
 | [] => []
 | t :: r => nms t ++ nmsL r
end
theorem nms_eq (t : Nd) : nms t = nmL t ++ nmsL t.kids := by cases t; simp [nms,Nd.kids]
theorem nmsL_append (a b : List Nd) : nmsL (a ++ b) = nmsL a ++ nmsL b := by
 induction a with
 | nil => rfl
 | cons x r ih => simp [nmsL,ih]
theorem nmsL_take {l : List Nd} {k : Nat} (h : k < l.length) : nmsL (l.take (k + 1)) = nmsL (l.take k) ++ nms (nthN l k) := by
 rw [List.take_succ_eq_append_getElem h,nmsL_append,nthN_eq h]
 simp [nmsL]
theorem nmL_len (t : Nd) : (nmL t).length ≤ 1 := by unfold nmL; split <;> simp
theorem nms_len (t : Nd) : (nms t).length ≤ t.size := by
 induction t using Nd.ind with
 | _ t ih =>
  have key : ∀ l : List Nd,(∀ k ∈ l,(nms k).length ≤ k.size) → (nmsL l).length ≤ Nd.sizeL l := by
   intro l
   induction l with
   | nil => intro _; simp [nmsL]
   | cons x r ihr =>
    intro h
    have h1 := h x (by simp)
    have h2 := ihr fun k hk => h k (by simp [hk])
    simp only [nmsL,Nd.sizeL,List.length_append]
    omega
  have := key t.kids ih
  have := nmL_len t
  rw [nms_eq,Nd.size_eq,List.length_append]
  omega
theorem nmsL_len (l : List Nd) : (nmsL l).length ≤ Nd.sizeL l := by
 induction l with
 | nil => simp [nmsL]
 | cons x r ih =>
  have := nms_len x
  simp only [nmsL,Nd.sizeL,List.length_append]
  omega
def eachNm (l : List Nd) : Prop := ∀ (ro : Option (List AV)) (xs : List ByteArray) (oid io : Nat) (F : AHeap),xs.length + Nd.sizeL l ≤ 80000000 → Nd.wtL l ≤ 2000000 → OutW F oid xs io →
 DK Tryd.prog 27 [.fn (.func 29) [] [.ptr 1 oid 0 0],.lst 4 (ndL l) ro] F (fun e F' => ∃ v,e = .ret v ∧ v = .tup [] ∧ ∃ io',OutQ F oid xs io (xs ++ nmsL l) io' F')
set_option maxHeartbeats 0 in
theorem eachNm_of (l : List Nd) (ih : ∀ a ∈ l,eachNm a.kids) : eachNm l := by
 intro ro xs oid io F0 hx hw h
 have hl := Nd.wtL_len l
 have cl : callable Tryd.prog 29 = true := by kernel_rfl
 refine dk27 (E_of_ES ?_)
 simp only [ic27,ux]
 refine ES_seq_gen fun L hL => ?_
 simp -implicitDefEqProofs (maxSteps := 99999999) (disch := first | omega | (simp only [AHeap.set_length,killO_length,List.length_cons,List.length_nil]; first | done | omega)) only [vu,ndL_length,va,vg,vs,vw,Nat.reduceMul,ite_true,ite_false,eq_self,forall_const,implies_true,Nat.reduceAdd,Nat.reduceSub,Nat.reduceLT,Nat.reduceLeDiff,↓reduceIte,reduceCtorEq,Int.reduceEq,Int.reduceLT,Int.reduceLE,Int.reduceGT,Int.reduceGE,Int.reduceAdd,Int.reduceSub,Int.reduceNeg,Int.reduceToNat,Nat.reduceBEq,Nat.reduceEqDiff]
 refine hL _ _ ?_
 clear hL
 simp -implicitDefEqProofs (maxSteps := 99999999) (disch := first | omega | (simp only [AHeap.set_length,killO_length,List.length_cons,List.length_nil]; first | done | omega)) only [vu,ndL_length,va,vg,vs,vw,Nat.reduceMul,ite_true,ite_false,eq_self,forall_const,implies_true,Nat.reduceAdd,Nat.reduceSub,Nat.reduceLT,Nat.reduceLeDiff,↓reduceIte,reduceCtorEq,Int.reduceEq,Int.reduceLT,Int.reduceLE,Int.reduceGT,Int.reduceGE,Int.reduceAdd,Int.reduceSub,Int.reduceNeg,Int.reduceToNat,Nat.reduceBEq,Nat.reduceEqDiff]
 refine ES_loopL (fun ts F => ∃ (k b : Nat),k ≤ l.length ∧ OutQ F0 oid xs io (xs ++ nmsL (l.take k)) b F ∧ Fr [some (.fn (.func 29) [] [.ptr 1 oid 0 0]),none,none,none,none,none,some (.lst 4 (ndL l) ro),some (.sc (.int .i64 l.length)),some (.sc (.int .i64 k)),none,none,none,none,none,none,none,none,none,none,none] ts) (fun ts _ => l.length - (intV (ts.getD 8 .top)).toNat) ?_ ?_
 ·refine ⟨0,io,Nat.zero_le _,?_,by simp [Fr]⟩
  rw [List.take_zero,show xs ++ nmsL [] = xs by simp [nmsL]]
  exact .none h
 rintro ts F ⟨k,b,hk,hF,hfr⟩ L2 hL2
 obtain ⟨js,rfl⟩ := hfr.opened
 clear hfr
 by_cases hd : k < l.length
 ·have d1 : (k : Int) < l.length := by omega
  have hg := ndL_get hd
  have hmem := nthN_mem hd
  have htk := nmsL_take hd
  have hwm := Nd.wtL_mem hmem
  have hwe := Nd.wt_eq (nthN l k)
  have hsz := sizeL_take hd
  have hse := Nd.size_eq (nthN l k)
  have hle := sizeL_le l (k + 1)
  have hnl := nmsL_len (l.take k)
  have hn1 := nmL_len (nthN l k)
  have hlx : (xs ++ nmsL (l.take k)).length ≤ 90000000 := by rw [List.length_append]; omega
  have hs1 := fun (G : AHeap) (h : OutW G oid (xs ++ nmsL (l.take k)) b) => names1_d (nthN l k) (by omega) (xs ++ nmsL (l.take k)) hlx oid b G h
  rw [ndR_eq] at hs1
  have hcb := OutQ.cons (some ⟨4,[.agg [.sc (.int .u8 (nthN l k).kind),.sc (.string (nthN l k).text),.sc (.int .i64 (nthN l k).num),.lst 4 (ndL (nthN l k).kids) none]],true,25⟩) hF.out
  have hol := AHeap.find_lt hF.out.box
  simp -implicitDefEqProofs (maxSteps := 99999999) (disch := first | omega | (simp only [AHeap.set_length,killO_length,List.length_cons,List.length_nil]; first | done | omega)) only [mk,d1,hg,ndL_length,va,vg,vs,vw,Nat.reduceMul,ite_true,ite_false,eq_self,forall_const,implies_true,Nat.reduceAdd,Nat.reduceSub,Nat.reduceLT,Nat.reduceLeDiff,↓reduceIte,reduceCtorEq,Int.reduceEq,Int.reduceLT,Int.reduceLE,Int.reduceGT,Int.reduceGE,Int.reduceAdd,Int.reduceSub,Int.reduceNeg,Int.reduceToNat,Nat.reduceBEq,Nat.reduceEqDiff]
  refine ⟨by omega,cl,callR_rel (hs1 _ hcb.out) ?_⟩
  rintro v G hGl ⟨rfl,b2,hQ⟩
  have hbx : AHeap.find G F.length = some ⟨4,[.agg [.sc (.int .u8 (nthN l k).kind),.sc (.string (nthN l k).text),.sc (.int .i64 (nthN l k).num),.lst 4 (ndL (nthN l k).kids) none]],true,25⟩ := by
   rw [hQ.old F.length (by simp) (by omega) (fun e => ?_),find_top rfl]
   have := (hF.out.own e).1
   rw [OwnB_ne (strs_ne e)] at this
   have := AHeap.find_lt this
   omega
  simp -implicitDefEqProofs (maxSteps := 99999999) (disch := first | omega | (simp only [AHeap.set_length,killO_length,List.length_cons,List.length_nil]; first | done | omega)) only [vu,hbx,va,vg,vs,vw,Nat.reduceMul,ite_true,ite_false,eq_self,forall_const,implies_true,Nat.reduceAdd,Nat.reduceSub,Nat.reduceLT,Nat.reduceLeDiff,↓reduceIte,reduceCtorEq,Int.reduceEq,Int.reduceLT,Int.reduceLE,Int.reduceGT,Int.reduceGE,Int.reduceAdd,Int.reduceSub,Int.reduceNeg,Int.reduceToNat,Nat.reduceBEq,Nat.reduceEqDiff]
  refine callR_rel (ih _ hmem none (xs ++ nmsL (l.take k) ++ nmL (nthN l k)) oid b2 G (by rw [List.length_append,List.length_append]; omega) (by omega) hQ.out) ?_
  rintro v K hKl ⟨rfl,b3,hQ2⟩
  simp -implicitDefEqProofs (maxSteps := 99999999) (disch := first | omega | (simp only [AHeap.set_length,killO_length,List.length_cons,List.length_nil]; first | done | omega)) only [vu,va,vg,vs,vw,Nat.reduceMul,ite_true,ite_false,eq_self,forall_const,implies_true,Nat.reduceAdd,Nat.reduceSub,Nat.reduceLT,Nat.reduceLeDiff,↓reduceIte,reduceCtorEq,Int.reduceEq,Int.reduceLT,Int.reduceLE,Int.reduceGT,Int.reduceGE,Int.reduceAdd,Int.reduceSub,Int.reduceNeg,Int.reduceToNat,Nat.reduceBEq,Nat.reduceEqDiff]
  refine hL2 _ _ ⟨k + 1,b3,by omega,?_,by simp [Fr]⟩ (by simp [intV,mk]; omega)
  rw [htk,nms_eq,← List.append_assoc,← List.append_assoc]
  exact ((hF.trans hcb).trans hQ).trans hQ2
 ·have d1 : ¬ (k : Int) < l.length := by omega
  have e : l.take k = l := List.take_of_length_le (by omega)
  rw [e] at hF
  simp -implicitDefEqProofs (maxSteps := 99999999) (disch := first | omega | (simp only [AHeap.set_length,killO_length,List.length_cons,List.length_nil]; first | done | omega)) only [mk,d1,va,vg,vs,vw,Nat.reduceMul,ite_true,ite_false,eq_self,forall_const,implies_true,Nat.reduceAdd,Nat.reduceSub,Nat.reduceLT,Nat.reduceLeDiff,↓reduceIte,reduceCtorEq,Int.reduceEq,Int.reduceLT,Int.reduceLE,Int.reduceGT,Int.reduceGE,Int.reduceAdd,Int.reduceSub,Int.reduceNeg,Int.reduceToNat,Nat.reduceBEq,Nat.reduceEqDiff]
  exact ⟨_,rfl,rfl,b,hF⟩
theorem eachNm_all (l : List Nd) : eachNm l := by
 have key : ∀ t : Nd,eachNm t.kids := fun t => by
  induction t using Nd.ind with
  | _ t ih => exact eachNm_of _ ih
 exact eachNm_of l fun a _ => key a
end Go.Proofs.YtfnahogjkgcklaaDoor
