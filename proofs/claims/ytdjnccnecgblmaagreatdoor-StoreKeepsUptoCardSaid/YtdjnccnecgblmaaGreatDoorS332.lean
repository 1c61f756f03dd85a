import Derived.Test.YtdjnccnecgblmaaGreatDoorUD
namespace Go.Proofs.YtdjnccnecgblmaaGreatDoor
open Go.RowKit
set_option maxRecDepth 100000
set_option linter.unusedVariables false
set_option linter.unusedSimpArgs false
theorem okF_drop {A N r : List Nm} {k : Nat} (h : k < r.length) : okF A N (r.drop k)=if okS A N (nthM r k)=true then okF A (mSetL (nthM r k).1 (nthM r k).2 N) (r.drop (k+1)) else false:=by
 rw[List.drop_eq_getElem_cons h,nthM_eq h]
 simp only[okF]
def agn (T : List Nm) (ns : List ByteArray) (j : Nat) : List Nm:=(ns.take j).map fun n=>(n,(mGet n T).getD Pa.zero)
theorem agn_succ {T : List Nm} {ns : List ByteArray} {j : Nat} (h : j < ns.length) {q : Pa} (hq : mGet (nthS ns j) T=some q) : pnR (agn T ns j) ++ [nmV (nthS ns j,q)]=pnR (agn T ns (j+1)):=by
 unfold agn pnR
 rw[List.take_succ_eq_append_getElem h,← nthS_eq h]
 simp[hq]
theorem agn_length {T : List Nm} {ns : List ByteArray} {j : Nat} (h : j ≤ ns.length) : (pnR (agn T ns j)).length=j:=by
 simp[agn,pnR]
 omega
theorem agn_all {T : List Nm} {ns : List ByteArray} (h : ∀ n,n ∈ ns→∃ q,mGet n T=some q) {j : Nat} : ∀ x ∈ agn T ns j,mGet x.1 T=some x.2:=fun x hx=>by
 obtain ⟨n,hn,rfl⟩:=List.mem_map.1 hx
 obtain ⟨q,hq⟩:=h n (List.mem_of_mem_take hn)
 simp only
 rw[hq]
 rfl
theorem nmQ_size {s : ByteArray} (h : nmQ s=true) : s.size ≤ 100000000:=by
 simp only[nmQ,Bool.and_eq_true,decide_eq_true_eq] at h
 omega
theorem TabS_set {T : List Nm} {n : ByteArray} {p : Pa} (h : TabS T) (hx : p.sm) : TabS (mSetL n p T):=by
 intro k q hq
 rw[mGet_set] at hq
 by_cases en : k=n
 ·rw[if_pos en] at hq;cases hq;exact hx
 ·rw[if_neg en] at hq;exact h k q hq
theorem good_tab {T : List Nm} (h : GoodT Pa.sm T) : TabS T:=fun n q hq=>(h.2 n q hq).2.2
theorem allS_step {A r : List Nm} {k : Nat} (h : k < r.length) : mSetL (nthM r k).1 (nthM r k).2 (allS A (r.take k))=allS A (r.take (k+1)):=by
 rw[allS_take h,nthM_eq h]
def KeepI (T A : List Nm) (F : AHeap) : Prop:=StoreAt 2 1 T F ∧ AHeap.find F 2=some ⟨0,mE paV A,true,0⟩ ∧ 3 ≤ F.length ∧ GoodT Pa.sm T ∧ (∀ n,mGet n T=mGet n A) ∧ (A.map (·.1)).Nodup
def lenS (l : List (List Nm)) : Nat:=(l.map List.length).sum
theorem lenS_take {l : List (List Nm)} {k : Nat} (h : k < l.length) : lenS (l.take (k+1))=lenS (l.take k)+(nthR2 l k).length:=by
 unfold lenS
 rw[List.take_succ_eq_append_getElem h,nthR2_eq h,List.map_append,List.sum_append]
 rfl
theorem lenS_le (l : List (List Nm)) (k : Nat) : lenS (l.take k) ≤ lenS l:=by
 unfold lenS
 induction l generalizing k with
 | nil=>simp
 | cons x r ih =>
  cases k with
  | zero=>simp
  | succ k=>have:=ih k;simp only[List.take_succ_cons,List.map_cons,List.sum_cons];omega
set_option maxHeartbeats 0 in
theorem storeKeeps_d (l : List (List Nm)) (hs : SmLL l) (hz : lenS l ≤ 1000000) : D Tryz.prog 5 [.lst 1 (pnRR l) none] [] (.ret (.sc (.bool true))) []:=by
 have wend : ∀ {F : AHeap} {v : Value},Weak [] (.ret (.sc v)) F (.ret (.sc v)) []:=fun {F v}=>weak_gen [] (by simp) (by simp) (by simp) (fun id k hid hk=>by simp at hid) (fun i s k hs=>by simp at hs) (.same trivial)
 have hll:=hs.1
 refine D_of_DK (by simp) (dk5 (E_of_ES ?_))
 simp only[ic5,ux]
 refine ES_seq_gen fun L hL=>?_
 simp -implicitDefEqProofs (maxSteps:=99999999) (disch:=first | omega | (simp only[vl];first | done | omega)) only[vu,va,vg,vs,vw,vk,simprocAttr]
 refine hL _ _ ?_
 clear hL
 refine ES_seq_gen fun L hL=>?_
 simp -implicitDefEqProofs (maxSteps:=99999999) (disch:=first | omega | (simp only[vl];first | done | omega)) only[vu,va,vg,vs,vw,vk,simprocAttr]
 refine callR_ret awake25_d ?_
 simp -implicitDefEqProofs (maxSteps:=99999999) (disch:=first | omega | (simp only[vl];first | done | omega)) only[vu,va,vg,vs,vw,vk,simprocAttr]
 refine hL _ _ ?_
 clear hL
 refine ES_seq_gen fun L hL=>?_
 simp -implicitDefEqProofs (maxSteps:=99999999) (disch:=first | omega | (simp only[vl];first | done | omega)) only[vu,va,vg,vs,vw,vk,simprocAttr]
 refine callR_ret (great_d l hs none _) ?_
 cases hg : greatB l with
 | true =>
  simp -implicitDefEqProofs (maxSteps:=99999999) (disch:=first | omega | (simp only[vl];first | done | omega)) only[vu,va,vg,vs,vw,vk,simprocAttr]
  exact wend
 | false =>
 simp -implicitDefEqProofs (maxSteps:=99999999) (disch:=first | omega | (simp only[vl];first | done | omega)) only[vu,va,vg,vs,vw,vk,simprocAttr]
 refine hL _ _ ?_
 clear hL
 refine ES_seq_gen fun L hL=>?_
 simp -implicitDefEqProofs (maxSteps:=99999999) (disch:=first | omega | (simp only[vl];first | done | omega)) only[vu,va,vg,vs,vw,vk,simprocAttr]
 refine callR_ret (newG_d _) ?_
 simp -implicitDefEqProofs (maxSteps:=99999999) (disch:=first | omega | (simp only[vl];first | done | omega)) only[vu,va,vg,vs,vw,vk,simprocAttr]
 refine hL _ _ ?_
 clear hL
 refine ES_seq_gen fun L hL=>?_
 simp -implicitDefEqProofs (maxSteps:=99999999) (disch:=first | omega | (simp only[vl];first | done | omega)) only[vu,vg,va,vg,vs,vw,vk,simprocAttr]
 refine hL _ _ ?_
 clear hL
 refine ES_seq_gen fun L hL=>?_
 refine ES_seq_gen fun L hL=>?_
 simp -implicitDefEqProofs (maxSteps:=99999999) (disch:=first | omega | (simp only[vl];first | done | omega)) only[vu,va,vg,vs,vw,vk,simprocAttr]
 refine hL _ _ ?_
 clear hL
 refine ES_loopL (fun ts F=>∃ (k : Nat) (T A : List Nm),(k ≤ l.length ∧ T.length ≤ lenS (l.take k)) ∧ KeepI T A F ∧ Fr [some (.lst 1 (pnRR l) none),none,none,some (.ptr 1 1 0 0),some (.ptr 0 2 0 0),some (.sc (.int .i64 k)),none,none,none,none,none,none,none,none,none,none,none,none,none,none,none,none,none,none,none,none,none,none,none,none,none,none,none,none,none,none,none,none,none,none,none,none,none,none,none,none,none,none,none,none,none,none,none,none,none,none,none,none,none,none,none,none,none,none,none,none,none,none,none,none,none,none,none,none,none,none,none,none,none,none,none,none,none,none,none,none,none,none,none,none,none,none,none,none,none,none,none,none,none,none,none,none,none,none,none,none,none,none,none,none,none,none,none,none,none,none,none,none,none,none,none,none,none,none,none,none,none,none,none,none,none,none,none,none,none,none,none,none,none,none,none,none,none,none,none,none,none,none,none,none,none,none,none,none,none,none,none,none,none,none,none,none,none,none,none,none,none,none,none,none,none,none,none,none,none,none,none,none,none,none,none,none,none,none,none,none,none,none,none,none,none,none,none,none,none,none,none,none,none,none,none,none,none,none,none] ts) (fun ts _=>l.length - (intV (ts.getD 5 .top)).toNat) ?_ ?_
 ·refine ⟨0,[],[],⟨Nat.zero_le _,by simp[lenS]⟩,⟨⟨0,by simp,rfl,rfl⟩,rfl,by simp,⟨by simp,fun n q h=>by simp[mGet] at h⟩,fun n=>rfl,by simp⟩,by simp[Fr]⟩
 rintro ts F ⟨k,T,A,⟨hk,hTl⟩,hI,hfr⟩ L2 hL2
 obtain ⟨js,rfl⟩:=hfr.opened
 clear hfr
 by_cases hd : k < l.length
 ·have d1 : (k : Int) < l.length:=by omega
  have hg2:=pnRR_get hd
  have hr:=hs.2 _ (nthR2_mem hd)
  have hlk:=lenS_take hd
  have hlz:=lenS_le l (k+1)
  generalize nthR2 l k=r at *
  obtain ⟨i1,i2,i3,i4,i5,i6⟩:=hI
  refine ES_seq_gen fun L hL=>?_
  simp -implicitDefEqProofs (maxSteps:=99999999) (disch:=first | omega | (simp only[vl];first | done | omega)) only[mk,vu,d1,pnRR_length,va,vg,vs,vw,vk,simprocAttr]
  refine hL _ _ ?_
  clear hL
  refine ES_seq_gen fun L hL=>?_
  refine ES_seq_gen fun L hL=>?_
  simp -implicitDefEqProofs (maxSteps:=99999999) (disch:=first | omega | (simp only[vl];first | done | omega)) only[vu,hg2,pnRR_length,va,vg,vs,vw,vk,simprocAttr]
  refine ⟨by omega,callR_dk (putG_d 2 1 T r (good_tab i4) hr none _ (by omega) (by omega) i1) ?_⟩
  rintro en H1 hle ⟨rfl,p1,p2,p3⟩
  show runS _ _ _ _ _ _
  simp -implicitDefEqProofs (maxSteps:=99999999) (disch:=first | omega | (simp only[vl];first | done | omega)) only[vu,va,vg,vs,vw,vk,simprocAttr]
  have i2':=(p3 2 (by omega) (by omega)).trans i2
  obtain ⟨P,hP⟩ : ∃ P,putS T r=P:=⟨_,rfl⟩
  rw[hP] at p1 ⊢
  refine hL _ _ ?_
  clear hL
  refine ES_seq_gen fun L hL=>?_
  simp -implicitDefEqProofs (maxSteps:=99999999) (disch:=first | omega | (simp only[vl];first | done | omega)) only[vu,va,vg,vs,vw,vk,simprocAttr]
  refine hL _ _ ?_
  clear hL
  refine ES_seq_gen fun L hL=>?_
  simp -implicitDefEqProofs (maxSteps:=99999999) (disch:=first | omega | (simp only[vl];first | done | omega)) only[vu,vg,va,vg,vs,vw,vk,simprocAttr]
  refine hL _ _ ?_
  clear hL
  refine ES_seq_gen fun L hL=>?_
  refine ES_seq_gen fun L hL=>?_
  simp -implicitDefEqProofs (maxSteps:=99999999) (disch:=first | omega | (simp only[vl];first | done | omega)) only[vu,va,vg,vs,vw,vk,simprocAttr]
  refine hL _ _ ?_
  clear hL
  clear L
  have hTA : TabS A:=fun n q hq=>by rw[← i5] at hq;exact (i4.2 n q hq).2.2
  have hok:=mE_ok paV A
  have hrl:=hr.1
  have key : ∀ ts G,(AHeap.find G H1.length).isSome=true→(∀ id,id < H1.length→AHeap.find G id=AHeap.find H1 id)→Fr [some (.lst 1 (pnRR l) none),none,none,some (.ptr 1 1 0 0),some (.ptr 0 2 0 0),some (.sc (.int .i64 k)),some (.sc (.int .i64 P.1)),some (.sc (.bool (okF A [] r))),none,none,none,none,none,none,none,none,none,none,none,none,none,none,none,none,none,none,none,none,none,none,none,none,none,none,none,none,none,none,none,none,none,none,none,none,none,none,none,none,none,none,none,none,none,none,none,none,none,none,none,none,none,none,none,none,none,none,none,none,none,none,none,none,none,none,none,none,none,none,none,none,none,none,none,none,none,none,none,none,none,none,none,none,none,none,none,none,none,none,none,none,none,none,none,none,none,none,none,none,none,none,none,none,none,none,none,none,none,none,none,none,none,none,none,none,none,none,none,none,none,none,none,none,none,none,none,none,none,none,none,none,none,none,none,none,none,none,none,none,none,none,none,none,none,none,none,none,none,none,none,none,none,none,none,none,none,none,none,none,none,none,none,none,none,none,none,none,none,none,none,none,none,none,none,none,none,none,none,none,none,none,none,none,none,none,none,none,none,none,none,none,none,none,none,none,none] ts→L ts G:=by
   intro ts G hG1 hG2 hfr
   obtain ⟨js3,rfl⟩:=hfr.opened
   clear hfr
   have hGl : H1.length < G.length:=by
    cases hq : AHeap.find G H1.length with
    | none=>rw[hq] at hG1;cases hG1
    | some b=>exact AHeap.find_lt hq
   have hF1 : (P.1=0) ↔ okF A [] r=true:=by
    rw[okF_fold A r T [] (fun n=>by rw[i5 n];cases mGet n A <;> rfl),← hP]
    unfold putS
    split
    ·exact Iff.rfl
    ·exact Iff.rfl
   have hPg : GoodT Pa.sm P.2:=by rw[← hP];exact putS_good i4 fun x hx=>(hr.2 x hx).2
   have hPl : P.2.length ≤ T.length+r.length:=by rw[← hP];exact putS_len
   have gA : AHeap.find G 2=some ⟨0,mE paV A,true,0⟩:=(hG2 2 (by omega)).trans i2'
   refine hL _ _ ?_
   clear hL
   refine ES_seq_gen fun L hL=>?_
   by_cases c : P.1=0
   ·have hb1:=hF1.1 c
    have hfo : (foldS T r).1=0:=by
     rw[← hP] at c
     unfold putS at c
     split at c
     ·assumption
     ·exact c
    have hP2 : P=foldS T r:=by rw[← hP];unfold putS;rw[if_pos hfo]
    simp -implicitDefEqProofs (maxSteps:=99999999) (disch:=first | omega | (simp only[vl];first | done | omega)) only[mk,vu,c,hb1,tfB,ftB,va,vg,vs,vw,vk,simprocAttr]
    refine hL _ _ ?_
    clear hL
    refine ES_seq_gen fun L hL=>?_
    refine ES_seq_gen fun L hL=>?_
    simp -implicitDefEqProofs (maxSteps:=99999999) (disch:=first | omega | (simp only[vl];first | done | omega)) only[vu,va,vg,vs,vw,vk,simprocAttr]
    refine hL _ _ ?_
    clear hL
    clear L
    have last : ∀ ts G',(AHeap.find G' 2=some ⟨0,mE paV (allS A r),true,0⟩ ∧ H1.length ≤ G'.length ∧ ∀ id,id < H1.length→id ≠ 2→AHeap.find G' id=AHeap.find H1 id)→Fr [some (.lst 1 (pnRR l) none),none,none,some (.ptr 1 1 0 0),some (.ptr 0 2 0 0),some (.sc (.int .i64 k)),none,none,none,none,none,none,none,none,none,none,none,none,none,none,none,none,none,none,none,none,none,none,none,none,none,none,none,none,none,none,none,none,none,none,none,none,none,none,none,none,none,none,none,none,none,none,none,none,none,none,none,none,none,none,none,none,none,none,none,none,none,none,none,none,none,none,none,none,none,none,none,none,none,none,none,none,none,none,none,none,none,none,none,none,none,none,none,none,none,none,none,none,none,none,none,none,none,none,none,none,none,none,none,none,none,none,none,none,none,none,none,none,none,none,none,none,none,none,none,none,none,none,none,none,none,none,none,none,none,none,none,none,none,none,none,none,none,none,none,none,none,none,none,none,none,none,none,none,none,none,none,none,none,none,none,none,none,none,none,none,none,none,none,none,none,none,none,none,none,none,none,none,none,none,none,none,none,none,none,none,none,none,none,none,none,none,none,none,none,none,none,none,none,none,none,none,none,none,none] ts→L ts G':=by
     intro ts G' ⟨q1,q2,q3⟩ hfr
     obtain ⟨js4,rfl⟩:=hfr.opened
     clear hfr
     have hI' : KeepI P.2 (allS A r) G':=⟨p1.keep q3 (by omega),q1,by omega,hPg,by rw[hP2];exact allS_fold r T A i5 hfo,allS_nodup i6⟩
     have hlen:=same_len hI'.2.2.2.1.1 hI'.2.2.2.2.2 hI'.2.2.2.2.1
     have hnm:=fun H h=>namesG_d 2 1 P.2 (by omega) H h
     have hnl : (nameR (keyed P.2)).length=(allS A r).length:=by rw[nameR_len];simp[keyed,hlen]
     refine hL _ _ ?_
     clear hL
     simp -implicitDefEqProofs (maxSteps:=99999999) (disch:=first | omega | (simp only[vl];first | done | omega)) only[mk,vu,va,vg,vs,vw,vk,simprocAttr]
     refine callR_ret (hnm _ hI'.1) ?_
     simp -implicitDefEqProofs (maxSteps:=99999999) (disch:=first | omega | (simp only[vl];first | done | omega)) only[vu,vg,q1,mE_length,strs_length,hnl,va,vg,vs,vw,vk,simprocAttr]
     refine hL _ _ ?_
     clear hL
     simp -implicitDefEqProofs (maxSteps:=99999999) (disch:=first | omega | (simp only[vl];first | done | omega)) only[mk,vu,va,vg,vs,vw,vk,simprocAttr]
     exact hL2 _ _ ⟨k+1,P.2,allS A r,⟨by omega,by omega⟩,hI',by simp[Fr]⟩ (by simp[intV,mk];omega)
    refine ES_loopL (fun ts G'=>∃ j : Nat,j ≤ r.length ∧ (AHeap.find G' 2=some ⟨0,mE paV (allS A (r.take j)),true,0⟩ ∧ H1.length ≤ G'.length ∧ ∀ id,id < H1.length→id ≠ 2→AHeap.find G' id=AHeap.find H1 id) ∧ Fr [some (.lst 1 (pnRR l) none),none,none,some (.ptr 1 1 0 0),some (.ptr 0 2 0 0),some (.sc (.int .i64 k)),none,some (.sc (.bool true)),none,none,none,none,none,some (.sc (.int .i64 j)),none,none,none,none,none,none,none,none,none,none,none,none,none,none,none,none,none,none,none,none,none,none,none,none,none,none,none,none,none,none,none,none,none,none,none,none,none,none,none,none,none,none,none,none,none,none,none,none,none,none,none,none,none,none,none,none,none,none,none,none,none,none,none,none,none,none,none,none,none,none,none,none,none,none,none,none,none,none,none,none,none,none,none,none,none,none,none,none,none,none,none,none,none,none,none,none,none,none,none,none,none,none,none,none,none,none,none,none,none,none,none,none,none,none,none,none,none,none,none,none,none,none,none,none,none,none,none,none,none,none,none,none,none,none,none,none,none,none,none,none,none,none,none,none,none,none,none,none,none,none,none,none,none,none,none,none,none,none,none,none,none,none,none,none,none,none,none,none,none,none,none,none,none,none,none,none,none,none,none,none,none,none,none,none,none,none,none,none,none,none,none] ts) (fun ts _=>r.length - (intV (ts.getD 13 .top)).toNat) ?_ ?_
    ·exact ⟨0,Nat.zero_le _,⟨gA,by omega,fun id hid _=>hG2 id hid⟩,by simp[Fr]⟩
    rintro ts G' ⟨j,hj,⟨q1,q2,q3⟩,hfr⟩ L3 hL3
    obtain ⟨js4,rfl⟩:=hfr.opened
    clear hfr
    by_cases hdj : j < r.length
    ·have dj : (j : Int) < r.length:=by omega
     have hgx:=pnR_get hdj
     have hokA:=mE_ok paV (allS A (r.take j))
     have hmpA : mPut (.string (nthM r j).1) (paV (nthM r j).2) (mE paV (allS A (r.take j)))=mE paV (allS A (r.take (j+1))):=by rw[mPut_mE,allS_step hdj]
     refine ES_seq_gen fun L hL=>?_
     simp -implicitDefEqProofs (maxSteps:=99999999) (disch:=first | omega | (simp only[vl];first | done | omega)) only[mk,vu,dj,hg2,pnRR_length,pnR_length,va,vg,vs,vw,vk,simprocAttr]
     refine ⟨by omega,?_⟩
     refine hL _ _ ?_
     clear hL
     refine ES_seq_gen fun L hL=>?_
     simp -implicitDefEqProofs (maxSteps:=99999999) (disch:=first | omega | (simp only[vl];first | done | omega)) only[vu,vg,hg2,hgx,q1,hokA,hmpA,pnRR_length,pnR_length,va,vg,vs,vw,vk,simprocAttr]
     refine ⟨by omega,by omega,by omega,by omega,?_⟩
     refine hL _ _ ?_
     clear hL
     simp -implicitDefEqProofs (maxSteps:=99999999) (disch:=first | omega | (simp only[vl];first | done | omega)) only[mk,vu,va,vg,vs,vw,vk,simprocAttr]
     exact hL3 _ _ ⟨j+1,by omega,⟨AHeap.find_set_same (by omega),by rw[AHeap.set_length];exact q2,fun id hid hne=>by rw[AHeap.find_set_ne hne,q3 id hid hne]⟩,by simp[Fr]⟩ (by simp[intV,mk];omega)
    ·have dj : ¬ (j : Int) < r.length:=by omega
     have en : r.take j=r:=List.take_of_length_le (by omega)
     rw[en] at q1
     simp -implicitDefEqProofs (maxSteps:=99999999) (disch:=first | omega | (simp only[vl];first | done | omega)) only[mk,vu,dj,hg2,pnRR_length,pnR_length,va,vg,vs,vw,vk,simprocAttr]
     refine ⟨by omega,?_⟩
     refine last _ _ ⟨q1,q2,q3⟩ ?_
     simp[Fr]
   ·have hb1 : okF A [] r=false:=by
     cases e : okF A [] r with
     | false=>rfl
     | true=>exact absurd (hF1.2 e) c
    have hP2 : P.2=T:=by
     rw[← hP] at c ⊢
     unfold putS at c ⊢
     split at c
     ·contradiction
     ·rename_i h;rw[if_neg h]
    simp -implicitDefEqProofs (maxSteps:=99999999) (disch:=first | omega | (simp only[vl];first | done | omega)) only[mk,vu,c,hb1,tfB,ftB,va,vg,vs,vw,vk,simprocAttr]
    refine hL _ _ ?_
    clear hL
    refine ES_seq_gen fun L hL=>?_
    refine ES_seq_gen fun L hL=>?_
    simp -implicitDefEqProofs (maxSteps:=99999999) (disch:=first | omega | (simp only[vl];first | done | omega)) only[vu,va,vg,vs,vw,vk,simprocAttr]
    refine hL _ _ ?_
    clear hL
    refine ES_unroll (.s .o) (Lp_next fun L3 hL3=>?_)
    have hI' : KeepI P.2 A G:=⟨p1.keep (fun id hid _=>hG2 id hid) (by omega),gA,by omega,hPg,by rw[hP2];exact i5,i6⟩
    have hlen:=same_len hI'.2.2.2.1.1 hI'.2.2.2.2.2 hI'.2.2.2.2.1
    have hnm:=fun H h=>namesG_d 2 1 P.2 (by omega) H h
    have hnl : (nameR (keyed P.2)).length=A.length:=by rw[nameR_len];simp[keyed,hlen]
    by_cases hr0 : (0 : Int) < r.length
    ·simp -implicitDefEqProofs (maxSteps:=99999999) (disch:=first | omega | (simp only[vl];first | done | omega)) only[mk,vu,hr0,hg2,pnRR_length,pnR_length,va,vg,vs,vw,vk,simprocAttr]
     refine ⟨by omega,?_⟩
     refine hL _ _ ?_
     clear hL
     simp -implicitDefEqProofs (maxSteps:=99999999) (disch:=first | omega | (simp only[vl];first | done | omega)) only[mk,vu,va,vg,vs,vw,vk,simprocAttr]
     refine callR_ret (hnm _ hI'.1) ?_
     simp -implicitDefEqProofs (maxSteps:=99999999) (disch:=first | omega | (simp only[vl];first | done | omega)) only[vu,vg,gA,mE_length,strs_length,hnl,va,vg,vs,vw,vk,simprocAttr]
     refine hL _ _ ?_
     clear hL
     simp -implicitDefEqProofs (maxSteps:=99999999) (disch:=first | omega | (simp only[vl];first | done | omega)) only[mk,vu,va,vg,vs,vw,vk,simprocAttr]
     exact hL2 _ _ ⟨k+1,P.2,A,⟨by omega,by omega⟩,hI',by simp[Fr]⟩ (by simp[intV,mk];omega)
    ·simp -implicitDefEqProofs (maxSteps:=99999999) (disch:=first | omega | (simp only[vl];first | done | omega)) only[mk,vu,hr0,hg2,pnRR_length,pnR_length,va,vg,vs,vw,vk,simprocAttr]
     refine ⟨by omega,?_⟩
     refine hL _ _ ?_
     clear hL
     simp -implicitDefEqProofs (maxSteps:=99999999) (disch:=first | omega | (simp only[vl];first | done | omega)) only[mk,vu,va,vg,vs,vw,vk,simprocAttr]
     refine callR_ret (hnm _ hI'.1) ?_
     simp -implicitDefEqProofs (maxSteps:=99999999) (disch:=first | omega | (simp only[vl];first | done | omega)) only[vu,vg,gA,mE_length,strs_length,hnl,va,vg,vs,vw,vk,simprocAttr]
     refine hL _ _ ?_
     clear hL
     simp -implicitDefEqProofs (maxSteps:=99999999) (disch:=first | omega | (simp only[vl];first | done | omega)) only[mk,vu,va,vg,vs,vw,vk,simprocAttr]
     exact hL2 _ _ ⟨k+1,P.2,A,⟨by omega,by omega⟩,hI',by simp[Fr]⟩ (by simp[intV,mk];omega)
  refine ES_loopL (fun ts G=>∃ (j : Nat) (ok : Bool) (N : List Nm),(j ≤ r.length ∧ (if ok=true then okF A N (r.drop j) else false)=okF A [] r ∧ TabS N) ∧ (AHeap.find G H1.length=some ⟨0,mE paV N,true,0⟩ ∧ H1.length < G.length ∧ ∀ id,id < H1.length→AHeap.find G id=AHeap.find H1 id) ∧ Fr [some (.lst 1 (pnRR l) none),none,none,some (.ptr 1 1 0 0),some (.ptr 0 2 0 0),some (.sc (.int .i64 k)),some (.sc (.int .i64 P.1)),some (.sc (.bool ok)),some (.ptr 0 H1.length 0 0),some (.sc (.int .i64 j)),none,none,none,none,none,none,none,none,none,none,none,none,none,none,none,none,none,none,none,none,none,none,none,none,none,none,none,none,none,none,none,none,none,none,none,none,none,none,none,none,none,none,none,none,none,none,none,none,none,none,none,none,none,none,none,none,none,none,none,none,none,none,none,none,none,none,none,none,none,none,none,none,none,none,none,none,none,none,none,none,none,none,none,none,none,none,none,none,none,none,none,none,none,none,none,none,none,none,none,none,none,none,none,none,none,none,none,none,none,none,none,none,none,none,none,none,none,none,none,none,none,none,none,none,none,none,none,none,none,none,none,none,none,none,none,none,none,none,none,none,none,none,none,none,none,none,none,none,none,none,none,none,none,none,none,none,none,none,none,none,none,none,none,none,none,none,none,none,none,none,none,none,none,none,none,none,none,none,none,none,none,none,none,none,none,none,none,none,none,none,none,none,none,none,none] ts) (fun ts _=>r.length - (intV (ts.getD 9 .top)).toNat) ?_ ?_
  ·exact ⟨0,true,[],⟨Nat.zero_le _,by simp,fun n q h=>by simp[mGet] at h⟩,⟨find_top rfl,by simp,fun id hid=>find_past hid⟩,by simp[Fr]⟩
  rintro ts G ⟨j,ok,N,⟨hj,hb,hTN⟩,⟨f1,f2,f3⟩,hfr⟩ L3 hL3
  obtain ⟨js2,rfl⟩:=hfr.opened
  clear hfr
  by_cases hdj : j < r.length
  rotate_left
  ·have dj : ¬ (j : Int) < r.length:=by omega
   have en : r.drop j=[]:=List.drop_of_length_le (by omega)
   rw[en] at hb
   have hbo : ok=okF A [] r:=by rw[← hb];cases ok <;> rfl
   simp -implicitDefEqProofs (maxSteps:=99999999) (disch:=first | omega | (simp only[vl];first | done | omega)) only[mk,vu,dj,hg2,pnRR_length,pnR_length,va,vg,vs,vw,vk,simprocAttr]
   refine ⟨by omega,?_⟩
   rw[hbo]
   refine key _ _ (by rw[f1];rfl) f3 ?_
   simp[Fr]
  have dj : (j : Int) < r.length:=by omega
  cases ok with
  | false =>
   have hbo : false=okF A [] r:=hb
   simp -implicitDefEqProofs (maxSteps:=99999999) (disch:=first | omega | (simp only[vl];first | done | omega)) only[mk,vu,dj,hg2,pnRR_length,pnR_length,va,vg,vs,vw,vk,simprocAttr]
   refine ⟨by omega,?_⟩
   rw[hbo]
   refine key _ _ (by rw[f1];rfl) f3 ?_
   simp[Fr]
  | true =>
  clear key
  simp only[if_true] at hb
  rw[okF_drop hdj] at hb
  have hx:=hr.nth hdj
  have hgx:=pnR_get hdj
  have fA : AHeap.find G 2=some ⟨0,mE paV A,true,0⟩:=(f3 2 (by omega)).trans i2'
  have hokN:=mE_ok paV N
  have hmpN : mPut (.string (nthM r j).1) (paV (nthM r j).2) (mE paV N)=mE paV (mSetL (nthM r j).1 (nthM r j).2 N):=mPut_mE
  have hn:=fun H=>lname_d (nthM r j).1 hx.1 H
  have hp:=fun H=>pright_d (nthM r j).2 hx.2 H
  refine ES_seq_gen fun L hL=>?_
  simp -implicitDefEqProofs (maxSteps:=99999999) (disch:=first | omega | (simp only[vl];first | done | omega)) only[mk,vu,dj,hg2,pnRR_length,pnR_length,va,vg,vs,vw,vk,simprocAttr]
  refine ⟨by omega,?_⟩
  refine hL _ _ ?_
  clear hL
  refine ES_seq_gen fun L hL=>?_
  refine ES_seq_gen fun L hL=>?_
  simp -implicitDefEqProofs (maxSteps:=99999999) (disch:=first | omega | (simp only[vl];first | done | omega)) only[vu,hg2,hgx,pnRR_length,pnR_length,va,vg,vs,vw,vk,simprocAttr]
  refine ⟨by omega,by omega,?_⟩
  refine hL _ _ ?_
  clear hL
  refine ES_seq_gen fun L hL=>?_
  cases e3 : mGet (nthM r j).1 A with
  | some q =>
   obtain ⟨hix,hmv⟩:=mget_some e3
   simp -implicitDefEqProofs (maxSteps:=99999999) (disch:=first | omega | (simp only[vl];first | done | omega)) only[vu,vg,fA,hok,hix,hmv,va,vg,vs,vw,vk,simprocAttr]
   refine hL _ _ ?_
   clear hL
   refine ES_seq_gen fun L hL=>?_
   simp -implicitDefEqProofs (maxSteps:=99999999) (disch:=first | omega | (simp only[vl];first | done | omega)) only[vu,va,vg,vs,vw,vk,simprocAttr]
   refine hL _ _ ?_
   clear hL
   refine ES_seq_gen fun L hL=>?_
   simp -implicitDefEqProofs (maxSteps:=99999999) (disch:=first | omega | (simp only[vl];first | done | omega)) only[vu,va,vg,vs,vw,vk,simprocAttr]
   refine callR_ret (hn _) ?_
   cases e1 : nmQ (nthM r j).1 with
   | false =>
    have ho : okS A N (nthM r j)=false:=by simp[okS,e1]
    simp -implicitDefEqProofs (maxSteps:=99999999) (disch:=first | omega | (simp only[vl];first | done | omega)) only[vu,va,vg,vs,vw,vk,simprocAttr]
    refine hL _ _ ?_
    clear hL
    simp -implicitDefEqProofs (maxSteps:=99999999) (disch:=first | omega | (simp only[vl];first | done | omega)) only[vu,vg,f1,hokN,hmpN,va,vg,vs,vw,vk,simprocAttr]
    refine hL _ _ ?_
    clear hL
    simp -implicitDefEqProofs (maxSteps:=99999999) (disch:=first | omega | (simp only[vl];first | done | omega)) only[mk,vu,va,vg,vs,vw,vk,simprocAttr]
    rw[ho] at hb
    refine hL3 _ _ ⟨j+1,false,mSetL (nthM r j).1 (nthM r j).2 N,⟨by omega,hb,TabS_set hTN hx.2⟩,⟨?_,?_,fun id hid=>?_⟩,by simp[Fr]⟩ (by simp[intV,mk];omega)
    ·repeat rw[find_past (by first | (rw[AHeap.set_length];omega) | (simp only[List.length_cons,AHeap.set_length];omega))]
     rw[AHeap.find_set_same (by omega)]
    ·simp only[List.length_cons,AHeap.set_length];omega
    ·repeat rw[find_past (by first | (rw[AHeap.set_length];omega) | (simp only[List.length_cons,AHeap.set_length];omega))]
     rw[AHeap.find_set_ne (by omega),f3 id hid]
   | true =>
   simp -implicitDefEqProofs (maxSteps:=99999999) (disch:=first | omega | (simp only[vl];first | done | omega)) only[vu,va,vg,vs,vw,vk,simprocAttr]
   refine callR_ret (hp _) ?_
   cases e2 : rightP (nthM r j).2 with
   | false =>
    have ho : okS A N (nthM r j)=false:=by simp[okS,e2]
    simp -implicitDefEqProofs (maxSteps:=99999999) (disch:=first | omega | (simp only[vl];first | done | omega)) only[vu,va,vg,vs,vw,vk,simprocAttr]
    refine hL _ _ ?_
    clear hL
    simp -implicitDefEqProofs (maxSteps:=99999999) (disch:=first | omega | (simp only[vl];first | done | omega)) only[vu,vg,f1,hokN,hmpN,va,vg,vs,vw,vk,simprocAttr]
    refine hL _ _ ?_
    clear hL
    simp -implicitDefEqProofs (maxSteps:=99999999) (disch:=first | omega | (simp only[vl];first | done | omega)) only[mk,vu,va,vg,vs,vw,vk,simprocAttr]
    rw[ho] at hb
    refine hL3 _ _ ⟨j+1,false,mSetL (nthM r j).1 (nthM r j).2 N,⟨by omega,hb,TabS_set hTN hx.2⟩,⟨?_,?_,fun id hid=>?_⟩,by simp[Fr]⟩ (by simp[intV,mk];omega)
    ·repeat rw[find_past (by first | (rw[AHeap.set_length];omega) | (simp only[List.length_cons,AHeap.set_length];omega))]
     rw[AHeap.find_set_same (by omega)]
    ·simp only[List.length_cons,AHeap.set_length];omega
    ·repeat rw[find_past (by first | (rw[AHeap.set_length];omega) | (simp only[List.length_cons,AHeap.set_length];omega))]
     rw[AHeap.find_set_ne (by omega),f3 id hid]
   | true =>
   simp -implicitDefEqProofs (maxSteps:=99999999) (disch:=first | omega | (simp only[vl];first | done | omega)) only[vu,va,vg,vs,vw,vk,simprocAttr]
   refine callR_ret (ksame_d q (nthM r j).2 (hTA _ _ e3) _) ?_
   have ho : okS A N (nthM r j)=sameP q (nthM r j).2:=by simp[okS,e1,e2,e3]
   simp -implicitDefEqProofs (maxSteps:=99999999) (disch:=first | omega | (simp only[vl];first | done | omega)) only[vu,va,vg,vs,vw,vk,simprocAttr]
   refine hL _ _ ?_
   clear hL
   simp -implicitDefEqProofs (maxSteps:=99999999) (disch:=first | omega | (simp only[vl];first | done | omega)) only[vu,vg,f1,hokN,hmpN,va,vg,vs,vw,vk,simprocAttr]
   refine hL _ _ ?_
   clear hL
   simp -implicitDefEqProofs (maxSteps:=99999999) (disch:=first | omega | (simp only[vl];first | done | omega)) only[mk,vu,va,vg,vs,vw,vk,simprocAttr]
   rw[ho] at hb
   refine hL3 _ _ ⟨j+1,sameP q (nthM r j).2,mSetL (nthM r j).1 (nthM r j).2 N,⟨by omega,hb,TabS_set hTN hx.2⟩,⟨?_,?_,fun id hid=>?_⟩,by simp[Fr]⟩ (by simp[intV,mk];omega)
   ·repeat rw[find_past (by first | (rw[AHeap.set_length];omega) | (simp only[List.length_cons,AHeap.set_length];omega))]
    rw[AHeap.find_set_same (by omega)]
   ·simp only[List.length_cons,AHeap.set_length];omega
   ·repeat rw[find_past (by first | (rw[AHeap.set_length];omega) | (simp only[List.length_cons,AHeap.set_length];omega))]
    rw[AHeap.find_set_ne (by omega),f3 id hid]
  | none =>
   obtain ⟨hix,hmv⟩:=mget_none e3
   simp -implicitDefEqProofs (maxSteps:=99999999) (disch:=first | omega | (simp only[vl];first | done | omega)) only[vu,vg,fA,hok,hix,hmv,Nat.lt_irrefl,va,vg,vs,vw,vk,simprocAttr]
   refine hL _ _ ?_
   clear hL
   refine ES_seq_gen fun L hL=>?_
   cases e4 : mGet (nthM r j).1 N with
   | some q2 =>
    obtain ⟨hix2,hmv2⟩:=mget_some e4
    simp -implicitDefEqProofs (maxSteps:=99999999) (disch:=first | omega | (simp only[vl];first | done | omega)) only[vu,vg,f1,hokN,hix2,hmv2,va,vg,vs,vw,vk,simprocAttr]
    refine hL _ _ ?_
    clear hL
    refine ES_seq_gen fun L hL=>?_
    simp -implicitDefEqProofs (maxSteps:=99999999) (disch:=first | omega | (simp only[vl];first | done | omega)) only[vu,va,vg,vs,vw,vk,simprocAttr]
    refine callR_ret (hn _) ?_
    cases e1 : nmQ (nthM r j).1 with
    | false =>
     have ho : okS A N (nthM r j)=false:=by simp[okS,e1]
     simp -implicitDefEqProofs (maxSteps:=99999999) (disch:=first | omega | (simp only[vl];first | done | omega)) only[vu,va,vg,vs,vw,vk,simprocAttr]
     refine hL _ _ ?_
     clear hL
     simp -implicitDefEqProofs (maxSteps:=99999999) (disch:=first | omega | (simp only[vl];first | done | omega)) only[vu,vg,f1,hokN,hmpN,va,vg,vs,vw,vk,simprocAttr]
     refine hL _ _ ?_
     clear hL
     simp -implicitDefEqProofs (maxSteps:=99999999) (disch:=first | omega | (simp only[vl];first | done | omega)) only[mk,vu,va,vg,vs,vw,vk,simprocAttr]
     rw[ho] at hb
     refine hL3 _ _ ⟨j+1,false,mSetL (nthM r j).1 (nthM r j).2 N,⟨by omega,hb,TabS_set hTN hx.2⟩,⟨?_,?_,fun id hid=>?_⟩,by simp[Fr]⟩ (by simp[intV,mk];omega)
     ·repeat rw[find_past (by first | (rw[AHeap.set_length];omega) | (simp only[List.length_cons,AHeap.set_length];omega))]
      rw[AHeap.find_set_same (by omega)]
     ·simp only[List.length_cons,AHeap.set_length];omega
     ·repeat rw[find_past (by first | (rw[AHeap.set_length];omega) | (simp only[List.length_cons,AHeap.set_length];omega))]
      rw[AHeap.find_set_ne (by omega),f3 id hid]
    | true =>
    simp -implicitDefEqProofs (maxSteps:=99999999) (disch:=first | omega | (simp only[vl];first | done | omega)) only[vu,va,vg,vs,vw,vk,simprocAttr]
    refine callR_ret (hp _) ?_
    cases e2 : rightP (nthM r j).2 with
    | false =>
     have ho : okS A N (nthM r j)=false:=by simp[okS,e2]
     simp -implicitDefEqProofs (maxSteps:=99999999) (disch:=first | omega | (simp only[vl];first | done | omega)) only[vu,va,vg,vs,vw,vk,simprocAttr]
     refine hL _ _ ?_
     clear hL
     simp -implicitDefEqProofs (maxSteps:=99999999) (disch:=first | omega | (simp only[vl];first | done | omega)) only[vu,vg,f1,hokN,hmpN,va,vg,vs,vw,vk,simprocAttr]
     refine hL _ _ ?_
     clear hL
     simp -implicitDefEqProofs (maxSteps:=99999999) (disch:=first | omega | (simp only[vl];first | done | omega)) only[mk,vu,va,vg,vs,vw,vk,simprocAttr]
     rw[ho] at hb
     refine hL3 _ _ ⟨j+1,false,mSetL (nthM r j).1 (nthM r j).2 N,⟨by omega,hb,TabS_set hTN hx.2⟩,⟨?_,?_,fun id hid=>?_⟩,by simp[Fr]⟩ (by simp[intV,mk];omega)
     ·repeat rw[find_past (by first | (rw[AHeap.set_length];omega) | (simp only[List.length_cons,AHeap.set_length];omega))]
      rw[AHeap.find_set_same (by omega)]
     ·simp only[List.length_cons,AHeap.set_length];omega
     ·repeat rw[find_past (by first | (rw[AHeap.set_length];omega) | (simp only[List.length_cons,AHeap.set_length];omega))]
      rw[AHeap.find_set_ne (by omega),f3 id hid]
    | true =>
    simp -implicitDefEqProofs (maxSteps:=99999999) (disch:=first | omega | (simp only[vl];first | done | omega)) only[vu,va,vg,vs,vw,vk,simprocAttr]
    refine callR_ret (ksame_d q2 (nthM r j).2 (hTN _ _ e4) _) ?_
    have ho : okS A N (nthM r j)=sameP q2 (nthM r j).2:=by simp[okS,e1,e2,e3,e4]
    simp -implicitDefEqProofs (maxSteps:=99999999) (disch:=first | omega | (simp only[vl];first | done | omega)) only[vu,va,vg,vs,vw,vk,simprocAttr]
    refine hL _ _ ?_
    clear hL
    simp -implicitDefEqProofs (maxSteps:=99999999) (disch:=first | omega | (simp only[vl];first | done | omega)) only[vu,vg,f1,hokN,hmpN,va,vg,vs,vw,vk,simprocAttr]
    refine hL _ _ ?_
    clear hL
    simp -implicitDefEqProofs (maxSteps:=99999999) (disch:=first | omega | (simp only[vl];first | done | omega)) only[mk,vu,va,vg,vs,vw,vk,simprocAttr]
    rw[ho] at hb
    refine hL3 _ _ ⟨j+1,sameP q2 (nthM r j).2,mSetL (nthM r j).1 (nthM r j).2 N,⟨by omega,hb,TabS_set hTN hx.2⟩,⟨?_,?_,fun id hid=>?_⟩,by simp[Fr]⟩ (by simp[intV,mk];omega)
    ·repeat rw[find_past (by first | (rw[AHeap.set_length];omega) | (simp only[List.length_cons,AHeap.set_length];omega))]
     rw[AHeap.find_set_same (by omega)]
    ·simp only[List.length_cons,AHeap.set_length];omega
    ·repeat rw[find_past (by first | (rw[AHeap.set_length];omega) | (simp only[List.length_cons,AHeap.set_length];omega))]
     rw[AHeap.find_set_ne (by omega),f3 id hid]
   | none =>
    obtain ⟨hix2,hmv2⟩:=mget_none e4
    simp -implicitDefEqProofs (maxSteps:=99999999) (disch:=first | omega | (simp only[vl];first | done | omega)) only[vu,vg,f1,hokN,hix2,hmv2,Nat.lt_irrefl,va,vg,vs,vw,vk,simprocAttr]
    refine hL _ _ ?_
    clear hL
    refine ES_seq_gen fun L hL=>?_
    simp -implicitDefEqProofs (maxSteps:=99999999) (disch:=first | omega | (simp only[vl];first | done | omega)) only[vu,va,vg,vs,vw,vk,simprocAttr]
    refine callR_ret (hn _) ?_
    cases e1 : nmQ (nthM r j).1 with
    | false =>
     have ho : okS A N (nthM r j)=false:=by simp[okS,e1]
     simp -implicitDefEqProofs (maxSteps:=99999999) (disch:=first | omega | (simp only[vl];first | done | omega)) only[vu,va,vg,vs,vw,vk,simprocAttr]
     refine hL _ _ ?_
     clear hL
     simp -implicitDefEqProofs (maxSteps:=99999999) (disch:=first | omega | (simp only[vl];first | done | omega)) only[vu,vg,f1,hokN,hmpN,va,vg,vs,vw,vk,simprocAttr]
     refine hL _ _ ?_
     clear hL
     simp -implicitDefEqProofs (maxSteps:=99999999) (disch:=first | omega | (simp only[vl];first | done | omega)) only[mk,vu,va,vg,vs,vw,vk,simprocAttr]
     rw[ho] at hb
     refine hL3 _ _ ⟨j+1,false,mSetL (nthM r j).1 (nthM r j).2 N,⟨by omega,hb,TabS_set hTN hx.2⟩,⟨?_,?_,fun id hid=>?_⟩,by simp[Fr]⟩ (by simp[intV,mk];omega)
     ·repeat rw[find_past (by first | (rw[AHeap.set_length];omega) | (simp only[List.length_cons,AHeap.set_length];omega))]
      rw[AHeap.find_set_same (by omega)]
     ·simp only[List.length_cons,AHeap.set_length];omega
     ·repeat rw[find_past (by first | (rw[AHeap.set_length];omega) | (simp only[List.length_cons,AHeap.set_length];omega))]
      rw[AHeap.find_set_ne (by omega),f3 id hid]
    | true =>
    simp -implicitDefEqProofs (maxSteps:=99999999) (disch:=first | omega | (simp only[vl];first | done | omega)) only[vu,va,vg,vs,vw,vk,simprocAttr]
    refine callR_ret (hp _) ?_
    cases e2 : rightP (nthM r j).2 with
    | false =>
     have ho : okS A N (nthM r j)=false:=by simp[okS,e2]
     simp -implicitDefEqProofs (maxSteps:=99999999) (disch:=first | omega | (simp only[vl];first | done | omega)) only[vu,va,vg,vs,vw,vk,simprocAttr]
     refine hL _ _ ?_
     clear hL
     simp -implicitDefEqProofs (maxSteps:=99999999) (disch:=first | omega | (simp only[vl];first | done | omega)) only[vu,vg,f1,hokN,hmpN,va,vg,vs,vw,vk,simprocAttr]
     refine hL _ _ ?_
     clear hL
     simp -implicitDefEqProofs (maxSteps:=99999999) (disch:=first | omega | (simp only[vl];first | done | omega)) only[mk,vu,va,vg,vs,vw,vk,simprocAttr]
     rw[ho] at hb
     refine hL3 _ _ ⟨j+1,false,mSetL (nthM r j).1 (nthM r j).2 N,⟨by omega,hb,TabS_set hTN hx.2⟩,⟨?_,?_,fun id hid=>?_⟩,by simp[Fr]⟩ (by simp[intV,mk];omega)
     ·repeat rw[find_past (by first | (rw[AHeap.set_length];omega) | (simp only[List.length_cons,AHeap.set_length];omega))]
      rw[AHeap.find_set_same (by omega)]
     ·simp only[List.length_cons,AHeap.set_length];omega
     ·repeat rw[find_past (by first | (rw[AHeap.set_length];omega) | (simp only[List.length_cons,AHeap.set_length];omega))]
      rw[AHeap.find_set_ne (by omega),f3 id hid]
    | true =>
    simp -implicitDefEqProofs (maxSteps:=99999999) (disch:=first | omega | (simp only[vl];first | done | omega)) only[vu,va,vg,vs,vw,vk,simprocAttr]
    have ho : okS A N (nthM r j)=true:=by simp[okS,e1,e2,e3,e4]
    refine hL _ _ ?_
    clear hL
    simp -implicitDefEqProofs (maxSteps:=99999999) (disch:=first | omega | (simp only[vl];first | done | omega)) only[vu,vg,f1,hokN,hmpN,va,vg,vs,vw,vk,simprocAttr]
    refine hL _ _ ?_
    clear hL
    simp -implicitDefEqProofs (maxSteps:=99999999) (disch:=first | omega | (simp only[vl];first | done | omega)) only[mk,vu,va,vg,vs,vw,vk,simprocAttr]
    rw[ho] at hb
    refine hL3 _ _ ⟨j+1,true,mSetL (nthM r j).1 (nthM r j).2 N,⟨by omega,hb,TabS_set hTN hx.2⟩,⟨?_,?_,fun id hid=>?_⟩,by simp[Fr]⟩ (by simp[intV,mk];omega)
    ·repeat rw[find_past (by first | (rw[AHeap.set_length];omega) | (simp only[List.length_cons,AHeap.set_length];omega))]
     rw[AHeap.find_set_same (by omega)]
    ·simp only[List.length_cons,AHeap.set_length];omega
    ·repeat rw[find_past (by first | (rw[AHeap.set_length];omega) | (simp only[List.length_cons,AHeap.set_length];omega))]
     rw[AHeap.find_set_ne (by omega),f3 id hid]
 ·have d1 : ¬ (k : Int) < l.length:=by omega
  obtain ⟨i1,i2,i3,i4,i5,i6⟩:=hI
  have hTn : T.length ≤ 1000000:=by have:=lenS_le l k;omega
  have hnm:=fun H h=>namesG_d 2 1 T hTn H h
  have hnl : (nameR (keyed T)).length=T.length:=by rw[nameR_len];simp[keyed]
  obtain ⟨ns,hns⟩ : ∃ ns,nameR (keyed T)=ns:=⟨_,rfl⟩
  have hmem : ∀ n,n ∈ ns→∃ q,mGet n T=some q:=fun n hn=>Option.isSome_iff_exists.1 (names_mem (by rw[hns];exact hn))
  have hrise : ∀ i,i+1 < ns.length→Op.bytesLess (nthS ns i).toList (nthS ns (i+1)).toList=true:=fun i hi=>by
   have:=names_rise i4.1 (i:=i) (by rw[hns];exact hi)
   rwa [hns] at this
  rw[hns] at hnm hnl
  simp -implicitDefEqProofs (maxSteps:=99999999) (disch:=first | omega | (simp only[vl];first | done | omega)) only[mk,vu,d1,pnRR_length,va,vg,vs,vw,vk,simprocAttr]
  clear hL2
  refine hL _ _ ?_
  clear hL
  refine ES_seq_gen fun L hL=>?_
  simp -implicitDefEqProofs (maxSteps:=99999999) (disch:=first | omega | (simp only[vl];first | done | omega)) only[vu,va,vg,vs,vw,vk,simprocAttr]
  refine callR_ret (hnm _ i1) ?_
  simp -implicitDefEqProofs (maxSteps:=99999999) (disch:=first | omega | (simp only[vl];first | done | omega)) only[vu,va,vg,vs,vw,vk,simprocAttr]
  refine hL _ _ ?_
  clear hL
  refine ES_seq_gen fun L hL=>?_
  simp -implicitDefEqProofs (maxSteps:=99999999) (disch:=first | omega | (simp only[vl];first | done | omega)) only[vu,va,vg,vs,vw,vk,simprocAttr]
  refine hL _ _ ?_
  clear hL
  refine ES_seq_gen fun L hL=>?_
  refine ES_seq_gen fun L hL=>?_
  simp -implicitDefEqProofs (maxSteps:=99999999) (disch:=first | omega | (simp only[vl];first | done | omega)) only[vu,va,vg,vs,vw,vk,simprocAttr]
  refine hL _ _ ?_
  clear hL
  clear L
  refine ES_loopL (fun ts G=>∃ (j aid : Nat),(j ≤ ns.length ∧ (j ≠ 0→AHeap.find G aid=some ⟨15,pnR (agn T ns j),false,60⟩ ∧ F.length ≤ aid)) ∧ (F.length ≤ G.length ∧ ∀ id,id < F.length→AHeap.find G id=AHeap.find F id) ∧ Fr [none,none,none,some (.ptr 1 1 0 0),some (.ptr 0 2 0 0),none,none,none,none,none,none,none,none,none,some (.lst 1 (strs ns) none),some (if j=0 then .lst 0 [] (some []) else .vec 15 aid 0 j none),some (.sc (.int .i64 j)),none,none,none,none,none,none,none,none,none,none,none,none,none,none,none,none,none,none,none,none,none,none,none,none,none,none,none,none,none,none,none,none,none,none,none,none,none,none,none,none,none,none,none,none,none,none,none,none,none,none,none,none,none,none,none,none,none,none,none,none,none,none,none,none,none,none,none,none,none,none,none,none,none,none,none,none,none,none,none,none,none,none,none,none,none,none,none,none,none,none,none,none,none,none,none,none,none,none,none,none,none,none,none,none,none,none,none,none,none,none,none,none,none,none,none,none,none,none,none,none,none,none,none,none,none,none,none,none,none,none,none,none,none,none,none,none,none,none,none,none,none,none,none,none,none,none,none,none,none,none,none,none,none,none,none,none,none,none,none,none,none,none,none,none,none,none,none,none,none,none,none,none,none,none,none,none,none,none,none,none,none,none,none,none,none,none,none,none] ts) (fun ts _=>ns.length - (intV (ts.getD 16 .top)).toNat) ?_ ?_
  ·exact ⟨0,0,⟨Nat.zero_le _,fun h=>absurd rfl h⟩,⟨Nat.le_refl _,fun id _=>rfl⟩,by simp[Fr]⟩
  rintro ts G ⟨j,aid,⟨hj,ha⟩,⟨g1,g2⟩,hfr⟩ L3 hL3
  obtain ⟨js2,rfl⟩:=hfr.opened
  clear hfr
  by_cases hdj : j < ns.length
  ·have dj : (j : Int) < ns.length:=by omega
   have hgs:=strs_get hdj
   obtain ⟨q,hq⟩:=hmem (nthS ns j) (by rw[nthS_eq hdj];exact List.getElem_mem _)
   have hqA : mGet (nthS ns j) A=some q:=by rw[← i5];exact hq
   obtain ⟨hix,hmv⟩:=mget_some hqA
   obtain ⟨gr1,gr2,gr3⟩:=i4.2 _ _ hq
   have hok:=mE_ok paV A
   have hget:=fun H h=>getG_d 2 1 T (nthS ns j) (fun q' hq'=>(i4.2 _ _ hq').2) H h
   have hgR : getR T (nthS ns j) = .tup [paV q,.sc (.bool true)]:=by unfold getR;rw[hq]
   rw[hgR] at hget
   have hsm:=fun H=>ksame_d q q gr3 H
   rw[sameP_refl] at hsm
   have hri:=fun H=>pright_d q gr3 H
   rw[gr2] at hri
   have fA : AHeap.find G 2=some ⟨0,mE paV A,true,0⟩:=(g2 2 (by omega)).trans i2
   have hSt : StoreAt 2 1 T G:=i1.keep (fun id hid _=>g2 id hid) (by omega)
   have hag : pnR (agn T ns j) ++ [.agg [.sc (.string (nthS ns j)),.sc (.int .u8 q.k),.sc (.string q.file),.sc (.string q.text),.sc (.int .i64 q.h.at_),.lst 1 (strs q.h.old) none,.lst 1 (strs q.h.new) none,.sc (.int .u8 q.e.k),.lst 1 (pthA q.e.path) none,.sc (.int .i64 q.e.at_),.sc (.int .i64 q.e.far),.sc (.string q.e.fr),.sc (.string q.e.to_),.lst 4 (ndL q.e.old) none,.lst 4 (ndL q.e.new) none]]=pnR (agn T ns (j+1)):=agn_succ (T:=T) hdj hq
   refine ES_seq_gen fun L hL=>?_
   simp -implicitDefEqProofs (maxSteps:=99999999) (disch:=first | omega | (simp only[vl];first | done | omega)) only[mk,vu,dj,strs_length,va,vg,vs,vw,vk,simprocAttr]
   refine hL _ _ ?_
   clear hL
   refine ES_seq_gen fun L hL=>?_
   refine ES_seq_gen fun L hL=>?_
   simp -implicitDefEqProofs (maxSteps:=99999999) (disch:=first | omega | (simp only[vl];first | done | omega)) only[vu,hgs,strs_length,va,vg,vs,vw,vk,simprocAttr]
   refine ⟨by omega,callR_ret (hget _ hSt) ?_⟩
   simp -implicitDefEqProofs (maxSteps:=99999999) (disch:=first | omega | (simp only[vl];first | done | omega)) only[vu,va,vg,vs,vw,vk,simprocAttr]
   refine hL _ _ ?_
   clear hL
   refine ES_seq_gen fun L hL=>?_
   rcases Nat.eq_zero_or_pos j with hj0 | hj0
   ·subst hj0
    simp -implicitDefEqProofs (maxSteps:=99999999) (disch:=first | omega | (simp only[vl];first | done | omega)) only[vu,vg,fA,hok,hix,hmv,hgs,strs_length,va,vg,vs,vw,vk,simprocAttr]
    refine ⟨by omega,callD_same (hsm _) ?_⟩
    simp -implicitDefEqProofs (maxSteps:=99999999) (disch:=first | omega | (simp only[vl];first | done | omega)) only[vu,va,vg,vs,vw,vk,simprocAttr]
    refine callD_same (hri _) ?_
    simp -implicitDefEqProofs (maxSteps:=99999999) (disch:=first | omega | (simp only[vl];first | done | omega)) only[vu,va,vg,vs,vw,vk,simprocAttr]
    refine hL _ _ ?_
    clear hL
    simp -implicitDefEqProofs (maxSteps:=99999999) (disch:=first | omega | (simp only[vl];first | done | omega)) only[vu,vg,hgs,strs_length,va,vg,vs,vw,vk,simprocAttr]
    refine ⟨by omega,?_⟩
    refine hL _ _ ?_
    clear hL
    simp -implicitDefEqProofs (maxSteps:=99999999) (disch:=first | omega | (simp only[vl];first | done | omega)) only[mk,vu,va,vg,vs,vw,vk,simprocAttr]
    refine hL3 _ _ ⟨1,G.length+1,⟨by omega,fun _=>⟨?_,by omega⟩⟩,⟨by simp only[List.length_cons];omega,fun id hid=>?_⟩,by simp[Fr]⟩ (by simp[intV,mk];omega)
    ·rw[find_top (by simp),← hag]
     rfl
    ·rw[find_past (by simp only[List.length_cons];omega),find_past (by omega),g2 id hid]
   ·obtain ⟨i,rfl⟩ : ∃ i,j=i+1:=⟨j - 1,by omega⟩
    have hi1 : ((i+1 : Nat) : Int) - 1=(i : Int):=by omega
    have hi0 : ((i+1 : Nat) : Int) > 0:=by omega
    have hgs0:=strs_get (l:=ns) (k:=i) (by omega)
    have hbl:=hrise i hdj
    have hi2 : (i : Int) < ns.length:=by omega
    obtain ⟨fo,hao⟩:=ha (by omega)
    have hal:=AHeap.find_lt fo
    have hpl : (pnR (agn T ns (i+1))).length=i+1:=agn_length hj
    simp -implicitDefEqProofs (maxSteps:=99999999) (disch:=first | omega | (simp only[vl];first | done | omega)) only[vu,vg,fA,hok,hix,hmv,hgs,hgs0,hi1,hi0,hi2,hbl,strs_length,va,vg,vs,vw,vk,simprocAttr]
    refine ⟨by omega,by omega,by omega,callD_same (hsm _) ?_⟩
    simp -implicitDefEqProofs (maxSteps:=99999999) (disch:=first | omega | (simp only[vl];first | done | omega)) only[vu,va,vg,vs,vw,vk,simprocAttr]
    refine callD_same (hri _) ?_
    simp -implicitDefEqProofs (maxSteps:=99999999) (disch:=first | omega | (simp only[vl];first | done | omega)) only[vu,va,vg,vs,vw,vk,simprocAttr]
    refine hL _ _ ?_
    clear hL
    simp -implicitDefEqProofs (maxSteps:=99999999) (disch:=first | omega | (simp only[vl];first | done | omega)) only[vu,vg,hgs,strs_length,fo,hag,hpl,va,vg,vs,vw,vk,simprocAttr]
    refine ⟨by omega,by omega,?_⟩
    refine hL _ _ ?_
    clear hL
    simp -implicitDefEqProofs (maxSteps:=99999999) (disch:=first | omega | (simp only[vl];first | done | omega)) only[mk,vu,va,vg,vs,vw,vk,simprocAttr]
    refine hL3 _ _ ⟨i+2,G.length+1,⟨by omega,fun _=>⟨?_,by omega⟩⟩,⟨by simp only[List.length_cons,AHeap.set_length];omega,fun id hid=>?_⟩,by simp[Fr];omega⟩ (by simp[intV,mk];omega)
    ·rw[find_top (by simp[AHeap.set_length])]
    ·rw[find_past (by simp only[List.length_cons,AHeap.set_length];omega),find_past (by rw[AHeap.set_length];omega),AHeap.find_set_ne (by omega),g2 id hid]
  ·have dj : ¬ (j : Int) < ns.length:=by omega
   have hjn : j=ns.length:=by omega
   simp -implicitDefEqProofs (maxSteps:=99999999) (disch:=first | omega | (simp only[vl];first | done | omega)) only[mk,vu,dj,strs_length,va,vg,vs,vw,vk,simprocAttr]
   clear hL3
   refine hL _ _ ?_
   clear hL
   refine ES_seq_gen fun L hL=>?_
   have hall : ∀ x ∈ agn T ns j,mGet x.1 T=some x.2:=agn_all hmem
   have hsmA : SmL (agn T ns j):=⟨by have:=agn_length (T:=T) hj;rw[pnR_length] at this;omega,fun x hx=>by
    obtain ⟨y1,y2,y3⟩:=i4.2 _ _ (hall x hx)
    exact ⟨nmQ_size y1,y3⟩⟩
   have hput:=again_put i4 hall
   have hst:=fun H=>sameTexts_d ns ns none none H (by omega)
   rcases Nat.eq_zero_or_pos j with hj0 | hj0
   ·subst hj0
    simp -implicitDefEqProofs (maxSteps:=99999999) (disch:=first | omega | (simp only[vl];first | done | omega)) only[vu,va,vg,vs,vw,vk,simprocAttr]
    refine callR_dk (DK_le (.cons .refl (.cons .nil .nil)) (putG_d 2 1 T [] (good_tab i4) ⟨by simp,by simp⟩ none _ (by omega) (by omega) (i1.keep (fun id hid _=>g2 id hid) (by omega)))) ?_
    rintro en H2 _ ⟨rfl,p1,-,-⟩
    show runS _ _ _ _ _ _
    have e0 : putS T []=(0,T):=rfl
    rw[e0] at p1 ⊢
    simp -implicitDefEqProofs (maxSteps:=99999999) (disch:=first | omega | (simp only[vl];first | done | omega)) only[vu,va,vg,vs,vw,vk,simprocAttr]
    refine callR_ret (hnm _ p1) ?_
    simp -implicitDefEqProofs (maxSteps:=99999999) (disch:=first | omega | (simp only[vl];first | done | omega)) only[vu,va,vg,vs,vw,vk,simprocAttr]
    refine callR_ret (hst _) ?_
    simp -implicitDefEqProofs (maxSteps:=99999999) (disch:=first | omega | (simp only[vl];first | done | omega)) only[vu,va,vg,vs,vw,vk,simprocAttr]
    refine hL _ _ ?_
    clear hL
    simp -implicitDefEqProofs (maxSteps:=99999999) (disch:=first | omega | (simp only[vl];first | done | omega)) only[vu,va,vg,vs,vw,vk,simprocAttr]
    exact wend
   ·obtain ⟨i,rfl⟩ : ∃ i,j=i+1:=⟨j - 1,by omega⟩
    obtain ⟨fo,hao⟩:=ha (by omega)
    have hal:=AHeap.find_lt fo
    have hpl : (pnR (agn T ns (i+1))).length=i+1:=agn_length hj
    have hz : FrzL aid ⟨15,pnR (agn T ns (i+1)),false,60⟩ [.ptr 1 1 0 0,.vec 15 aid 0 (i+1) none] [.ptr 1 1 0 0,.lst 15 (pnR (agn T ns (i+1))) none]:=by
     have h1:=FrzL.keep (id:=aid) (blk:=⟨15,pnR (agn T ns (i+1)),false,60⟩) (x:=.ptr 1 1 0 0) (FrzL.vec (k:=15) (off:=0) (n:=i+1) (c:=none) rfl (by simp only;omega) .nil)
     have h2 : ((pnR (agn T ns (i+1))).drop 0).take (i+1)=pnR (agn T ns (i+1)):=by rw[List.drop_zero,List.take_of_length_le (by omega)]
     simp only at h1
     rwa [h2] at h1
    simp -implicitDefEqProofs (maxSteps:=99999999) (disch:=first | omega | (simp only[vl];first | done | omega)) only[vu,va,vg,vs,vw,vk,simprocAttr]
    refine callR_dk (DK_frz fo hz (putG_d 2 1 T (agn T ns (i+1)) (good_tab i4) hsmA none _ (by rw[AHeap.set_length];omega) (by omega) (i1.keep (fun id hid _=>by rw[AHeap.find_set_ne (by omega),g2 id hid]) (by omega)))) ?_
    rintro en H2 _ ⟨rfl,p1,-,-⟩
    show runS _ _ _ _ _ _
    rw[hput] at p1 ⊢
    simp -implicitDefEqProofs (maxSteps:=99999999) (disch:=first | omega | (simp only[vl];first | done | omega)) only[vu,va,vg,vs,vw,vk,simprocAttr]
    refine callR_ret (hnm _ p1) ?_
    simp -implicitDefEqProofs (maxSteps:=99999999) (disch:=first | omega | (simp only[vl];first | done | omega)) only[vu,va,vg,vs,vw,vk,simprocAttr]
    refine callR_ret (hst _) ?_
    simp -implicitDefEqProofs (maxSteps:=99999999) (disch:=first | omega | (simp only[vl];first | done | omega)) only[vu,va,vg,vs,vw,vk,simprocAttr]
    refine hL _ _ ?_
    clear hL
    simp -implicitDefEqProofs (maxSteps:=99999999) (disch:=first | omega | (simp only[vl];first | done | omega)) only[vu,va,vg,vs,vw,vk,simprocAttr]
    exact wend
end Go.Proofs.YtdjnccnecgblmaaGreatDoor
