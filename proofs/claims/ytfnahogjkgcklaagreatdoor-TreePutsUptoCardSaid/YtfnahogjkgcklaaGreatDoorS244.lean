import Derived.Test.YtfnahogjkgcklaaGreatDoorS243
namespace Go.Proofs.YtfnahogjkgcklaaGreatDoor
open Go.RowKit
set_option maxRecDepth 100000
set_option linter.unusedVariables false
set_option linter.unusedSimpArgs false
set_option maxHeartbeats 0 in
theorem rrec_d (t : Nd) : ∀ (ro : Option (List AV)) (m : Nat) (hm41 : m ≤ 41) (hz : t.size ≤ 1000000) (H : AHeap),D Tryz.prog 43 [ndR t ro,.sc (.int .i64 m)] H (.ret (.sc (.bool (rightN t m)))) H:=by
 induction t using Nd.ind with
 | _ t ih =>
  intro ro m hm41 hz H
  have hkl:=Nd.kids_le t
  have hP:=rightN_eq t m
  have htx : ∀ H,D Tryz.prog 80 [.agg [.sc (.int .u8 t.kind),.sc (.string t.text),.sc (.int .i64 t.num),.lst 4 (ndL t.kids) ro]] H (.ret (.sc (.bool (textQ t)))) H:=fun H=>text_d t ro H
  have hset : ∀ h : t.kind=7,locQ t=true→t.kids.length=2:=fun h h2=>set_two h h2
  have hLoc : locQ t=(knownQ t.kind && numQ t.kind t.num && textQ t && (decide (manyQ t.kind < 0) || decide ((t.kids.length : Int)=manyQ t.kind))):=rfl
  refine D_of_DK (Nat.le_refl _) (dk43 (E_of_ES ?_))
  simp only[ic43,ux]
  rw[ndR_eq]
  have hdone : ∀ H F : AHeap,Over H F→rightN t m=false→Weak H (.ret (.sc (.bool false))) F (.ret (.sc (.bool (rightN t m)))) H:=fun H F h e=>by rw[e];exact weak_sc h
  refine ES_seq_gen fun L hL=>?_
  simp -implicitDefEqProofs (maxSteps:=99999999) (disch:=first | omega | (simp only[vl];first | done | omega)) only[vu,va,vg,vs,vw,vk,simprocAttr]
  refine hL _ _ ?_
  clear hL
  refine ES_seq_gen fun L hL=>?_
  suffices key : ∀ ts,Fr [none,some (.sc (.int .i64 m)),some (.ptr 4 H.length 0 0),none,some (.sc (.bool false)),some (.sc (.bool (knownQ t.kind))),none,none,none,none,none,none,none,none,none,none,none,none,none,none,none,none,none,none,none,none,none,none,none,none,none,none,none,none,none,none,none,none,none,none,none,none,none,none,none,none,none,none,none,none,none,none,none,none,none,none,none,none,none,none,none,none,none,none,none,none,none,none,none,none,none,none,none,none,none,none,none,none,none,none,none,none,none,none,none,none,none,none,none,none,none,none,none,none,none,none,none,none,none,none,none,none,none,none,none,none,none,none,none,none,none,none,none,none,none,none,none,none,none,none,none,none,none,none,none] ts→L ts (some ⟨4,[.agg [.sc (.int .u8 t.kind),.sc (.string t.text),.sc (.int .i64 t.num),.lst 4 (ndL t.kids) ro]],true,25⟩ :: H) by
   by_cases a1 : t.kind ≥ 1
   ·by_cases a2 : t.kind ≤ 12
    ·have e : knownQ t.kind=true:=by simp[knownQ,a2];omega
     simp -implicitDefEqProofs (maxSteps:=99999999) (disch:=first | omega | (simp only[vl];first | done | omega)) only[vu,a1,a2,va,vg,vs,vw,vk,simprocAttr]
     exact key _ (by simp[Fr,e])
    ·have e : knownQ t.kind=exprP t.kind:=by simp[knownQ,a2]
     simp -implicitDefEqProofs (maxSteps:=99999999) (disch:=first | omega | (simp only[vl];first | done | omega)) only[vu,a1,a2,va,vg,vs,vw,vk,simprocAttr]
     refine callR_ret (exprR_d _ _) ?_
     simp -implicitDefEqProofs (maxSteps:=99999999) (disch:=first | omega | (simp only[vl];first | done | omega)) only[vu,va,vg,vs,vw,vk,simprocAttr]
     exact key _ (by simp[Fr,e])
   ·have e : knownQ t.kind=exprP t.kind:=by simp[knownQ];omega
    simp -implicitDefEqProofs (maxSteps:=99999999) (disch:=first | omega | (simp only[vl];first | done | omega)) only[vu,a1,va,vg,vs,vw,vk,simprocAttr]
    refine callR_ret (exprR_d _ _) ?_
    simp -implicitDefEqProofs (maxSteps:=99999999) (disch:=first | omega | (simp only[vl];first | done | omega)) only[vu,va,vg,vs,vw,vk,simprocAttr]
    exact key _ (by simp[Fr,e])
  intro ts hfr
  obtain ⟨js,rfl⟩:=hfr.opened
  clear hfr
  refine hL _ _ ?_
  clear hL
  refine ES_seq_gen fun L hL=>?_
  suffices key : ∀ ts,Fr [none,some (.sc (.int .i64 m)),some (.ptr 4 H.length 0 0),none,some (.sc (.bool false)),some (.sc (.bool (knownQ t.kind))),some (.sc (.bool (numQ t.kind t.num))),none,none,none,none,none,none,none,none,none,none,none,none,none,none,none,none,none,none,none,none,none,none,none,none,none,none,none,none,none,none,none,none,none,none,none,none,none,none,none,none,none,none,none,none,none,none,none,none,none,none,none,none,none,none,none,none,none,none,none,none,none,none,none,none,none,none,none,none,none,none,none,none,none,none,none,none,none,none,none,none,none,none,none,none,none,none,none,none,none,none,none,none,none,none,none,none,none,none,none,none,none,none,none,none,none,none,none,none,none,none,none,none,none,none,none,none,none,none] ts→L ts (some ⟨4,[.agg [.sc (.int .u8 t.kind),.sc (.string t.text),.sc (.int .i64 t.num),.lst 4 (ndL t.kids) ro]],true,25⟩ :: H) by
   by_cases a0 : t.num=0
   ·have e : numQ t.kind t.num=true:=by simp[numQ,a0]
    have a0':=decide_eq_true a0
    simp -implicitDefEqProofs (maxSteps:=99999999) (disch:=first | omega | (simp only[vl];first | done | omega)) only[mk,a0',va,vg,vs,vw,vk,simprocAttr]
    exact key _ (by simp[Fr,e])
   by_cases b0 : t.kind=20
   ·have b0':=decide_eq_true b0
    by_cases a1 : t.num > 0
    ·have e : numQ t.kind t.num=true:=by simp[numQ,b0,a1]
     simp -implicitDefEqProofs (maxSteps:=99999999) (disch:=first | omega | (simp only[vl];first | done | omega)) only[mk,a0,a1,b0',va,vg,vs,vw,vk,simprocAttr]
     exact key _ (by simp[Fr,e])
    ·have e : numQ t.kind t.num=false:=by
      rw[← Bool.not_eq_true]
      simp[numQ,b0,a0]
      omega
     have b1 : ¬ t.kind=21:=by omega
     simp -implicitDefEqProofs (maxSteps:=99999999) (disch:=first | omega | (simp only[vl];first | done | omega)) only[mk,a0,a1,b0',b1,va,vg,vs,vw,vk,simprocAttr]
     exact key _ (by simp[Fr,e])
   by_cases b1 : t.kind=21
   ·have b1':=decide_eq_true b1
    by_cases a1 : t.num=1
    ·have e : numQ t.kind t.num=true:=by simp[numQ,b1,a1]
     have a1':=decide_eq_true a1
     simp -implicitDefEqProofs (maxSteps:=99999999) (disch:=first | omega | (simp only[vl];first | done | omega)) only[mk,a0,a1',b0,b1',va,vg,vs,vw,vk,simprocAttr]
     exact key _ (by simp[Fr,e])
    ·have e : numQ t.kind t.num=false:=by simp[numQ,b1,a0,a1]
     simp -implicitDefEqProofs (maxSteps:=99999999) (disch:=first | omega | (simp only[vl];first | done | omega)) only[mk,a0,a1,b0,b1',va,vg,vs,vw,vk,simprocAttr]
     exact key _ (by simp[Fr,e])
   ·have e : numQ t.kind t.num=false:=by simp[numQ,b0,b1,a0]
    simp -implicitDefEqProofs (maxSteps:=99999999) (disch:=first | omega | (simp only[vl];first | done | omega)) only[mk,a0,b0,b1,va,vg,vs,vw,vk,simprocAttr]
    exact key _ (by simp[Fr,e])
  clear js
  intro ts hfr
  obtain ⟨js,rfl⟩:=hfr.opened
  clear hfr
  refine hL _ _ ?_
  clear hL
  refine ES_seq_gen fun L hL=>?_
  simp -implicitDefEqProofs (maxSteps:=99999999) (disch:=first | omega | (simp only[vl];first | done | omega)) only[mk,va,vg,vs,vw,vk,simprocAttr]
  refine callR_ret (manyR_d _ _) ?_
  simp -implicitDefEqProofs (maxSteps:=99999999) (disch:=first | omega | (simp only[vl];first | done | omega)) only[mk,va,vg,vs,vw,vk,simprocAttr]
  refine hL _ _ ?_
  clear hL
  refine ES_seq_gen fun L hL=>?_
  by_cases c1 : (m : Int) < 1
  ·simp -implicitDefEqProofs (maxSteps:=99999999) (disch:=first | omega | (simp only[vl];first | done | omega)) only[mk,c1,va,vg,vs,vw,vk,simprocAttr]
   exact hdone _ _ (.cons .refl) (by rw[hP];simp;omega)
  have hm : 1 ≤ m:=by omega
  cases hk : knownQ t.kind
  ·simp -implicitDefEqProofs (maxSteps:=99999999) (disch:=first | omega | (simp only[vl];first | done | omega)) only[mk,c1,va,vg,vs,vw,vk,simprocAttr]
   exact hdone _ _ (.cons .refl) (by rw[hP,hLoc];simp[hk])
  cases hn : numQ t.kind t.num
  ·simp -implicitDefEqProofs (maxSteps:=99999999) (disch:=first | omega | (simp only[vl];first | done | omega)) only[mk,c1,va,vg,vs,vw,vk,simprocAttr]
   exact hdone _ _ (.cons .refl) (by rw[hP,hLoc];simp[hn])
  simp -implicitDefEqProofs (maxSteps:=99999999) (disch:=first | omega | (simp only[vl];first | done | omega)) only[mk,c1,va,vg,vs,vw,vk,simprocAttr]
  refine callR_ret (htx _) ?_
  cases ht : textQ t
  ·simp -implicitDefEqProofs (maxSteps:=99999999) (disch:=first | omega | (simp only[vl];first | done | omega)) only[mk,va,vg,vs,vw,vk,simprocAttr]
   exact hdone _ _ (.cons .refl) (by rw[hP,hLoc];simp[ht])
  by_cases c2 : manyQ t.kind ≥ 0 ∧ ¬ (t.kids.length : Int)=manyQ t.kind
  ·obtain ⟨c2,c3⟩:=c2
   simp -implicitDefEqProofs (maxSteps:=99999999) (disch:=first | omega | (simp only[vl];first | done | omega)) only[mk,c2,c3,ndL_length,va,vg,vs,vw,vk,simprocAttr]
   exact hdone _ _ (.cons .refl) (by rw[hP,hLoc];simp[c3];omega)
  have hlq : locQ t=true:=by
   rw[hLoc,hk,hn,ht]
   simp
   omega
  have hP2 : rightN t m=(rightL t.kind t.kids 0 (m - 1) && setQ t.kind t.kids):=by
   rw[rightN_eq,hlq]
   simp[hm]
  clear hP hLoc
  suffices key : ∀ ts,Fr [none,some (.sc (.int .i64 m)),some (.ptr 4 H.length 0 0),none,some (.sc (.bool false)),none,none,none,none,none,none,none,none,none,none,none,none,none,none,none,none,none,none,none,none,none,none,none,none,none,none,none,none,none,none,none,none,none,none,none,none,none,none,none,none,none,none,none,none,none,none,none,none,none,none,none,none,none,none,none,none,none,none,none,none,none,none,none,none,none,none,none,none,none,none,none,none,none,none,none,none,none,none,none,none,none,none,none,none,none,none,none,none,none,none,none,none,none,none,none,none,none,none,none,none,none,none,none,none,none,none,none,none,none,none,none,none,none,none,none,none,none,none,none,none] ts→L ts (some ⟨4,[.agg [.sc (.int .u8 t.kind),.sc (.string t.text),.sc (.int .i64 t.num),.lst 4 (ndL t.kids) ro]],true,25⟩ :: H) by
   by_cases c2' : manyQ t.kind ≥ 0
   ·have c3 : (t.kids.length : Int)=manyQ t.kind:=by omega
    simp -implicitDefEqProofs (maxSteps:=99999999) (disch:=first | omega | (simp only[vl];first | done | omega)) only[mk,c2',c3,ndL_length,va,vg,vs,vw,vk,simprocAttr]
    exact key _ (by simp[Fr])
   ·simp -implicitDefEqProofs (maxSteps:=99999999) (disch:=first | omega | (simp only[vl];first | done | omega)) only[mk,c2',ndL_length,va,vg,vs,vw,vk,simprocAttr]
    exact key _ (by simp[Fr])
  clear js
  intro ts hfr
  obtain ⟨js,rfl⟩:=hfr.opened
  clear hfr
  refine hL _ _ ?_
  clear hL
  refine ES_seq_gen fun L hL=>?_
  simp -implicitDefEqProofs (maxSteps:=99999999) (disch:=first | omega | (simp only[vl];first | done | omega)) only[mk,ndL_length,va,vg,vs,vw,vk,simprocAttr]
  refine ES_loopL (fun ts F=>∃ k : Nat,(k ≤ t.kids.length ∧ ∀ j,j < k→fitsQ t.kind (nthN t.kids j).kind j=true ∧ rightN (nthN t.kids j) (m - 1)=true) ∧ F=some ⟨4,[.agg [.sc (.int .u8 t.kind),.sc (.string t.text),.sc (.int .i64 t.num),.lst 4 (ndL t.kids) ro]],true,25⟩ :: H ∧ Fr [none,some (.sc (.int .i64 m)),some (.ptr 4 H.length 0 0),none,some (.sc (.bool false)),none,none,none,some (.sc (.int .i64 k)),none,none,none,none,none,none,none,none,none,none,none,none,none,none,none,none,none,none,none,none,none,none,none,none,none,none,none,none,none,none,none,none,none,none,none,none,none,none,none,none,none,none,none,none,none,none,none,none,none,none,none,none,none,none,none,none,none,none,none,none,none,none,none,none,none,none,none,none,none,none,none,none,none,none,none,none,none,none,none,none,none,none,none,none,none,none,none,none,none,none,none,none,none,none,none,none,none,none,none,none,none,none,none,none,none,none,none,none,none,none,none,none,none,none,none,none] ts) (fun ts _=>t.kids.length - (intV (ts.getD 8 .top)).toNat) ?_ ?_
  ·exact ⟨0,⟨Nat.zero_le _,fun j h=>absurd h (Nat.not_lt_zero _)⟩,rfl,by simp[Fr]⟩
  clear js
  rintro ts F ⟨k,⟨hk,hp⟩,rfl,hfr⟩ L2 hL2
  obtain ⟨js,rfl⟩:=hfr.opened
  clear hfr
  have hov : Over H (some (⟨4,[.agg [.sc (.int .u8 t.kind),.sc (.string t.text),.sc (.int .i64 t.num),.lst 4 (ndL t.kids) ro]],true,25⟩ : ABlk) :: H):=.cons .refl
  by_cases hd2 : k < t.kids.length
  ·have d1 : (k : Int) < t.kids.length:=by omega
   have hg:=ndL_get hd2
   have hmem:=nthN_mem hd2
   have hm1 : ((m : Int) - 1)=((m - 1 : Nat) : Int):=by omega
   simp -implicitDefEqProofs (maxSteps:=99999999) (disch:=first | omega | (simp only[vl];first | done | omega)) only[mk,d1,hg,ndL_length,va,vg,vs,vw,vk,simprocAttr]
   refine ⟨by omega,callD_same (fitsR_d _ _ _ _) ?_⟩
   cases e1 : fitsQ t.kind (nthN t.kids k).kind k
   ·simp -implicitDefEqProofs (maxSteps:=99999999) (disch:=first | omega | (simp only[vl];first | done | omega)) only[vu,va,vg,vs,vw,vk,simprocAttr]
    exact hdone _ _ hov (by rw[hP2,rightL_f hd2 (.inl e1)];rfl)
   simp -implicitDefEqProofs (maxSteps:=99999999) (disch:=first | omega | (simp only[vl];first | done | omega)) only[vu,hg,ndL_length,va,vg,vs,vw,vk,simprocAttr]
   refine ⟨by omega,?_⟩
   have hi:=fun H=>ih _ hmem none (m - 1) (by omega) (by have:=Nd.kid_lt hmem;omega) H
   rw[ndR_eq,← hm1] at hi
   refine callD_same (hi _) ?_
   cases e2 : rightN (nthN t.kids k) (m - 1)
   ·simp -implicitDefEqProofs (maxSteps:=99999999) (disch:=first | omega | (simp only[vl];first | done | omega)) only[vu,va,vg,vs,vw,vk,simprocAttr]
    exact hdone _ _ hov (by rw[hP2,rightL_f hd2 (.inr e2)];rfl)
   simp -implicitDefEqProofs (maxSteps:=99999999) (disch:=first | omega | (simp only[vl];first | done | omega)) only[vu,va,vg,vs,vw,vk,simprocAttr]
   refine hL2 _ _ ⟨k+1,⟨by omega,fun j hj=>?_⟩,rfl,by simp[Fr]⟩ (by simp[intV,mk];omega)
   rcases Nat.lt_succ_iff_lt_or_eq.1 hj with h' | rfl
   ·exact hp j h'
   ·exact ⟨e1,e2⟩
  ·have d1 : ¬ (k : Int) < t.kids.length:=by omega
   have hR:=rightL_t hd2 hp
   simp -implicitDefEqProofs (maxSteps:=99999999) (disch:=first | omega | (simp only[vl];first | done | omega)) only[mk,d1,ndL_length,va,vg,vs,vw,vk,simprocAttr]
   refine hL _ _ ?_
   clear hL
   by_cases g7 : t.kind=7
   ·have h2:=hset g7 hlq
    have hk2 : ¬ k < 2:=by omega
    have hg0:=ndL_get (l:=t.kids) (k:=0) (by omega)
    have hp0:=hp 0 (by omega)
    rw[g7] at hp0
    have h0 : (0 : Int) < (2 : Nat):=by omega
    have g7' : decide (¬ t.kind=7)=false:=by simp[g7]
    by_cases g22 : (nthN t.kids 0).kind=22
    ·rw[g22] at hg0
     simp -implicitDefEqProofs (maxSteps:=99999999) (disch:=first | omega | (simp only[vl];first | done | omega)) only[vu,g7',hg0,ndL_length,h2,h0,va,vg,vs,vw,vk,simprocAttr]
     exact over_bN hov (by rw[hP2,hR,g7];simp[setQ,g22])
    ·have g26 : (nthN t.kids 0).kind=26:=by
      rcases set_kind hp0.1 with h | h
      ·exact absurd h g22
      ·exact h
     have i2:=index_two g26 hp0.2
     have hg1:=ndL_get (l:=(nthN t.kids 0).kids) (k:=0) (by omega)
     rw[g26] at hg0
     simp -implicitDefEqProofs (maxSteps:=99999999) (disch:=first | omega | (simp only[vl];first | done | omega)) only[vu,g7',hg0,hg1,ndL_length,h2,i2,h0,va,vg,vs,vw,vk,simprocAttr]
     exact over_bN hov (by rw[hP2,hR,g7];simp[setQ,g26])
   ·simp -implicitDefEqProofs (maxSteps:=99999999) (disch:=first | omega | (simp only[vl];first | done | omega)) only[vu,g7,va,vg,vs,vw,vk,simprocAttr]
    exact over_bN hov (by rw[hP2,hR];simp[setQ,g7])
theorem rRight_d (t : Nd) (ro : Option (List AV)) (hz : t.size ≤ 1000000) (H : AHeap) : D Tryz.prog 24 [ndR t ro] H (.ret (.sc (.bool (rightN t 40)))) H:=by
 have hr:=fun H=>rrec_d t ro 40 (by omega) hz H
 rw[ndR_eq] at hr ⊢
 refine D_of_DK (Nat.le_refl _) (dk24 (E_of_ES ?_))
 simp only[ic24,ux]
 simp -implicitDefEqProofs (maxSteps:=99999999) (disch:=first | omega | (simp only[vl];first | done | omega)) only[vu,va,vg,vs,vw,vk,simprocAttr]
 refine callR_ret (hr _) ?_
 simp -implicitDefEqProofs (maxSteps:=99999999) (disch:=first | omega | (simp only[vl];first | done | omega)) only[vu,va,vg,vs,vw,vk,simprocAttr]
 exact over_bN (.cons .refl) rfl
end Go.Proofs.YtfnahogjkgcklaaGreatDoor
