import Derived.Test.YtfnahogjkgcklaaGreatDoorS291
import Derived.Test.YtfnahogjkgcklaaGreatDoorS272
import Derived.Test.YtfnahogjkgcklaaGreatDoorTK
import Derived.Test.YtfnahogjkgcklaaGreatDoorS244
import Derived.Test.YtfnahogjkgcklaaGreatDoorIc41
namespace Go.Proofs.YtfnahogjkgcklaaGreatDoor
open Go.RowKit
set_option maxRecDepth 100000
set_option linter.unusedVariables false
set_option linter.unusedSimpArgs false
def refGV (t : Nd) (p : List Int) : AV:=match getN t p with
 | some u=>.tup [ndA u,.sc (.bool true)]
 | none=>.tup [zero6,.sc (.bool false)]
theorem ndR_gz {F : AHeap} {n0 : Nat} {src : List Nat} (t : Nd) (r : Option (List AV)) : Gz F n0 src (ndR t r) (ndA t):=by
 rw[ndA_eq]
 exact .agg (.cons (.same trivial) (.cons (.same trivial) (.cons (.same trivial) (.cons (.lst (ndL_gz _)) .nil))))
set_option maxHeartbeats 0 in
theorem refGet_d (t : Nd) (hz : t.size ≤ 1000000) (ro : Option (List AV)) (p : List Int) (hp : p.length ≤ 1000000) (rp : Option (List AV)) (H : AHeap) : D Tryz.prog 8 [ndR t ro,.lst 1 (pthA p) rp] H (.ret (refGV t p)) H:=by
 have hpl:=pthA_length p
 rw[ndR_eq]
 refine D_of_DK (Nat.le_refl _) (dk8 (E_of_ES ?_))
 simp only[ic8,ux]
 refine ES_seq_gen fun L hL=>?_
 simp -implicitDefEqProofs (maxSteps:=99999999) (disch:=first | omega | (simp only[vl];first | done | omega)) only[vu,va,vg,vs,vw,vk,simprocAttr]
 refine hL _ _ ?_
 clear hL
 refine ES_seq_gen fun L hL=>?_
 simp -implicitDefEqProofs (maxSteps:=99999999) (disch:=first | omega | (simp only[vl];first | done | omega)) only[vu,va,vg,vs,vw,vk,simprocAttr]
 refine ES_loopL (fun ts F=>∃ (k : Nat) (u : Nd) (r : Option (List AV)),(k ≤ p.length ∧ u.size ≤ 1000000 ∧ getN t p=getN u (p.drop k)) ∧ (F.length=H.length+2 ∧ (∀ i,i < H.length→AHeap.find F i=AHeap.find H i) ∧ AHeap.find F H.length=some ⟨4,[.agg [.sc (.int .u8 u.kind),.sc (.string u.text),.sc (.int .i64 u.num),.lst 4 (ndL u.kids) r]],true,25⟩ ∧ AHeap.find F (H.length+1)=some ⟨4,[zero6],true,25⟩) ∧ Fr [none,some (.lst 1 (pthA p) rp),some (.ptr 4 H.length 0 0),none,some (.ptr 4 (H.length+1) 0 0),some (.sc (.bool false)),some (.sc (.int .i64 k)),none,none,none,none,none,none,none,none,none,none,none,none,none,none,none,none,none,none,none,none,none,none,none,none,none,none,none,none,none,none,none] ts) (fun ts _=>p.length - (intV (ts.getD 6 .top)).toNat) ?_ ?_
 ·exact ⟨0,t,ro,⟨Nat.zero_le _,hz,by rw[List.drop_zero]⟩,⟨by simp,fun i hi=>by rw[find_past (by simp;omega),find_past hi],by rw[find_past (by simp),find_top rfl],find_top (by simp)⟩,by simp[Fr]⟩
 rintro ts F ⟨k,u,r,⟨hk,hus,hgn⟩,⟨f0,f1,f2,f3⟩,hfr⟩ L2 hL2
 obtain ⟨js,rfl⟩:=hfr.opened
 clear hfr
 have hul:=ndL_length u.kids
 by_cases hd : k < p.length
 ·have d1 : (k : Int) < p.length:=by omega
  have hg:=pthA_get hd
  have hst:=getN_drop (t:=u) hd
  obtain ⟨q,hq⟩ : ∃ q,p.getD k 0=q:=⟨_,rfl⟩
  rw[hq] at hg hst
  by_cases q1 : q < 0
  ·rw[if_neg (by omega)] at hst
   rw[hst] at hgn
   simp -implicitDefEqProofs (maxSteps:=99999999) (disch:=first | omega | (simp only[vl];first | done | omega)) only[mk,d1,hpl,hg,f2,f3,q1,va,vg,vs,vw,vk,simprocAttr]
   refine ⟨by omega,?_⟩
   have hv : refGV t p = .tup [zero6,.sc (.bool false)]:=by unfold refGV;rw[hgn]
   rw[hv]
   exact weak_frz (fun i hi=>by rw[AHeap.find_set_ne (by omega),f1 i hi]) (.tup (.cons gz_zero6 (.cons (.same trivial) .nil)))
  ·by_cases q2 : q ≥ u.kids.length
   ·rw[if_neg (by omega)] at hst
    rw[hst] at hgn
    simp -implicitDefEqProofs (maxSteps:=99999999) (disch:=first | omega | (simp only[vl];first | done | omega)) only[mk,d1,hpl,hg,f2,f3,q1,q2,hul,va,vg,vs,vw,vk,simprocAttr]
    refine ⟨by omega,by omega,?_⟩
    have hv : refGV t p = .tup [zero6,.sc (.bool false)]:=by unfold refGV;rw[hgn]
    rw[hv]
    exact weak_frz (fun i hi=>by rw[AHeap.find_set_ne (by omega),f1 i hi]) (.tup (.cons gz_zero6 (.cons (.same trivial) .nil)))
   ·have q3 : q < u.kids.length:=by omega
    have q4 : 0 ≤ q:=by omega
    obtain ⟨m,rfl⟩ : ∃ m : Nat,q=m:=⟨q.toNat,by omega⟩
    have hm : m < u.kids.length:=by omega
    rw[if_pos ⟨q4,q3⟩,Int.toNat_natCast] at hst
    rw[hst] at hgn
    have hge:=ndL_get hm
    simp -implicitDefEqProofs (maxSteps:=99999999) (disch:=first | omega | (simp only[vl];first | done | omega)) only[mk,d1,hpl,hg,f2,f3,q1,q2,q3,q4,hul,hge,hm,va,vg,vs,vw,vk,simprocAttr]
    have hkl:=Nd.kid_lt (nthN_mem hm)
    refine ⟨by omega,by omega,by omega,hL2 _ _ ⟨k+1,nthN u.kids m,none,⟨by omega,by omega,hgn⟩,⟨by rw[AHeap.set_length];exact f0,fun i hi=>by rw[AHeap.find_set_ne (by omega),f1 i hi],AHeap.find_set_same (by omega),by rw[AHeap.find_set_ne (by omega),f3]⟩,by simp[Fr]⟩ (by simp[intV,mk];omega)⟩
 ·have d1 : ¬ (k : Int) < p.length:=by omega
  rw[List.drop_of_length_le (by omega)] at hgn
  have hgn2 : getN t p=some u:=hgn
  simp -implicitDefEqProofs (maxSteps:=99999999) (disch:=first | omega | (simp only[vl];first | done | omega)) only[mk,d1,hpl,va,vg,vs,vw,vk,simprocAttr]
  refine hL _ _ ?_
  clear hL
  simp -implicitDefEqProofs (maxSteps:=99999999) (disch:=first | omega | (simp only[vl];first | done | omega)) only[f2,f3,va,vg,vs,vw,vk,simprocAttr]
  have hv : refGV t p = .tup [ndA u,.sc (.bool true)]:=by unfold refGV;rw[hgn2]
  rw[hv]
  exact weak_frz (fun i hi=>by rw[AHeap.find_set_ne (by omega),f1 i hi]) (.tup (.cons (ndR_gz u r) (.cons (.same trivial) .nil)))
theorem ownN_fz {F : AHeap} {n0 i : Nat} (t : Nd) (hi : n0 ≤ i) (hf : AHeap.find F i=OwnB 4 25 (ndL t.kids)) : Gz F n0 [] (ownN t i) (ndA t):=by
 rw[ownN_eq,ndA_eq]
 exact .agg (.cons (.same trivial) (.cons (.same trivial) (.cons (.same trivial) (.cons (OwnV_fz (fun _=>by unfold newId;rw[if_neg (by omega)];rfl) (fun _=>hf) (ndL_gz _)) .nil))))
theorem ndL_set {l : List Nd} {m : Nat} (u : Nd) : (ndL l).set m (ndA u)=ndL (l.set m u):=by
 rw[ndL_map,ndL_map,List.map_set]
set_option maxHeartbeats 0 in
theorem refWith_d (kid : Nd) (hk : kid.size ≤ 1000000) (p : List Int) : ∀ (t : Nd) (H : AHeap),t.size ≤ 1000000→p.length ≤ 1000000→(getN t p).isSome=true→D Tryz.prog 23 [ndR t none,ndR kid none,.lst 1 (pthA p) none] H (.ret (ndA (withN t kid p))) H:=by
 induction p with
 | nil =>
  intro t H hz hp hs
  have hcn:=fun H=>copyNode_d kid hk none H
  rw[ndR_eq] at hcn
  rw[ndR_eq,ndR_eq,show pthA []=[] from rfl]
  refine D_of_DK (Nat.le_refl _) (dk23 (E_of_ES ?_))
  simp only[ic23,ux]
  refine ES_seq_gen fun L hL=>?_
  simp -implicitDefEqProofs (maxSteps:=99999999) (disch:=first | omega | (simp only[vl];first | done | omega)) only[vu,va,vg,vs,vw,vk,simprocAttr]
  refine hL _ _ ?_
  clear hL
  refine ES_seq_gen fun L hL=>?_
  simp -implicitDefEqProofs (maxSteps:=99999999) (disch:=first | omega | (simp only[vl];first | done | omega)) only[vu,va,vg,vs,vw,vk,simprocAttr]
  refine callR_ret (hcn _) ?_
  simp only[List.length_cons,Nat.add_assoc,Nat.reduceAdd]
  obtain ⟨x,hx⟩ : ∃ x,ownN kid (H.length+3)=x:=⟨_,rfl⟩
  have hx0:=ownN_eq kid (H.length+3)
  rw[hx] at hx0 ⊢
  have c1 : x.isTop=false:=by rw[hx0];rfl
  have c2 : x.isAgg=true:=by rw[hx0];rfl
  have c3 : x.ncells=4:=by rw[hx0];rfl
  have c4 : AV.agg (x.cells.take 4)=x:=by rw[hx0];rfl
  have c5 : AV.agg x.cells=x:=by rw[hx0];rfl
  have c6 : 4 ≤ x.cells.length:=by rw[hx0];exact Nat.le_refl _
  simp -implicitDefEqProofs (maxSteps:=99999999) (disch:=first | omega | (simp only[vl];first | done | omega)) only[vu,c1,c2,c3,c4,c5,va,vg,vs,vw,vk,simprocAttr]
  refine ⟨c6,?_⟩
  rw[show withN t kid []=kid from rfl,← hx]
  exact weak_frz (fun i hi=>by rw[find_past (by simp;omega),find_past (by simp;omega),find_past (by simp;omega),find_past hi]) (ownN_fz kid (by omega) (find_top (by simp)))
 | cons q r ih =>
  intro t H hz hp hs
  have hcn:=fun H=>copyNode_d t hz none H
  rw[ndR_eq] at hcn
  have hq : 0 ≤ q ∧ q < t.kids.length:=by
   simp only[getN] at hs
   split at hs
   ·assumption
   ·cases hs
  simp only[getN] at hs
  rw[if_pos hq] at hs
  obtain ⟨m,rfl⟩ : ∃ m : Nat,q=m:=⟨q.toNat,by omega⟩
  rw[Int.toNat_natCast] at hs
  have hm : m < t.kids.length:=by omega
  have hkl:=Nd.kid_lt (nthN_mem hm)
  have hi:=fun H=>ih (nthN t.kids m) H (by omega) (by simp at hp;omega) hs
  rw[ndR_eq,ndR_eq] at hi
  rw[ndR_eq,ndR_eq,show pthA ((m : Int) :: r) = .sc (.int .i64 m) :: pthA r from rfl]
  refine D_of_DK (Nat.le_refl _) (dk23 (E_of_ES ?_))
  simp only[ic23,ux]
  have hpl:=pthA_length r
  have hul:=ndL_length t.kids
  have hge:=ndL_get hm
  have hnl : ndL t.kids ≠ []:=fun h=>by rw[h] at hul;simp at hul;omega
  have hpt : List.take (pthA r).length (pthA r)=pthA r:=List.take_length
  have q1 : (m : Int) < t.kids.length:=by omega
  have z1 : ¬ (((pthA r).length+1 : Nat) : Int)=0:=by omega
  refine ES_seq_gen fun L hL=>?_
  simp -implicitDefEqProofs (maxSteps:=99999999) (disch:=first | omega | (simp only[vl];first | done | omega)) only[vu,va,vg,vs,vw,vk,simprocAttr]
  refine hL _ _ ?_
  clear hL
  refine ES_seq_gen fun L hL=>?_
  simp -implicitDefEqProofs (maxSteps:=99999999) (disch:=first | omega | (simp only[vl];first | done | omega)) only[vu,z1,va,vg,vs,vw,vk,simprocAttr]
  refine hL _ _ ?_
  clear hL
  refine ES_seq_gen fun L hL=>?_
  simp -implicitDefEqProofs (maxSteps:=99999999) (disch:=first | omega | (simp only[vl];first | done | omega)) only[vu,va,vg,vs,vw,vk,simprocAttr]
  refine callR_ret (hcn _) ?_
  simp only[List.length_cons,Nat.add_assoc,Nat.reduceAdd]
  rw[ownN_eq,OwnV_ne hnl,OwnB_ne hnl,hul]
  simp -implicitDefEqProofs (maxSteps:=99999999) (disch:=first | omega | (simp only[vl];first | done | omega)) only[vu,va,vg,vs,vw,vk,simprocAttr]
  refine hL _ _ ?_
  clear hL
  refine ES_seq_gen fun L hL=>?_
  simp -implicitDefEqProofs (maxSteps:=99999999) (disch:=first | omega | (simp only[vl];first | done | omega)) only[vu,q1,hul,hge,hpt,va,vg,vs,vw,vk,simprocAttr]
  obtain ⟨w,hw⟩ : ∃ w,withN (nthN t.kids m) kid r=w:=⟨_,rfl⟩
  rw[hw,ndA_eq] at hi
  have hset:=ndL_set (l:=t.kids) (m:=m) w
  rw[ndA_eq] at hset
  have hwe : withN t kid ((m : Int) :: r)=⟨t.kind,t.text,t.num,t.kids.set m w⟩:=by simp only[withN,Int.toNat_natCast,hw]
  refine ⟨by omega,by omega,by omega,Nat.le_refl _,callD_same (hi _) ?_⟩
  simp -implicitDefEqProofs (maxSteps:=99999999) (disch:=first | omega | (simp only[vl];first | done | omega)) only[vu,q1,hul,hge,hpt,hm,hset,va,vg,vs,vw,vk,simprocAttr]
  refine ⟨by omega,?_⟩
  refine hL _ _ ?_
  clear hL
  simp -implicitDefEqProofs (maxSteps:=99999999) (disch:=first | omega | (simp only[vl];first | done | omega)) only[vu,q1,hul,hge,hpt,hm,hset,va,vg,vs,vw,vk,simprocAttr]
  have hsl : ndL (t.kids.set m w) ≠ []:=fun h=>by
   have:=ndL_length (t.kids.set m w)
   rw[h,List.length_set] at this
   simp at this
   omega
  have e : AV.agg [.sc (.int .u8 t.kind),.sc (.string t.text),.sc (.int .i64 t.num),.vec 4 (H.length+3) 0 t.kids.length none]=ownN (withN t kid ((m : Int) :: r)) (H.length+3):=by
   rw[hwe,ownN_eq]
   show _=AV.agg [.sc (.int .u8 t.kind),.sc (.string t.text),.sc (.int .i64 t.num),OwnV 4 (ndL (t.kids.set m w)) (H.length+3)]
   rw[OwnV_ne hsl,ndL_length,List.length_set]
  rw[e]
  refine weak_frz (fun i hi=>?_) (ownN_fz _ (by omega) ?_)
  ·rw[find_past (by simp;omega),find_past (by simp;omega),find_past (by simp;omega),find_past (by simp;omega),find_past hi]
  ·rw[find_past (by simp),find_top (by simp),hwe]
   show _=OwnB 4 25 (ndL (t.kids.set m w))
   rw[OwnB_ne hsl]
def refPV (t kid : Nd) (p : List Int) : AV:=match getN t p with
 | none=>.tup [zero6,.sc (.int .i64 6)]
 | some _=>if rightN (withN t kid p) 40 then .tup [ndA (withN t kid p),.sc (.int .i64 0)] else .tup [zero6,.sc (.int .i64 4)]
set_option maxHeartbeats 0 in
theorem refPut_d (t kid : Nd) (hz : t.size ≤ 400) (hk : kid.size ≤ 400) (p : List Int) (hp : p.length ≤ 1000000) (H : AHeap) : D Tryz.prog 10 [ndR t none,ndR kid none,.lst 1 (pthA p) none] H (.ret (refPV t kid p)) H:=by
 have hget:=fun H=>refGet_d t (by omega) none p hp none H
 have hwz:=with_size (kid:=kid) p t
 rw[ndR_eq] at hget
 unfold refGV at hget
 rw[ndR_eq,ndR_eq]
 refine D_of_DK (Nat.le_refl _) (dk10 (E_of_ES ?_))
 simp only[ic10,ux]
 refine ES_seq_gen fun L hL=>?_
 simp -implicitDefEqProofs (maxSteps:=99999999) (disch:=first | omega | (simp only[vl];first | done | omega)) only[vu,va,vg,vs,vw,vk,simprocAttr]
 refine hL _ _ ?_
 clear hL
 refine ES_seq_gen fun L hL=>?_
 simp -implicitDefEqProofs (maxSteps:=99999999) (disch:=first | omega | (simp only[vl];first | done | omega)) only[vu,va,vg,vs,vw,vk,simprocAttr]
 cases hg : getN t p with
 | none =>
  have hv : refPV t kid p = .tup [zero6,.sc (.int .i64 6)]:=by unfold refPV;rw[hg]
  rw[hg] at hget
  dsimp only at hget
  refine callR_ret (hget _) ?_
  simp -implicitDefEqProofs (maxSteps:=99999999) (disch:=first | omega | (simp only[vl];first | done | omega)) only[vu,va,vg,vs,vw,vk,simprocAttr]
  refine hL _ _ ?_
  clear hL
  refine ES_seq_gen fun L hL=>?_
  simp -implicitDefEqProofs (maxSteps:=99999999) (disch:=first | omega | (simp only[vl];first | done | omega)) only[vu,va,vg,vs,vw,vk,simprocAttr]
  rw[hv]
  exact weak_frz (fun i hi=>Over.find (by repeat constructor) hi) (.tup (.cons gz_zero6 (.cons (.same trivial) .nil)))
 | some u =>
  rw[hg] at hget
  dsimp only at hget
  rw[ndA_eq] at hget
  have hwi:=fun H=>refWith_d kid (by omega) p t H (by omega) hp (by rw[hg];rfl)
  obtain ⟨w,hw⟩ : ∃ w,withN t kid p=w:=⟨_,rfl⟩
  rw[ndR_eq,ndR_eq,hw,ndA_eq] at hwi
  have hrt:=fun H=>rRight_d w none (by rw[← hw];omega) H
  rw[ndR_eq] at hrt
  refine callR_ret (hget _) ?_
  simp -implicitDefEqProofs (maxSteps:=99999999) (disch:=first | omega | (simp only[vl];first | done | omega)) only[vu,va,vg,vs,vw,vk,simprocAttr]
  refine hL _ _ ?_
  clear hL
  refine ES_seq_gen fun L hL=>?_
  simp -implicitDefEqProofs (maxSteps:=99999999) (disch:=first | omega | (simp only[vl];first | done | omega)) only[vu,va,vg,vs,vw,vk,simprocAttr]
  refine hL _ _ ?_
  clear hL
  refine ES_seq_gen fun L hL=>?_
  simp -implicitDefEqProofs (maxSteps:=99999999) (disch:=first | omega | (simp only[vl];first | done | omega)) only[vu,va,vg,vs,vw,vk,simprocAttr]
  refine callR_ret (hwi _) ?_
  simp -implicitDefEqProofs (maxSteps:=99999999) (disch:=first | omega | (simp only[vl];first | done | omega)) only[vu,va,vg,vs,vw,vk,simprocAttr]
  refine hL _ _ ?_
  clear hL
  refine ES_seq_gen fun L hL=>?_
  simp -implicitDefEqProofs (maxSteps:=99999999) (disch:=first | omega | (simp only[vl];first | done | omega)) only[vu,va,vg,vs,vw,vk,simprocAttr]
  refine callR_ret (hrt _) ?_
  cases hr : rightN w 40 with
  | false =>
   have hv : refPV t kid p = .tup [zero6,.sc (.int .i64 4)]:=by unfold refPV;rw[hg,hw,hr];rfl
   simp -implicitDefEqProofs (maxSteps:=99999999) (disch:=first | omega | (simp only[vl];first | done | omega)) only[vu,va,vg,vs,vw,vk,simprocAttr]
   rw[hv]
   exact weak_frz (fun i hi=>Over.find (by repeat constructor) hi) (.tup (.cons gz_zero6 (.cons (.same trivial) .nil)))
  | true =>
   have hv : refPV t kid p = .tup [ndA w,.sc (.int .i64 0)]:=by unfold refPV;rw[hg,hw,hr];rfl
   simp -implicitDefEqProofs (maxSteps:=99999999) (disch:=first | omega | (simp only[vl];first | done | omega)) only[vu,va,vg,vs,vw,vk,simprocAttr]
   refine hL _ _ ?_
   clear hL
   simp -implicitDefEqProofs (maxSteps:=99999999) (disch:=first | omega | (simp only[vl];first | done | omega)) only[vu,va,vg,vs,vw,vk,simprocAttr]
   rw[hv]
   exact weak_frz (fun i hi=>Over.find (by repeat constructor) hi) (.tup (.cons (ndR_gz w none) (.cons (.same trivial) .nil)))
end Go.Proofs.YtfnahogjkgcklaaGreatDoor
