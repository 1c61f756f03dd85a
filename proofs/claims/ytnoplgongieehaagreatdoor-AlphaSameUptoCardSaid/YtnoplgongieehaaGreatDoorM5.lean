import Derived.Test.YtnoplgongieehaaGreatDoorM4
import Derived.Test.YtnoplgongieehaaGreatDoorM3
import Derived.Test.YtnoplgongieehaaGreatDoorProg
import Derived.KernelRfl
namespace Go.Proofs.YtnoplgongieehaaGreatDoor
open Go.RowKit
set_option maxRecDepth 100000
set_option linter.unusedVariables false
set_option linter.unusedSimpArgs false
theorem PR(k:Int)(H:Y):D Tryz.prog 64 [.Z (.int .u8 k)] H (.ret (.Z (.bool (eT k)))) H:=by
 refine aD (Nat.le_refl _) (aeb (aA ?_))
 simp only[ZW,ux]
 have hc:=vB [2,4,6,22,25] (some []) k (by decide)
 rw[show Ae [2,4,6,22,25]=[.Z (.int .u8 2),.Z (.int .u8 4),.Z (.int .u8 6),.Z (.int .u8 22),.Z (.int .u8 25)] from rfl] at hc
 refine aN ?_
 refine ai (hc _) ?_
 refine aN ?_
 exact am .refl (Ah k)
set_option maxHeartbeats 0 in
theorem HW(l:List Nd)(hz:Nd.aw l≤1000000)(ih:∀a∈l,∀(b:Nd)(H:Y),D Tryz.prog 34 [dF a none,dF b none] H (.ret (.Z (.bool (iG a b)))) H)(m:List Nd)(ro jZ:Option (List AV))(H:Y):D Tryz.prog 122 [.an 4 (bC l) ro,.an 4 (bC m) jZ,.fn (.func 34) [] []] H (.ret (.Z (.bool (iI l m)))) H:=by
 have hl:=Nd.iZ l
 have cl:bN Tryz.prog 34=true:=by kernel_rfl
 refine aD (Nat.le_refl _) (abG (aA ?_))
 simp only[Tq,ux]
 refine ae fun L hL=>?_
 refine aN ?_
 refine hL _ _ ?_
 clear hL
 refine ae fun L hL=>?_
 by_cases c1:l.length=m.length
 rotate_left
 ·have c2:¬(l.length:Int)=m.length:=by omega
  refine eL @aF c2 ?_
  exact am .refl (vJ c1).symm
 have c2:(l.length:Int)=m.length:=by omega
 refine eL @aF c2 ?_
 refine hL _ _ ?_
 clear hL
 refine ae fun L hL=>?_
 refine ee @aF ?_
 refine bI (fun ts F=>∃k:Nat,(k≤l.length∧∀j,j<k→iG (aC l j) (aC m j)=true)∧Over H F∧Fr [some (.an 4 (bC l) ro),some (.an 4 (bC m) jZ),some (.fn (.func 34) [] []),none,none,none,some (.Z (.bool false)),none,none,none,none,none,none,none,none,some (.an 4 (bC l) ro),some (.Z (.int .i64 l.length)),some (.Z (.int .i64 k)),none,none,none,none,none,none,none,none,none,none,none,none,none,none] ts) (fun ts _=>l.length - (aU (ts.getD 17 .top)).toNat) ?_ ?_
 ·exact ⟨0,⟨Nat.zero_le _,fun j h=>absurd h (Nat.not_lt_zero _)⟩,.refl,by simp[Fr]⟩
 rintro ts F ⟨k,⟨hk,hp⟩,hF,bx⟩ L2 cK
 obtain ⟨js,rfl⟩:=bx.opened
 clear bx
 by_cases hd:k<l.length
 ·have d1:(k:Int)<l.length:=by omega
  have d2:(k:Int)<m.length:=by omega
  have hg:=dm hd
  have pA:=dm (l:=m) (k:=k) (by omega)
  have hi:=fun H=>ih _ (e8 hd) (aC m k) H
  rw[aM,aM] at hi
  simp -implicitDefEqProofs (maxSteps:=99999999) (disch:=first | omega | (simp only[vl];first | done | omega)) only[mk,d1,d2,hg,pA,aF,va,vg,vs,vw,vk,simprocAttr]
  refine ⟨by omega,by omega,cl,ai (hi _) ?_⟩
  cases e1:iG (aC l k) (aC m k)
  ·refine aN ?_
   exact am (.cons (.cons hF)) (Hq c1 hd e1).symm
  refine aN ?_
  refine cK _ _ ⟨k+1,⟨by omega,fun j hj=>?_⟩,.cons (.cons hF),by simp[Fr]⟩ (by simp[aU,mk];omega)
  rcases Nat.lt_succ_iff_lt_or_eq.1 hj with h' | rfl
  ·exact hp j h'
  ·exact e1
 ·have d1:¬(k:Int)<l.length:=by omega
  simp -implicitDefEqProofs (maxSteps:=99999999) (disch:=first | omega | (simp only[vl];first | done | omega)) only[mk,d1,va,vg,vs,vw,vk,simprocAttr]
  refine hL _ _ ?_
  clear hL
  refine wS ?_
  exact am hF (Hr c1 fun j hj=>hp j (by omega)).symm
set_option maxHeartbeats 0 in
theorem Yk(a:Nd):∀(hz:a.size≤1000000)(b:Nd)(ro jZ:Option (List AV))(H:Y),D Tryz.prog 34 [dF a ro,dF b jZ] H (.ret (.Z (.bool (iG a b)))) H:=by
 induction a using Nd.ind with
 | _ a ih =>
  intro hz b ro jZ H
  have hs:=Nd.size_eq a
  have hk:=fun H=>HW a.kids (by omega) (fun x hx b H=>ih x hx (by have:=Nd.qd hx;omega) b none none H) b.kids ro jZ H
  have he:∀H,D Tryz.prog 65 [.an 4 (bC a.kids) ro,.an 4 (bC b.kids) jZ,.fn (.func 34) [] []] H (.ret (.Z (.bool (iI a.kids b.kids)))) H:=fun H=>by
   refine aD (Nat.le_refl _) (aee (aA ?_))
   simp only[ZZ,ux]
   refine aN ?_
   refine ai (hk _) ?_
   refine aN ?_
   exact am .refl rfl
  have hq:=CY a b
  rw[aM,aM]
  refine aD (Nat.le_refl _) (aea (aA ?_))
  simp only[ZV,ux]
  refine ae fun L hL=>?_
  refine aN ?_
  refine hL _ _ ?_
  clear hL
  refine ae fun L hL=>?_
  by_cases c1:a.kind=b.kind
  rotate_left
  ·refine ee c1 ?_
   refine hL _ _ ?_
   clear hL
   refine aN ?_
   exact am (.cons (.cons .refl)) (by rw[hq];simp[c1])
  have zA:=decide_eq_true c1
  by_cases c3:a.num=b.num
  rotate_left
  ·refine eL zA c3 ?_
   refine hL _ _ ?_
   clear hL
   refine aN ?_
   exact am (.cons (.cons .refl)) (by rw[hq];simp[c3])
  have K2:=decide_eq_true c3
  refine eL zA K2 ?_
  refine ai (PR _ _) ?_
  cases cn:eT a.kind
  ·by_cases c2:a.text=b.text
   rotate_left
   ·refine eL cn c2 ?_
    refine hL _ _ ?_
    clear hL
    refine aN ?_
    exact am (.cons (.cons .refl)) (by rw[hq];simp[cn,c2])
   ·have K3:=decide_eq_true c2
    refine eL cn K3 ?_
    refine ai (he _) ?_
    refine aN ?_
    refine hL _ _ ?_
    clear hL
    refine aN ?_
    exact am (.cons (.cons .refl)) (by rw[hq];simp[cn,c1,c2,c3])
  ·refine ee cn ?_
   refine ai (he _) ?_
   refine aN ?_
   refine hL _ _ ?_
   clear hL
   refine aN ?_
   exact am (.cons (.cons .refl)) (by rw[hq,cn];simp[c1,c3])
mutual
theorem K4(H:Y):∀t:Nd,View H (fH t) (fH t)
 | ⟨k,s,n,l⟩=>by
  simp only[fH]
  exact .agg (.cons .Z (.cons .Z (.cons .Z (.cons (.an (uo H l)) .nil))))
theorem uo(H:Y):∀l:List Nd,ct H (bC l) (bC l)
 | []=>.nil
 | t::r=>by
  simp only[bC]
  exact .cons (K4 H t) (uo H r)
end
theorem gG(t:Nd)(ro:Option (List AV))(H:Y):View H (dF t ro) (fH t):=by
 rw[ki,aM]
 exact .agg (.cons .Z (.cons .Z (.cons .Z (.cons (.an (uo H t.kids)) .nil))))
set_option maxHeartbeats 0 in
theorem uq(n:Nd)(hw:n.wt≤500000)(hs:n.size≤500000)(ro:Option (List AV))(H:Y):D Tryz.prog 33 [dF n ro] H (.ret (.Z (.bool (kw n)))) H:=by
 have iR:=fun H=>HT n hw hs (gG n ro H)
 rw[aM] at iR ⊢
 unfold AQ at iR
 refine aD (Nat.le_refl _) (ad9 (aA ?_))
 simp only[ZU,ux]
 refine ae fun L hL=>?_
 refine aN ?_
 refine hL _ _ ?_
 clear hL
 refine ae fun L hL=>?_
 by_cases c1:n.kind=1
 rotate_left
 ·refine ee c1 ?_
  refine hL _ _ ?_
  clear hL
  refine aN ?_
  exact am (.cons .refl) (by simp[kw,c1])
 rw[c1] at iR
 refine ee c1 ?_
 refine ai (iR _) ?_
 refine aN ?_
 refine hL _ _ ?_
 clear hL
 refine aN ?_
 exact am (.cons .refl) (by simp[kw,c1])
def dA(l:List (List Int))(k:Nat):List Int:=l.getD k []
theorem cY(l:List (List Int)):(aW l).length=l.length:=by simp[aW]
theorem nJ{l:List (List Int)}{k:Nat}(h:k<l.length):(aW l).getD k .top = .an 1 (aI (dA l k)) none:=by simp[aW,dA,List.getD,h]
theorem AR{l:List (List Int)}{k:Nat}(h:k<l.length):dA l k=l[k]:=by simp[dA,List.getD,h]
theorem Dd{a b:List (List Int)}(h:a.length=b.length)(e:∀j,j<a.length→dA a j=dA b j):a=b:=by
 refine List.ext_getElem h fun i h1 h2=>?_
 have:=e i h1
 rwa [AR h1,AR h2] at this
set_option maxHeartbeats 0 in
theorem K5(l m:List (List Int))(ro jZ:Option (List AV))(hz:l.length≤1000000)(hp:∀k,k<l.length→(dA l k).length≤1000000)(H:Y):D Tryz.prog 63 [.an 1 (aW l) ro,.an 1 (aW m) jZ,.fn (.func 31) [] []] H (.ret (.Z (.bool (decide (l=m))))) H:=by
 have cl:bN Tryz.prog 31=true:=by kernel_rfl
 refine aD (Nat.le_refl _) (aeg (aA ?_))
 simp only[Z1,ux]
 refine ae fun L hL=>?_
 refine aN ?_
 refine hL _ _ ?_
 clear hL
 refine ae fun L hL=>?_
 by_cases c1:l.length=m.length
 rotate_left
 ·have c2:¬(l.length:Int)=m.length:=by omega
  refine eL @cY c2 ?_
  exact am .refl (by simp;intro e;exact c1 (by rw[e]))
 have c2:(l.length:Int)=m.length:=by omega
 refine eL @cY c2 ?_
 refine hL _ _ ?_
 clear hL
 refine ae fun L hL=>?_
 refine ee @cY ?_
 refine bI (fun ts F=>∃k:Nat,(k≤l.length∧∀j,j<k→dA l j=dA m j)∧F=H∧Fr [some (.an 1 (aW l) ro),some (.an 1 (aW m) jZ),some (.fn (.func 31) [] []),none,none,none,some (.Z (.bool false)),none,none,none,none,none,none,none,none,some (.an 1 (aW l) ro),some (.Z (.int .i64 l.length)),some (.Z (.int .i64 k)),none,none,none,none,none,none,none,none,none,none,none,none,none,none] ts) (fun ts _=>l.length - (aU (ts.getD 17 .top)).toNat) ?_ ?_
 ·exact ⟨0,⟨Nat.zero_le _,fun j h=>absurd h (Nat.not_lt_zero _)⟩,rfl,by simp[Fr]⟩
 rintro ts F ⟨k,⟨hk,ky⟩,rfl,bx⟩ L2 cK
 obtain ⟨js,rfl⟩:=bx.opened
 clear bx
 by_cases hd:k<l.length
 ·have d1:(k:Int)<l.length:=by omega
  have d2:(k:Int)<m.length:=by omega
  have hg:=nJ hd
  have pA:=nJ (l:=m) (k:=k) (by omega)
  have hi:=fun H=>sL (dA l k) (dA m k) none none H (by have:=hp k hd;omega)
  simp -implicitDefEqProofs (maxSteps:=99999999) (disch:=first | omega | (simp only[vl];first | done | omega)) only[mk,d1,d2,hg,pA,cY,va,vg,vs,vw,vk,simprocAttr]
  refine ⟨by omega,by omega,cl,ai (hi _) ?_⟩
  by_cases e1:dA l k=dA m k
  ·refine ee e1 ?_
   refine cK _ _ ⟨k+1,⟨by omega,fun j hj=>?_⟩,rfl,by simp[Fr]⟩ (by simp[aU,mk];omega)
   rcases Nat.lt_succ_iff_lt_or_eq.1 hj with h' | rfl
   ·exact ky j h'
   ·exact e1
  ·refine ee e1 ?_
   exact am .refl (by simp;intro e;exact e1 (by rw[e]))
 ·have d1:¬(k:Int)<l.length:=by omega
  simp -implicitDefEqProofs (maxSteps:=99999999) (disch:=first | omega | (simp only[vl];first | done | omega)) only[mk,d1,va,vg,vs,vw,vk,simprocAttr]
  refine hL _ _ ?_
  clear hL
  refine wS ?_
  have DZ:l=m:=Dd c1 fun j hj=>ky j (by omega)
  exact am .refl (by simp[DZ])
theorem UW(l m:List (List Int))(ro jZ:Option (List AV))(hz:l.length≤1000000)(hp:∀k,k<l.length→(dA l k).length≤1000000)(H:Y):D Tryz.prog 32 [.an 1 (aW l) ro,.an 1 (aW m) jZ,.fn (.func 31) [] []] H (.ret (.Z (.bool (decide (l=m))))) H:=by
 refine aD (Nat.le_refl _) (aec (aA ?_))
 simp only[ZX,ux]
 refine aN ?_
 refine ai (K5 l m ro jZ hz hp _) ?_
 refine aN ?_
 exact am .refl rfl
def EI(b:jE):Prop:=b.1.length≤1000000∧b.2.2.length≤1000000∧∀k,k<b.2.2.length→(dA b.2.2 k).length≤1000000
set_option maxHeartbeats 0 in
theorem UX(x y:jE)(hx:EI x)(H:Y):D Tryz.prog 30 [fP x,fP y] H (.ret (.Z (.bool (jc x y)))) H:=by
 have h1:=fun H=>sL x.1 y.1 none none H (by have:=hx.1;omega)
 have h2:=fun H=>UW x.2.2 y.2.2 none none hx.2.1 hx.2.2 H
 unfold fP
 refine aD (Nat.le_refl _) (ad6 (aA ?_))
 simp only[ZR,ux]
 refine ae fun L hL=>?_
 refine aN ?_
 refine hL _ _ ?_
 clear hL
 refine ae fun L hL=>?_
 refine aZ ?_
 refine ai (h1 _) ?_
 by_cases e1:x.1=y.1
 ·refine ee e1 ?_
  refine ai (h2 _) ?_
  refine aN ?_
  refine hL _ _ ?_
  clear hL
  refine aN ?_
  exact am (.cons (.cons .refl)) (by simp[jc,e1])
 ·refine ee e1 ?_
  refine hL _ _ ?_
  clear hL
  refine aN ?_
  exact am (.cons (.cons .refl)) (by simp[jc,e1])
def jE.none:jE:=([],⟨#[]⟩,[])
def cV(l:List jE)(k:Nat):jE:=l.getD k jE.none
theorem mV{l:List jE}{k:Nat}(h:k<l.length):(l.map fP).getD k .top = .agg [.an 1 (aI (cV l k).1) none,.Z (.string (cV l k).2.1),.an 1 (aW (cV l k).2.2) none]:=by simp[cV,List.getD,h,fP]
theorem lU:∀{a b:List jE},a.length=b.length→(gi a b=true↔∀j,j<a.length→jc (cV a j) (cV b j)=true)
 | [],[],_=>by simp[gi]
 | [],_::_,h=>by simp at h
 | _::_,[],h=>by simp at h
 | x::r,y::s,h=>by
  simp only[gi,Bool.and_eq_true]
  rw[lU (by simpa using h)]
  constructor
  ·rintro ⟨h1,h2⟩ j hj
   cases j with
   | zero=>simpa [cV] using h1
   | succ j=>simpa [cV] using h2 j (by simpa using hj)
  ·intro h
   exact ⟨by simpa [cV] using h 0 (by simp),fun j hj=>by simpa [cV] using h (j+1) (by simpa using hj)⟩
theorem xf:∀{a b:List jE},¬a.length=b.length→gi a b=false
 | [],[],h=>absurd rfl h
 | [],_::_,_=>by simp[gi]
 | _::_,[],_=>by simp[gi]
 | a::r,b::q,h=>by
  simp only[gi,Bool.and_eq_false_iff]
  exact .inr (xf (by simpa using h))
set_option maxHeartbeats 0 in
theorem K6(l m:List jE)(ro jZ:Option (List AV))(hz:l.length≤1000000)(hp:∀k,k<l.length→EI (cV l k))(H:Y):D Tryz.prog 66 [.an 3 (l.map fP) ro,.an 3 (m.map fP) jZ,.fn (.func 30) [] []] H (.ret (.Z (.bool (gi l m)))) H:=by
 have cl:bN Tryz.prog 30=true:=by kernel_rfl
 have eF:∀l:List jE,(l.map fP).length=l.length:=fun l=>by simp
 refine aD (Nat.le_refl _) (aeh (aA ?_))
 simp only[Z2,ux]
 refine ae fun L hL=>?_
 refine aN ?_
 refine hL _ _ ?_
 clear hL
 refine ae fun L hL=>?_
 by_cases c1:l.length=m.length
 rotate_left
 ·have c2:¬(l.length:Int)=m.length:=by omega
  refine eL eF c2 ?_
  exact am .refl (xf c1).symm
 have c2:(l.length:Int)=m.length:=by omega
 refine eL eF c2 ?_
 refine hL _ _ ?_
 clear hL
 refine ae fun L hL=>?_
 refine ee eF ?_
 refine bI (fun ts F=>∃k:Nat,(k≤l.length∧∀j,j<k→jc (cV l j) (cV m j)=true)∧Over H F∧Fr [some (.an 3 (l.map fP) ro),some (.an 3 (m.map fP) jZ),some (.fn (.func 30) [] []),none,none,none,some (.Z (.bool false)),none,none,none,none,none,none,none,none,some (.an 3 (l.map fP) ro),some (.Z (.int .i64 l.length)),some (.Z (.int .i64 k)),none,none,none,none,none,none,none,none,none,none,none,none,none,none] ts) (fun ts _=>l.length - (aU (ts.getD 17 .top)).toNat) ?_ ?_
 ·exact ⟨0,⟨Nat.zero_le _,fun j h=>absurd h (Nat.not_lt_zero _)⟩,.refl,by simp[Fr]⟩
 rintro ts F ⟨k,⟨hk,ky⟩,hF,bx⟩ L2 cK
 obtain ⟨js,rfl⟩:=bx.opened
 clear bx
 by_cases hd:k<l.length
 ·have d1:(k:Int)<l.length:=by omega
  have d2:(k:Int)<m.length:=by omega
  have hg:=mV hd
  have pA:=mV (l:=m) (k:=k) (by omega)
  have hi:=fun H=>UX (cV l k) (cV m k) (hp k hd) H
  unfold fP at hi
  simp -implicitDefEqProofs (maxSteps:=99999999) (disch:=first | omega | (simp only[vl];first | done | omega)) only[mk,d1,d2,hg,pA,eF,va,vg,vs,vw,vk,simprocAttr]
  refine ⟨by omega,by omega,cl,ai (hi _) ?_⟩
  cases e1:jc (cV l k) (cV m k)
  ·refine aN ?_
   exact am (.cons (.cons hF)) (by
    cases h2:gi l m
    ·rfl
    ·rw[(lU c1).1 h2 k hd] at e1;cases e1)
  refine aN ?_
  refine cK _ _ ⟨k+1,⟨by omega,fun j hj=>?_⟩,.cons (.cons hF),by simp[Fr]⟩ (by simp[aU,mk];omega)
  rcases Nat.lt_succ_iff_lt_or_eq.1 hj with h' | rfl
  ·exact ky j h'
  ·exact e1
 ·have d1:¬(k:Int)<l.length:=by omega
  simp -implicitDefEqProofs (maxSteps:=99999999) (disch:=first | omega | (simp only[vl];first | done | omega)) only[mk,d1,va,vg,vs,vw,vk,simprocAttr]
  refine hL _ _ ?_
  clear hL
  refine wS ?_
  exact am hF ((lU c1).2 fun j hj=>ky j (by omega)).symm
theorem PS(t:Nd):∀(p:List Int)(b:Pl),b∈bJ t p→b.p.length<p.length+t.size:=by
 induction t using Nd.ind with
 | _ t ih =>
  intro p b hb
  rw[cO] at hb
  rcases List.mem_cons.1 hb with rfl | hb
  ·have:=t.size_pos;simp only;omega
  ·obtain ⟨j,u,⟨_,h2⟩,h3⟩:=eO _ _ _ _ hb
   have hu:=List.mem_of_getElem? h2
   have:=ih u hu _ b h3
   have:=Nd.qd hu
   simp at *
   omega
theorem sP(n:Nd):(cf n).length≤n.size:=by
 rw[lG]
 unfold dM
 split
 ·rw[List.length_map]
  refine Nat.le_trans (List.length_filter_le _ _) ?_
  rw[List.length_range,dN]
  exact Nat.le_refl _
 ·simp
theorem AU(n:Nd)(hs:n.size≤1000000):∀k,k<(cf n).length→EI (cV (cf n) k):=by
 rw[lG]
 intro k hk
 have hm:cV (dM n) k∈dM n:=by
  have:cV (dM n) k=(dM n)[k]:=by simp[cV,List.getD,hk]
  rw[this]
  exact List.getElem_mem _
 generalize cV (dM n) k=b at hm ⊢
 unfold dM at hm
 split at hm
 ·obtain ⟨i,hi,rfl⟩:=List.mem_map.1 hm
  have hi2:=List.mem_range.1 (List.mem_filter.1 hi).1
  have dH:∀u∈bJ n [],u.p.length≤1000000:=fun u hu=>by
   have:=PS n [] u hu
   simp at this
   omega
  refine ⟨?_,?_,fun j hj=>?_⟩
  ·have:aq (bJ n []) i=(bJ n [])[i]:=by simp[aq,List.getD,hi2]
   rw[this]
   exact dH _ (List.getElem_mem _)
  ·unfold fJ
   rw[List.length_map]
   refine Nat.le_trans (List.length_filter_le _ _) ?_
   rw[dN]
   exact hs
  ·rw[AR hj]
   have:=List.getElem_mem hj
   simp only at this
   obtain ⟨u,hu,e⟩:=List.mem_map.1 this
   rw[←e]
   exact dH u (List.mem_filter.1 hu).1
 ·simp at hm
theorem PT(H:Y)(a b:AV)(h:∀id,id<H.length→∃x,Y.find H id=some x∧qh x):∀id,id<(some (⟨4,[a],true,25⟩:aK)::some ⟨4,[b],true,25⟩::H).length→∃x,Y.find (some (⟨4,[a],true,25⟩:aK)::some ⟨4,[b],true,25⟩::H) id=some x∧qh x:=by
 intro id hid
 simp only[List.length_cons] at hid
 by_cases c:id=H.length+1
 ·exact ⟨_,aL (by simpa using c),by simp,by simp,by simp,by simp⟩
 by_cases c2:id=H.length
 ·exact ⟨_,by rw[aj (by simp;omega),aL c2],by simp,by simp,by simp,by simp⟩
 ·obtain ⟨x,h1,h2⟩:=h id (by omega)
  exact ⟨x,by rw[aj (by simp;omega),aj (by omega),h1],h2⟩
set_option maxHeartbeats 0 in
theorem UY(a b:Nd)(UZ:a.wt≤500000)(yl:a.size≤500000)(U1:b.wt≤500000)(DV:b.size≤500000)(ra rb:Option (List AV))(H:Y)(xe:∀id,id<H.length→∃x,Y.find H id=some x∧qh x):D Tryz.prog 10 [dF a ra,dF b rb] H (.ret (.Z (.bool (fx a b)))) H:=by
 have ur:=fun H=>uq a UZ yl ra H
 have hpb:=fun H=>uq b U1 DV rb H
 have jI:=fun H=>Yk a (by omega) b ra rb H
 have hba:=fun H h=>um a UZ yl ra (gG a ra) H h
 have FO:=fun H h=>um b U1 DV rb (gG b rb) H h
 have hee:∀H,D Tryz.prog 35 [.an 3 ((cf a).map fP) none,.an 3 ((cf b).map fP) none,.fn (.func 30) [] []] H (.ret (.Z (.bool (gi (cf a) (cf b))))) H:=fun H=>by
  have hk:=fun H=>K6 (cf a) (cf b) none none (by have:=sP a;omega) (AU a (by omega)) H
  refine aD (Nat.le_refl _) (aed (aA ?_))
  simp only[ZY,ux]
  refine aN ?_
  refine ai (hk _) ?_
  refine aN ?_
  exact am .refl rfl
 have sU:=PT H (dF b rb) (dF a ra) xe
 have Z6:=hba _ sU
 have Z7:=FO _ sU
 rw[aM,aM] at Z6 Z7
 clear hba FO
 rw[aM] at ur hpb
 rw[aM,aM] at jI
 rw[aM,aM]
 refine aD (Nat.le_refl _) (ad5 (aA ?_))
 simp only[ZQ,ux]
 refine ae fun L hL=>?_
 refine aN ?_
 refine hL _ _ ?_
 clear hL
 refine ae fun L hL=>?_
 refine aZ ?_
 refine hL _ _ ?_
 clear hL
 refine ae fun L hL=>?_
 cases c1:kw a
 ·rw[c1] at ur
  refine aZ ?_
  refine aJ (ur _) ?_
  refine aZ ?_
  refine hL _ _ ?_
  clear hL
  refine aZ ?_
  exact am (.cons (.cons .refl)) (by simp[fx,c1])
 rw[c1] at ur
 cases c2:kw b
 ·rw[c2] at hpb
  refine aZ ?_
  refine aJ (ur _) ?_
  refine aZ ?_
  refine aJ (hpb _) ?_
  refine aZ ?_
  refine hL _ _ ?_
  clear hL
  refine aZ ?_
  exact am (.cons (.cons .refl)) (by simp[fx,c2])
 rw[c2] at hpb
 cases c3:iG a b
 ·rw[c3] at jI
  refine aZ ?_
  refine aJ (ur _) ?_
  refine aZ ?_
  refine aJ (hpb _) ?_
  refine aZ ?_
  refine aJ (jI _) ?_
  refine aZ ?_
  refine hL _ _ ?_
  clear hL
  refine aZ ?_
  exact am (.cons (.cons .refl)) (by simp[fx,c3])
 rw[c3] at jI
 refine aZ ?_
 refine aJ (ur _) ?_
 refine aZ ?_
 refine aJ (hpb _) ?_
 refine aZ ?_
 refine aJ (jI _) ?_
 refine aZ ?_
 refine aJ Z6 ?_
 refine aZ ?_
 refine aJ Z7 ?_
 refine aZ ?_
 refine aJ (hee _) ?_
 refine aZ ?_
 refine hL _ _ ?_
 clear hL
 refine aZ ?_
 exact am (.cons (.cons .refl)) (by simp[fx,c1,c2,c3])
theorem vQ(a b:Nd)(UZ:a.wt≤500000)(yl:a.size≤500000)(U1:b.wt≤500000)(DV:b.size≤500000){x y:AV}{H:Y}(hx:View H x (fH a))(hy:View H y (fH b)):D Tryz.prog 10 [x,y] H (.ret (.Z (.bool (fx a b)))) H:=by
 have h:=UY a b UZ yl U1 DV none none [] fun id h=>by simp at h
 rw[jN,jN] at h
 exact vn (.cons hx (.cons hy .nil)) .Z h
def tw(p:List Int):List (List Int)→Nat→Int
 | [],_=>-1
 | q::r,i=>if q=p then i else tw p r (i+1)
theorem HX{p:List Int}:∀{l:List (List Int)}{i k:Nat},k<l.length→(∀j,j<k→¬dA l j=p)→dA l k=p→tw p l i=(i+k:Nat)
 | [],_,_,h,_,_=>by simp at h
 | q::r,i,0,_,_,h=>by simp[dA] at h;simp[tw,h]
 | q::r,i,k+1,h,hn,he=>by
  have h0:¬q=p:=by simpa [dA] using hn 0 (by omega)
  rw[tw,if_neg h0,HX (i:=i+1) (k:=k) (by simpa using h) (fun j hj=>by simpa [dA] using hn (j+1) (by omega)) (by simpa [dA] using he)]
  omega
theorem AW{p:List Int}:∀{l:List (List Int)}{i:Nat},(∀j,j<l.length→¬dA l j=p)→tw p l i=-1
 | [],_,_=>rfl
 | q::r,i,hn=>by
  have h0:¬q=p:=by simpa [dA] using hn 0 (by simp)
  rw[tw,if_neg h0,AW fun j hj=>by simpa [dA] using hn (j+1) (by simpa using hj)]
theorem xZ{p:List Int}:∀{l:List (List Int)}{i:Nat},dg l p=decide (tw p l i≥0)
 | [],i=>by simp[dg,tw]
 | q::r,i=>by
  rw[tw]
  by_cases c:q=p
  ·rw[if_pos c]
   simp[dg,c]
  ·rw[if_neg c,←xZ (l:=r)]
   simp[dg,c]
set_option maxHeartbeats 0 in
theorem Yl(l:List (List Int))(p:List Int)(ro:Option (List AV))(hz:l.length≤1000000)(hp:∀k,k<l.length→(dA l k).length≤1000000)(vR:Nat)(H:Y)(hb:Y.find H vR=some ⟨1,[.an 1 (aI p) none],true,30⟩) :
  D Tryz.prog 181 [.an 1 (aW l) ro,.fn (.func 129) [] [.ptr 1 vR 0 0]] H (.ret (.Z (.int .i64 (tw p l 0)))) H:=by
 have cl:bN Tryz.prog 129=true:=by kernel_rfl
 have hone:∀(q:List Int)(hq:q.length≤1000000),D Tryz.prog 129 [.an 1 (aI q) none,.ptr 1 vR 0 0] H (.ret (.Z (.bool (decide (q=p))))) H:=fun q hq=>by
  have hlt:=Y.au hb
  have h1:=fun H=>sL q p none none H (by omega)
  refine aD (Nat.le_refl _) (ab5 (aA ?_))
  simp only[UV,ux]
  refine iz hb ?_
  refine ai (h1 _) ?_
  refine aZ ?_
  exact am .refl rfl
 refine aD (Nat.le_refl _) (ab4 (aA ?_))
 simp only[UU,ux]
 refine ae fun L hL=>?_
 refine aN ?_
 refine hL _ _ ?_
 clear hL
 refine ae fun L hL=>?_
 refine ae fun L hL=>?_
 refine ee @cY ?_
 refine hL _ _ ?_
 clear hL
 refine bI (fun ts F=>∃k:Nat,(k≤l.length∧∀j,j<k→¬dA l j=p)∧F=H∧Fr [some (.an 1 (aW l) ro),some (.fn (.func 129) [] [.ptr 1 vR 0 0]),none,none,some (.Z (.int .i64 0)),none,none,some (.Z (.int .i64 l.length)),some (.Z (.int .i64 k)),none,none,none,none,none,none,none,none,none,none] ts) (fun ts _=>l.length - (aU (ts.getD 8 .top)).toNat) ?_ ?_
 ·exact ⟨0,⟨Nat.zero_le _,fun j h=>absurd h (Nat.not_lt_zero _)⟩,rfl,by simp[Fr]⟩
 rintro ts F ⟨k,⟨hk,ky⟩,EJ,bx⟩ L2 cK
 rw[EJ]
 obtain ⟨js,rfl⟩:=bx.opened
 clear bx
 by_cases hd:k<l.length
 ·have d1:(k:Int)<l.length:=by omega
  have hg:=nJ hd
  by_cases e1:dA l k=p
  ·have hi:=hone (dA l k) (hp k hd)
   rw[decide_eq_true e1] at hi
   have BH:=HX (i:=0) hd ky e1
   rw[Nat.zero_add] at BH
   simp -implicitDefEqProofs (maxSteps:=99999999) (disch:=first | omega | (simp only[vl];first | done | omega)) only[mk,d1,hg,cY,va,vg,vs,vw,vk,simprocAttr]
   refine ⟨by omega,cl,ai hi ?_⟩
   refine aN ?_
   rw[BH]
   exact bL .refl
  ·have hi:=hone (dA l k) (hp k hd)
   rw[decide_eq_false e1] at hi
   simp -implicitDefEqProofs (maxSteps:=99999999) (disch:=first | omega | (simp only[vl];first | done | omega)) only[mk,d1,hg,cY,va,vg,vs,vw,vk,simprocAttr]
   refine ⟨by omega,cl,ai hi ?_⟩
   refine aN ?_
   refine cK _ _ ⟨k+1,⟨by omega,fun j hj=>?_⟩,rfl,by simp[Fr]⟩ (by simp[aU,mk];omega)
   rcases Nat.lt_succ_iff_lt_or_eq.1 hj with h' | rfl
   ·exact ky j h'
   ·exact e1
 ·have d1:¬(k:Int)<l.length:=by omega
  have BH:=AW (i:=0) fun j hj=>ky j (by omega)
  simp -implicitDefEqProofs (maxSteps:=99999999) (disch:=first | omega | (simp only[vl];first | done | omega)) only[mk,d1,va,vg,vs,vw,vk,simprocAttr]
  clear cK
  refine hL _ _ ?_
  clear hL
  refine aN ?_
  rw[BH]
  exact bL .refl
set_option maxHeartbeats 0 in
theorem ab6(l:List (List Int))(x:ByteArray)(p:List Int)(hz:l.length≤1000000)(hp:∀k,k<l.length→(dA l k).length≤1000000) :
  D Tryz.prog 76 [.lp (.agg [.an 1 (aW l) none,.Z (.string x)]) 0,.an 1 (aI p) none] [] (.ret (.Z (.bool (dg l p)))) []:=by
 have h1:∀(vR:Nat)(H:Y),Y.find H vR=some ⟨1,[.an 1 (aI p) none],true,30⟩→D Tryz.prog 128 [.an 1 (aW l) none,.fn (.func 129) [] [.ptr 1 vR 0 0]] H (.ret (.Z (.bool (dg l p)))) H:=fun vR H hb=>by
  refine aD (Nat.le_refl _) (ab3 (aA ?_))
  simp only[UT,ux]
  refine aN ?_
  refine ai (Yl l p none hz hp vR _ hb) ?_
  refine aN ?_
  rw[xZ (i:=0)]
  exact am .refl rfl
 refine aD (Nat.le_refl _) (aej (aA ?_))
 simp only[Z4,ux]
 refine ae fun L hL=>?_
 refine aZ ?_
 refine hL _ _ ?_
 clear hL
 refine ae fun L hL=>?_
 refine aZ ?_
 refine ai (h1 _ _ (aL rfl)) ?_
 refine aZ ?_
 refine hL _ _ ?_
 clear hL
 refine aZ ?_
 exact am (.cons .refl) rfl
mutual
def fU:Nd→Nat→AV
 | ⟨k,s,n,l⟩,a=>.agg [.Z (.int .u8 k),.Z (.string s),.Z (.int .i64 n),aX 4 (fN l (a+1)) a]
def fN:List Nd→Nat→List AV
 | [],_=>[]
 | t::r,a=>fU t a::fN r (a+t.size)
end
mutual
def fQ:Nd→Nat→Y
 | ⟨_,_,_,l⟩,a=>pB l (a+1)++[bZ 4 25 (fN l (a+1))]
def pB:List Nd→Nat→Y
 | [],_=>[]
 | t::r,a=>pB r (a+t.size)++fQ t a
end
theorem eU(t:Nd)(a:Nat):fU t a = .agg [.Z (.int .u8 t.kind),.Z (.string t.text),.Z (.int .i64 t.num),aX 4 (fN t.kids (a+1)) a]:=by cases t;simp[fU,Nd.kind,Nd.text,Nd.num,Nd.kids]
theorem vS(t:Nd)(a:Nat):fQ t a=pB t.kids (a+1)++[bZ 4 25 (fN t.kids (a+1))]:=by cases t;simp[fQ,Nd.kids]
theorem fX(l:List Nd):∀a,(fN l a).length=l.length:=by
 induction l with
 | nil=>intro a;rfl
 | cons x r ih=>intro a;simp[fN,ih]
theorem jR(t:Nd):∀a,(fQ t a).length=t.size:=by
 induction t using Nd.ind with
 | _ t ih =>
  intro a
  have key:∀(l:List Nd),(∀k∈l,∀a,(fQ k a).length=k.size)→∀a,(pB l a).length=Nd.aw l:=by
   intro l
   induction l with
   | nil=>intro _ a;rfl
   | cons x r fI =>
    intro h a
    simp only[pB,List.length_append,Nd.aw,fI fun k hk=>h k (by simp[hk]),h x (by simp)]
    omega
  rw[vS,List.length_append,key _ ih,Nd.size_eq]
  simp
  omega
theorem HY(l:List Nd):∀(j a:Nat),j<l.length→(fN l a)[j]? = some (fU (aC l j) (a+Nd.aw (l.take j))):=by
 induction l with
 | nil=>intro j a h;simp at h
 | cons x r ih =>
  intro j a h
  cases j with
  | zero=>simp[fN,aC,Nd.aw]
  | succ j =>
   simp only[fN,List.getElem?_cons_succ,List.take_succ_cons,Nd.aw]
   rw[ih j (a+x.size) (by simpa using h)]
   simp[aC,Nat.add_assoc]
mutual
def xg:Nd→Nat→List (List AV)
 | ⟨_,_,_,l⟩,a=>fN l (a+1)::jS l (a+1)
def jS:List Nd→Nat→List (List AV)
 | [],_=>[]
 | t::r,a=>xg t a++jS r (a+t.size)
end
theorem yX(t:Nd)(a:Nat):xg t a=fN t.kids (a+1)::jS t.kids (a+1):=by cases t;simp[xg,Nd.kids]
theorem De:∀(p q:List (Option aK))(H:Y),lays (p++q) H=lays q (lays p H)
 | [],_,_=>rfl
 | x::r,q,H=>by simp only[List.cons_append,lays,De r q]
def HZ(l:List (List AV)):List (Option aK):=l.map (bZ 4 25)
theorem Df(t:Nd):∀(a:Nat)(H:Y),fQ t a++H=lays (HZ (xg t a)) H:=by
 induction t using Nd.ind with
 | _ t ih =>
  intro a H
  have key:∀(l:List Nd),(∀k∈l,∀(a:Nat)(H:Y),fQ k a++H=lays (HZ (xg k a)) H)→∀(a:Nat)(H:Y),pB l a++H=lays (HZ (jS l a)) H:=by
   intro l
   induction l with
   | nil=>intro _ a H;rfl
   | cons x r fI =>
    intro h a H
    simp only[pB,jS,HZ,List.map_append,De,List.append_assoc]
    have h1:=h x (by simp) a H
    have h2:=fI (fun k hk=>h k (by simp[hk])) (a+x.size) (lays (HZ (xg x a)) H)
    rw[h1,h2]
    rfl
  rw[vS,yX,List.append_assoc]
  have:=key t.kids ih (a+1) (bZ 4 25 (fN t.kids (a+1))::H)
  rw[List.singleton_append,this]
  rfl
theorem PU{k id:Nat}{xs ys:List AV}(h:xs.length=ys.length):aX k xs id=aX k ys id:=by
 cases xs<;>cases ys<;>simp_all [aX]
theorem fA(t:Nd):∀a,(xg t a).length=t.size:=by
 induction t using Nd.ind with
 | _ t ih =>
  intro a
  have key:∀(l:List Nd),(∀k∈l,∀a,(xg k a).length=k.size)→∀a,(jS l a).length=Nd.aw l:=by
   intro l
   induction l with
   | nil=>intro _ a;rfl
   | cons x r fI =>
    intro h a
    simp only[jS,List.length_append,Nd.aw,fI fun k hk=>h k (by simp[hk]),h x (by simp)]
  rw[yX,List.length_cons,key _ ih,Nd.size_eq]
  omega
theorem lw{n0:Nat}{src:List Nat}(hn:src.Nodup){i s:Nat}(h:src[i]? = some s)(hs:n0≤s):cF n0 src s=some (n0+i):=by
 unfold cF
 rw[if_neg (by omega),rK hn h]
 rfl
def eZ(F:Y)(t:Nd)(a:Nat):Prop:=∀(i:Nat)(xs:List AV),(xg t a)[i]? = some xs→Y.find F (a+i)=bZ 4 25 xs
def gR(F:Y)(l:List Nd)(a:Nat):Prop:=∀(i:Nat)(xs:List AV),(jS l a)[i]? = some xs→Y.find F (a+i)=bZ 4 25 xs
theorem eZ.head{F:Y}{t:Nd}{a:Nat}(h:eZ F t a):Y.find F a=bZ 4 25 (fN t.kids (a+1)):=h 0 _ (by rw[yX];rfl)
theorem eZ.kids{F:Y}{t:Nd}{a:Nat}(h:eZ F t a):gR F t.kids (a+1):=fun i xs hx=>by
 rw[show a+1+i=a+(i+1) by omega]
 exact h (i+1) xs (by rw[yX,List.getElem?_cons_succ];exact hx)
theorem gR.first{F:Y}{t:Nd}{r:List Nd}{a:Nat}(h:gR F (t::r) a):eZ F t a:=fun i xs hx=>by
 refine h i xs ?_
 simp only[jS]
 rw[List.getElem?_append_left (List.getElem?_eq_some_iff.1 hx).1]
 exact hx
theorem gR.rest{F:Y}{t:Nd}{r:List Nd}{a:Nat}(h:gR F (t::r) a):gR F r (a+t.size):=fun i xs hx=>by
 rw[show a+t.size+i=a+(t.size+i) by omega]
 refine h (t.size+i) xs ?_
 simp only[jS]
 rw[List.getElem?_append_right (by rw[fA];omega),fA,Nat.add_sub_cancel_left]
 exact hx
theorem lV{t:Nd}{H:Y}:eZ (fQ t H.length++H) t H.length:=fun i xs hx=>by
 rw[Df]
 exact pq (by simp[HZ,hx])
theorem eZ.of{F G:Y}{t:Nd}{a:Nat}(h:eZ F t a)(hs:∀i,a≤i→i<a+t.size→Y.find G i=Y.find F i):eZ G t a:=fun i xs hx=>by
 have hi:=(List.getElem?_eq_some_iff.1 hx).1
 rw[fA] at hi
 rw[hs _ (by omega) (by omega)]
 exact h i xs hx
theorem Dg{F:Y}(t:Nd):∀{a:Nat},eZ F t a→View F (fU t a) (fH t):=by
 induction t using Nd.ind with
 | _ t ih =>
  intro a h
  have key:∀(l:List Nd),(∀k∈l,∀{a:Nat},eZ F k a→View F (fU k a) (fH k))→∀a,gR F l a→ct F (fN l a) (bC l):=by
   intro l
   induction l with
   | nil=>intro _ a _;exact .nil
   | cons x r fI =>
    intro hx a hl
    exact .cons (hx x (by simp) hl.first) (fI (fun k hk=>hx k (by simp[hk])) _ hl.rest)
  rw[eU,ki]
  exact .agg (.cons .Z (.cons .Z (.cons .Z (.cons (ct.own (fun _=>h.head) (key _ ih _ h.kids)) .nil))))
set_option maxHeartbeats 0 in
theorem Ym(t:Nd):∀(ro:Option (List AV))(m:Nat)(TY:m≤41)(hz:t.size≤1000000)(H:Y),D Tryz.prog 77 [dF t ro,.Z (.int .i64 m)] H (.ret (.Z (.bool (bB t m)))) H:=by
 induction t using Nd.ind with
 | _ t ih =>
  intro ro m TY hz H
  have mc:=Nd.GY t
  have hP:=lm t m
  have K7:∀H,D Tryz.prog 132 [.agg [.Z (.int .u8 t.kind),.Z (.string t.text),.Z (.int .i64 t.num),.an 4 (bC t.kids) ro]] H (.ret (.Z (.bool (jD t)))) H:=fun H=>XW t ro H
  have gq:∀h:t.kind=7,nB t=true→t.kids.length=2:=fun h h2=>GZ h h2
  have Dh:nB t=(gT t.kind && lT t.kind t.num && jD t && (decide (dZ t.kind<0) || decide ((t.kids.length:Int)=dZ t.kind))):=rfl
  refine aD (Nat.le_refl _) (Zp (aA ?_))
  simp only[TC,ux]
  rw[aM]
  have fF:∀H F:Y,Over H F→bB t m=false→eo H (.ret (.Z (.bool false))) F (.ret (.Z (.bool (bB t m)))) H:=fun H F h e=>by rw[e];exact bL h
  refine ae fun L hL=>?_
  refine aN ?_
  refine hL _ _ ?_
  clear hL
  refine ae fun L hL=>?_
  suffices key:∀ts,Fr [none,some (.Z (.int .i64 m)),some (.ptr 4 H.length 0 0),none,some (.Z (.bool false)),some (.Z (.bool (gT t.kind))),none,none,none,none,none,none,none,none,none,none,none,none,none,none,none,none,none,none,none,none,none,none,none,none,none,none,none,none,none,none,none,none,none,none,none,none,none,none,none,none,none,none,none,none,none,none,none,none,none,none,none,none,none,none,none,none,none,none,none,none,none,none,none,none,none,none,none,none,none,none,none,none,none,none,none,none,none,none,none,none,none,none,none,none,none,none,none,none,none,none,none,none,none,none,none,none,none,none,none,none,none,none,none,none,none,none,none,none,none,none,none,none,none,none,none,none,none,none,none] ts→L ts (some ⟨4,[.agg [.Z (.int .u8 t.kind),.Z (.string t.text),.Z (.int .i64 t.num),.an 4 (bC t.kids) ro]],true,25⟩::H) by
   by_cases a1:t.kind≥1
   ·by_cases a2:t.kind≤12
    ·have e:gT t.kind=true:=by simp[gT,a2];omega
     refine eL a1 a2 ?_
     exact key _ (by simp[Fr,e])
    ·have e:gT t.kind=dY t.kind:=by simp[gT,a2]
     refine eL a1 a2 ?_
     refine ai (lS _ _) ?_
     refine aN ?_
     exact key _ (by simp[Fr,e])
   ·have e:gT t.kind=dY t.kind:=by simp[gT];omega
    refine ee a1 ?_
    refine ai (lS _ _) ?_
    refine aN ?_
    exact key _ (by simp[Fr,e])
  intro ts bx
  obtain ⟨js,rfl⟩:=bx.opened
  clear bx
  refine hL _ _ ?_
  clear hL
  refine ae fun L hL=>?_
  suffices key:∀ts,Fr [none,some (.Z (.int .i64 m)),some (.ptr 4 H.length 0 0),none,some (.Z (.bool false)),some (.Z (.bool (gT t.kind))),some (.Z (.bool (lT t.kind t.num))),none,none,none,none,none,none,none,none,none,none,none,none,none,none,none,none,none,none,none,none,none,none,none,none,none,none,none,none,none,none,none,none,none,none,none,none,none,none,none,none,none,none,none,none,none,none,none,none,none,none,none,none,none,none,none,none,none,none,none,none,none,none,none,none,none,none,none,none,none,none,none,none,none,none,none,none,none,none,none,none,none,none,none,none,none,none,none,none,none,none,none,none,none,none,none,none,none,none,none,none,none,none,none,none,none,none,none,none,none,none,none,none,none,none,none,none,none,none] ts→L ts (some ⟨4,[.agg [.Z (.int .u8 t.kind),.Z (.string t.text),.Z (.int .i64 t.num),.an 4 (bC t.kids) ro]],true,25⟩::H) by
   by_cases a0:t.num=0
   ·have e:lT t.kind t.num=true:=by simp[lT,a0]
    have a0':=decide_eq_true a0
    simp -implicitDefEqProofs (maxSteps:=99999999) (disch:=first | omega | (simp only[vl];first | done | omega)) only[mk,a0',va,vg,vs,vw,vk,simprocAttr]
    exact key _ (by simp[Fr,e])
   by_cases b0:t.kind=20
   ·have b0':=decide_eq_true b0
    by_cases a1:t.num > 0
    ·have e:lT t.kind t.num=true:=by simp[lT,b0,a1]
     simp -implicitDefEqProofs (maxSteps:=99999999) (disch:=first | omega | (simp only[vl];first | done | omega)) only[mk,a0,a1,b0',va,vg,vs,vw,vk,simprocAttr]
     exact key _ (by simp[Fr,e])
    ·have e:lT t.kind t.num=false:=by
      rw[←Bool.not_eq_true]
      simp[lT,b0,a0]
      omega
     have b1:¬t.kind=21:=by omega
     simp -implicitDefEqProofs (maxSteps:=99999999) (disch:=first | omega | (simp only[vl];first | done | omega)) only[mk,a0,a1,b0',b1,va,vg,vs,vw,vk,simprocAttr]
     exact key _ (by simp[Fr,e])
   by_cases b1:t.kind=21
   ·have b1':=decide_eq_true b1
    by_cases a1:t.num=1
    ·have e:lT t.kind t.num=true:=by simp[lT,b1,a1]
     have a1':=decide_eq_true a1
     simp -implicitDefEqProofs (maxSteps:=99999999) (disch:=first | omega | (simp only[vl];first | done | omega)) only[mk,a0,a1',b0,b1',va,vg,vs,vw,vk,simprocAttr]
     exact key _ (by simp[Fr,e])
    ·have e:lT t.kind t.num=false:=by simp[lT,b1,a0,a1]
     simp -implicitDefEqProofs (maxSteps:=99999999) (disch:=first | omega | (simp only[vl];first | done | omega)) only[mk,a0,a1,b0,b1',va,vg,vs,vw,vk,simprocAttr]
     exact key _ (by simp[Fr,e])
   ·have e:lT t.kind t.num=false:=by simp[lT,b0,b1,a0]
    simp -implicitDefEqProofs (maxSteps:=99999999) (disch:=first | omega | (simp only[vl];first | done | omega)) only[mk,a0,b0,b1,va,vg,vs,vw,vk,simprocAttr]
    exact key _ (by simp[Fr,e])
  clear js
  intro ts bx
  obtain ⟨js,rfl⟩:=bx.opened
  clear bx
  refine hL _ _ ?_
  clear hL
  refine ae fun L hL=>?_
  simp -implicitDefEqProofs (maxSteps:=99999999) (disch:=first | omega | (simp only[vl];first | done | omega)) only[mk,va,vg,vs,vw,vk,simprocAttr]
  refine ai (GN _ _) ?_
  simp -implicitDefEqProofs (maxSteps:=99999999) (disch:=first | omega | (simp only[vl];first | done | omega)) only[mk,va,vg,vs,vw,vk,simprocAttr]
  refine hL _ _ ?_
  clear hL
  refine ae fun L hL=>?_
  by_cases c1:(m:Int)<1
  ·simp -implicitDefEqProofs (maxSteps:=99999999) (disch:=first | omega | (simp only[vl];first | done | omega)) only[mk,c1,va,vg,vs,vw,vk,simprocAttr]
   exact fF _ _ (.cons .refl) (by rw[hP];simp;omega)
  have hm:1≤m:=by omega
  cases hk:gT t.kind
  ·simp -implicitDefEqProofs (maxSteps:=99999999) (disch:=first | omega | (simp only[vl];first | done | omega)) only[mk,c1,va,vg,vs,vw,vk,simprocAttr]
   exact fF _ _ (.cons .refl) (by rw[hP,Dh];simp[hk])
  cases hn:lT t.kind t.num
  ·simp -implicitDefEqProofs (maxSteps:=99999999) (disch:=first | omega | (simp only[vl];first | done | omega)) only[mk,c1,va,vg,vs,vw,vk,simprocAttr]
   exact fF _ _ (.cons .refl) (by rw[hP,Dh];simp[hn])
  simp -implicitDefEqProofs (maxSteps:=99999999) (disch:=first | omega | (simp only[vl];first | done | omega)) only[mk,c1,va,vg,vs,vw,vk,simprocAttr]
  refine ai (K7 _) ?_
  cases ht:jD t
  ·simp -implicitDefEqProofs (maxSteps:=99999999) (disch:=first | omega | (simp only[vl];first | done | omega)) only[mk,va,vg,vs,vw,vk,simprocAttr]
   exact fF _ _ (.cons .refl) (by rw[hP,Dh];simp[ht])
  by_cases c2:dZ t.kind≥0∧¬(t.kids.length:Int)=dZ t.kind
  ·obtain ⟨c2,c3⟩:=c2
   simp -implicitDefEqProofs (maxSteps:=99999999) (disch:=first | omega | (simp only[vl];first | done | omega)) only[mk,c2,c3,aF,va,vg,vs,vw,vk,simprocAttr]
   exact fF _ _ (.cons .refl) (by rw[hP,Dh];simp[c3];omega)
  have TZ:nB t=true:=by
   rw[Dh,hk,hn,ht]
   simp
   omega
  have Ak:bB t m=(ko t.kind t.kids 0 (m - 1) && tt t.kind t.kids):=by
   rw[lm,TZ]
   simp[hm]
  clear hP Dh
  suffices key:∀ts,Fr [none,some (.Z (.int .i64 m)),some (.ptr 4 H.length 0 0),none,some (.Z (.bool false)),none,none,none,none,none,none,none,none,none,none,none,none,none,none,none,none,none,none,none,none,none,none,none,none,none,none,none,none,none,none,none,none,none,none,none,none,none,none,none,none,none,none,none,none,none,none,none,none,none,none,none,none,none,none,none,none,none,none,none,none,none,none,none,none,none,none,none,none,none,none,none,none,none,none,none,none,none,none,none,none,none,none,none,none,none,none,none,none,none,none,none,none,none,none,none,none,none,none,none,none,none,none,none,none,none,none,none,none,none,none,none,none,none,none,none,none,none,none,none,none] ts→L ts (some ⟨4,[.agg [.Z (.int .u8 t.kind),.Z (.string t.text),.Z (.int .i64 t.num),.an 4 (bC t.kids) ro]],true,25⟩::H) by
   by_cases K3:dZ t.kind≥0
   ·have c3:(t.kids.length:Int)=dZ t.kind:=by omega
    simp -implicitDefEqProofs (maxSteps:=99999999) (disch:=first | omega | (simp only[vl];first | done | omega)) only[mk,K3,c3,aF,va,vg,vs,vw,vk,simprocAttr]
    exact key _ (by simp[Fr])
   ·simp -implicitDefEqProofs (maxSteps:=99999999) (disch:=first | omega | (simp only[vl];first | done | omega)) only[mk,K3,aF,va,vg,vs,vw,vk,simprocAttr]
    exact key _ (by simp[Fr])
  clear js
  intro ts bx
  obtain ⟨js,rfl⟩:=bx.opened
  clear bx
  refine hL _ _ ?_
  clear hL
  refine ae fun L hL=>?_
  simp -implicitDefEqProofs (maxSteps:=99999999) (disch:=first | omega | (simp only[vl];first | done | omega)) only[mk,aF,va,vg,vs,vw,vk,simprocAttr]
  refine bI (fun ts F=>∃k:Nat,(k≤t.kids.length∧∀j,j<k→dB t.kind (aC t.kids j).kind j=true∧bB (aC t.kids j) (m - 1)=true)∧F=some ⟨4,[.agg [.Z (.int .u8 t.kind),.Z (.string t.text),.Z (.int .i64 t.num),.an 4 (bC t.kids) ro]],true,25⟩::H∧Fr [none,some (.Z (.int .i64 m)),some (.ptr 4 H.length 0 0),none,some (.Z (.bool false)),none,none,none,some (.Z (.int .i64 k)),none,none,none,none,none,none,none,none,none,none,none,none,none,none,none,none,none,none,none,none,none,none,none,none,none,none,none,none,none,none,none,none,none,none,none,none,none,none,none,none,none,none,none,none,none,none,none,none,none,none,none,none,none,none,none,none,none,none,none,none,none,none,none,none,none,none,none,none,none,none,none,none,none,none,none,none,none,none,none,none,none,none,none,none,none,none,none,none,none,none,none,none,none,none,none,none,none,none,none,none,none,none,none,none,none,none,none,none,none,none,none,none,none,none,none,none] ts) (fun ts _=>t.kids.length - (aU (ts.getD 8 .top)).toNat) ?_ ?_
  ·exact ⟨0,⟨Nat.zero_le _,fun j h=>absurd h (Nat.not_lt_zero _)⟩,rfl,by simp[Fr]⟩
  clear js
  rintro ts F ⟨k,⟨hk,hp⟩,rfl,bx⟩ L2 cK
  obtain ⟨js,rfl⟩:=bx.opened
  clear bx
  have Fy:Over H (some (⟨4,[.agg [.Z (.int .u8 t.kind),.Z (.string t.text),.Z (.int .i64 t.num),.an 4 (bC t.kids) ro]],true,25⟩:aK)::H):=.cons .refl
  by_cases Al:k<t.kids.length
  ·have d1:(k:Int)<t.kids.length:=by omega
   have hg:=dm Al
   have eJ:=e8 Al
   have UD:((m:Int) - 1)=((m - 1:Nat):Int):=by omega
   simp -implicitDefEqProofs (maxSteps:=99999999) (disch:=first | omega | (simp only[vl];first | done | omega)) only[mk,d1,hg,aF,va,vg,vs,vw,vk,simprocAttr]
   refine ⟨by omega,aJ (TR _ _ _ _) ?_⟩
   cases e1:dB t.kind (aC t.kids k).kind k
   ·refine aN ?_
    exact fF _ _ Fy (by rw[Ak,sI Al (.inl e1)];rfl)
   refine eL hg @aF ?_
   refine ⟨by omega,?_⟩
   have hi:=fun H=>ih _ eJ none (m - 1) (by omega) (by have:=Nd.qd eJ;omega) H
   rw[aM,←UD] at hi
   refine aJ (hi _) ?_
   cases e2:bB (aC t.kids k) (m - 1)
   ·refine aN ?_
    exact fF _ _ Fy (by rw[Ak,sI Al (.inr e2)];rfl)
   refine aN ?_
   refine cK _ _ ⟨k+1,⟨by omega,fun j hj=>?_⟩,rfl,by simp[Fr]⟩ (by simp[aU,mk];omega)
   rcases Nat.lt_succ_iff_lt_or_eq.1 hj with h' | rfl
   ·exact hp j h'
   ·exact ⟨e1,e2⟩
  ·have d1:¬(k:Int)<t.kids.length:=by omega
   have hR:=CQ Al hp
   simp -implicitDefEqProofs (maxSteps:=99999999) (disch:=first | omega | (simp only[vl];first | done | omega)) only[mk,d1,aF,va,vg,vs,vw,vk,simprocAttr]
   refine hL _ _ ?_
   clear hL
   by_cases g7:t.kind=7
   ·have h2:=gq g7 TZ
    have eW:¬k<2:=by omega
    have vE:=dm (l:=t.kids) (k:=0) (by omega)
    have o7:=hp 0 (by omega)
    rw[g7] at o7
    have h0:(0:Int)<(2:Nat):=by omega
    have g7':decide (¬t.kind=7)=false:=by simp[g7]
    by_cases g22:(aC t.kids 0).kind=22
    ·rw[g22] at vE
     refine GF g7' vE @aF h2 h0 ?_
     exact am Fy (by rw[Ak,hR,g7];simp[tt,g22])
    ·have KG:(aC t.kids 0).kind=26:=by
      rcases CR o7.1 with h | h
      ·exact absurd h g22
      ·exact h
     have i2:=Aj KG o7.2
     have yu:=dm (l:=(aC t.kids 0).kids) (k:=0) (by omega)
     rw[KG] at vE
     refine nW g7' vE yu @aF h2 i2 h0 ?_
     exact am Fy (by rw[Ak,hR,g7];simp[tt,KG])
   ·refine ee g7 ?_
    exact am Fy (by rw[Ak,hR];simp[tt,g7])
theorem Di(t:Nd)(ro:Option (List AV))(hz:t.size≤1000000)(H:Y):D Tryz.prog 46 [dF t ro] H (.ret (.Z (.bool (bB t 40)))) H:=by
 have hr:=fun H=>Ym t ro 40 (by omega) hz H
 rw[aM] at hr ⊢
 refine aD (Nat.le_refl _) (Zo (aA ?_))
 simp only[Ty,ux]
 refine aN ?_
 refine ai (hr _) ?_
 refine aN ?_
 exact am (.cons .refl) rfl
def AY:Nd→Nat→Nat→Nat→List Int→Option (Nat×Nat)
 | _,id,j,_,[]=>some (id,j)
 | t,id,j,a,k::r=>if 0≤k∧k<t.kids.length then AY (aC t.kids k.toNat) a k.toNat (a+1+Nd.aw (t.kids.take k.toNat)) r else none
theorem gR.at_{F:Y}:∀{l:List Nd}{a k:Nat},gR F l a→k<l.length→eZ F (aC l k) (a+Nd.aw (l.take k))
 | [],_,_,_,h=>by simp at h
 | t::r,a,0,hl,_=>by simpa [aC,Nd.aw] using hl.first
 | t::r,a,k+1,hl,h=>by
  have:=hl.rest.at_ (k:=k) (by simpa using h)
  simp only[List.take_succ_cons,Nd.aw]
  rw[show a+(t.size+Nd.aw (r.take k))=a+t.size+Nd.aw (r.take k) by omega]
  simpa [aC] using this
def K8:Nd→Nd→List Int→Nd
 | _,rS,[]=>rS
 | t,rS,k::r=>⟨t.kind,t.text,t.num,t.kids.set k.toNat (K8 (aC t.kids k.toNat) rS r)⟩
theorem vT{l:List Nd}{k:Nat}(h:k<l.length):Nd.aw (l.take k)+(aC l k).size≤Nd.aw l:=by
 have h1:=iJ h
 have h2:=mT l (k+1)
 omega
theorem H6{l:List Nd}{m q:Nat}(h:m<q)(hm:m<l.length):Nd.aw (l.take m)+(aC l m).size≤Nd.aw (l.take q):=by
 have h1:=iJ hm
 have h2:=mT (l.take q) (m+1)
 rw[List.take_take,Nat.min_eq_left (by omega)] at h2
 omega
theorem U4{t:Nd}{id j a i m:Nat}{q:Int}{r:List Int}(h:AY t id j a (q::r)=some (i,m)):a≤i∧i<a+t.size:=by
 induction r generalizing t id j a q with
 | nil =>
  simp only[AY] at h
  split at h
  ·simp only[Option.some.injEq,Prod.mk.injEq] at h
   have:=t.size_pos
   omega
  ·cases h
 | cons q2 r ih =>
  rw[AY] at h
  split at h
  ·rename_i hk
   have h1:=ih h
   have h2:=vT (l:=t.kids) (k:=q.toNat) (by omega)
   have h3:=Nd.size_eq t
   omega
  ·cases h
theorem H7{l:List Nd}{m:Nat}(h:m<l.length):(bC l)[m]? = some (fH (aC l m)):=by
 rw[vt,gv h]
 simp[h]
structure ael(G:Y)(n0:Nat)(R:AV→AV→Prop):Prop where
 same:∀{t:Nd}{a:Nat},n0≤a→eZ G t a→R (fU t a) (fH t)
 node:∀{k n:Int}{s:ByteArray}{xs xs':List AV}{ys:List AV}{a:Nat},n0≤a→xs.length=xs'.length→(xs'≠[]→Y.find G a=some ⟨4,xs',false,25⟩)→xs'.length=ys.length→(∀(m:Nat)(x y:AV),xs'[m]? = some x→ys[m]? = some y→R x y)→R (.agg [.Z (.int .u8 k),.Z (.string s),.Z (.int .i64 n),aX 4 xs a]) (.agg [.Z (.int .u8 k),.Z (.string s),.Z (.int .i64 n),.an 4 ys none])
theorem H8{l:List Nd}{k m:Nat}{x:Nd}(hk:k<l.length):aC (l.set k x) m=if m=k then x else aC l m:=by
 unfold aC
 rw[List.getD_eq_getElem?_getD,List.getElem?_set,List.getD_eq_getElem?_getD]
 by_cases e:k=m
 ·subst e
  simp[hk]
 ·rw[if_neg e,if_neg (fun h=>e h.symm)]
theorem aem{F G:Y}{n0:Nat}{R:AV→AV→Prop}(hR:ael G n0 R){rS:Nd}{b:Nat}(aen:R (fU rS b) (fH rS))(r:List Int):∀{t:Nd}{id j a i m:Nat}{q:Int}{es:List AV},n0≤a→eZ F t a→AY t id j a (q::r)=some (i,m)→Y.find F i=some ⟨4,es,false,25⟩→Y.find G i=some ⟨4,es.set m (fU rS b),false,25⟩→(∀x,a≤x→x<a+t.size→x≠i→Y.find G x=Y.find F x)→R (fU t a) (fH (K8 t rS (q::r))):=by
 induction r with
 | nil =>
  intro t id j a i m q es hn hl hp hf hg ho
  simp only[AY] at hp
  split at hp
  case isFalse=>cases hp
  rename_i hq
  simp only[Option.some.injEq,Prod.mk.injEq] at hp
  obtain ⟨rfl,rfl⟩:=hp
  have K9:q.toNat<t.kids.length:=by omega
  have hne:fN t.kids (a+1)≠[]:=fun e=>by have:=fX t.kids (a+1);rw[e] at this;simp at this;omega
  have kX:es=fN t.kids (a+1):=by
   have:=hl.head
   rw[hf,bt hne] at this
   simpa using this
  subst kX
  rw[eU,ki]
  show R (.agg [.Z (.int .u8 t.kind),.Z (.string t.text),.Z (.int .i64 t.num),aX 4 (fN t.kids (a+1)) a]) (.agg [.Z (.int .u8 t.kind),.Z (.string t.text),.Z (.int .i64 t.num),.an 4 (bC (t.kids.set q.toNat rS)) none])
  refine hR.node hn (xs':=(fN t.kids (a+1)).set q.toNat (fU rS b)) (by simp) (fun _=>hg) (by rw[List.length_set,fX,aF,List.length_set]) (fun m x y hx hy=>?_)
  have nU:m<t.kids.length:=by
   have:=(List.getElem?_eq_some_iff.1 hx).1
   rwa [List.length_set,fX] at this
  rw[H7 (by rw[List.length_set];exact nU),H8 K9] at hy
  cases hy
  rw[List.getElem?_set] at hx
  by_cases e:q.toNat=m
  ·rw[if_pos e,if_pos (by rw[fX];omega)] at hx
   cases hx
   rw[if_pos e.symm]
   exact aen
  ·rw[if_neg e,HY _ _ _ nU] at hx
   cases hx
   rw[if_neg (fun h=>e h.symm)]
   have hsz:=vT nU
   have D0:=Nd.size_eq t
   exact hR.same (by omega) ((hl.kids.at_ nU).of fun x h1 h2=>ho x (by omega) (by omega) (by omega))
 | cons q2 r ih =>
  intro t id j a i m q es hn hl hp hf hg ho
  rw[AY] at hp
  split at hp
  case isFalse=>cases hp
  rename_i hq
  have K9:q.toNat<t.kids.length:=by omega
  have hin:=U4 hp
  have hne:fN t.kids (a+1)≠[]:=fun e=>by have:=fX t.kids (a+1);rw[e] at this;simp at this;omega
  have hsz:=vT K9
  have D0:=Nd.size_eq t
  have hG:Y.find G a=some ⟨4,fN t.kids (a+1),false,25⟩:=by
   rw[ho a (by omega) (by omega) (by omega),hl.head,bt hne]
  have h1:=ih (by omega) (hl.kids.at_ K9) hp hf hg (fun x h1 h2 h3=>ho x (by omega) (by omega) h3)
  rw[eU,ki]
  show R (.agg [.Z (.int .u8 t.kind),.Z (.string t.text),.Z (.int .i64 t.num),aX 4 (fN t.kids (a+1)) a]) (.agg [.Z (.int .u8 t.kind),.Z (.string t.text),.Z (.int .i64 t.num),.an 4 (bC (t.kids.set q.toNat (K8 (aC t.kids q.toNat) rS (q2::r)))) none])
  refine hR.node hn (xs':=fN t.kids (a+1)) rfl (fun _=>hG) (by rw[fX,aF,List.length_set]) (fun m x y hx hy=>?_)
  have nU:m<t.kids.length:=by
   have:=(List.getElem?_eq_some_iff.1 hx).1
   rwa [fX] at this
  rw[H7 (by rw[List.length_set];exact nU),H8 K9] at hy
  cases hy
  rw[HY _ _ _ nU] at hx
  cases hx
  by_cases e:q.toNat=m
  ·subst e
   rw[if_pos rfl]
   exact h1
  ·rw[if_neg (fun h=>e h.symm)]
   have Bu:=vT nU
   refine hR.same (by omega) ((hl.kids.at_ nU).of fun x h1 h2=>ho x (by omega) (by omega) ?_)
   rcases Nat.lt_or_gt_of_ne e with g | g
   ·have:=H6 g (by omega:q.toNat<t.kids.length)
    omega
   ·have:=H6 g nU
    omega
theorem U5{l m:List Nd}(h:l.length=m.length)(hp:∀j,j<l.length→lj (aC l j) (aC m j)=true):l9 l m=true:=by
 rw[tW]
 refine List.ext_getElem h fun j h1 h2=>?_
 have:=(tV _ _).1 (hp j h1)
 rwa [gv h1,gv h2] at this
theorem U6{l m:List Nd}(h:¬l.length=m.length):l9 l m=false:=by
 rw[←Bool.not_eq_true,tW]
 exact fun e=>h (by rw[e])
theorem U7{l m:List Nd}{k:Nat}(hk:k<l.length)(h:lj (aC l k) (aC m k)=false):l9 l m=false:=by
 rw[←Bool.not_eq_true,tW]
 rintro rfl
 rw[rP] at h
 cases h
set_option maxHeartbeats 0 in
theorem BW(l:List Nd)(hz:Nd.aw l≤1000000)(ih:∀a∈l,∀(b:Nd)(H:Y),D Tryz.prog 16 [dF a none,dF b none] H (.ret (.Z (.bool (lj a b)))) H)(m:List Nd)(ro jZ:Option (List AV))(H:Y):D Tryz.prog 49 [.an 4 (bC l) ro,.an 4 (bC m) jZ] H (.ret (.Z (.bool (l9 l m)))) H:=by
 have hl:=Nd.iZ l
 refine aD (Nat.le_refl _) (adT (aA ?_))
 simp only[ZE,ux]
 refine ae fun L hL=>?_
 refine aN ?_
 refine hL _ _ ?_
 clear hL
 refine ae fun L hL=>?_
 by_cases c1:l.length=m.length
 rotate_left
 ·have c2:¬(l.length:Int)=m.length:=by omega
  refine eL @aF c2 ?_
  exact am .refl (U6 c1).symm
 have c2:(l.length:Int)=m.length:=by omega
 refine eL @aF c2 ?_
 refine hL _ _ ?_
 clear hL
 refine ae fun L hL=>?_
 refine aN ?_
 refine bI (fun ts F=>∃k:Nat,(k≤l.length∧∀j,j<k→lj (aC l j) (aC m j)=true)∧F=H∧Fr [some (.an 4 (bC l) ro),some (.an 4 (bC m) jZ),none,none,some (.Z (.bool false)),some (.Z (.int .i64 k)),none,none,none,none,none,none,none,none,none,none,none,none,none,none,none,none,none,none,none,none,none] ts) (fun ts _=>l.length - (aU (ts.getD 5 .top)).toNat) ?_ ?_
 ·exact ⟨0,⟨Nat.zero_le _,fun j h=>absurd h (Nat.not_lt_zero _)⟩,rfl,by simp[Fr]⟩
 rintro ts F ⟨k,⟨hk,hp⟩,rfl,bx⟩ L2 cK
 obtain ⟨js,rfl⟩:=bx.opened
 clear bx
 by_cases hd:k<l.length
 ·have d1:(k:Int)<l.length:=by omega
  have d2:(k:Int)<m.length:=by omega
  have hg:=dm hd
  have pA:=dm (l:=m) (k:=k) (by omega)
  have hi:=fun H=>ih _ (e8 hd) (aC m k) H
  rw[aM,aM] at hi
  simp -implicitDefEqProofs (maxSteps:=99999999) (disch:=first | omega | (simp only[vl];first | done | omega)) only[mk,d1,d2,hg,pA,aF,va,vg,vs,vw,vk,simprocAttr]
  refine ⟨by omega,by omega,aJ (hi _) ?_⟩
  cases e1:lj (aC l k) (aC m k)
  ·refine aN ?_
   exact am .refl (U7 hd e1).symm
  refine aN ?_
  refine cK _ _ ⟨k+1,⟨by omega,fun j hj=>?_⟩,rfl,by simp[Fr]⟩ (by simp[aU,mk];omega)
  rcases Nat.lt_succ_iff_lt_or_eq.1 hj with h' | rfl
  ·exact hp j h'
  ·exact e1
 ·have d1:¬(k:Int)<l.length:=by omega
  simp -implicitDefEqProofs (maxSteps:=99999999) (disch:=first | omega | (simp only[vl];first | done | omega)) only[mk,d1,aF,va,vg,vs,vw,vk,simprocAttr]
  refine hL _ _ ?_
  clear hL
  refine wS ?_
  exact am .refl (U5 c1 fun j hj=>hp j (by omega)).symm
set_option maxHeartbeats 0 in
theorem sg(a:Nd):∀(hz:a.size≤1000000)(b:Nd)(ro jZ:Option (List AV))(H:Y),D Tryz.prog 16 [dF a ro,dF b jZ] H (.ret (.Z (.bool (lj a b)))) H:=by
 induction a using Nd.ind with
 | _ a ih =>
  intro hz b ro jZ H
  have hs:=Nd.size_eq a
  have hk:=fun H=>BW a.kids (by omega) (fun x hx b H=>ih x hx (by have:=Nd.qd hx;omega) b none none H) b.kids ro jZ H
  have hq:=Pe a b
  rw[aM,aM]
  refine aD (Nat.le_refl _) (adS (aA ?_))
  simp only[ZD,ux]
  refine ae fun L hL=>?_
  refine aN ?_
  refine hL _ _ ?_
  clear hL
  refine ae fun L hL=>?_
  by_cases c1:a.kind=b.kind
  rotate_left
  ·refine ee c1 ?_
   refine hL _ _ ?_
   clear hL
   refine aN ?_
   exact am (.cons (.cons .refl)) (by rw[hq];simp[c1])
  have zA:=decide_eq_true c1
  by_cases c2:a.text=b.text
  rotate_left
  ·refine eL zA c2 ?_
   refine hL _ _ ?_
   clear hL
   refine aN ?_
   exact am (.cons (.cons .refl)) (by rw[hq];simp[c2])
  have K3:=decide_eq_true c2
  by_cases c3:a.num=b.num
  rotate_left
  ·refine vo zA K3 c3 ?_
   refine hL _ _ ?_
   clear hL
   refine aN ?_
   exact am (.cons (.cons .refl)) (by rw[hq];simp[c3])
  have K2:=decide_eq_true c3
  refine vo zA K3 K2 ?_
  refine ai (hk _) ?_
  refine aN ?_
  refine hL _ _ ?_
  clear hL
  refine aN ?_
  exact am (.cons (.cons .refl)) (by rw[hq];simp[c1,c2,c3])
theorem H9(k i:Int):IntKind.i64.wrap (oO k i)=oO k i:=by
 have hb:∀n:Int,IntKind.i64.wrap n=n.bmod 18446744073709551616:=fun n=>by
  simp only[IntKind.wrap,show IntKind.i64.bits=64 from rfl,show IntKind.i64.signed=true from rfl,Bool.true_and,decide_eq_true_eq,Int.bmod]
  split<;>split<;>omega
 unfold oO
 rw[hb (IntKind.i64.wrap (1000003*IntKind.i64.wrap (k+7))+i),hb]
 exact Int.bmod_bmod
def nK(k i:Int):AV:=.agg [.Z (.int .u8 0),.Z (.string ⟨#[]⟩),.Z (.int .i64 (oO k i)),.an 0 [] (some [])]
theorem Dj(k i:Int):nK k i = .agg [.Z (.int .u8 0),.Z (.string ⟨#[]⟩),.Z (.int .i64 (oO k i)),.an 0 [] (some [])]:=rfl
def gm(j:Nat):List AV:=(List.range j).map fun i:Nat=>nK 1 (i:Int)
theorem si{j:Nat}:(gm j).length=j:=by simp[gm]
theorem EK{j:Nat}:gm (j+1)=gm j++[nK 1 j]:=by simp[gm,List.range_succ]
theorem PV{F:Y}{n0:Nat}{src:List Nat}(k i:Int):Gz F n0 src (nK k i) (nK k i):=.agg (.cons (.same trivial) (.cons (.same trivial) (.cons (.same trivial) (.cons .Zc .nil))))
theorem AZ{F:Y}{n0:Nat}{src:List Nat}(j:Nat):de F n0 src (gm j) (gm j):=de.map fun i _=>PV _ _
abbrev Ia(n a:Nat):AV:=.aE 4 a 0 n (some (n+12))
def ou(t:Nd)(a:Nat):AV:=.agg [.Z (.int .u8 t.kind),.Z (.string t.text),.Z (.int .i64 t.num),Ia t.kids.length a]
theorem kz(t:Nd)(a:Nat):ou t a = .agg [.Z (.int .u8 t.kind),.Z (.string t.text),.Z (.int .i64 t.num),.aE 4 a 0 t.kids.length (some (t.kids.length+12))]:=rfl
def qD:List Nd→Nat→List AV
 | [],_=>[]
 | t::r,a=>ou t a::qD r (a+t.size)
theorem jd(l:List Nd):∀a,(qD l a).length=l.length:=by
 induction l with
 | nil=>intro a;rfl
 | cons x r ih=>intro a;simp[qD,ih]
def jh(l:List Nd)(a:Nat):List AV:=qD l (a+1)++gm 12
theorem vU{l:List Nd}{a:Nat}:(jh l a).length=l.length+12:=by rw[jh,List.length_append,jd,si]
abbrev kC(xs:List AV):Option aK:=some ⟨4,xs,true,25⟩
mutual
def kN:Nd→Nat→Y
 | ⟨_,_,_,l⟩,a=>jq l (a+1)++[kC (jh l a)]
def jq:List Nd→Nat→Y
 | [],_=>[]
 | t::r,a=>jq r (a+t.size)++kN t a
end
theorem A1(t:Nd)(a:Nat):kN t a=jq t.kids (a+1)++[kC (jh t.kids a)]:=by cases t;simp[kN,Nd.kids]
theorem mM(t:Nd):∀a,(kN t a).length=t.size:=by
 induction t using Nd.ind with
 | _ t ih =>
  intro a
  have key:∀(l:List Nd),(∀k∈l,∀a,(kN k a).length=k.size)→∀a,(jq l a).length=Nd.aw l:=by
   intro l
   induction l with
   | nil=>intro _ a;rfl
   | cons x r fI =>
    intro h a
    simp only[jq,List.length_append,Nd.aw,fI fun k hk=>h k (by simp[hk]),h x (by simp)]
    omega
  rw[A1,List.length_append,key _ ih,Nd.size_eq]
  simp
  omega
theorem BX(l:List Nd):∀a,(jq l a).length=Nd.aw l:=by
 induction l with
 | nil=>intro a;rfl
 | cons x r ih =>
  intro a
  simp only[jq,List.length_append,Nd.aw,ih,mM]
  omega
mutual
def lW:Nd→Nat→List (List AV)
 | ⟨_,_,_,l⟩,a=>jh l a::eR l (a+1)
def eR:List Nd→Nat→List (List AV)
 | [],_=>[]
 | t::r,a=>lW t a++eR r (a+t.size)
end
theorem nL(t:Nd)(a:Nat):lW t a=jh t.kids a::eR t.kids (a+1):=by cases t;simp[lW,Nd.kids]
theorem fB(t:Nd):∀a,(lW t a).length=t.size:=by
 induction t using Nd.ind with
 | _ t ih =>
  intro a
  have key:∀(l:List Nd),(∀k∈l,∀a,(lW k a).length=k.size)→∀a,(eR l a).length=Nd.aw l:=by
   intro l
   induction l with
   | nil=>intro _ a;rfl
   | cons x r fI =>
    intro h a
    simp only[eR,List.length_append,Nd.aw,fI fun k hk=>h k (by simp[hk]),h x (by simp)]
  rw[nL,List.length_cons,key _ ih,Nd.size_eq]
  omega
theorem BZ(l:List Nd):∀a,(eR l a).length=Nd.aw l:=by
 induction l with
 | nil=>intro a;rfl
 | cons x r ih=>intro a;simp only[eR,List.length_append,Nd.aw,ih,fB]
theorem ut:∀(p q:List (Option aK))(H:Y),lays (p++q) H=lays q (lays p H)
 | [],_,_=>rfl
 | x::r,q,H=>by simp only[List.cons_append,lays,ut r q]
def sZ(l:List (List AV)):List (Option aK):=l.map kC
theorem uu(t:Nd):∀(a:Nat)(H:Y),kN t a++H=lays (sZ (lW t a)) H:=by
 induction t using Nd.ind with
 | _ t ih =>
  intro a H
  have key:∀(l:List Nd),(∀k∈l,∀(a:Nat)(H:Y),kN k a++H=lays (sZ (lW k a)) H)→∀(a:Nat)(H:Y),jq l a++H=lays (sZ (eR l a)) H:=by
   intro l
   induction l with
   | nil=>intro _ a H;rfl
   | cons x r fI =>
    intro h a H
    simp only[jq,eR,sZ,List.map_append,ut,List.append_assoc]
    have h1:=h x (by simp) a H
    have h2:=fI (fun k hk=>h k (by simp[hk])) (a+x.size) (lays (sZ (lW x a)) H)
    rw[h1,h2]
    rfl
  rw[A1,nL,List.append_assoc]
  have:=key t.kids ih (a+1) (kC (jh t.kids a)::H)
  rw[List.singleton_append,this]
  rfl
theorem x9(l:List Nd):∀(a:Nat)(H:Y),jq l a++H=lays (sZ (eR l a)) H:=by
 induction l with
 | nil=>intro a H;rfl
 | cons x r ih =>
  intro a H
  simp only[jq,eR,sZ,List.map_append,ut,List.append_assoc]
  rw[uu,ih]
  rfl
theorem A2{F:Y}{n0 s0 c0 m:Nat}{src:List Nat}(hN:∀j,j<m→cF n0 src (s0+j)=some (c0+j))(t:Nd)(j:Nat)(h:j+t.size≤m):Gz F n0 src (ou t (s0+j)) (ou t (c0+j)):=by
 have:=t.size_pos
 exact .agg (.cons (.same trivial) (.cons (.same trivial) (.cons (.same trivial) (.cons (.CD (hN j (by omega)) (.inl rfl)) .nil))))
theorem U8{F:Y}{n0 s0 c0 m:Nat}{src:List Nat}(hN:∀j,j<m→cF n0 src (s0+j)=some (c0+j))(l:List Nd):∀j,j+Nd.aw l≤m→de F n0 src (qD l (s0+j)) (qD l (c0+j)):=by
 induction l with
 | nil=>intro j _;exact .nil
 | cons x r ih =>
  intro j hj
  simp only[Nd.aw] at hj
  simp only[qD]
  have:=ih (j+x.size) (by omega)
  rw[←Nat.add_assoc,←Nat.add_assoc] at this
  exact .cons (A2 hN x j (by omega)) this
theorem U9{F:Y}{n0 s0 c0 m:Nat}{src:List Nat}(hN:∀j,j<m→cF n0 src (s0+j)=some (c0+j))(l:List Nd)(j:Nat)(h:j+1+Nd.aw l≤m):de F n0 src (jh l (s0+j)) (jh l (c0+j)):=by
 have:=U8 (F:=F) hN l (j+1) h
 rw[←Nat.add_assoc,←Nat.add_assoc] at this
 exact de.append this (AZ 12)
theorem PW{F:Y}{n0 s0 c0 m:Nat}{src:List Nat}(l:List Nd)(ih:∀t∈l,∀j,j+t.size≤m→∀(i:Nat)(ys:List AV),(lW t (c0+j))[i]? = some ys→∃xs,(lW t (s0+j))[i]? = some xs∧de F n0 src xs ys):∀j,j+Nd.aw l≤m→∀(i:Nat)(ys:List AV),(eR l (c0+j))[i]? = some ys→∃xs,(eR l (s0+j))[i]? = some xs∧de F n0 src xs ys:=by
 induction l with
 | nil=>intro j _ i ys h;simp[eR] at h
 | cons x r fI =>
  intro j hj i ys h
  simp only[Nd.aw] at hj
  simp only[eR] at h ⊢
  have hx:(lW x (c0+j)).length=(lW x (s0+j)).length:=by rw[fB,fB]
  by_cases c:i<(lW x (c0+j)).length
  ·rw[List.getElem?_append_left c] at h
   rw[List.getElem?_append_left (by omega)]
   exact ih x (by simp) j (by omega) i ys h
  ·rw[List.getElem?_append_right (by omega)] at h
   rw[List.getElem?_append_right (by omega),←hx]
   have:=fI (fun t ht=>ih t (by simp[ht])) (j+x.size) (by omega) (i - (lW x (c0+j)).length) ys
   rw[←Nat.add_assoc,←Nat.add_assoc] at this
   exact this h
theorem Ib{F:Y}{n0 s0 c0 m:Nat}{src:List Nat}(hN:∀j,j<m→cF n0 src (s0+j)=some (c0+j))(t:Nd):∀j,j+t.size≤m→∀(i:Nat)(ys:List AV),(lW t (c0+j))[i]? = some ys→∃xs,(lW t (s0+j))[i]? = some xs∧de F n0 src xs ys:=by
 induction t using Nd.ind with
 | _ t ih =>
  intro j hj i ys h
  rw[Nd.size_eq] at hj
  rw[nL] at h ⊢
  cases i with
  | zero =>
   simp only[List.getElem?_cons_zero,Option.some.injEq] at h
   refine ⟨_,List.getElem?_cons_zero,?_⟩
   rw[←h]
   exact U9 hN t.kids j (by omega)
  | succ i =>
   rw[List.getElem?_cons_succ] at h
   rw[List.getElem?_cons_succ]
   have:=PW (F:=F) t.kids ih (j+1) (by omega) i ys
   rw[←Nat.add_assoc,←Nat.add_assoc] at this
   exact this h
def jT(F:Y)(t:Nd)(a:Nat):Prop:=∀(i:Nat)(xs:List AV),(lW t a)[i]? = some xs→Y.find F (a+i)=kC xs
def tz(F:Y)(l:List Nd)(a:Nat):Prop:=∀(i:Nat)(xs:List AV),(eR l a)[i]? = some xs→Y.find F (a+i)=kC xs
structure Dl(F:Y)(l:List Nd)(a:Nat):Prop where
 row:Y.find F a=kC (jh l a)
 kids:tz F l (a+1)
theorem jT.row{F:Y}{t:Nd}{a:Nat}(h:jT F t a):Dl F t.kids a where
 row:=h 0 _ (by rw[nL];rfl)
 kids:=fun i xs hx=>by
  rw[show a+1+i=a+(i+1) by omega]
  exact h (i+1) xs (by rw[nL,List.getElem?_cons_succ];exact hx)
theorem tz.first{F:Y}{t:Nd}{r:List Nd}{a:Nat}(h:tz F (t::r) a):jT F t a:=fun i xs hx=>by
 refine h i xs ?_
 simp only[eR]
 rw[List.getElem?_append_left (List.getElem?_eq_some_iff.1 hx).1]
 exact hx
theorem tz.rest{F:Y}{t:Nd}{r:List Nd}{a:Nat}(h:tz F (t::r) a):tz F r (a+t.size):=fun i xs hx=>by
 rw[show a+t.size+i=a+(t.size+i) by omega]
 refine h (t.size+i) xs ?_
 simp only[eR]
 rw[List.getElem?_append_right (by rw[fB];omega),fB,Nat.add_sub_cancel_left]
 exact hx
theorem tz.at_{F:Y}:∀{l:List Nd}{a k:Nat},tz F l a→k<l.length→jT F (aC l k) (a+Nd.aw (l.take k))
 | [],_,_,_,hk=>by simp at hk
 | x::r,a,0,h,_=>by simpa [aC,Nd.aw] using h.first
 | x::r,a,k+1,h,hk=>by
  have:=tz.at_ (k:=k) h.rest (by simpa using hk)
  simp only[List.take_succ_cons,Nd.aw]
  rw[show a+(x.size+Nd.aw (r.take k))=a+x.size+Nd.aw (r.take k) by omega]
  exact this
theorem A3:∀{l:List Nd}{k a:Nat},k<l.length→(qD l a).getD k .top=ou (aC l k) (a+Nd.aw (l.take k))
 | [],_,_,h=>by simp at h
 | x::r,0,a,_=>by simp[qD,aC,Nd.aw]
 | x::r,k+1,a,h=>by
  have:=A3 (l:=r) (k:=k) (a:=a+x.size) (by simpa using h)
  simp only[qD,List.getD_cons_succ,List.take_succ_cons,Nd.aw]
  rw[this,show a+(x.size+Nd.aw (r.take k))=a+x.size+Nd.aw (r.take k) by omega]
  rfl
theorem PX{l:List Nd}{k a:Nat}(h:k<l.length):(jh l a).getD k .top=ou (aC l k) (a+1+Nd.aw (l.take k)):=by
 rw[←A3 h,jh,List.getD_eq_getElem?_getD,List.getElem?_append_left (by rw[jd];exact h),List.getD_eq_getElem?_getD]
theorem La{l:List Nd}{t a:Nat}(h:t<12):(jh l a).getD (l.length+t) .top=nK 1 t:=by
 rw[jh,List.getD_eq_getElem?_getD,List.getElem?_append_right (by rw[jd];omega),jd]
 simp[gm,h]
theorem uv{F:Y}(t:Nd):∀{a:Nat},jT F t a→View F (ou t a) (fH t):=by
 induction t using Nd.ind with
 | _ t ih =>
  intro a h
  have key:∀(l:List Nd),(∀k∈l,∀{a:Nat},jT F k a→View F (ou k a) (fH k))→∀a,tz F l a→ct F (qD l a) (bC l):=by
   intro l
   induction l with
   | nil=>intro _ a _;exact .nil
   | cons x r fI =>
    intro hx a hl
    exact .cons (hx x (by simp) hl.first) (fI (fun k hk=>hx k (by simp[hk])) _ hl.rest)
  rw[kz,ki]
  refine .agg (.cons .Z (.cons .Z (.cons .Z (.cons (.aE h.row.row rfl (by rw[vU];omega) ?_) .nil))))
  rw[List.drop_zero,jh,List.take_append_of_le_length (by rw[jd];exact Nat.le_refl _),List.take_of_length_le (by rw[jd];exact Nat.le_refl _)]
  exact key _ ih _ h.row.kids
theorem jT.of{F G:Y}{t:Nd}{a:Nat}(h:jT F t a)(hs:∀i,a≤i→i<a+t.size→Y.find G i=Y.find F i):jT G t a:=fun i xs hx=>by
 have hi:=(List.getElem?_eq_some_iff.1 hx).1
 rw[fB] at hi
 rw[hs _ (by omega) (by omega)]
 exact h i xs hx
theorem A4{l:List Nd}{H:Y}:Dl (jq l (H.length+1)++(kC (jh l H.length)::H)) l H.length where
 row:=by rw[Y.bw (by simp),aL rfl]
 kids:=fun i xs hx=>by
  rw[x9]
  have:=pq (H:=kC (jh l H.length)::H) (bs:=sZ (eR l (H.length+1))) (i:=i) (b:=kC xs) (by simp[sZ,hx])
  simpa using this
theorem ya(k i:Int)(H:Y):D Tryz.prog 62 [.Z (.int .i64 k),.Z (.int .i64 i)] H (.ret (nK k i)) H:=by
 refine aD (Nat.le_refl _) (adR (aA ?_))
 simp -implicitDefEqProofs (maxSteps:=99999999) (disch:=first | omega | (simp only[Y.ah,av,List.length_cons,List.length_nil];first | done | omega)) only[ZC,va,vg,vs,vw,Nat.reduceMul,ite_true,ite_false,eq_self,forall_const,implies_true,Nat.reduceAdd,Nat.reduceSub,Nat.reduceLT,Nat.reduceLeDiff,↓reduceIte,reduceCtorEq,Int.reduceEq,Int.reduceLT,Int.reduceLE,Int.reduceGT,Int.reduceGE,Int.reduceAdd,Int.reduceSub,Int.reduceNeg,Int.reduceToNat,Nat.reduceBEq,Nat.reduceEqDiff]
 refine ai (Yb _ _ _) ?_
 simp -implicitDefEqProofs (maxSteps:=99999999) (disch:=first | omega | (simp only[Y.ah,av,List.length_cons,List.length_nil];first | done | omega)) only[H9,va,vg,vs,vw,Nat.reduceMul,ite_true,ite_false,eq_self,forall_const,implies_true,Nat.reduceAdd,Nat.reduceSub,Nat.reduceLT,Nat.reduceLeDiff,↓reduceIte,reduceCtorEq,Int.reduceEq,Int.reduceLT,Int.reduceLE,Int.reduceGT,Int.reduceGE,Int.reduceAdd,Int.reduceSub,Int.reduceNeg,Int.reduceToNat,Nat.reduceBEq,Nat.reduceEqDiff]
 exact da (.cons .refl) (.same (by simp[nK,AV.ids,AV.cy,AV.fe]))
def ji:List Nd→Nat→List AV
 | [],_=>[]
 | t::r,b=>ou t b::ji r (b+t.size+1)
theorem vV(l:List Nd):∀b,(ji l b).length=l.length:=by
 induction l with
 | nil=>intro b;rfl
 | cons x r ih=>intro b;simp[ji,ih]
theorem EL(p q:List Nd):∀b,ji (p++q) b=ji p b++ji q (b+Nd.aw p+p.length):=by
 induction p with
 | nil=>intro b;simp[ji,Nd.aw]
 | cons x r ih =>
  intro b
  simp only[List.cons_append,ji,ih,Nd.aw,List.length_cons]
  rw[show b+(x.size+Nd.aw r)+(r.length+1)=b+x.size+1+Nd.aw r+r.length by omega]
def pC(F:Y):List Nd→Nat→Prop
 | [],_=>True
 | t::r,b=>jT F t b∧pC F r (b+t.size+1)
theorem pC.append{F:Y}:∀{p q:List Nd}{b:Nat},pC F p b→pC F q (b+Nd.aw p+p.length)→pC F (p++q) b
 | [],q,b,_,h=>by simpa [Nd.aw] using h
 | x::r,q,b,h,k=>by
  refine ⟨h.1,pC.append h.2 ?_⟩
  simp only[Nd.aw,List.length_cons] at k
  rw[show b+x.size+1+Nd.aw r+r.length=b+(x.size+Nd.aw r)+(r.length+1) by omega]
  exact k
theorem pC.of{F G:Y}:∀{l:List Nd}{b:Nat},pC F l b→(∀i,b≤i→i<b+Nd.aw l+l.length→Y.find G i=Y.find F i)→pC G l b
 | [],_,_,_=>trivial
 | t::r,b,h,hs=>by
  simp only[Nd.aw,List.length_cons] at hs
  exact ⟨h.1.of fun i h1 h2=>hs i h1 (by omega),h.2.of fun i h1 h2=>hs i (by omega) (by omega)⟩
def nM:List Nd→Nat→List Nat
 | [],_=>[]
 | t::r,b=>(List.range t.size).map (b+·)++nM r (b+t.size+1)
theorem EM(l:List Nd):∀b,(nM l b).length=Nd.aw l:=by
 induction l with
 | nil=>intro b;rfl
 | cons x r ih=>intro b;simp[nM,ih,Nd.aw]
theorem A5(l:List Nd):∀b,∀s∈nM l b,b≤s:=by
 induction l with
 | nil=>intro b s h;simp[nM] at h
 | cons x r ih =>
  intro b s h
  simp only[nM,List.mem_append,List.mem_map] at h
  rcases h with ⟨i,_,rfl⟩ | h
  ·omega
  ·have:=ih _ s h;omega
theorem Ic(l:List Nd):∀b,(nM l b).Nodup:=by
 induction l with
 | nil=>intro b;simp[nM]
 | cons x r ih =>
  intro b
  simp only[nM]
  refine List.nodup_append.2 ⟨AE fun i j h=>by omega,ih _,fun s h1 s' h2 e=>?_⟩
  obtain ⟨i,hi,rfl⟩:=List.mem_map.1 h1
  have:=A5 r _ s' h2
  have:=List.mem_range.1 hi
  omega
def Ie(n0:Nat)(src:List Nat):List Nd→Nat→Nat→Prop
 | [],_,_=>True
 | t::r,b,c=>(∀j,j<t.size→cF n0 src (b+j)=some (c+j))∧Ie n0 src r (b+t.size+1) (c+t.size)
theorem Ig{n0:Nat}{src:List Nat}:∀(l:List Nd)(b p:Nat),(∀i s,(nM l b)[i]? = some s→cF n0 src s=some (p+i))→Ie n0 src l b p
 | [],_,_,_=>trivial
 | t::r,b,p,h=>by
  refine ⟨fun j hj=>h j (b+j) ?_,Ig r _ _ fun i s hs=>?_⟩
  ·simp only[nM]
   rw[List.getElem?_append_left (by simpa using hj)]
   simp[hj]
  ·rw[show p+t.size+i=p+(t.size+i) by omega]
   refine h _ _ ?_
   simp only[nM]
   rw[List.getElem?_append_right (by simp)]
   simpa using hs
theorem Ih{F:Y}{n0:Nat}{src:List Nat}:∀{l:List Nd}{b c:Nat},Ie n0 src l b c→de F n0 src (ji l b) (qD l c)
 | [],_,_,_=>.nil
 | t::r,b,c,h=>.cons (A2 (m:=t.size) h.1 t 0 (by omega)) (Ih h.2)
theorem Ii{F:Y}{n0:Nat}{src:List Nat}:∀{l:List Nd}{b c:Nat},Ie n0 src l b c→pC F l b→∀(i:Nat)(ys:List AV),(eR l c)[i]? = some ys→∃s,(nM l b)[i]? = some s∧∃xs,Y.find F s=kC xs∧de F n0 src xs ys
 | [],_,_,_,_,i,ys,h=>by simp[eR] at h
 | t::r,b,c,hw,hr,i,ys,h=>by
  simp only[eR] at h
  simp only[nM]
  have hx:=fB t c
  by_cases hi:i<t.size
  ·rw[List.getElem?_append_left (by omega)] at h
   rw[List.getElem?_append_left (by simpa using hi)]
   obtain ⟨xs,h1,h2⟩:=Ib (F:=F) (m:=t.size) hw.1 t 0 (by omega) i ys h
   exact ⟨b+i,by simp[hi],xs,hr.1 i xs h1,h2⟩
  ·rw[List.getElem?_append_right (by omega),hx] at h
   rw[List.getElem?_append_right (by simpa using hi)]
   simp only[List.length_map,List.length_range]
   exact Ii hw.2 hr.2 (i - t.size) ys h
abbrev lz:AV:=.agg [.Z (.int .u8 0),.Z (.string ⟨#[]⟩),.Z (.int .i64 0),.an 0 [] (some [])]
def A6(l:List Nd):Prop:=∀(ro:Option (List AV))(H:Y),Nd.aw l≤1000000→D Tryz.prog 29 [.an 4 (bC l) ro] H (.ret (Ia l.length H.length)) (jq l (H.length+1)++(kC (jh l H.length)::H))
set_option maxHeartbeats 0 in
theorem vW(t:Nd)(h:A6 t.kids)(hz:t.size≤1000000)(ro:Option (List AV))(H:Y):D Tryz.prog 9 [dF t ro] H (.ret (ou t H.length)) (kN t H.length++H):=by
 have D0:=Nd.size_eq t
 have hk:=fun H=>h ro H (by omega)
 rw[aM]
 refine aD (by simp) (dk9 (aA ?_))
 simp only[ic9,ux]
 refine ae fun L hL=>?_
 simp -implicitDefEqProofs (maxSteps:=99999999) (disch:=first | omega | (simp only[Y.ah,av,List.length_cons,List.length_nil];first | done | omega)) only[vu,va,vg,vs,vw,Nat.reduceMul,ite_true,ite_false,eq_self,forall_const,implies_true,Nat.reduceAdd,Nat.reduceSub,Nat.reduceLT,Nat.reduceLeDiff,↓reduceIte,reduceCtorEq,Int.reduceEq,Int.reduceLT,Int.reduceLE,Int.reduceGT,Int.reduceGE,Int.reduceAdd,Int.reduceSub,Int.reduceNeg,Int.reduceToNat,Nat.reduceBEq,Nat.reduceEqDiff]
 refine hL _ _ ?_
 clear hL
 refine ae fun L hL=>?_
 simp -implicitDefEqProofs (maxSteps:=99999999) (disch:=first | omega | (simp only[Y.ah,av,List.length_cons,List.length_nil];first | done | omega)) only[vu,va,vg,vs,vw,Nat.reduceMul,ite_true,ite_false,eq_self,forall_const,implies_true,Nat.reduceAdd,Nat.reduceSub,Nat.reduceLT,Nat.reduceLeDiff,↓reduceIte,reduceCtorEq,Int.reduceEq,Int.reduceLT,Int.reduceLE,Int.reduceGT,Int.reduceGE,Int.reduceAdd,Int.reduceSub,Int.reduceNeg,Int.reduceToNat,Nat.reduceBEq,Nat.reduceEqDiff]
 refine ai (hk _) ?_
 generalize hG:jq t.kids _++_=G
 have hR:=A4 (l:=t.kids) (H:=some ⟨4,[lz],true,25⟩::some ⟨4,[.agg [.Z (.int .u8 t.kind),.Z (.string t.text),.Z (.int .i64 t.num),.an 4 (bC t.kids) ro]],true,25⟩::H)
 rw[hG] at hR
 simp only[List.length_cons,Nat.add_assoc,Nat.reduceAdd] at hR ⊢
 have Ij:G.length=H.length+2+t.size:=by
  rw[←hG,List.length_append,BX]
  simp
  omega
 have f1:Y.find G H.length=some ⟨4,[.agg [.Z (.int .u8 t.kind),.Z (.string t.text),.Z (.int .i64 t.num),.an 4 (bC t.kids) ro]],true,25⟩:=by
  rw[←hG,Y.bw (by simp;omega),aj (by simp;omega),aj (by simp),aL rfl]
 have f2:Y.find G (H.length+1)=some ⟨4,[lz],true,25⟩:=by
  rw[←hG,Y.bw (by simp),aj (by simp),aL (by simp)]
 have f3:∀i,i<H.length→Y.find G i=Y.find H i:=fun i hi=>by
  rw[←hG,Y.bw (by simp;omega),aj (by simp;omega),aj (by simp;omega),aj hi]
 clear hG
 simp -implicitDefEqProofs (maxSteps:=99999999) (disch:=first | omega | (simp only[Y.ah,av,List.length_cons,List.length_nil];first | done | omega)) only[vu,f1,f2,va,vg,vs,vw,Nat.reduceMul,ite_true,ite_false,eq_self,forall_const,implies_true,Nat.reduceAdd,Nat.reduceSub,Nat.reduceLT,Nat.reduceLeDiff,↓reduceIte,reduceCtorEq,Int.reduceEq,Int.reduceLT,Int.reduceLE,Int.reduceGT,Int.reduceGE,Int.reduceAdd,Int.reduceSub,Int.reduceNeg,Int.reduceToNat,Nat.reduceBEq,Nat.reduceEqDiff]
 refine hL _ _ ?_
 clear hL
 refine ae fun L hL=>?_
 simp -implicitDefEqProofs (maxSteps:=99999999) (disch:=first | omega | (simp only[Y.ah,av,List.length_cons,List.length_nil];first | done | omega)) only[vu,f1,f2,va,vg,vs,vw,Nat.reduceMul,ite_true,ite_false,eq_self,forall_const,implies_true,Nat.reduceAdd,Nat.reduceSub,Nat.reduceLT,Nat.reduceLeDiff,↓reduceIte,reduceCtorEq,Int.reduceEq,Int.reduceLT,Int.reduceLE,Int.reduceGT,Int.reduceGE,Int.reduceAdd,Int.reduceSub,Int.reduceNeg,Int.reduceToNat,Nat.reduceBEq,Nat.reduceEqDiff]
 refine hL _ _ ?_
 clear hL
 simp -implicitDefEqProofs (maxSteps:=99999999) (disch:=first | omega | (simp only[Y.ah,av,List.length_cons,List.length_nil];first | done | omega)) only[vu,f1,f2,va,vg,vs,vw,Nat.reduceMul,ite_true,ite_false,eq_self,forall_const,implies_true,Nat.reduceAdd,Nat.reduceSub,Nat.reduceLT,Nat.reduceLeDiff,↓reduceIte,reduceCtorEq,Int.reduceEq,Int.reduceLT,Int.reduceLE,Int.reduceGT,Int.reduceGE,Int.reduceAdd,Int.reduceSub,Int.reduceNeg,Int.reduceToNat,Nat.reduceBEq,Nat.reduceEqDiff]
 have hO:jT G t (H.length+2):=fun i xs hx=>by
  rw[nL] at hx
  cases i with
  | zero =>
   simp only[List.getElem?_cons_zero,Option.some.injEq] at hx
   rw[←hx,Nat.add_zero]
   exact hR.row
  | succ i =>
   rw[List.getElem?_cons_succ] at hx
   rw[show H.length+2+(i+1)=H.length+2+1+i by omega]
   exact hR.kids i xs hx
 have pV:((List.range t.size).map (H.length+2+·)).length=t.size:=by simp
 have hsn:((List.range t.size).map (H.length+2+·)).Nodup:=AE (fun i j h=>by omega)
 have hsi:∀i,i<t.size→((List.range t.size).map (H.length+2+·))[i]? = some (H.length+2+i):=fun i hi=>by simp[hi]
 have hN:∀j,j<t.size→cF H.length ((List.range t.size).map (H.length+2+·)) (H.length+2+j)=some (H.length+j):=fun j hj=>lw hsn (hsi j hj) (by omega)
 rw[uu]
 refine uh _ ((List.range t.size).map (H.length+2+·)) (by rw[pV];simp[sZ,fB]) hsn (fun s hs=>?_) (fun i hi=>?_) (fun i k s hb hs=>?_) ?_
 ·obtain ⟨i,_,rfl⟩:=List.mem_map.1 hs
  omega
 ·rw[Y.ak (by omega),Y.ak (by omega),f3 i hi]
 ·have hi:i<t.size:=by
   have:=(List.getElem?_eq_some_iff.1 hs).1
   rwa [pV] at this
  rw[hsi i hi] at hs
  cases hs
  simp only[sZ,List.getElem?_map,Option.map_eq_some_iff,Option.some.injEq] at hb
  obtain ⟨ys,hy,rfl⟩:=hb
  obtain ⟨xs,hx,hg⟩:=Ib (F:=Y.set (Y.set G H.length (some ⟨4,[.agg [.Z (.int .u8 t.kind),.Z (.string t.text),.Z (.int .i64 t.num),.aE 4 (H.length+2) 0 t.kids.length (some (t.kids.length+12))]],true,25⟩)) (H.length+1) (some ⟨4,[.agg [.Z (.int .u8 t.kind),.Z (.string t.text),.Z (.int .i64 t.num),.aE 4 (H.length+2) 0 t.kids.length (some (t.kids.length+12))]],true,25⟩)) (s0:=H.length+2) (c0:=H.length) hN t 0 (by omega) i ys hy
  refine ⟨⟨4,xs,true,25⟩,?_,rfl,rfl,fun h=>h,hg⟩
  rw[Y.ak (by omega),Y.ak (by omega)]
  exact hO i xs hx
 ·exact A2 (s0:=H.length+2) (c0:=H.length) hN t 0 (by omega)
set_option maxHeartbeats 0 in
theorem A7(l:List Nd)(ih:∀t∈l,A6 t.kids):A6 l:=by
 intro ro H hz
 have hlen:=Nd.iZ l
 refine aD (by simp;omega) (adO (aA ?_))
 simp only[Zz,ux]
 obtain ⟨m,hm⟩:∃m,m=l.length+12:=⟨_,rfl⟩
 have e12:((l.length:Int)+12).toNat=m:=by omega
 have yE:=aF l
 refine ae fun L hL=>?_
 simp -implicitDefEqProofs (maxSteps:=99999999) (disch:=first | omega | (simp only[Y.ah,av,List.length_cons,List.length_nil];first | done | omega)) only[va,vg,vs,vw,Nat.reduceMul,ite_true,ite_false,eq_self,forall_const,implies_true,Nat.reduceAdd,Nat.reduceSub,Nat.reduceLT,Nat.reduceLeDiff,↓reduceIte,reduceCtorEq,Int.reduceEq,Int.reduceLT,Int.reduceLE,Int.reduceGT,Int.reduceGE,Int.reduceAdd,Int.reduceSub,Int.reduceNeg,Int.reduceToNat,Nat.reduceBEq,Nat.reduceEqDiff]
 refine hL _ _ ?_
 clear hL
 refine ae fun L hL=>?_
 simp -implicitDefEqProofs (maxSteps:=99999999) (disch:=first | omega | (simp only[Y.ah,av,List.length_cons,List.length_nil];first | done | omega)) only[yE,e12,va,vg,vs,vw,Nat.reduceMul,ite_true,ite_false,eq_self,forall_const,implies_true,Nat.reduceAdd,Nat.reduceSub,Nat.reduceLT,Nat.reduceLeDiff,↓reduceIte,reduceCtorEq,Int.reduceEq,Int.reduceLT,Int.reduceLE,Int.reduceGT,Int.reduceGE,Int.reduceAdd,Int.reduceSub,Int.reduceNeg,Int.reduceToNat,Nat.reduceBEq,Nat.reduceEqDiff]
 refine ⟨by omega,?_⟩
 refine hL _ _ ?_
 clear hL
 refine ae fun L hL=>?_
 simp -implicitDefEqProofs (maxSteps:=99999999) (disch:=first | omega | (simp only[Y.ah,av,List.length_cons,List.length_nil];first | done | omega)) only[va,vg,vs,vw,Nat.reduceMul,ite_true,ite_false,eq_self,forall_const,implies_true,Nat.reduceAdd,Nat.reduceSub,Nat.reduceLT,Nat.reduceLeDiff,↓reduceIte,reduceCtorEq,Int.reduceEq,Int.reduceLT,Int.reduceLE,Int.reduceGT,Int.reduceGE,Int.reduceAdd,Int.reduceSub,Int.reduceNeg,Int.reduceToNat,Nat.reduceBEq,Nat.reduceEqDiff]
 refine bI (fun ts G=>∃k:Nat,(k≤l.length∧G.length=H.length+1+Nd.aw (l.take k)+k∧Y.find G H.length=some ⟨4,ji (l.take k) (H.length+1)++List.replicate (m - k) lz,true,25⟩∧pC G (l.take k) (H.length+1)∧∀i,i<H.length→Y.find G i=Y.find H i)∧Fr [some (.an 4 (bC l) ro),none,none,some (.aE 4 H.length 0 k (some m)),some (.Z (.int .i64 k)),none,none,none,none,none,none,none,none,none,none,none,none,none,none,none,none,none,none,none,none,none,none,none,none,none,none,none,none,none,none,none,none,none,none] ts) (fun ts _=>l.length - (aU (ts.getD 4 .top)).toNat) ?_ ?_
 ·refine ⟨0,⟨Nat.zero_le _,by simp[Nd.aw],?_,trivial,fun i hi=>?_⟩,by simp[Fr]⟩
  ·simp -implicitDefEqProofs (maxSteps:=99999999) (disch:=first | omega | (simp only[Y.ah,av,List.length_cons,List.length_nil];first | done | omega)) only[va,vg,vs,vw,Nat.reduceMul,ite_true,ite_false,eq_self,forall_const,implies_true,Nat.reduceAdd,Nat.reduceSub,Nat.reduceLT,Nat.reduceLeDiff,↓reduceIte,reduceCtorEq,Int.reduceEq,Int.reduceLT,Int.reduceLE,Int.reduceGT,Int.reduceGE,Int.reduceAdd,Int.reduceSub,Int.reduceNeg,Int.reduceToNat,Nat.reduceBEq,Nat.reduceEqDiff]
   simp[ji]
  ·simp -implicitDefEqProofs (maxSteps:=99999999) (disch:=first | omega | (simp only[Y.ah,av,List.length_cons,List.length_nil];first | done | omega)) only[va,vg,vs,vw,Nat.reduceMul,ite_true,ite_false,eq_self,forall_const,implies_true,Nat.reduceAdd,Nat.reduceSub,Nat.reduceLT,Nat.reduceLeDiff,↓reduceIte,reduceCtorEq,Int.reduceEq,Int.reduceLT,Int.reduceLE,Int.reduceGT,Int.reduceGE,Int.reduceAdd,Int.reduceSub,Int.reduceNeg,Int.reduceToNat,Nat.reduceBEq,Nat.reduceEqDiff]
 ·rintro ts G ⟨k,⟨hk,q1,q2,q3,q4⟩,bx⟩ L2 cK
  obtain ⟨js,rfl⟩:=bx.opened
  clear bx
  by_cases hd:k<l.length
  ·have k0:(0:Int)≤(k:Int):=by omega
   have k1:(k:Int)<l.length:=by omega
   have hg:=dm hd
   have eJ:=e8 hd
   have hsz:=Nd.eN eJ
   have oV:=vW (aC l k) (ih _ eJ) (by omega) none G
   rw[aM] at oV
   simp -implicitDefEqProofs (maxSteps:=99999999) (disch:=first | omega | (simp only[Y.ah,av,List.length_cons,List.length_nil];first | done | omega)) only[mk,yE,hg,k0,k1,va,vg,vs,vw,Nat.reduceMul,ite_true,ite_false,eq_self,forall_const,implies_true,Nat.reduceAdd,Nat.reduceSub,Nat.reduceLT,Nat.reduceLeDiff,↓reduceIte,reduceCtorEq,Int.reduceEq,Int.reduceLT,Int.reduceLE,Int.reduceGT,Int.reduceGE,Int.reduceAdd,Int.reduceSub,Int.reduceNeg,Int.reduceToNat,Nat.reduceBEq,Nat.reduceEqDiff]
   refine ai oV ?_
   obtain ⟨G2,Va⟩:∃G2,kN (aC l k) G.length++G=G2:=⟨_,rfl⟩
   rw[Va]
   have g0:G2.length=G.length+(aC l k).size:=by rw[←Va,List.length_append,mM];omega
   have g1:∀i,i<G.length→Y.find G2 i=Y.find G i:=fun i hi=>by rw[←Va,Y.bw hi]
   have g2:Y.find G2 H.length=some ⟨4,ji (l.take k) (H.length+1)++List.replicate (m - k) lz,true,25⟩:=by rw[g1 _ (by omega),q2]
   have g3:jT G2 (aC l k) G.length:=fun i xs hx=>by
    rw[←Va,uu]
    exact pq (by simp[sZ,hx])
   clear Va oV
   have dH:=vV (l.take k) (H.length+1)
   rw[List.length_take,Nat.min_eq_left hk] at dH
   have htk:(ji (l.take k) (H.length+1)++List.replicate (m - k) lz).take k=ji (l.take k) (H.length+1):=by rw[List.take_append_of_le_length (by omega),List.take_of_length_le (by omega)]
   have hdk:(ji (l.take k) (H.length+1)++List.replicate (m - k) lz).drop (k+1)=List.replicate (m - (k+1)) lz:=by
    rw[List.drop_append,List.drop_of_length_le (by omega),dH,List.nil_append,List.drop_replicate]
    congr 1
    omega
   have eF:(ji (l.take k) (H.length+1)++List.replicate (m - k) lz).length=m:=by rw[List.length_append,dH,List.length_replicate];omega
   have hroom:k+1≤m:=by omega
   have hkm:k≤m:=by omega
   have Vb:k+1≤100000000:=by omega
   simp -implicitDefEqProofs (maxSteps:=99999999) (disch:=first | omega | (simp only[Y.ah,av,List.length_cons,List.length_nil];first | done | omega)) only[g2,htk,hdk,eF,hroom,hkm,Vb,kz,va,vg,vs,vw,Nat.reduceMul,ite_true,ite_false,eq_self,forall_const,implies_true,Nat.reduceAdd,Nat.reduceSub,Nat.reduceLT,Nat.reduceLeDiff,↓reduceIte,reduceCtorEq,Int.reduceEq,Int.reduceLT,Int.reduceLE,Int.reduceGT,Int.reduceGE,Int.reduceAdd,Int.reduceSub,Int.reduceNeg,Int.reduceToNat,Nat.reduceBEq,Nat.reduceEqDiff]
   have hst:=iJ hd
   have hne:∀i,i<G.length→i≠H.length→∀(b x:Option aK),Y.find (b::Y.set G2 H.length x) i=Y.find G i:=fun i h1 h2 b x=>by
    rw[aj (by rw[Y.ah];omega),Y.ak h2,g1 i h1]
   have pR:(l.take k).length=k:=by rw[List.length_take];omega
   refine cK _ _ ⟨k+1,⟨by omega,by simp[Y.ah];omega,?_,?_,fun i hi=>?_⟩,by simp[Fr]⟩ (by simp[aU,mk];omega)
   ·rw[aj (by rw[Y.ah];omega),Y.aB (by omega),List.take_succ_eq_append_getElem hd,EL,←gv hd,pR,←q1]
    simp only[ji,List.append_assoc,List.singleton_append,ou]
   ·rw[List.take_succ_eq_append_getElem hd,←gv hd]
    refine pC.append (q3.of fun i h1 h2=>?_) ⟨?_,trivial⟩
    ·rw[pR] at h2
     exact hne i (by omega) (by omega) _ _
    ·rw[pR,←q1]
     refine g3.of fun i h1 h2=>?_
     rw[aj (by rw[Y.ah];omega),Y.ak (by omega)]
   ·rw[hne i (by omega) (by omega)]
    exact q4 i hi
  ·have mc:k=l.length:=by omega
   subst mc
   have k1:¬((l.length:Nat):Int)<l.length:=by omega
   simp -implicitDefEqProofs (maxSteps:=99999999) (disch:=first | omega | (simp only[Y.ah,av,List.length_cons,List.length_nil];first | done | omega)) only[mk,yE,k1,va,vg,vs,vw,Nat.reduceMul,ite_true,ite_false,eq_self,forall_const,implies_true,Nat.reduceAdd,Nat.reduceSub,Nat.reduceLT,Nat.reduceLeDiff,↓reduceIte,reduceCtorEq,Int.reduceEq,Int.reduceLT,Int.reduceLE,Int.reduceGT,Int.reduceGE,Int.reduceAdd,Int.reduceSub,Int.reduceNeg,Int.reduceToNat,Nat.reduceBEq,Nat.reduceEqDiff]
   refine hL _ _ ?_
   clear hL cK
   refine ae fun L hL=>?_
   simp -implicitDefEqProofs (maxSteps:=99999999) (disch:=first | omega | (simp only[Y.ah,av,List.length_cons,List.length_nil];first | done | omega)) only[va,vg,vs,vw,Nat.reduceMul,ite_true,ite_false,eq_self,forall_const,implies_true,Nat.reduceAdd,Nat.reduceSub,Nat.reduceLT,Nat.reduceLeDiff,↓reduceIte,reduceCtorEq,Int.reduceEq,Int.reduceLT,Int.reduceLE,Int.reduceGT,Int.reduceGE,Int.reduceAdd,Int.reduceSub,Int.reduceNeg,Int.reduceToNat,Nat.reduceBEq,Nat.reduceEqDiff]
   have htk:l.take l.length=l:=List.take_length
   rw[htk] at q1 q2 q3
   have dH:=vV l (H.length+1)
   have ed:m - l.length=12:=by omega
   rw[ed] at q2
   refine bI (fun ts F=>∃j:Nat,(j≤12∧F.length=G.length∧Y.find F H.length=some ⟨4,ji l (H.length+1)++(gm j++List.replicate (12 - j) lz),true,25⟩∧∀i,i<G.length→i≠H.length→Y.find F i=Y.find G i)∧Fr [some (.an 4 (bC l) ro),none,none,some (.aE 4 H.length 0 (l.length+j) (some m)),none,none,some (.Z (.int .i64 j)),none,none,none,none,none,none,none,none,none,none,none,none,none,none,none,none,none,none,none,none,none,none,none,none,none,none,none,none,none,none,none,none] ts) (fun ts _=>12 - (aU (ts.getD 6 .top)).toNat) ⟨0,⟨by omega,rfl,by simpa [gm] using q2,fun _ _ _=>rfl⟩,by simp[Fr]⟩ ?_
   rintro ts F ⟨j,⟨hj,p1,p2,p3⟩,bx⟩ L2 cK
   obtain ⟨js,rfl⟩:=bx.opened
   clear bx
   simp -implicitDefEqProofs (maxSteps:=99999999) (disch:=first | omega | (simp only[Y.ah,av,List.length_cons,List.length_nil];first | done | omega)) only[mk,va,vg,vs,vw,Nat.reduceMul,ite_true,ite_false,eq_self,forall_const,implies_true,Nat.reduceAdd,Nat.reduceSub,Nat.reduceLT,Nat.reduceLeDiff,↓reduceIte,reduceCtorEq,Int.reduceEq,Int.reduceLT,Int.reduceLE,Int.reduceGT,Int.reduceGE,Int.reduceAdd,Int.reduceSub,Int.reduceNeg,Int.reduceToNat,Nat.reduceBEq,Nat.reduceEqDiff]
   refine iX (fun h=>?_) (fun h=>?_)
   ·have h1:j<12:=by omega
    simp -implicitDefEqProofs (maxSteps:=99999999) (disch:=first | omega | (simp only[Y.ah,av,List.length_cons,List.length_nil];first | done | omega)) only[va,vg,vs,vw,Nat.reduceMul,ite_true,ite_false,eq_self,forall_const,implies_true,Nat.reduceAdd,Nat.reduceSub,Nat.reduceLT,Nat.reduceLeDiff,↓reduceIte,reduceCtorEq,Int.reduceEq,Int.reduceLT,Int.reduceLE,Int.reduceGT,Int.reduceGE,Int.reduceAdd,Int.reduceSub,Int.reduceNeg,Int.reduceToNat,Nat.reduceBEq,Nat.reduceEqDiff]
    refine ai (ya _ _ _) ?_
    have nU:=si (j:=j)
    have htk:(ji l (H.length+1)++(gm j++List.replicate (12 - j) lz)).take (l.length+j)=ji l (H.length+1)++gm j:=by
     rw[←List.append_assoc,List.take_append_of_le_length (by simp[dH,nU]),List.take_of_length_le (by simp[dH,nU])]
    have hdk:(ji l (H.length+1)++(gm j++List.replicate (12 - j) lz)).drop (l.length+(j+1))=List.replicate (12 - (j+1)) lz:=by
     rw[←List.append_assoc,List.drop_append,List.drop_of_length_le (by simp[dH,nU]),List.length_append,dH,nU,List.nil_append,List.drop_replicate]
     congr 1
     omega
    have eF:(ji l (H.length+1)++(gm j++List.replicate (12 - j) lz)).length=m:=by rw[List.length_append,List.length_append,dH,nU,List.length_replicate];omega
    have hroom:l.length+(j+1)≤m:=by omega
    have hkm:l.length+j≤m:=by omega
    have Vb:l.length+(j+1)≤100000000:=by omega
    simp -implicitDefEqProofs (maxSteps:=99999999) (disch:=first | omega | (simp only[Y.ah,av,List.length_cons,List.length_nil];first | done | omega)) only[p2,htk,hdk,eF,hroom,hkm,Vb,Dj,va,vg,vs,vw,Nat.reduceMul,ite_true,ite_false,eq_self,forall_const,implies_true,Nat.reduceAdd,Nat.reduceSub,Nat.reduceLT,Nat.reduceLeDiff,↓reduceIte,reduceCtorEq,Int.reduceEq,Int.reduceLT,Int.reduceLE,Int.reduceGT,Int.reduceGE,Int.reduceAdd,Int.reduceSub,Int.reduceNeg,Int.reduceToNat,Nat.reduceBEq,Nat.reduceEqDiff]
    refine cK _ _ ⟨j+1,⟨by omega,by rw[Y.ah];exact p1,?_,fun i h2 h3=>?_⟩,by simp[Fr]⟩ (by simp[aU,mk];omega)
    ·rw[Y.aB (by omega),EK]
     simp only[List.append_assoc,List.singleton_append,List.cons_append,List.nil_append]
     rfl
    ·rw[Y.ak h3]
     exact p3 i h2 h3
   ·have aeo:j=12:=by omega
    subst aeo
    refine hL _ _ ?_
    clear hL cK
    have hkm:l.length≤m:=by omega
    have h0m:0<m:=by omega
    simp -implicitDefEqProofs (maxSteps:=99999999) (disch:=first | omega | (simp only[Y.ah,av,List.length_cons,List.length_nil];first | done | omega)) only[yE,hkm,h0m,Nat.sub_zero,va,vg,vs,vw,Nat.reduceMul,ite_true,ite_false,eq_self,forall_const,implies_true,Nat.reduceAdd,Nat.reduceSub,Nat.reduceLT,Nat.reduceLeDiff,↓reduceIte,reduceCtorEq,Int.reduceEq,Int.reduceLT,Int.reduceLE,Int.reduceGT,Int.reduceGE,Int.reduceAdd,Int.reduceSub,Int.reduceNeg,Int.reduceToNat,Nat.reduceBEq,Nat.reduceEqDiff]
    refine ⟨⟨by omega,rfl,by omega⟩,?_⟩
    simp only[Nat.sub_self,List.replicate_zero,List.append_nil] at p2
    obtain ⟨src,hsrc⟩:∃src,src=H.length::nM l (H.length+1):=⟨_,rfl⟩
    have aep:src.length=1+Nd.aw l:=by rw[hsrc,List.length_cons,EM];omega
    have snd:src.Nodup:=by
     rw[hsrc]
     refine List.nodup_cons.2 ⟨fun h=>?_,Ic _ _⟩
     have:=A5 _ _ _ h
     omega
    have sge:∀s∈src,H.length≤s:=fun s hs=>by
     rw[hsrc] at hs
     rcases List.mem_cons.1 hs with rfl | hs
     ·exact Nat.le_refl _
     ·have:=A5 _ _ _ hs;omega
    have s0:cF H.length src H.length=some H.length:=lw (i:=0) snd (by rw[hsrc];rfl) (Nat.le_refl _)
    have Z8:Ie H.length src l (H.length+1) (H.length+1):=Ig l _ _ fun i s hs=>by
     rw[show H.length+1+i=H.length+(i+1) by omega]
     have hs':src[i+1]? = some s:=by rw[hsrc,List.getElem?_cons_succ];exact hs
     exact lw snd hs' (sge s (List.mem_of_getElem? hs'))
    have aeq:pC F l (H.length+1):=q3.of fun i h1 h2=>p3 i (by omega) (by omega)
    have uJ:jq l (H.length+1)++(kC (jh l H.length)::H)=lays (sZ (jh l H.length::eR l (H.length+1))) H:=by
     rw[x9]
     rfl
    rw[uJ]
    have eV:Ia l.length H.length = .aE 4 H.length 0 l.length (some m):=by rw[hm]
    rw[eV]
    refine uh _ src (by rw[aep];simp[sZ,BZ];omega) snd sge (fun i hi=>(p3 i (by omega) (by omega)).trans (q4 i hi)) (fun i kb s hb hs=>?_) (.CD s0 (.inl rfl))
    cases i with
    | zero =>
     rw[hsrc] at hs
     simp only[List.getElem?_cons_zero,Option.some.injEq] at hs
     simp only[sZ,List.map_cons,List.getElem?_cons_zero,Option.some.injEq] at hb
     subst hs hb
     exact ⟨_,p2,rfl,rfl,fun h=>h,de.append (Ih Z8) (AZ 12)⟩
    | succ i =>
     rw[hsrc,List.getElem?_cons_succ] at hs
     simp only[sZ,List.map_cons,List.getElem?_cons_succ,List.getElem?_map,Option.map_eq_some_iff,Option.some.injEq] at hb
     obtain ⟨ys,hy,rfl⟩:=hb
     obtain ⟨s',z1,xs,z2,z3⟩:=Ii (F:=F) Z8 aeq i ys hy
     rw[hs] at z1
     cases z1
     exact ⟨⟨4,xs,true,25⟩,z2,rfl,rfl,fun h=>h,z3⟩
theorem Ik(l:List Nd):A6 l:=by
 have key:∀n:Nat,∀l:List Nd,Nd.aw l≤n→A6 l:=by
  intro n
  induction n with
  | zero =>
   intro l h
   refine A7 l fun t ht=>?_
   have:=Nd.eN ht
   have:=t.size_pos
   omega
  | succ n ih =>
   intro l h
   refine A7 l fun t ht=>ih _ ?_
   have:=Nd.eN ht
   have:=Nd.size_eq t
   omega
 exact key _ l (Nat.le_refl _)
theorem yb(t:Nd)(hz:t.size≤1000000)(ro:Option (List AV))(H:Y):D Tryz.prog 9 [dF t ro] H (.ret (ou t H.length)) (kN t H.length++H):=vW t (Ik _) hz ro H
theorem Il(k i:Int)(H:Y):D Tryz.prog 16 [nK k i,nK k i] H (.ret (.Z (.bool true))) H:=by
 have h:=sg ⟨0,⟨#[]⟩,oO k i,[]⟩ (by simp[Nd.size,Nd.aw]) ⟨0,⟨#[]⟩,oO k i,[]⟩ none none H
 rw[rP] at h
 have hl:Le (nK k i) (dF ⟨0,⟨#[]⟩,oO k i,[]⟩ none):=.agg (.cons .refl (.cons .refl (.cons .refl (.cons .nil .nil))))
 exact Zd (.cons hl (.cons hl .nil)) h
theorem jT.over{H G:Y}{t:Nd}{a:Nat}(h:jT H t a)(ho:Over H G):jT G t a:=fun i xs hx=>by
 have h1:=h i xs hx
 rw[Over.find ho (Y.au h1)]
 exact h1
theorem Dl.over{H G:Y}{l:List Nd}{a:Nat}(h:Dl H l a)(ho:Over H G):Dl G l a where
 row:=by rw[Over.find ho (Y.au h.row)];exact h.row
 kids:=fun i xs hx=>by
  have h1:=h.kids i xs hx
  rw[Over.find ho (Y.au h1)]
  exact h1
def A8(l:List Nd):Prop:=∀(rl:Option (List AV))(a:Nat)(H:Y),Nd.aw l≤1000000→Dl H l a→D Tryz.prog 38 [Ia l.length a,.an 4 (bC l) rl] H (.ret (.Z (.bool true))) H
theorem Vc{H:Y}(t:Nd):View H (fH t) (fH t):=by
 induction t using Nd.ind with
 | _ t ih =>
  have key:∀l:List Nd,(∀k∈l,View H (fH k) (fH k))→ct H (bC l) (bC l):=by
   intro l
   induction l with
   | nil=>intro _;exact .nil
   | cons x r fI=>intro h;exact .cons (h x (by simp)) (fI fun k hk=>h k (by simp[hk]))
  rw[ki]
  exact .agg (.cons .Z (.cons .Z (.cons .Z (.cons (.an (key _ ih)) .nil))))
theorem Im{H:Y}{t:Nd}{a:Nat}(hz:t.size≤1000000)(h:jT H t a):D Tryz.prog 16 [ou t a,dF t none] H (.ret (.Z (.bool true))) H:=by
 have hs:=sg t hz t none none []
 rw[rP,jN] at hs
 rw[jN]
 exact vn (.cons (uv t h) (.cons (Vc t) .nil)) .Z hs
set_option maxHeartbeats 0 in
theorem ql(t:Nd)(h:A8 t.kids)(hz:t.size≤1000000)(a:Nat)(H:Y)(hl:jT H t a):D Tryz.prog 12 [ou t a,dF t none] H (.ret (.Z (.bool true))) H:=by
 have D0:=Nd.size_eq t
 have Bu:=fun (G:Y) hg=>Im (H:=G) (a:=a) hz hg
 have hkk:=fun G hg=>h none a G (by omega) hg
 rw[aM,kz] at *
 refine aD (Nat.le_refl _) (adQ (aA ?_))
 simp only[ZB,ux]
 refine ae fun L hL=>?_
 simp -implicitDefEqProofs (maxSteps:=99999999) (disch:=first | omega | (simp only[Y.ah,av,List.length_cons,List.length_nil];first | done | omega)) only[vu,va,vg,vs,vw,Nat.reduceMul,ite_true,ite_false,eq_self,forall_const,implies_true,Nat.reduceAdd,Nat.reduceSub,Nat.reduceLT,Nat.reduceLeDiff,↓reduceIte,reduceCtorEq,Int.reduceEq,Int.reduceLT,Int.reduceLE,Int.reduceGT,Int.reduceGE,Int.reduceAdd,Int.reduceSub,Int.reduceNeg,Int.reduceToNat,Nat.reduceBEq,Nat.reduceEqDiff]
 refine hL _ _ ?_
 clear hL
 refine ae fun L hL=>?_
 simp -implicitDefEqProofs (maxSteps:=99999999) (disch:=first | omega | (simp only[Y.ah,av,List.length_cons,List.length_nil];first | done | omega)) only[vu,va,vg,vs,vw,Nat.reduceMul,ite_true,ite_false,eq_self,forall_const,implies_true,Nat.reduceAdd,Nat.reduceSub,Nat.reduceLT,Nat.reduceLeDiff,↓reduceIte,reduceCtorEq,Int.reduceEq,Int.reduceLT,Int.reduceLE,Int.reduceGT,Int.reduceGE,Int.reduceAdd,Int.reduceSub,Int.reduceNeg,Int.reduceToNat,Nat.reduceBEq,Nat.reduceEqDiff]
 refine ai (Bu _ (hl.over (.cons (.cons .refl)))) ?_
 simp -implicitDefEqProofs (maxSteps:=99999999) (disch:=first | omega | (simp only[Y.ah,av,List.length_cons,List.length_nil];first | done | omega)) only[vu,va,vg,vs,vw,Nat.reduceMul,ite_true,ite_false,eq_self,forall_const,implies_true,Nat.reduceAdd,Nat.reduceSub,Nat.reduceLT,Nat.reduceLeDiff,↓reduceIte,reduceCtorEq,Int.reduceEq,Int.reduceLT,Int.reduceLE,Int.reduceGT,Int.reduceGE,Int.reduceAdd,Int.reduceSub,Int.reduceNeg,Int.reduceToNat,Nat.reduceBEq,Nat.reduceEqDiff]
 refine ai (hkk _ (hl.row.over (.cons (.cons .refl)))) ?_
 simp -implicitDefEqProofs (maxSteps:=99999999) (disch:=first | omega | (simp only[Y.ah,av,List.length_cons,List.length_nil];first | done | omega)) only[vu,va,vg,vs,vw,Nat.reduceMul,ite_true,ite_false,eq_self,forall_const,implies_true,Nat.reduceAdd,Nat.reduceSub,Nat.reduceLT,Nat.reduceLeDiff,↓reduceIte,reduceCtorEq,Int.reduceEq,Int.reduceLT,Int.reduceLE,Int.reduceGT,Int.reduceGE,Int.reduceAdd,Int.reduceSub,Int.reduceNeg,Int.reduceToNat,Nat.reduceBEq,Nat.reduceEqDiff]
 refine hL _ _ ?_
 clear hL
 simp -implicitDefEqProofs (maxSteps:=99999999) (disch:=first | omega | (simp only[Y.ah,av,List.length_cons,List.length_nil];first | done | omega)) only[vu,va,vg,vs,vw,Nat.reduceMul,ite_true,ite_false,eq_self,forall_const,implies_true,Nat.reduceAdd,Nat.reduceSub,Nat.reduceLT,Nat.reduceLeDiff,↓reduceIte,reduceCtorEq,Int.reduceEq,Int.reduceLT,Int.reduceLE,Int.reduceGT,Int.reduceGE,Int.reduceAdd,Int.reduceSub,Int.reduceNeg,Int.reduceToNat,Nat.reduceBEq,Nat.reduceEqDiff]
 exact bL (.cons (.cons .refl))
set_option maxHeartbeats 0 in
theorem A9(l:List Nd)(ih:∀t∈l,A8 t.kids):A8 l:=by
 intro rl a H hz hr
 have hlen:=Nd.iZ l
 have hrow:=hr.row
 refine aD (Nat.le_refl _) (adP (aA ?_))
 simp only[ZA,ux]
 obtain ⟨m,hm⟩:∃m,m=l.length+12:=⟨_,rfl⟩
 have e12:((l.length:Int)+12).toNat=m:=by omega
 have c0:0<m:=by omega
 have yE:=aF l
 have zO:(jh l a).length=m:=by rw[vU,hm]
 rw[show Ia l.length a = .aE 4 a 0 l.length (some m) from by rw[hm]]
 refine ae fun L hL=>?_
 simp -implicitDefEqProofs (maxSteps:=99999999) (disch:=first | omega | (simp only[Y.ah,av,List.length_cons,List.length_nil];first | done | omega)) only[va,vg,vs,vw,Nat.reduceMul,ite_true,ite_false,eq_self,forall_const,implies_true,Nat.reduceAdd,Nat.reduceSub,Nat.reduceLT,Nat.reduceLeDiff,↓reduceIte,reduceCtorEq,Int.reduceEq,Int.reduceLT,Int.reduceLE,Int.reduceGT,Int.reduceGE,Int.reduceAdd,Int.reduceSub,Int.reduceNeg,Int.reduceToNat,Nat.reduceBEq,Nat.reduceEqDiff]
 refine hL _ _ ?_
 clear hL
 refine ae fun L hL=>?_
 simp -implicitDefEqProofs (maxSteps:=99999999) (disch:=first | omega | (simp only[Y.ah,av,List.length_cons,List.length_nil];first | done | omega)) only[yE,ne_eq,va,vg,vs,vw,Nat.reduceMul,ite_true,ite_false,eq_self,forall_const,implies_true,Nat.reduceAdd,Nat.reduceSub,Nat.reduceLT,Nat.reduceLeDiff,↓reduceIte,reduceCtorEq,Int.reduceEq,Int.reduceLT,Int.reduceLE,Int.reduceGT,Int.reduceGE,Int.reduceAdd,Int.reduceSub,Int.reduceNeg,Int.reduceToNat,Nat.reduceBEq,Nat.reduceEqDiff]
 refine hL _ _ ?_
 clear hL
 refine ae fun L hL=>?_
 simp -implicitDefEqProofs (maxSteps:=99999999) (disch:=first | omega | (simp only[Y.ah,av,List.length_cons,List.length_nil];first | done | omega)) only[yE,e12,c0,Nat.sub_zero,va,vg,vs,vw,Nat.reduceMul,ite_true,ite_false,eq_self,forall_const,implies_true,Nat.reduceAdd,Nat.reduceSub,Nat.reduceLT,Nat.reduceLeDiff,↓reduceIte,reduceCtorEq,Int.reduceEq,Int.reduceLT,Int.reduceLE,Int.reduceGT,Int.reduceGE,Int.reduceAdd,Int.reduceSub,Int.reduceNeg,Int.reduceToNat,Nat.reduceBEq,Nat.reduceEqDiff]
 refine ⟨⟨by omega,rfl,by omega,by omega⟩,?_⟩
 refine hL _ _ ?_
 clear hL
 refine ae fun L hL=>?_
 simp -implicitDefEqProofs (maxSteps:=99999999) (disch:=first | omega | (simp only[Y.ah,av,List.length_cons,List.length_nil];first | done | omega)) only[va,vg,vs,vw,Nat.reduceMul,ite_true,ite_false,eq_self,forall_const,implies_true,Nat.reduceAdd,Nat.reduceSub,Nat.reduceLT,Nat.reduceLeDiff,↓reduceIte,reduceCtorEq,Int.reduceEq,Int.reduceLT,Int.reduceLE,Int.reduceGT,Int.reduceGE,Int.reduceAdd,Int.reduceSub,Int.reduceNeg,Int.reduceToNat,Nat.reduceBEq,Nat.reduceEqDiff]
 refine bI (fun ts G=>∃j:Nat,(j≤m∧G=H)∧Fr [some (.aE 4 a 0 l.length (some m)),some (.an 4 (bC l) rl),none,none,some (.Z (.bool false)),some (.aE 4 a 0 m (some m)),some (.Z (.int .i64 j)),none,none,none,none,none,none,none,none,none,none,none,none,none,none,none,none,none,none,none,none,none,none,none,none,none,none,none,none,none,none,none,none,none,none,none,none,none,none,none,none,none,none,none,none,none,none,none,none,none,none,none] ts) (fun ts _=>m - (aU (ts.getD 6 .top)).toNat) ⟨0,⟨by omega,rfl⟩,by simp[Fr]⟩ ?_
 rintro ts H ⟨j,⟨hj,rfl⟩,bx⟩ L2 cK
 obtain ⟨js,rfl⟩:=bx.opened
 clear bx
 simp -implicitDefEqProofs (maxSteps:=99999999) (disch:=first | omega | (simp only[Y.ah,av,List.length_cons,List.length_nil];first | done | omega)) only[mk,va,vg,vs,vw,Nat.reduceMul,ite_true,ite_false,eq_self,forall_const,implies_true,Nat.reduceAdd,Nat.reduceSub,Nat.reduceLT,Nat.reduceLeDiff,↓reduceIte,reduceCtorEq,Int.reduceEq,Int.reduceLT,Int.reduceLE,Int.reduceGT,Int.reduceGE,Int.reduceAdd,Int.reduceSub,Int.reduceNeg,Int.reduceToNat,Nat.reduceBEq,Nat.reduceEqDiff]
 refine iX (fun h=>?_) (fun h=>?_)
 ·have h1:j<m:=by omega
  have j0:(0:Int)≤(j:Int):=by omega
  have j1:(j:Int)<m:=by omega
  by_cases c1:j<l.length
  ·have c2:(j:Int)<l.length:=by omega
   have c3:¬((j:Int)≥l.length):=by omega
   have yu:=PX (a:=a) c1
   have pA:=dm c1
   have eJ:=e8 c1
   have hsz:=Nd.eN eJ
   have hk:=ql (aC l j) (ih _ eJ) (by omega) _ H (hr.kids.at_ c1)
   obtain ⟨q,hq⟩:∃q,a+1+Nd.aw (l.take j)=q:=⟨_,rfl⟩
   rw[hq,kz] at yu hk
   rw[aM] at hk
   simp -implicitDefEqProofs (maxSteps:=99999999) (disch:=first | omega | (simp only[Y.ah,av,List.length_cons,List.length_nil];first | done | omega)) only[hrow,yE,zO,h1,j0,j1,c1,c2,c3,yu,pA,va,vg,vs,vw,Nat.reduceMul,ite_true,ite_false,eq_self,forall_const,implies_true,Nat.reduceAdd,Nat.reduceSub,Nat.reduceLT,Nat.reduceLeDiff,↓reduceIte,reduceCtorEq,Int.reduceEq,Int.reduceLT,Int.reduceLE,Int.reduceGT,Int.reduceGE,Int.reduceAdd,Int.reduceSub,Int.reduceNeg,Int.reduceToNat,Nat.reduceBEq,Nat.reduceEqDiff]
   refine aJ hk ?_
   simp -implicitDefEqProofs (maxSteps:=99999999) (disch:=first | omega | (simp only[Y.ah,av,List.length_cons,List.length_nil];first | done | omega)) only[hrow,yE,zO,h1,j0,j1,c1,c2,c3,yu,pA,va,vg,vs,vw,Nat.reduceMul,ite_true,ite_false,eq_self,forall_const,implies_true,Nat.reduceAdd,Nat.reduceSub,Nat.reduceLT,Nat.reduceLeDiff,↓reduceIte,reduceCtorEq,Int.reduceEq,Int.reduceLT,Int.reduceLE,Int.reduceGT,Int.reduceGE,Int.reduceAdd,Int.reduceSub,Int.reduceNeg,Int.reduceToNat,Nat.reduceBEq,Nat.reduceEqDiff]
   exact cK _ _ ⟨j+1,⟨by omega,rfl⟩,by simp[Fr]⟩ (by simp[aU,mk];omega)
  ·obtain ⟨t,rfl⟩:∃t,j=l.length+t:=⟨j - l.length,by omega⟩
   have c2:¬(((l.length+t:Nat):Int)<l.length):=by omega
   have c3:((l.length+t:Nat):Int)≥l.length:=by omega
   have yu:=La (l:=l) (a:=a) (t:=t) (by omega)
   have hmk:=ya
   have Bu:=Il
   simp only[Dj] at yu hmk Bu
   have e2:((l.length+t:Nat):Int) - l.length=t:=by omega
   simp -implicitDefEqProofs (maxSteps:=99999999) (disch:=first | omega | (simp only[Y.ah,av,List.length_cons,List.length_nil];first | done | omega)) only[hrow,yE,zO,h1,j0,j1,c1,c2,c3,yu,e2,va,vg,vs,vw,Nat.reduceMul,ite_true,ite_false,eq_self,forall_const,implies_true,Nat.reduceAdd,Nat.reduceSub,Nat.reduceLT,Nat.reduceLeDiff,↓reduceIte,reduceCtorEq,Int.reduceEq,Int.reduceLT,Int.reduceLE,Int.reduceGT,Int.reduceGE,Int.reduceAdd,Int.reduceSub,Int.reduceNeg,Int.reduceToNat,Nat.reduceBEq,Nat.reduceEqDiff]
   refine aJ (hmk _ _ _) ?_
   simp -implicitDefEqProofs (maxSteps:=99999999) (disch:=first | omega | (simp only[Y.ah,av,List.length_cons,List.length_nil];first | done | omega)) only[hrow,yE,zO,h1,j0,j1,c1,c2,c3,yu,e2,va,vg,vs,vw,Nat.reduceMul,ite_true,ite_false,eq_self,forall_const,implies_true,Nat.reduceAdd,Nat.reduceSub,Nat.reduceLT,Nat.reduceLeDiff,↓reduceIte,reduceCtorEq,Int.reduceEq,Int.reduceLT,Int.reduceLE,Int.reduceGT,Int.reduceGE,Int.reduceAdd,Int.reduceSub,Int.reduceNeg,Int.reduceToNat,Nat.reduceBEq,Nat.reduceEqDiff]
   refine aJ (Bu _ _ _) ?_
   simp -implicitDefEqProofs (maxSteps:=99999999) (disch:=first | omega | (simp only[Y.ah,av,List.length_cons,List.length_nil];first | done | omega)) only[hrow,yE,zO,h1,j0,j1,c1,c2,c3,yu,e2,va,vg,vs,vw,Nat.reduceMul,ite_true,ite_false,eq_self,forall_const,implies_true,Nat.reduceAdd,Nat.reduceSub,Nat.reduceLT,Nat.reduceLeDiff,↓reduceIte,reduceCtorEq,Int.reduceEq,Int.reduceLT,Int.reduceLE,Int.reduceGT,Int.reduceGE,Int.reduceAdd,Int.reduceSub,Int.reduceNeg,Int.reduceToNat,Nat.reduceBEq,Nat.reduceEqDiff]
   exact cK _ _ ⟨l.length+t+1,⟨by omega,rfl⟩,by simp[Fr]⟩ (by simp[aU,mk];omega)
 ·refine hL _ _ ?_
  clear hL
  simp -implicitDefEqProofs (maxSteps:=99999999) (disch:=first | omega | (simp only[Y.ah,av,List.length_cons,List.length_nil];first | done | omega)) only[va,vg,vs,vw,Nat.reduceMul,ite_true,ite_false,eq_self,forall_const,implies_true,Nat.reduceAdd,Nat.reduceSub,Nat.reduceLT,Nat.reduceLeDiff,↓reduceIte,reduceCtorEq,Int.reduceEq,Int.reduceLT,Int.reduceLE,Int.reduceGT,Int.reduceGE,Int.reduceAdd,Int.reduceSub,Int.reduceNeg,Int.reduceToNat,Nat.reduceBEq,Nat.reduceEqDiff]
  exact eo.refl _ _ _
theorem yc(l:List Nd):A8 l:=by
 have key:∀n:Nat,∀l:List Nd,Nd.aw l≤n→A8 l:=by
  intro n
  induction n with
  | zero =>
   intro l h
   refine A9 l fun t ht=>?_
   have:=Nd.eN ht
   have:=t.size_pos
   omega
  | succ n ih =>
   intro l h
   refine A9 l fun t ht=>ih _ ?_
   have:=Nd.eN ht
   have:=Nd.size_eq t
   omega
 exact key _ l (Nat.le_refl _)
mutual
inductive OW(F:Y):Nd→AV→List Nat→Prop
 | mk {k:Int}{s:ByteArray}{n:Int}{l:List Nd}{xs:List AV}{i:Nat}{is:List Nat}:(xs≠[]→Y.find F i=bZ 4 25 xs)→kK F l xs is→OW F ⟨k,s,n,l⟩ (.agg [.Z (.int .u8 k),.Z (.string s),.Z (.int .i64 n),aX 4 xs i]) (i::is)
inductive kK(F:Y):List Nd→List AV→List Nat→Prop
 | nil:kK F [] [] []
 | cons {t:Nd}{l:List Nd}{x:AV}{xs:List AV}{a b:List Nat}:OW F t x a→kK F l xs b→kK F (t::l) (x::xs) (a++b)
end
theorem kK.append{F:Y}:∀{l m:List Nd}{xs ys:List AV}{a b:List Nat},kK F l xs a→kK F m ys b→kK F (l++m) (xs++ys) (a++b)
 | [],_,_,_,_,_,.nil,h=>h
 | _::_,_,_,_,_,_,.cons h1 h2,h=>by
  rw[List.append_assoc]
  exact .cons h1 (kK.append h2 h)
theorem kK.len{F:Y}:∀{l:List Nd}{xs:List AV}{a:List Nat},kK F l xs a→xs.length=l.length
 | [],_,_,.nil=>rfl
 | _::_,_,_,.cons _ h=>by simp[kK.len h]
theorem OW.Lb{F:Y}(t:Nd):∀{x:AV}{is:List Nat},OW F t x is→is.length=t.size:=by
 induction t using Nd.ind with
 | _ t ih =>
  intro x is h
  have key:∀(l:List Nd),(∀k∈l,∀{x:AV}{is:List Nat},OW F k x is→is.length=k.size)→∀{xs:List AV}{is:List Nat},kK F l xs is→is.length=Nd.aw l:=by
   intro l
   induction l with
   | nil=>intro _ xs is h;cases h;rfl
   | cons y r fI =>
    intro hk xs is h
    cases h with
    | cons h1 h2 =>
     rw[List.length_append,hk y (by simp) h1,fI (fun k hk'=>hk k (by simp[hk'])) h2]
     rfl
  cases h with
  | mk h1 h2 =>
   rw[List.length_cons,key _ ih h2]
   simp only[Nd.size,Nd.kids]
   omega
theorem Lc{F:Y}(t:Nd):∀{a:Nat},eZ F t a→OW F t (fU t a) (List.range' a t.size):=by
 induction t using Nd.ind with
 | _ t ih =>
  intro a h
  have key:∀(l:List Nd),(∀k∈l,∀{a:Nat},eZ F k a→OW F k (fU k a) (List.range' a k.size))→∀a,gR F l a→kK F l (fN l a) (List.range' a (Nd.aw l)):=by
   intro l
   induction l with
   | nil=>intro _ a _;exact .nil
   | cons x r fI =>
    intro hx a hl
    simp only[fN,Nd.aw]
    rw[←List.range'_append_1]
    exact .cons (hx x (by simp) hl.first) (fI (fun k hk=>hx k (by simp[hk])) _ hl.rest)
  have h1:=h.head
  have h2:=key _ ih _ h.kids
  cases t with
  | mk k s n l =>
   simp only[fU,Nd.size,Nd.kids] at *
   rw[Nat.add_comm 1,List.range'_succ]
   exact .mk (fun _=>h1) h2
theorem Vd{F K:Y}{n0:Nat}{src:List Nat}(t:Nd):∀{x:AV}{is:List Nat}{c:Nat},OW F t x is→(∀(k i:Nat),is[k]? = some i→cF n0 src i=some (c+k))→
  Gz K n0 src x (fU t c)∧∀(k:Nat)(ys:List AV),(xg t c)[k]? = some ys→∃(i:Nat)(xs:List AV),is[k]? = some i∧(xs≠[]→Y.find F i=bZ 4 25 xs)∧de K n0 src xs ys:=by
 induction t using Nd.ind with
 | _ t ih =>
  intro x is c h hN
  have key:∀(l:List Nd),(∀k∈l,∀{x:AV}{is:List Nat}{c:Nat},OW F k x is→(∀(k i:Nat),is[k]? = some i→cF n0 src i=some (c+k))→
    Gz K n0 src x (fU k c)∧∀(j:Nat)(ys:List AV),(xg k c)[j]? = some ys→∃(i:Nat)(xs:List AV),is[j]? = some i∧(xs≠[]→Y.find F i=bZ 4 25 xs)∧de K n0 src xs ys)→
    ∀{xs:List AV}{is:List Nat}{c:Nat},kK F l xs is→(∀(k i:Nat),is[k]? = some i→cF n0 src i=some (c+k))→
    de K n0 src xs (fN l c)∧∀(j:Nat)(ys:List AV),(jS l c)[j]? = some ys→∃(i:Nat)(xs:List AV),is[j]? = some i∧(xs≠[]→Y.find F i=bZ 4 25 xs)∧de K n0 src xs ys:=by
   intro l
   induction l with
   | nil=>intro _ xs is c h _;cases h;exact ⟨.nil,fun j ys h=>by simp[jS] at h⟩
   | cons y r fI =>
    intro hk xs is c h hN
    cases h with
    | @cons _ _ x xs a b h1 h2 =>
     have hal:=OW.Lb _ h1
     have k1:=hk y (by simp) h1 (c:=c) (fun k i hi=>hN k i (by rw[List.getElem?_append_left (List.getElem?_eq_some_iff.1 hi).1];exact hi))
     have k2:=fI (fun k hk'=>hk k (by simp[hk'])) h2 (c:=c+y.size) (fun k i hi=>by
      rw[show c+y.size+k=c+(a.length+k) by omega]
      exact hN _ i (by rw[List.getElem?_append_right (by omega),Nat.add_sub_cancel_left];exact hi))
     refine ⟨.cons k1.1 k2.1,fun j ys hj=>?_⟩
     simp only[jS] at hj
     by_cases hlt:j<y.size
     ·rw[List.getElem?_append_left (by rw[fA];exact hlt)] at hj
      obtain ⟨i,zs,e1,e2⟩:=k1.2 j ys hj
      exact ⟨i,zs,by rw[List.getElem?_append_left (by omega)];exact e1,e2⟩
     ·rw[List.getElem?_append_right (by rw[fA];omega),fA] at hj
      obtain ⟨i,zs,e1,e2⟩:=k2.2 _ ys hj
      exact ⟨i,zs,by rw[List.getElem?_append_right (by omega),hal];exact e1,e2⟩
  cases h with
  | @mk k s n l xs i is h1 h2 =>
   have h3:=key l ih h2 (c:=c+1) (fun k j hj=>by
    rw[show c+1+k=c+(k+1) by omega]
    exact hN (k+1) j (by rw[List.getElem?_cons_succ];exact hj))
   refine ⟨?_,fun j ys hj=>?_⟩
   ·simp only[fU]
    refine .agg (.cons (.same trivial) (.cons (.same trivial) (.cons (.same trivial) (.cons ?_ .nil))))
    rw[PU (show (fN l (c+1)).length=xs.length by rw[fX,h2.len])]
    exact SR fun _=>hN 0 i rfl
   ·simp only[xg] at hj
    cases j with
    | zero =>
     simp only[List.getElem?_cons_zero,Option.some.injEq] at hj
     exact ⟨i,xs,rfl,h1,hj▸h3.1⟩
    | succ j =>
     rw[List.getElem?_cons_succ] at hj
     obtain ⟨i',zs,e1,e2⟩:=h3.2 j ys hj
     exact ⟨i',zs,by rw[List.getElem?_cons_succ];exact e1,e2⟩
theorem Io{H F:Y}{t:Nd}{x:AV}{is:List Nat}{v:Value}(h:OW F t x is)(hn:is.Nodup)(hge:∀i∈is,H.length≤i)(ho:∀i,i<H.length→Y.find F i=Y.find H i) :
  eo H (.ret (.aG [x,.Z v])) F (.ret (.aG [fU t H.length,.Z v])) (fQ t H.length++H):=by
 have hN:∀(k i:Nat),is[k]? = some i→cF H.length is i=some (H.length+k):=fun k i hi=>lw hn hi (hge i (List.mem_of_getElem? hi))
 obtain ⟨g1,g2⟩:=Vd (K:=F) t h hN
 rw[Df]
 refine uh _ is (by rw[OW.Lb _ h];simp[HZ,fA]) hn hge ho (fun i k s hb hs=>?_) (.aG (.cons g1 (.cons (.same trivial) .nil)))
 simp only[HZ,List.getElem?_map,Option.map_eq_some_iff] at hb
 obtain ⟨ys,hy,hk⟩:=hb
 obtain ⟨hne,rfl⟩:=tS hk
 obtain ⟨i',xs,e1,e2,e3⟩:=g2 i ys hy
 rw[hs] at e1
 cases e1
 have BA:xs≠[]:=fun e=>hne (by have:=e3.len;rw[e] at this;exact List.length_eq_zero_iff.1 (by simpa using this))
 have e4:=e2 BA
 rw[bt BA] at e4
 exact ⟨_,e4,rfl,rfl,fun h=>h,e3⟩
theorem EN(p q:List Nd):∀a,jS (p++q) a=jS p a++jS q (a+Nd.aw p):=by
 induction p with
 | nil=>intro a;simp[jS,Nd.aw]
 | cons x r ih =>
  intro a
  simp only[List.cons_append,jS,ih,Nd.aw,List.append_assoc]
  rw[show a+(x.size+Nd.aw r)=a+x.size+Nd.aw r by omega]
theorem qm(l:List Nd):∀a,(jS l a).length=Nd.aw l:=by
 induction l with
 | nil=>intro a;rfl
 | cons x r ih=>intro a;simp only[jS,List.length_append,fA,ih,Nd.aw]
theorem gR.split{F:Y}{p q:List Nd}{a:Nat}(h:gR F (p++q) a):gR F p a∧gR F q (a+Nd.aw p):=by
 unfold gR at *
 rw[EN] at h
 refine ⟨fun i xs hx=>h i xs ?_,fun i xs hx=>?_⟩
 ·rw[List.getElem?_append_left (List.getElem?_eq_some_iff.1 hx).1]
  exact hx
 ·rw[Nat.add_assoc]
  refine h _ xs ?_
  rw[List.getElem?_append_right (by rw[qm];omega),qm,Nat.add_sub_cancel_left]
  exact hx
theorem gR.of{F G:Y}{l:List Nd}{a:Nat}(h:gR F l a)(hs:∀i,a≤i→i<a+Nd.aw l→Y.find G i=Y.find F i):gR G l a:=fun i xs hx=>by
 have hi:=(List.getElem?_eq_some_iff.1 hx).1
 rw[qm] at hi
 rw[hs _ (by omega) (by omega)]
 exact h i xs hx
theorem mN{a n y:Nat}(h:y∈List.range' a n):a≤y∧y<a+n:=by
 obtain ⟨i,hi,rfl⟩:=List.mem_range'.1 h
 omega
theorem EO(n:Nat)(t:Nd):∀a,(fU t a).up n=fU t (n+a)∧Y.up n (fQ t a)=fQ t (n+a)∧(fU t a).op=true∧∀b∈fQ t a,∀k,b=some k→AV.nF k.es=true:=by
 induction t using Nd.ind with
 | _ t ih =>
  intro a
  have key:∀l:List Nd,(∀k∈l,∀a,(fU k a).up n=fU k (n+a)∧Y.up n (fQ k a)=fQ k (n+a)∧(fU k a).op=true∧∀b∈fQ k a,∀c,b=some c→AV.nF c.es=true)→
    ∀a,AV.kH n (fN l a)=fN l (n+a)∧Y.up n (pB l a)=pB l (n+a)∧AV.nF (fN l a)=true∧∀b∈pB l a,∀c,b=some c→AV.nF c.es=true:=by
   intro l
   induction l with
   | nil=>intro _ a;exact ⟨rfl,rfl,rfl,fun b h=>by simp[pB] at h⟩
   | cons x r fI =>
    intro hk a
    obtain ⟨h1,h2,h3,h4⟩:=hk x (by simp) a
    obtain ⟨g1,g2,g3,g4⟩:=fI (fun k h=>hk k (by simp[h])) (a+x.size)
    rw[show n+(a+x.size)=n+a+x.size by omega] at g1 g2
    refine ⟨by simp only[fN,AV.kH,h1,g1],?_,by simp only[fN,AV.nF,h3,g3,Bool.and_self],?_⟩
    ·simp only[pB]
     rw[←h2,←g2]
     unfold Y.up
     rw[List.map_append]
    ·intro b hb c hc
     simp only[pB,List.mem_append] at hb
     exact hb.elim (fun h=>g4 b h c hc) fun h=>h4 b h c hc
  obtain ⟨k1,k2,k3,k4⟩:=key t.kids ih (a+1)
  rw[show n+(a+1)=n+a+1 by omega] at k1 k2
  have hup:∀(xs:List AV)(i:Nat),(aX 4 xs i).up n=aX 4 (AV.kH n xs) (n+i):=by
   intro xs i
   cases xs with
   | nil=>rfl
   | cons x r =>
    rw[nA (by simp),nA (by simp[AV.kH])]
    simp[AV.up,AV.iK]
  have I2:∀(xs:List AV),(bZ 4 25 xs).map (aK.up n)=bZ 4 25 (AV.kH n xs):=by
   intro xs
   cases xs with
   | nil=>rfl
   | cons x r=>rw[bt (by simp),bt (by simp[AV.kH])];rfl
  have hop:∀(xs:List AV)(i:Nat),(aX 4 xs i).op=true:=by
   intro xs i
   cases xs with
   | nil=>rfl
   | cons x r=>rw[nA (by simp)];rfl
  refine ⟨?_,?_,?_,?_⟩
  ·rw[eU,eU]
   simp only[AV.up,AV.kH,hup,k1]
  ·rw[vS,vS]
   unfold Y.up at k2 ⊢
   rw[List.map_append,k2,List.map_cons,List.map_nil,I2,k1]
  ·rw[eU]
   simp only[AV.op,AV.nF,hop,Bool.and_self]
  ·intro b hb c hc
   rw[vS,List.mem_append] at hb
   rcases hb with h | h
   ·exact k4 b h c hc
   ·rw[List.mem_singleton.1 h] at hc
    obtain ⟨h1,rfl⟩:=tS hc
    exact k3
theorem Ve{G:Y}(h:∀b∈G,∀k,b=some k→AV.nF k.es=true):Y.op G:=by
 intro id b hb
 induction G with
 | nil=>simp[Y.find] at hb
 | cons x r ih =>
  simp only[Y.find] at hb
  split at hb
  ·exact h x (by simp) b hb
  ·exact ih (fun b hb=>h b (by simp[hb])) hb
def CP(P:Program)(aY:List Nat)(c:Code)(ic:IC):Prop:=dt P aY c=some ic∧∀id:Nat,aY.contains (id+1000)=false
def SE(P:Program)(aY:List Nat)(ic:IC)(K:Post)(ts:List AV)(H:Y):Prop :=
 ∀c,CP P aY c ic→∀(φ:aH)(w:World)(a:Act),Rel φ H w→FR φ (Own φ H) w ts a→c.wp P (CK K φ H w a.defers) a w
section
variable {P:Program}{aY:List Nat}
theorem SE.kD{ic:IC}{K:Post}{ts:List AV}{H:Y}(h:ES P ic K ts H):SE P aY ic K ts H:=fun c hc φ w a hR hF=>ry c ic hc.1 K φ H w ts a hR hF (FZ h)
theorem xh{id:Nat}{ops:Array Oper}{draw:Bool}{ic:IC}(h:CP P aY (.region id ops draw) ic):(∃l,ic = .ops l)∨∃l A,ic = .cH l A:=by
 obtain ⟨h,hv⟩:=h
 simp only[dt] at h
 split at h
 ·cases h
 split at h
 ·split at h
  ·rw[hv id] at h
   cases h
   exact .inr ⟨_,_,rfl⟩
  ·unfold Eb at h
   simp only at h
   split at h
   ·cases h
   split at h
   ·cases h
    exact .inr ⟨_,_,rfl⟩
   ·cases h
 ·cases h
  exact .inl ⟨_,rfl⟩
theorem PY{c:Code}{x y:IC}(h:CP P aY c (.seq x y)):∃c1 c2,c = .seq c1 c2∧CP P aY c1 x∧CP P aY c2 y:=by
 obtain ⟨h,hv⟩:=h
 cases c with
 | seq a b =>
  simp only[dt] at h
  split at h
  ·rename_i h1 h2
   cases h
   exact ⟨a,b,rfl,⟨h1,hv⟩,h2,hv⟩
  ·cases h
 | region id ops draw =>
  rcases xh ⟨h,hv⟩ with ⟨l,e⟩ | ⟨l,A,e⟩<;>cases e
 | cond c a b =>
  simp only[dt] at h
  split at h<;>cases h
 | _=>simp[dt,Ec] at h
theorem Ip{c:Code}{id:Nat}{x:IC}(h:CP P aY c (.block id x)):∃c1,c = .block id c1∧CP P aY c1 x:=by
 obtain ⟨h,hv⟩:=h
 cases c with
 | block i a =>
  simp only[dt,Option.map_eq_some_iff] at h
  obtain ⟨y,h1,h2⟩:=h
  cases h2
  exact ⟨a,rfl,h1,hv⟩
 | region id ops draw =>
  rcases xh ⟨h,hv⟩ with ⟨l,e⟩ | ⟨l,A,e⟩<;>cases e
 | cond c a b =>
  simp only[dt] at h
  split at h<;>cases h
 | seq a b =>
  simp only[dt] at h
  split at h<;>cases h
 | _=>simp[dt,Ec] at h
theorem Ld{c:Code}{x:IC}(h:CP P aY c (.loop x)):∃c1,c = .loop c1∧CP P aY c1 x:=by
 obtain ⟨h,hv⟩:=h
 cases c with
 | loop a =>
  simp only[dt,Option.map_eq_some_iff] at h
  obtain ⟨y,h1,h2⟩:=h
  cases h2
  exact ⟨a,rfl,h1,hv⟩
 | region id ops draw =>
  rcases xh ⟨h,hv⟩ with ⟨l,e⟩ | ⟨l,A,e⟩<;>cases e
 | cond c a b =>
  simp only[dt] at h
  split at h<;>cases h
 | seq a b =>
  simp only[dt] at h
  split at h<;>cases h
 | _=>simp[dt,Ec] at h
theorem SE.seq{x y:IC}{K:Post}{ts:List AV}{H:Y}(h:SE P aY x (jl (SE P aY y K) K) ts H):SE P aY (.seq x y) K ts H:=by
 intro c hc φ w a hR hF
 obtain ⟨c1,c2,rfl,h1,h2⟩:=PY hc
 refine wp_seq (wp_mono (h c1 h1 φ w a hR hF) ?_)
 rintro e a' w' ⟨x',ts',H',φ',k1,k2,k3,k4,k5,k6⟩
 cases x' with
 | normal =>
  cases e<;>try exact k1.elim
  show c2.wp P _ a' w'
  have:=k2 c2 h2 φ' w' a' k4 k3
  rw[k6] at this
  exact wp_mono this fun e a2 w2 hc=>hc.step k5
 | exit i =>
  cases e<;>try exact k1.elim
  exact ⟨_,ts',H',φ',k1,k2,k3,k4,k5,k6⟩
 | ret =>
  cases e<;>try exact k1.elim
  exact ⟨.ret,ts',H',φ',k1,k2,k3,k4,k5,k6⟩
 | bF v =>
  cases e<;>try exact k1.elim
  exact ⟨_,ts',H',φ',k1,k2,k3,k4,k5,k6⟩
theorem SE.block{id:Nat}{x:IC}{K:Post}{ts:List AV}{H:Y}(h:SE P aY x (kf id K) ts H):SE P aY (.block id x) K ts H:=by
 intro c hc φ w a hR hF
 obtain ⟨c1,rfl,h1⟩:=Ip hc
 refine wp_block (wp_mono (h c1 h1 φ w a hR hF) ?_)
 rintro e a' w' ⟨x',ts',H',φ',k1,k2,k3,k4,k5,k6⟩
 cases x' with
 | normal =>
  cases e<;>try exact k1.elim
  exact ⟨.normal,ts',H',φ',k1,k2,k3,k4,k5,k6⟩
 | exit i =>
  cases e<;>try exact k1.elim
  rename_i j
  have:i=j:=k1
  subst this
  simp only[kf] at k2
  simp only[Exit.inBlock]
  split
  ·rename_i e2
   rw[if_pos e2] at k2
   exact ⟨.normal,ts',H',φ',trivial,k2,k3,k4,k5,k6⟩
  ·rename_i e2
   rw[if_neg e2] at k2
   exact ⟨.exit i,ts',H',φ',rfl,k2,k3,k4,k5,k6⟩
 | ret =>
  cases e<;>try exact k1.elim
  exact ⟨.ret,ts',H',φ',k1,k2,k3,k4,k5,k6⟩
 | bF v =>
  cases e<;>try exact k1.elim
  exact ⟨.bF v,ts',H',φ',k1,k2,k3,k4,k5,k6⟩
theorem SE.loop{x:IC}{K:Post}{ts:List AV}{H:Y}(I:List AV→Y→Prop)(μ:List AV→Y→Nat)(h2:I ts H)(h3:∀ts H,I ts H→SE P aY x (jl (fun ts' H'=>I ts' H'∧μ ts' H'<μ ts H) K) ts H):SE P aY (.loop x) K ts H:=by
 intro c0 hc φ w a hR hF
 obtain ⟨c,rfl,h1⟩:=Ld hc
 intro b k cs
 have key:∀n fG H1 bA w1 a1,μ fG H1=n→I fG H1→FR bA (Own bA H1) w1 fG a1→Rel bA H1 w1→Step φ H w bA H1 w1→a1.defers=a.defers→
   ∃e a' w',CK K φ H w a.defers e a' w'∧Arrives P (lone (b.at a1 (.code c::.inLoop c::k)) cs w1) b k cs e a' w':=by
  intro n
  induction n using Nat.strongRecOn with
  | _ n ihn =>
   intro fG H1 bA w1 a1 hn hI k9 wu lO Ed
   obtain ⟨e,a2,w2,⟨x',ts',H',φ',k1,k2,k3,k4,k5,k6⟩,j7⟩:=h3 fG H1 hI c h1 bA w1 a1 wu k9 b (.inLoop c::k) cs
   cases x' with
   | normal =>
    cases e<;>try exact k1.elim
    obtain ⟨g1,g2⟩:=k2
    obtain ⟨e3,a3,w3,hq3,Js⟩:=ihn (μ ts' H') (hn▸g2) ts' H' φ' w2 a2 rfl g1 k3 k4 (lO.trans k5) (by rw[k6,Ed])
    exact ⟨e3,a3,w3,hq3,.of_steps (Steps.trans j7 (.one step_inLoop)) Js⟩
   | exit i =>
    cases e<;>try exact k1.elim
    exact ⟨_,a2,w2,⟨.exit i,ts',H',φ',k1,k2,k3,k4,lO.trans k5,by rw[k6,Ed]⟩,.pass (x:=.inLoop c) rfl (fun _ _=>.inl (by simp)) j7⟩
   | ret =>
    cases e<;>try exact k1.elim
    exact ⟨_,a2,w2,⟨.ret,ts',H',φ',k1,k2,k3,k4,lO.trans k5,by rw[k6,Ed]⟩,.pass (x:=.inLoop c) rfl (fun _ _=>.inl (by simp)) j7⟩
   | bF v =>
    cases e<;>try exact k1.elim
    exact ⟨_,a2,w2,⟨.bF v,ts',H',φ',k1,k2,k3,k4,lO.trans k5,by rw[k6,Ed]⟩,.pass (x:=.inLoop c) rfl (fun _ _=>.inl (by simp)) j7⟩
 obtain ⟨e,a',w',hq,j7⟩:=key _ ts H φ w a rfl h2 hF hR (Step.refl _ _ _) rfl
 exact ⟨e,a',w',hq,.of_steps (.one step_loop) j7⟩
theorem SE.opened{ic:IC}{K:Post}{ts:List AV}{H:Y}(i:Nat){k id off n:Nat}(hi:ts[i]? = some (.aE k id off n none))(h:∀c,n≤c→c≤maxLen→SE P aY ic K (ts.set i (.aE k id off n (some c))) H):SE P aY ic K ts H:=by
 intro c0 hc φ w a hR hF
 have oD:i<ts.length:=(List.getElem?_eq_some_iff.1 hi).1
 have hv:=hF.2 i
 have hg:ts.getD i .top = .aE k id off n none:=by simp[List.getD,hi]
 rw[hg] at hv
 obtain ⟨b,c',cur,e,fr,v1,v2,v3,v4,v5,v6,v7⟩:=ga hv
 refine h c' v3 v4 c0 hc φ w a hR ⟨by rw[List.length_set];exact hF.1,fun j=>?_⟩
 by_cases hj:i=j
 ·subst hj
  have:(ts.set i (.aE k id off n (some c'))).getD i .top = .aE k id off n (some c'):=by simp[List.getD,oD]
  rw[this,v2]
  exact ⟨rfl,b,c',cur,e,fr,v1,rfl,v3,v4,fun m hm=>by cases hm;rfl,v6,v7⟩
 ·have:(ts.set i (.aE k id off n (some c'))).getD j .top=ts.getD j .top:=by simp[List.getD,List.getElem?_set_ne hj]
  rw[this]
  exact hF.2 j
theorem SE.mono{ic:IC}{K K':Post}{ts:List AV}{H:Y}(h:SE P aY ic K ts H)(hk:∀x ts H,K x ts H→K' x ts H):SE P aY ic K' ts H:=fun c hc φ w a hR hF =>
 wp_mono (h c hc φ w a hR hF) fun e a' w' ⟨x',ts',H',φ',k1,k2,k3⟩=>⟨x',ts',H',φ',k1,hk _ _ _ k2,k3⟩
theorem SE.gen{ic:IC}{K:Post}{ts:List AV}{H:Y}(h:∀L:Post,(∀x ts H,K x ts H→L x ts H)→SE P aY ic L ts H):SE P aY ic K ts H:=h K fun _ _ _ h=>h
theorem SE.ab7{x:IC}{K:Post}{ts:List AV}{H:Y}(I:List AV→Y→Prop)(μ:List AV→Y→Nat)(h0:I ts H)(h:∀ts H,I ts H→∀L:List AV→Y→Prop,(∀ts' H',I ts' H'→μ ts' H'<μ ts H→L ts' H')→SE P aY x (jl L K) ts H):SE P aY (.loop x) K ts H :=
 SE.loop I μ h0 fun ts H hI=>h ts H hI _ fun ts' H' h1 h2=>⟨h1,h2⟩
def oP(H:Y):Y:=H.map fun _=>none
theorem tA(H:Y):(oP H).length=H.length:=by simp[oP]
theorem sj(H:Y)(i:Nat):Y.find (oP H) i=none:=by
 induction H with
 | nil=>rfl
 | cons b r ih =>
  simp only[oP,List.map_cons,Y.find]
  split
  ·rfl
  ·exact ih
inductive lH(H:Y):List AV→List AV→Prop where
 | nil:lH H [] []
 | view {x y:AV}{r s:List AV}:View H x y→lH H r s→lH H (x::r) (y::s)
 | top {x:AV}{r s:List AV}:lH H r s→lH H (x::r) (.top::s)
theorem lH.len{H:Y}:∀{xs ys:List AV},lH H xs ys→ys.length=xs.length
 | _,_,.nil=>rfl
 | _,_,.view _ h=>by simp[h.len]
 | _,_,.top h=>by simp[h.len]
theorem lH.get{H:Y}:∀{xs ys:List AV},lH H xs ys→∀i,View H (xs.getD i .top) (ys.getD i .top)∨ys.getD i .top = .top
 | _,_,.nil,i=>.inr (by simp)
 | _,_,.view h r,0=>.inl (by simpa using h)
 | _,_,.view h r,i+1=>by simpa using r.get i
 | _,_,.top r,0=>.inr (by simp)
 | _,_,.top r,i+1=>by simpa using r.get i
theorem SE.freeze{ic:IC}{K:Post}{ts ts':List AV}{H:Y}(hv:lH H ts ts')(h:SE P aY ic K ts' (oP H)):SE P aY ic K ts H:=by
 intro c0 hc φ w a hR hF
 have hno:∀b,¬Own φ (oP H) b:=fun b ⟨id,blk,h1,h2⟩=>by rw[sj] at h2;cases h2
 have KL:Later (fun _=>True) φ φ (Own φ H) (Own φ (oP H)) w w:=⟨fun _ _ _ h=>h,Nat.le_refl _,fun b _ _=>hno b,fun _ _ _=>rfl,fun _ _=>rfl⟩
 have hL1:Later (fun _=>True) fL φ O0 (Own φ (oP H)) w w:=⟨fun id b _ h=>by simp[fL] at h,Nat.le_refl _,fun b _ _=>hno b,fun _ _ _=>rfl,fun _ _=>rfl⟩
 have hS:Step φ H w φ (oP H) w:={ KL with os:=rfl,tape:=rfl,output:=rfl,len:=by rw[tA];exact Nat.le_refl _,old:=fun _ _=>rfl }
 have zq:Rel φ (oP H) w:={ gZ:=hR.gZ.less (fun b ho=>(hno b ho).elim),dom:=fun id b h=>by rw[tA];exact hR.dom id b h,inj:=fun i j b _ _ h1 _=>by rw[sj] at h1;simp at h1,blk:=fun id b k _ h=>by rw[sj] at h;cases h }
 refine wp_mono (h c0 hc φ w a zq ⟨by rw[hv.len];exact hF.1,fun i=>?_⟩) fun e a' w' hh=>hh.step hS
 have hi:=hF.2 i
 rcases hv.get i with hw | hw
 ·exact ⟨hw.jj hi.1,jr hL1 _ _ _ (AV.jK _) (fun _ _ h=>h) (hw.R hR hi.2)⟩
 ·rw[hw]
  exact ⟨trivial,trivial⟩
theorem PZ{f:FuncId}{fn:Func}{c:Code}{ic:IC}{rs:List RV}(hf:P.funcs[f]? = some fn)(hb:fn.body=some c)(hc:dt P aY c=some ic)(hr:nt P fn.results.toList=some rs){args:List AV}{H:Y}{Kr:cr→Y→Prop}
  (h0:SE P aY ic (pZ rs Kr) (args++List.replicate (fn.ntmps - args.length) (.aG [])) H)(hv:∀id:Nat,aY.contains (id+1000)=false:=by intro id;rfl):DK P f args H Kr:=by
 have h:=h0.mono kg
 intro φ w vs hR ha
 have hF:=wM (n:=fn.ntmps) ha
 refine calls_of_wp hf hb (wp_mono (h c ⟨hc,hv⟩ φ w _ hR hF) ?_)
 rintro e a' w' ⟨x',ts',H',φ',k1,k2,k3,k4,k5,k6⟩
 have FT:(rz rs ts' H' fun l=>Kr (.ret (oneOf l)) H')→a'.defers=[]∧∃v,(results fn a'.tmps).run P w' = .ok v w'∧∃e H2 df,xC df (Own df H2) w' e (.returned v)∧Kr e H2∧Rel df H2 w'∧Step φ H w df H2 w':=by
  intro hl
  obtain ⟨y,v,g1,g2,g3⟩:=mF k4 k3 hr (K:=fun x=>Kr (.ret x) H') hl
  exact ⟨k6,v,g3,.ret y,H',φ',g2,g1,k4,k5⟩
 cases x' with
 | normal =>
  cases e<;>try exact k1.elim
  exact FT k2
 | ret =>
  cases e<;>try exact k1.elim
  exact FT k2
 | exit i=>exact k2.elim
 | bF v =>
  cases e<;>try exact k1.elim
  exact ⟨k6,.bF v,H',φ',k1,k2,k4,k5⟩
end
def gB(H:Y)(id n:Nat):Y:=match Y.find H id with
 | some b=>if b.k=0 then H else Y.set H id (some ⟨b.k,b.es.take n,false,b.ty⟩)
 | none=>H
theorem mO{H:Y}{id n:Nat}:(gB H id n).length=H.length:=by
 unfold gB
 split
 ·split
  ·rfl
  ·rw[Y.ah]
 ·rfl
theorem pD{H:Y}{id n i:Nat}(h:i≠id):Y.find (gB H id n) i=Y.find H i:=by
 unfold gB
 split
 ·split
  ·rfl
  ·rw[Y.ak h]
 ·rfl
theorem qn{H:Y}{id n:Nat}{b:aK}(h:Y.find H id=some b)(hk:b.k≠0):Y.find (gB H id n) id=some ⟨b.k,b.es.take n,false,b.ty⟩:=by
 unfold gB
 rw[h]
 simp only
 rw[if_neg hk,Y.aB (Y.au h)]
theorem qo{H:Y}{id n i:Nat}:(Y.find (gB H id n) i).isSome=(Y.find H i).isSome:=by
 by_cases c:i=id
 ·subst c
  cases h:Y.find H i with
  | none =>
   have:gB H i n=H:=by unfold gB;rw[h]
   rw[this,h]
  | some b =>
   by_cases hk:b.k=0
   ·have:gB H i n=H:=by unfold gB;rw[h];simp[hk]
    rw[this,h]
   ·rw[qn h hk]
    rfl
 ·rw[pD c]
theorem Ba{φ:aH}{H:Y}{id n b:Nat}:Own φ (gB H id n) b↔Own φ H b:=by
 constructor
 ·rintro ⟨i,k,h1,h2⟩
  have:=qo (H:=H) (id:=id) (n:=n) (i:=i)
  rw[h2] at this
  obtain ⟨k',h3⟩:=Option.isSome_iff_exists.1 this.symm
  exact ⟨i,k',h1,h3⟩
 ·rintro ⟨i,k,h1,h2⟩
  have:=qo (H:=H) (id:=id) (n:=n) (i:=i)
  rw[h2] at this
  obtain ⟨k',h3⟩:=Option.isSome_iff_exists.1 this
  exact ⟨i,k',h1,h3⟩
theorem sk{φ:aH}{H:Y}{id n:Nat}:Own φ (gB H id n)=Own φ H:=funext fun b=>propext Ba
theorem Dm{φ:aH}{O:Nat→Prop}{w:World}{b k:Nat}:∀{xs:List AV}{n off:Nat},Rl φ O w b k xs off→Rl φ O w b k (xs.take n) off
 | [],n,off,h=>by rw[List.take_nil];trivial
 | x::r,0,off,h=>trivial
 | x::r,n+1,off,h=>⟨h.1,h.2.1,h.2.2.1,Dm h.2.2.2⟩
theorem Rel.cut{φ:aH}{H:Y}{w:World}(h:Rel φ H w)(id n:Nat):Rel φ (gB H id n) w:=by
 refine ⟨h.gZ.less fun b ho=>Ba.1 ho,fun i b hb=>by rw[mO];exact h.dom i b hb,fun i j b h1 h2 h3 h4=>h.inj i j b h1 h2 (by rwa [qo] at h3) (by rwa [qo] at h4),fun i b k hb hk=>?_⟩
 rw[sk]
 by_cases c:i=id
 ·subst c
  cases hf:Y.find H i with
  | none =>
   have:gB H i n=H:=by unfold gB;rw[hf]
   rw[this,hf] at hk
   cases hk
  | some k0 =>
   by_cases bW:k0.k=0
   ·have:gB H i n=H:=by unfold gB;rw[hf];simp[bW]
    rw[this] at hk
    exact h.blk i b k hb hk
   ·rw[qn hf bW] at hk
    cases hk
    obtain ⟨cur,cap,a1,a2,a3,a4,a5,a6⟩:=(h.blk i b k0 hb hf).cells (by omega)
    refine .inl ⟨by simp only;omega,cur,cap,a1,a2,?_,fun e=>by simp at e,a5,Dm a6⟩
    simp only[List.length_take]
    omega
 ·rw[pD c] at hk
  exact h.blk i b k hb hk
theorem Dn{φ:aH}{H:Y}{w:World}{id n:Nat}:Step φ H w φ (gB H id n) w :=
 { toLater:=⟨fun _ _ _ h=>h,Nat.le_refl _,fun b _ ho eA=>ho (Ba.1 eA),fun _ _ _=>rfl,fun _ _=>rfl⟩,os:=rfl,tape:=rfl,output:=rfl,len:=by rw[mO];exact Nat.le_refl _,old:=fun _ _=>rfl }
theorem SE.cut{P:Program}{aY:List Nat}{ic:IC}{K:Post}{ts:List AV}{H:Y}(id n:Nat)(h:SE P aY ic K ts (gB H id n)):SE P aY ic K ts H:=by
 intro c0 hc φ w a hR hF
 have wy:FR φ (Own φ (gB H id n)) w ts a:=by rw[sk];exact hF
 exact wp_mono (h c0 hc φ w a (hR.cut id n) wy) fun e a' w' hh=>hh.step Dn
theorem eo.cut{H H1 H2:Y}{e1 e:cr}(id n:Nat)(h:eo H e1 (gB H1 id n) e H2):eo H e1 H1 e H2:=by
 intro φ w bA w1 en hR he wu hS
 exact h φ w bA w1 en hR (by rw[sk];exact he) (wu.cut id n) (hS.trans Dn)
theorem pE{φ:aH}{H:Y}{i:Nat}{b b':aK}(h:Y.find H i=some b):Own φ (Y.set H i (some b'))=Own φ H:=by
 have hl:=Y.au h
 refine funext fun a=>propext ⟨?_,?_⟩
 ·rintro ⟨j,k,h1,h2⟩
  by_cases c:j=i
  ·subst c
   exact ⟨j,b,h1,h⟩
  ·rw[Y.ak c] at h2
   exact ⟨j,k,h1,h2⟩
 ·rintro ⟨j,k,h1,h2⟩
  by_cases c:j=i
  ·subst c
   exact ⟨j,b',h1,Y.aB hl⟩
  ·exact ⟨j,k,h1,by rw[Y.ak c];exact h2⟩
theorem Rel.MH{φ:aH}{H:Y}{w:World}(hR:Rel φ H w){i:Nat}{b b':aK}(h:Y.find H i=some b)(hb:∀a,φ i=some a→gX φ (Own φ H) w b a→gX φ (Own φ H) w b' a):Rel φ (Y.set H i (some b')) w:=by
 have hl:=Y.au h
 have Vf:∀j,(Y.find (Y.set H i (some b')) j).isSome=(Y.find H j).isSome:=fun j=>by
  by_cases c:j=i
  ·subst c;rw[Y.aB hl,h];rfl
  ·rw[Y.ak c]
 refine ⟨hR.gZ.less fun a ho=>by rwa [pE h] at ho,fun j a hj=>by rw[Y.ah];exact hR.dom j a hj,fun j k a h1 h2 h3 h4=>hR.inj j k a h1 h2 (by rwa [Vf] at h3) (by rwa [Vf] at h4),fun j a k hj hk=>?_⟩
 rw[pE h]
 by_cases c:j=i
 ·subst c
  rw[Y.aB hl] at hk
  cases hk
  exact hb a hj (hR.blk j a b hj h)
 ·rw[Y.ak c] at hk
  exact hR.blk j a k hj hk
theorem Bb{φ:aH}{H:Y}{w:World}{i:Nat}{b b':aK}(h:Y.find H i=some b):Step φ H w φ (Y.set H i (some b')) w :=
 { toLater:=⟨fun _ _ _ h=>h,Nat.le_refl _,fun b _ ho eA=>ho (by rwa [pE h] at eA),fun _ _ _=>rfl,fun _ _=>rfl⟩,os:=rfl,tape:=rfl,output:=rfl,len:=by rw[Y.ah];exact Nat.le_refl _,old:=fun _ _=>rfl }
theorem SE.MH{P:Program}{aY:List Nat}{ic:IC}{K:Post}{ts:List AV}{H:Y}{i:Nat}{b b':aK}(h:Y.find H i=some b)(hb:∀(φ:aH)(w:World) a,φ i=some a→gX φ (Own φ H) w b a→gX φ (Own φ H) w b' a)(hs:SE P aY ic K ts (Y.set H i (some b'))):SE P aY ic K ts H:=by
 intro c0 hc φ w a hR hF
 have wy:FR φ (Own φ (Y.set H i (some b'))) w ts a:=by rw[pE h];exact hF
 exact wp_mono (hs c0 hc φ w a (hR.MH h fun a ha=>hb φ w a ha) wy) fun e a' w' hh=>hh.step (Bb h)
theorem SE.ab8{P:Program}{aY:List Nat}{ic:IC}{K:Post}{ts:List AV}{H:Y}{i k:Nat}{es es':List AV}{ex:Bool}{ty:TypeId}(h:Y.find H i=some ⟨k,es,ex,ty⟩)(hk:0<k)(hl:mJ es es')(hs:SE P aY ic K ts (Y.set H i (some ⟨k,es',ex,ty⟩))):SE P aY ic K ts H:=by
 refine SE.MH h (fun φ w a _ hb=>?_) hs
 obtain ⟨cur,cap,a1,a2,a3,a4,a5,a6⟩:=hb.cells hk
 exact .inl ⟨hk,cur,cap,a1,a2,by rw[hl.len];exact a3,fun e=>by rw[hl.len];exact a4 e,a5,hl.Rl a6⟩
theorem SE.ab9{P:Program}{aY:List Nat}{ic:IC}{K:Post}{ts:List AV}{H:Y}{i k id off n:Nat}{ex:Bool}{ty:TypeId}(h:Y.find H i=some ⟨1,[.aE k id off n none],ex,ty⟩)(hn:n≤maxLen)
  (hs:∀c,n≤c→c≤maxLen→SE P aY ic K ts (Y.set H i (some ⟨1,[.aE k id off n (some c)],ex,ty⟩))):SE P aY ic K ts H:=by
 intro c0 hc φ w a hR hF
 have key:∃c,n≤c∧c≤maxLen∧∀b,φ i=some b→gX φ (Own φ H) w ⟨1,[.aE k id off n none],ex,ty⟩ b→gX φ (Own φ H) w ⟨1,[.aE k id off n (some c)],ex,ty⟩ b:=by
  cases Jo:φ i with
  | none=>exact ⟨n,Nat.le_refl _,hn,fun b hb=>by cases hb⟩
  | some b =>
   obtain ⟨cur,cap,a1,a2,a3,a4,a5,a6⟩:=(hR.blk i b _ Jo h).cells (by simp)
   obtain ⟨x1,x2,⟨b2,c',q9,e,fr,v1,v2,v3,v4,v5,v6,v7⟩,x4⟩:=a6
   refine ⟨c',v3,v4,fun b' hb' _=>?_⟩
   cases hb'
   exact .inl ⟨by simp,cur,cap,a1,a2,a3,a4,a5,x1,x2,⟨b2,c',q9,e,fr,v1,v2,v3,v4,fun m hm=>by cases hm;rfl,v6,v7⟩,x4⟩
 obtain ⟨c,h1,h2,h3⟩:=key
 have wy:FR φ (Own φ (Y.set H i (some ⟨1,[.aE k id off n (some c)],ex,ty⟩))) w ts a:=by rw[pE h];exact hF
 exact wp_mono (hs c h1 h2 c0 hc φ w a (hR.MH h h3) wy) fun e a' w' hh=>hh.step (Bb h)
mutual
theorem OW.keep{F G:Y}(k:∀i xs,xs≠[]→Y.find F i=bZ 4 25 xs→Y.find G i=bZ 4 25 xs):∀{t:Nd}{x:AV}{is:List Nat},OW F t x is→OW G t x is
 | _,_,_,.mk h1 h2=>.mk (fun e=>k _ _ e (h1 e)) (kK.keep k h2)
theorem kK.keep{F G:Y}(k:∀i xs,xs≠[]→Y.find F i=bZ 4 25 xs→Y.find G i=bZ 4 25 xs):∀{l:List Nd}{xs:List AV}{is:List Nat},kK F l xs is→kK G l xs is
 | _,_,_,.nil=>.nil
 | _,_,_,.cons h1 h2=>.cons (OW.keep k h1) (kK.keep k h2)
end
mutual
theorem OW.Bc{F G:Y}:∀{t:Nd}{x:AV}{is:List Nat},OW F t x is→(∀i∈is,∀xs,xs≠[]→Y.find F i=bZ 4 25 xs→Y.find G i=bZ 4 25 xs)→OW G t x is
 | _,_,_,.mk h1 h2,k=>.mk (fun e=>k _ List.mem_cons_self _ e (h1 e)) (kK.Bc h2 fun i hi=>k i (List.mem_cons_of_mem _ hi))
theorem kK.Bc{F G:Y}:∀{l:List Nd}{xs:List AV}{is:List Nat},kK F l xs is→(∀i∈is,∀xs,xs≠[]→Y.find F i=bZ 4 25 xs→Y.find G i=bZ 4 25 xs)→kK G l xs is
 | _,_,_,.nil,_=>.nil
 | _,_,_,.cons h1 h2,k=>.cons (OW.Bc h1 fun i hi=>k i (List.mem_append_left _ hi)) (kK.Bc h2 fun i hi=>k i (List.mem_append_right _ hi))
end
theorem uw{H F G:Y}{T:Nd}{x:AV}{pre is:List Nat}(hG:G.length=H.length+pre.length)(hO:OW F T x is)(hn:(pre++is).Nodup)(hge:∀i∈pre++is,H.length≤i)
  (h1:∀id k,id<H.length→Y.find G id=some k→(Y.find H id=some k∧Y.find F id=some k)∨∃k1,Y.find F id=some k1∧CE F H.length (pre++is) k1 k)
  (h2:∀i s k,pre[i]? = some s→Y.find G (H.length+i)=some k→∃k1,Y.find F s=some k1∧CE F H.length (pre++is) k1 k) :
  eo H (.ret x) F (.ret (fU T G.length)) (fQ T G.length++G):=by
 have hN:∀(k i:Nat),is[k]? = some i→cF H.length (pre++is) i=some (G.length+k):=fun k i hi=>by
  have h3:(pre++is)[pre.length+k]? = some i:=by rw[List.getElem?_append_right (by omega),Nat.add_sub_cancel_left];exact hi
  rw[lw hn h3 (hge i (List.mem_of_getElem? h3))]
  congr 1
  omega
 obtain ⟨g1,g2⟩:=Vd (K:=F) T hO hN
 have oD:=OW.Lb _ hO
 refine lh (pre++is) (by rw[List.length_append,jR,hG,List.length_append,oD];omega) hn hge (fun id k hid hk=>?_) (fun i s k hs hk=>?_) g1
 ·rw[Y.bw (by omega)] at hk
  exact h1 id k hid hk
 ·by_cases c:i<pre.length
  ·rw[Y.bw (by omega)] at hk
   rw[List.getElem?_append_left c] at hs
   exact h2 i s k hs hk
  ·rw[List.getElem?_append_right (by omega)] at hs
   have tG:=(List.getElem?_eq_some_iff.1 hs).1
   have fR:i - pre.length<(xg T G.length).length:=by rw[fA];omega
   have hL:=lV (t:=T) (H:=G) (i - pre.length) _ (List.getElem?_eq_getElem fR)
   rw[show G.length+(i - pre.length)=H.length+i by omega,hk] at hL
   obtain ⟨hne,rfl⟩:=tS hL.symm
   obtain ⟨i',xs,e1,e2,e3⟩:=g2 _ _ (List.getElem?_eq_getElem fR)
   rw[hs] at e1
   cases e1
   have BA:xs≠[]:=fun e=>hne (by have:=e3.len;rw[e] at this;exact List.length_eq_zero_iff.1 (by simpa using this))
   have e4:=e2 BA
   rw[bt BA] at e4
   exact ⟨_,e4,rfl,rfl,fun h=>h,e3⟩
def lA(v:AV):aK:=⟨1,[v],true,30⟩
def mP:AV→Option Nat
 | .aE _ id _ _ _=>some id
 | _=>none
def mj:Option Nat→Y→Y
 | none,H=>H
 | some i,H=>Y.set H i none
theorem cx{o:Option Nat}{H:Y}:(mj o H).length=H.length:=by
 cases o with
 | none=>rfl
 | some i=>exact Y.ah ..
theorem xj{o:Option Nat}{H:Y}{i:Nat}(h:∀a,o=some a→i≠a):Y.find (mj o H) i=Y.find H i:=by
 cases o with
 | none=>rfl
 | some a=>exact Y.ak (h a rfl)
theorem Iq{o:Option Nat}{H:Y}{i:Nat}{b:aK}(h:Y.find (mj o H) i=some b):Y.find H i=some b∧∀a,o=some a→i≠a:=by
 cases o with
 | none=>exact ⟨h,fun a e=>by cases e⟩
 | some a =>
  have hne:i≠a:=fun e=>by
   subst e
   by_cases c:i<H.length
   ·rw[mj,Y.aB c] at h;cases h
   ·rw[Y.uD (by rw[mj,Y.ah];omega)] at h;cases h
  exact ⟨by rwa [mj,Y.ak hne] at h,fun b e=>by cases e;exact hne⟩
def uy(F:Y)(p:List Int)(v:AV):Prop:=(p=[]∧v = .an 0 [] (some []))∨∃bo c es,v = .aE 1 bo 0 p.length c∧Y.find F bo=some ⟨1,es,false,3⟩∧es.take p.length=aI p
def Bf(F:Y)(p:List Int)(v:AV):Prop:=(p=[]∧v = .an 0 [] (some []))∨∃bo,v = .aE 1 bo 0 p.length none∧Y.find F bo=some ⟨1,aI p,false,3⟩
theorem uy.keep{F G:Y}{p:List Int}{v:AV}(h:uy F p v)(k:∀a,mP v=some a→Y.find G a=Y.find F a):uy G p v:=by
 rcases h with h | ⟨bo,c,es,rfl,h2,h3⟩
 ·exact .inl h
 ·exact .inr ⟨bo,c,es,rfl,by rw[k bo rfl];exact h2,h3⟩
theorem Bf.keep{F G:Y}{p:List Int}{v:AV}(h:Bf F p v)(k:∀a,mP v=some a→Y.find G a=Y.find F a):Bf G p v:=by
 rcases h with h | ⟨bo,rfl,h2⟩
 ·exact .inl h
 ·exact .inr ⟨bo,rfl,by rw[k bo rfl];exact h2⟩
theorem uy.at{F:Y}{p:List Int}{v:AV}(h:uy F p v):∀a,mP v=some a→∃es,Y.find F a=some ⟨1,es,false,3⟩:=by
 rcases h with ⟨_,rfl⟩ | ⟨bo,c,es,rfl,h2,_⟩
 ·intro a e;cases e
 ·intro a e;cases e;exact ⟨es,h2⟩
theorem Bf.at{F:Y}{p:List Int}{v:AV}(h:Bf F p v):∀a,mP v=some a→Y.find F a=some ⟨1,aI p,false,3⟩:=by
 rcases h with ⟨_,rfl⟩ | ⟨bo,rfl,h2⟩
 ·intro a e;cases e
 ·intro a e;cases e;exact h2
theorem Bf.v{F:Y}{p:List Int}{v:AV}(h:Bf F p v):uy F p v:=by
 rcases h with h | ⟨bo,e,h2⟩
 ·exact .inl h
 ·exact .inr ⟨bo,none,_,e,h2,by rw[List.take_of_length_le (by simp[aQ])]⟩
theorem uy.view{F:Y}{p:List Int}{v:AV}(h:uy F p v):View F v (.an 1 (aI p) none):=by
 rcases h with ⟨rfl,rfl⟩ | ⟨bo,c,es,rfl,h2,h3⟩
 ·exact .nil
 ·have hl:p.length≤es.length:=by
   have:=congrArg List.length h3
   rw[List.length_take,aQ] at this
   omega
  refine .aE h2 rfl (by simpa using hl) ?_
  rw[List.drop_zero,h3]
  exact ct.SU
theorem uy.flat{F:Y}{p:List Int}{v:AV}(h:uy F p v):v.isAgg=false∧v.bT=false∧v.ax=1∧v.cells=[v]:=by
 rcases h with ⟨rfl,rfl⟩ | ⟨bo,c,es,rfl,h2,h3⟩<;>exact ⟨rfl,rfl,rfl,rfl⟩
theorem uy.kW{F:Y}{p:List Int}{v:AV}(h:uy F p v):∀y,v.kW 0 y=y:=by
 rcases h with ⟨rfl,rfl⟩ | ⟨bo,c,es,rfl,h2,h3⟩<;>exact fun y=>rfl
theorem SE.acd{P:Program}{aY:List Nat}{ic:IC}{K:Post}{ts:List AV}{F:Y}{p:List Int}{v:AV}{ab:Nat}(ha:Y.find F ab=some (lA v))(h:uy F p v)
  (hs:∀F' v',Bf F' p v'→Y.find F' ab=some (lA v')→F'.length=F.length→mP v'=mP v→(∀i b,Y.find F i=some b→i≠ab→¬(b.k=1∧b.exact=false∧b.ty=3)→Y.find F' i=some b)→(∀i,i≠ab→(∀a,mP v=some a→i≠a)→Y.find F' i=Y.find F i)→(mP v=none→F'=F∧v'=v)→SE P aY ic K ts F'):SE P aY ic K ts F:=by
 have hal:=Y.au ha
 rcases h with ⟨rfl,rfl⟩ | ⟨bo,c,es,rfl,h2,h3⟩
 ·exact hs F _ (.inl ⟨rfl,rfl⟩) ha rfl rfl (fun i b h _ _=>h) (fun _ _ _=>rfl) fun _=>⟨rfl,rfl⟩
 ·have hne:ab≠bo:=fun e=>by rw[e,h2] at ha;simp[lA] at ha
  have HL:Y.find (gB F bo p.length) ab=some ⟨1,[.aE 1 bo 0 p.length c],true,30⟩:=by rw[pD hne];exact ha
  refine SE.cut bo p.length (SE.ab8 HL (by simp) (es':=[.aE 1 bo 0 p.length none]) (.cons .aE .nil) (hs _ (.aE 1 bo 0 p.length none) (.inr ⟨bo,rfl,?_⟩) ?_ ?_ rfl (fun i b hb hi hn=>?_) (fun i hi Vg=>?_) fun e=>by cases e))
  ·rw[Y.ak hne.symm,qn h2 (by simp),h3]
  ·exact Y.aB (by rw[mO];exact hal)
  ·rw[Y.ah,mO]
  ·rw[Y.ak hi,pD fun e=>?_]
   ·exact hb
   ·rw[e,h2] at hb;cases hb;simp at hn
  ·rw[Y.ak hi,pD (Vg bo rfl)]
theorem Bf.dD{F G:Y}{p:List Int}{v:AV}(h:Bf F p v)(k:Int)(hp:p.length≤1000000)(hG:∀a,mP v=some a→Y.find G a=Y.find F a):fq G 1 3 [.Z (.int .i64 k)] v∧jW G 1 [.Z (.int .i64 k)] v = .aE 1 G.length 0 (p.length+1) none∧ir G 1 3 [.Z (.int .i64 k)] v=some ⟨1,aI (p++[k]),false,3⟩::mj (mP v) G:=by
 rcases h with ⟨rfl,rfl⟩ | ⟨bo,rfl,h2⟩
 ·refine ⟨?_,?_,?_⟩
  ·simp[fq]
  ·simp[jW]
  ·simp[ir,aI,mj,mP]
 ·have h3:=hG bo rfl
  rw[h2] at h3
  refine ⟨?_,?_,?_⟩
  ·simp only[fq,h3]
   simp[aQ];omega
  ·simp only[jW]
   simp
  ·simp only[ir,h3]
   simp[aI,mj,mP]
structure TP(cb ab tb mo lB:Nat)(ps:List (List Int))(x:ByteArray)(H:Y):Prop where
 c:Y.find H cb=some ⟨1,[.ptr 2 mo 0 0],true,62⟩
 s:Y.find H mo=some ⟨2,[.agg [aX 1 (aW ps) lB,.Z (.string x)]],true,66⟩
 l:aW ps≠[]→Y.find H lB=bZ 1 30 (aW ps)
 t:Y.find H tb=some ⟨1,[.fn (.func 75) [] [.ptr 1 cb 0 0,.ptr 1 ab 0 0,.ptr 1 tb 0 0]],true,28⟩
def dn(t:Nd)(p:List Int)(v:AV)(ab:Nat)(H:Y):Y:=if t.kids=[] then H else some ⟨1,aI p,false,3⟩::Y.set (mj (mP v) H) ab (some (lA (.aE 1 H.length 0 p.length none)))
theorem uz{t:Nd}{p:List Int}{v:AV}{ab:Nat}{H:Y}:H.length≤(dn t p v ab H).length∧(dn t p v ab H).length≤H.length+1:=by
 unfold dn
 split
 ·omega
 ·simp only[List.length_cons,Y.ah,cx];omega
structure P0(T:Nd)(n0:Nat)(p:List Int)(ab A0:Nat)(H G:Y):Prop where
 ae3:eZ G T n0
 at_:∃A,Y.find G ab=some (lA (.aE 1 A 0 p.length none))∧Y.find G A=some ⟨1,aI p,false,3⟩∧A0≤A∧A<n0
 old:∀i,i<H.length→i≠ab→i≠A0→Y.find G i=Y.find H i
 len:H.length≤n0∧G.length=n0+T.size
theorem Lf{t T:Nd}{p:List Int}{ab A0:Nat}{H:Y}(ha:Y.find H ab=some (lA (.aE 1 A0 0 p.length none)))(hA:Y.find H A0=some ⟨1,aI p,false,3⟩) :
  P0 T (dn t p (.aE 1 A0 0 p.length none) ab H).length p ab A0 H (fQ T (dn t p (.aE 1 A0 0 p.length none) ab H).length++dn t p (.aE 1 A0 0 p.length none) ab H):=by
 have hl:=uz (t:=t) (p:=p) (v:=.aE 1 A0 0 p.length none) (ab:=ab) (H:=H)
 have hab:=Y.au ha
 have hal:=Y.au hA
 refine ⟨lV,?_,fun i hi h1 h2=>?_,hl.1,by rw[List.length_append,jR];omega⟩
 ·rw[Y.bw (by omega)]
  by_cases c:t.kids=[]
  ·refine ⟨A0,?_,?_,Nat.le_refl _,by omega⟩
   ·unfold dn;rw[if_pos c];exact ha
   ·rw[Y.bw (by omega)]
    unfold dn;rw[if_pos c];exact hA
  ·refine ⟨H.length,?_,?_,by omega,?_⟩
   ·unfold dn
    rw[if_neg c,aj (by rw[Y.ah,cx];omega),Y.aB (by rw[cx];omega)]
   ·rw[Y.bw (by unfold dn;rw[if_neg c];simp[Y.ah,cx])]
    unfold dn
    rw[if_neg c,aL (by rw[Y.ah,cx])]
   ·unfold dn;rw[if_neg c];simp[Y.ah,cx]
 ·rw[Y.bw (by omega)]
  unfold dn
  split
  ·rfl
  ·rw[aj (by rw[Y.ah,cx];omega),Y.ak h1,xj fun a e=>by cases e;exact h2]
theorem Bg{H:Y}:∀{l:List (List Int)},ct H (aW l) (aW l)
 | []=>.nil
 | p::l=>.cons (.an ct.SU) Bg
def Lg(ps:List (List Int))(x:ByteArray)(t:Nd):Prop:=∀(ro:Option (List AV))(p:List Int)(cb ab tb mo lB:Nat)(v:AV)(H:Y),p.length+t.size≤1000000→TP cb ab tb mo lB ps x H→Y.find H ab=some (lA v)→Bf H p v→
 D Tryz.prog 75 [dF t ro,.ptr 1 cb 0 0,.ptr 1 ab 0 0,.ptr 1 tb 0 0] H (.ret (fU (dx (dg ps) x t p) (dn t p v ab H).length)) (fQ (dx (dg ps) x t p) (dn t p v ab H).length++dn t p v ab H)
def nN:Nat→IC→IC
 | 0,.seq a _=>a
 | 1,.seq _ (.seq a _)=>a
 | 2,.seq _ (.seq _ (.seq a _))=>a
 | 3,.seq _ (.seq _ (.seq _ (.seq a _)))=>a
 | 4,.seq _ (.seq _ (.seq _ (.seq _ (.seq (.seq a _) _))))=>a
 | 5,.seq _ (.seq _ (.seq _ (.seq _ (.seq (.seq _ (.block _ (.loop a))) _))))=>a
 | 6,.seq _ (.seq _ (.seq _ (.seq _ (.seq _ a))))=>a
 | _,_=>.skip
theorem P3:gA = .seq (nN 0 gA) (.seq (nN 1 gA) (.seq (nN 2 gA) (.seq (nN 3 gA) (.seq (.seq (nN 4 gA) (.block 0 (.loop (nN 5 gA)))) (nN 6 gA))))):=rfl
set_option maxHeartbeats 0 in
theorem Vh(ps:List (List Int))(x:ByteArray)(hz:ps.length≤1000000)(dH:∀k,k<ps.length→(dA ps k).length≤1000000)(t:Nd)(ih:∀u∈t.kids,Lg ps x u):Lg ps x t:=by
 intro ro p cb ab tb mo lB v H hsz hT hab aer
 have dy:=aer.v
 have D0:=t.size_eq
 have fR:=Y.au hT.c
 have pV:=Y.au hT.s
 have pR:=Y.au hT.t
 have Z9:=Y.au hab
 have QR:ab≠tb:=fun e=>by have:=hT.t;rw[←e,hab] at this;simp[lA] at this
 have hbc:ab≠cb:=fun e=>by have:=hT.c;rw[←e,hab] at this;simp[lA] at this
 have ui:ab≠mo:=fun e=>by have:=hT.s;rw[←e,hab] at this;simp[lA] at this
 have il:aW ps≠[]→ab≠lB:=fun h e=>by have:=hT.l h;rw[←e,hab,bt h] at this;simp[lA] at this
 have EP:∀a,mP v=some a→a≠ab∧a≠cb∧a≠mo∧a≠tb∧(aW ps≠[]→a≠lB)∧a<H.length:=fun a e=>by
  obtain ⟨es,h1⟩:=dy.at a e
  refine ⟨fun e2=>?_,fun e2=>?_,fun e2=>?_,fun e2=>?_,fun h e2=>?_,Y.au h1⟩
  ·rw[e2,hab] at h1;simp[lA] at h1
  ·rw[e2,hT.c] at h1;simp at h1
  ·rw[e2,hT.s] at h1;simp at h1
  ·rw[e2,hT.t] at h1;simp at h1
  ·rw[e2,hT.l h,bt h] at h1;simp at h1
 obtain ⟨vf1,vf2,vf3,vf4⟩:=dy.flat
 refine aD (by rw[List.length_append,jR];have:=uz (t:=t) (p:=p) (v:=v) (ab:=ab) (H:=H);omega) (PZ (aY:=[]) (fn:=Tryz.f75) (c:=Tryz.f75.body.getD .skip) (ic:=gA) (rs:=[.c 5 4 .true]) Tryz.func75 (by kernel_rfl) (by kernel_rfl) (by kernel_rfl) ?_)
 have hn:Tryz.f75.ntmps=48:=by kernel_rfl
 rw[hn]
 obtain ⟨p0,o7⟩:∃y,y=nN 0 gA:=⟨_,rfl⟩
 obtain ⟨p1,hp1⟩:∃y,y=nN 1 gA:=⟨_,rfl⟩
 obtain ⟨p2,hp2⟩:∃y,y=nN 2 gA:=⟨_,rfl⟩
 obtain ⟨p3,hp3⟩:∃y,y=nN 3 gA:=⟨_,rfl⟩
 obtain ⟨p4,hp4⟩:∃y,y=nN 4 gA:=⟨_,rfl⟩
 obtain ⟨p5,hp5⟩:∃y,y=nN 5 gA:=⟨_,rfl⟩
 obtain ⟨p6,hp6⟩:∃y,y=nN 6 gA:=⟨_,rfl⟩
 rw[P3,←o7,←hp1,←hp2,←hp3,←hp4,←hp5,←hp6,aM]
 refine SE.seq (SE.kD ?_)
 rw[o7]
 simp -implicitDefEqProofs (maxSteps:=99999999) (disch:=first | omega | (simp only[vl];first | done | omega)) only[vu,vg,nN,gA,va,vg,vs,vw,vk,simprocAttr]
 have aaa:∀(G:Y),(∀i,i<H.length→Y.find G i=Y.find H i)→D Tryz.prog 76 [.ptr 2 mo 0 0,v] G (.ret (.Z (.bool (dg ps p)))) G:=fun G hG=>by
  refine vn (.cons (.ptr (blk:=⟨2,[.agg [aX 1 (aW ps) lB,.Z (.string x)]],true,66⟩) (by rw[hG _ pV];exact hT.s) rfl rfl (by simp) (.agg (.cons (ct.own (ty:=30) (fun h=>?_) ?_) (.cons .Z .nil)))) (.cons (uy.keep dy fun a e=>hG a (EP a e).2.2.2.2.2).view .nil)) .Z (ab6 ps x p hz dH)
  ·have h0:=hT.l h
   rw[bt h] at h0 ⊢
   rw[hG _ (Y.au h0)]
   exact h0
  ·exact Bg
 generalize jz:(some ⟨4,[AV.agg [.Z (.int .u8 0),.Z (.string ⟨#[]⟩),.Z (.int .i64 0),.an 0 [] (some [])]],true,25⟩:Option aK)::some ⟨4,[AV.agg [.Z (.int .u8 t.kind),.Z (.string t.text),.Z (.int .i64 t.num),.an 4 (bC t.kids) ro]],true,25⟩::H=F0
 have MI:F0.length=H.length+2:=by rw[←jz];rfl
 have pF:∀i,i<H.length→Y.find F0 i=Y.find H i:=fun i hi=>by rw[←jz,aj (by simp;omega),aj hi]
 have Vi:Y.find F0 H.length=some ⟨4,[AV.agg [.Z (.int .u8 t.kind),.Z (.string t.text),.Z (.int .i64 t.num),.an 4 (bC t.kids) ro]],true,25⟩:=by rw[←jz,aj (by simp),aL rfl]
 have Vj:Y.find F0 (H.length+1)=some ⟨4,[AV.agg [.Z (.int .u8 0),.Z (.string ⟨#[]⟩),.Z (.int .i64 0),.an 0 [] (some [])]],true,25⟩:=by rw[←jz];exact aL (by simp)
 clear jz
 have Yn:=(pF cb fR).trans hT.c
 have Yo:=(pF mo pV).trans hT.s
 have f0t:=(pF tb pR).trans hT.t
 have Vk:=(pF ab Z9).trans hab
 unfold lA at Vk
 refine SE.seq (SE.kD ?_)
 rw[hp1]
 have Nu:=aaa F0 pF
 obtain ⟨tx,K7⟩:∃tx,tx=if dg ps p=true then x else t.text:=⟨_,rfl⟩
 have hkey:∀(ts:List AV)(F1:Y),Fr [none,some (.ptr 1 cb 0 0),some (.ptr 1 ab 0 0),some (.ptr 1 tb 0 0),some (.ptr 4 H.length 0 0),some (.ptr 4 (H.length+1) 0 0),none,none,none,none,none,none,none,none,none,none,none,none,none,none,none,none,none,none,none,none,none,none,none,none,none,none,none,none,none,none,none,none,none,none,none,none,none,none,none,none,none,none] ts→F1.length=H.length+2→(∀i,i<H.length→Y.find F1 i=Y.find H i)→Y.find F1 H.length=some ⟨4,[AV.agg [.Z (.int .u8 t.kind),.Z (.string tx),.Z (.int .i64 t.num),.an 4 (bC t.kids) ro]],true,25⟩→Y.find F1 (H.length+1)=some ⟨4,[AV.agg [.Z (.int .u8 0),.Z (.string ⟨#[]⟩),.Z (.int .i64 0),.an 0 [] (some [])]],true,25⟩→
   SE Tryz.prog [] (p2.seq (p3.seq ((p4.seq (IC.block 0 p5.loop)).seq p6))) (pZ [RV.c 5 4 true] fun e1 H1=>eo H e1 H1 (.ret (fU (dx (dg ps) x t p) (dn t p v ab H).length)) (fQ (dx (dg ps) x t p) (dn t p v ab H).length++dn t p v ab H)) ts F1:=by
  intro ts F1 bx qH lQ Fo Rb
  obtain ⟨js,rfl⟩:=bx.opened
  clear bx Nu Yn Yo f0t Vk MI pF Vi Vj aaa
  refine SE.seq (SE.kD ?_)
  rw[hp2]
  simp -implicitDefEqProofs (maxSteps:=99999999) (disch:=first | omega | (simp only[vl];first | done | omega)) only[mk,vu,vg,Fo,nN,gA,va,vg,vs,vw,vk,simprocAttr]
  refine SE.seq (SE.kD ?_)
  rw[hp3]
  simp -implicitDefEqProofs (maxSteps:=99999999) (disch:=first | omega | (simp only[vl];first | done | omega)) only[mk,vu,vg,Fo,nN,gA,va,vg,vs,vw,vk,simprocAttr]
  refine SE.seq (SE.seq (SE.kD ?_))
  rw[hp4]
  simp -implicitDefEqProofs (maxSteps:=99999999) (disch:=first | omega | (simp only[vl];first | done | omega)) only[mk,vu,vg,Fo,aF,nN,gA,va,vg,vs,vw,vk,simprocAttr]
  refine SE.gen fun K hK=>?_
  refine SE.block (SE.ab7 (fun ts F=>∃(k i1:Nat)(xs:List AV)(is:List Nat)(vq:AV),(k≤t.kids.length∧kK F (eP (dg ps) x (t.kids.take k) p 0) xs is∧is.Nodup∧(∀i∈is,H.length+2≤i∧i≠i1∧i<F.length)∧(xs≠[]→Y.find F i1=bZ 4 25 xs∧H.length+2≤i1))∧
   (Y.find F ab=some (lA vq)∧uy F p vq∧(k=0→vq=v∧∀i,i<H.length→Y.find F i=Y.find H i)∧(0<k→∃bo c,vq = .aE 1 bo 0 p.length c∧H.length+2≤bo∧bo∉is))∧
   (Y.find F H.length=some ⟨4,[.agg [.Z (.int .u8 t.kind),.Z (.string tx),.Z (.int .i64 t.num),aX 4 xs i1]],true,25⟩∧Y.find F (H.length+1)=some ⟨4,[AV.agg [.Z (.int .u8 0),.Z (.string ⟨#[]⟩),.Z (.int .i64 0),.an 0 [] (some [])]],true,25⟩∧(∀i,i<H.length→i≠ab→(∀a,mP v=some a→i≠a)→Y.find F i=Y.find H i)∧H.length+2≤F.length)∧
   Fr [none,some (.ptr 1 cb 0 0),some (.ptr 1 ab 0 0),some (.ptr 1 tb 0 0),some (.ptr 4 H.length 0 0),some (.ptr 4 (H.length+1) 0 0),none,none,none,none,none,none,none,none,none,none,none,none,none,none,none,none,some (.an 4 (bC t.kids) ro),some (.Z (.int .i64 t.kids.length)),some (.Z (.int .i64 k)),none,none,none,none,none,none,none,none,none,none,none,none,none,none,none,none,none,none,none,none,none,none,none] ts) (fun ts _=>t.kids.length - (aU (ts.getD 24 .top)).toNat) ?_ ?_)
  ·refine ⟨0,H.length,[],[],v,⟨Nat.zero_le _,by simp only[List.take_zero,eP];exact .nil,by simp,by simp,fun e=>absurd rfl e⟩,⟨?_,?_,fun _=>⟨rfl,fun i hi=>by rw[Y.ak (by omega),lQ i hi]⟩,fun h=>absurd h (by omega)⟩,⟨?_,by rw[Y.ak (by omega)];exact Rb,fun i hi _ _=>by rw[Y.ak (by omega),lQ i hi],by rw[Y.ah];omega⟩,by simp[Fr]⟩
   ·rw[Y.ak (by omega),lQ _ Z9];exact hab
   ·exact dy.keep fun a e=>by rw[Y.ak (by have:=(EP a e).2.2.2.2.2;omega),lQ a (EP a e).2.2.2.2.2]
   ·rw[Y.aB (by omega)]
    rfl
  rintro ts F ⟨k,i1,xs,is,vq,⟨hk,hO,hnd,hge,hrow⟩,⟨Yp,hFv,bW,hkp⟩,⟨hnb,Lh,hold,KM⟩,bx⟩ L2 cK
  obtain ⟨js,rfl⟩:=bx.opened
  clear bx
  by_cases hd:k<t.kids.length
  ·have d1:(k:Int)<t.kids.length:=by omega
   have hg:=dm hd
   have eJ:=e8 hd
   have MC:=Nd.eN eJ
   have mc:=Nd.iZ t.kids
   refine SE.acd Yp hFv fun Fc Vl hW MJ aab haI iR uX hnil=>?_
   have Li:H.length≠ab:=by omega
   clear hFv
   have Vm:=iR _ _ hnb Li (by simp)
   have aac:=iR _ _ Lh (by omega) (by simp)
   have Bh:∀a,mP Vl=some a→a≠ab∧a≠H.length∧a≠H.length+1∧(0<k→H.length+2≤a∧a∉is)∧(k=0→mP v=some a)∧a<Fc.length:=fun a e=>by
    have h1:=hW.at a e
    refine ⟨fun e2=>by rw[e2,MJ] at h1;simp[lA] at h1,fun e2=>by rw[e2,Vm] at h1;simp at h1,fun e2=>by rw[e2,aac] at h1;simp at h1,fun h=>?_,fun h=>?_,Y.au h1⟩
    ·obtain ⟨bo,c,e3,e4,e5⟩:=hkp h
     rw[haI,e3] at e
     cases e
     exact ⟨e4,e5⟩
    ·rw[haI,(bW h).1] at e;exact e
   have Lj:∀i,i<H.length→i≠ab→(∀a,mP v=some a→i≠a)→Y.find Fc i=Y.find H i:=fun i hi h1 h2=>by
    have h3:∀a,mP vq=some a→i≠a:=fun a e e2=>by
     rw[←haI] at e
     rcases Nat.eq_zero_or_pos k with hz | hz
     ·exact h2 a ((Bh a e).2.2.2.2.1 hz) e2
     ·have:=((Bh a e).2.2.2.1 hz).1;omega
    rw[uX i h1 h3]
    exact hold i hi h1 h2
   have hOc:kK Fc (eP (dg ps) x (t.kids.take k) p 0) xs is:=hO.keep fun i ys e h=>by
    rw[bt e] at h ⊢
    exact iR i _ h (fun e2=>by rw[e2,Yp] at h;simp[lA] at h) (by simp)
   have Bi:xs≠[]→Y.find Fc i1=bZ 4 25 xs∧H.length+2≤i1:=fun e=>by
    obtain ⟨h1,h2⟩:=hrow e
    rw[bt e] at h1 ⊢
    exact ⟨iR i1 _ h1 (by omega) (by simp),h2⟩
   clear hO hrow hold Yp hnb Lh bW hkp
   have MK:∀i∈is,H.length+2≤i∧i≠i1∧i<Fc.length:=fun i hi=>by rw[aab];exact hge i hi
   have aeQ:H.length+2≤Fc.length:=by omega
   clear hge KM aab iR uX
   have hc2:Y.find Fc cb=_:=(Lj cb fR (Ne.symm hbc) fun a e=>(EP a e).2.1.symm).trans hT.c
   have Pu:Y.find Fc tb=_:=(Lj tb pR (Ne.symm QR) fun a e=>(EP a e).2.2.2.1.symm).trans hT.t
   have zz:=hW.dD (G:=some ⟨4,[.agg [.Z (.int .u8 (aC t.kids k).kind),.Z (.string (aC t.kids k).text),.Z (.int .i64 (aC t.kids k).num),.an 4 (bC (aC t.kids k).kids) none]],true,25⟩::Fc) k (by omega) fun a e=>aj (Bh a e).2.2.2.2.2
   obtain ⟨ap1,ap2,ap3⟩:=zz
   simp only[List.length_cons] at ap2
   have Vn:=MJ
   unfold lA at Vn
   obtain ⟨F2,jY⟩:∃F2,F2=some (⟨1,aI (p++[(k:Int)]),false,3⟩:aK)::mj (mP Vl) (some ⟨4,[.agg [.Z (.int .u8 (aC t.kids k).kind),.Z (.string (aC t.kids k).text),.Z (.int .i64 (aC t.kids k).num),.an 4 (bC (aC t.kids k).kids) none]],true,25⟩::Fc):=⟨_,rfl⟩
   rw[←jY] at ap3
   have ae4:F2.length=Fc.length+2:=by rw[jY];simp[cx]
   have vX:∀i,i<Fc.length→(∀a,mP Vl=some a→i≠a)→Y.find F2 i=Y.find Fc i:=fun i hi h=>by
    rw[jY,aj (by rw[cx];simp;omega),xj h,aj hi]
   have aes:Y.find F2 (Fc.length+1)=some ⟨1,aI (p++[(k:Int)]),false,3⟩:=by rw[jY,aL (by rw[cx];rfl)]
   have aet:Y.find F2 Fc.length=some ⟨4,[.agg [.Z (.int .u8 (aC t.kids k).kind),.Z (.string (aC t.kids k).text),.Z (.int .i64 (aC t.kids k).num),.an 4 (bC (aC t.kids k).kids) none]],true,25⟩:=by
    rw[jY,aj (by rw[cx];simp),xj fun a e=>by have:=(Bh a e).2.2.2.2.2;omega,aL rfl]
   have g1:Y.find F2 ab=some ⟨1,[Vl],true,30⟩:=(vX ab (Y.au MJ) fun a e=>(Bh a e).1.symm).trans Vn
   have g2:=(vX H.length (by omega) fun a e=>(Bh a e).2.1.symm).trans Vm
   have g3:=(vX tb (by omega) fun a e=>by
    rcases Nat.eq_zero_or_pos k with hz | hz
    ·exact (EP a ((Bh a e).2.2.2.2.1 hz)).2.2.2.1.symm
    ·have:=((Bh a e).2.2.2.1 hz).1;omega).trans Pu
   have ML:∀i,i<H.length→i≠ab→(∀a,mP v=some a→i≠a)→Y.find F2 i=Y.find H i:=fun i hi h1 h2=>by
    rw[vX i (by omega) fun a e e2=>?_,Lj i hi h1 h2]
    rcases Nat.eq_zero_or_pos k with hz | hz
    ·exact h2 a ((Bh a e).2.2.2.2.1 hz) e2
    ·have:=((Bh a e).2.2.2.1 hz).1;omega
   clear jY
   have cl:bN Tryz.prog 75=true:=by kernel_rfl
   obtain ⟨wf1,wf2,wf3,wf4⟩:=hW.v.flat
   have wf5:=hW.v.kW
   have hlen:(p++[(k:Int)]).length=p.length+1:=by simp
   have Ir:∀(y:Option aK) i,i≠ab→Y.find (Y.set F2 ab y) i=Y.find F2 i:=fun y i h=>Y.ak h
   have hTP:TP cb ab tb mo lB ps x (Y.set F2 ab (some (lA (.aE 1 (Fc.length+1) 0 (p++[(k:Int)]).length none)))):=by
    refine ⟨?_,?_,fun h=>?_,?_⟩
    ·rw[Ir _ _ hbc.symm,ML cb fR hbc.symm fun a e=>(EP a e).2.1.symm];exact hT.c
    ·rw[Ir _ _ ui.symm,ML mo pV ui.symm fun a e=>(EP a e).2.2.1.symm];exact hT.s
    ·have h0:=hT.l h
     have h1:=h0
     rw[bt h] at h1
     rw[Ir _ _ (il h).symm,ML lB (Y.au h1) (il h).symm fun a e=>((EP a e).2.2.2.2.1 h).symm];exact h0
    ·rw[Ir _ _ QR.symm];exact g3
   have hA3:Y.find (Y.set F2 ab (some (lA (.aE 1 (Fc.length+1) 0 (p++[(k:Int)]).length none)))) (Fc.length+1)=some ⟨1,aI (p++[(k:Int)]),false,3⟩:=by
    rw[Ir _ _ (by omega)];exact aes
   have hi:=ih _ eJ none (p++[(k:Int)]) cb ab tb mo lB (.aE 1 (Fc.length+1) 0 (p++[(k:Int)]).length none) _ (by rw[hlen];omega) hTP (Y.aB (by omega)) (.inr ⟨_,rfl,hA3⟩)
   have tQ:=Lf (t:=aC t.kids k) (T:=dx (dg ps) x (aC t.kids k) (p++[(k:Int)])) (Y.aB (H:=F2) (i:=ab) (x:=some (lA (.aE 1 (Fc.length+1) 0 (p++[(k:Int)]).length none))) (by omega)) hA3
   generalize (dn (aC t.kids k) (p++[(k:Int)]) (.aE 1 (Fc.length+1) 0 (p++[(k:Int)]).length none) ab (Y.set F2 ab (some (lA (.aE 1 (Fc.length+1) 0 (p++[(k:Int)]).length none))))).length=n0 at hi tQ
   generalize hT':dx (dg ps) x (aC t.kids k) (p++[(k:Int)])=T' at hi tQ
   generalize hF4:fQ T' n0++dn (aC t.kids k) (p++[(k:Int)]) (.aE 1 (Fc.length+1) 0 (p++[(k:Int)]).length none) ab (Y.set F2 ab (some (lA (.aE 1 (Fc.length+1) 0 (p++[(k:Int)]).length none))))=F4 at hi tQ
   clear hF4
   obtain ⟨q1,⟨A,q2,q3,q4,q4b⟩,q5,q6,q7⟩:=tQ
   rw[Y.ah] at q5 q6
   rw[aM] at hi
   rw[hlen] at hi q2
   unfold lA at hi q2
   rw[hp5]
   simp only[nN,gA,ux]
   refine SE.seq (SE.kD ?_)
   simp -implicitDefEqProofs (maxSteps:=99999999) (disch:=first | omega | (simp only[vl];first | done | omega)) only[vu,vg,mk,d1,va,vg,vs,vw,vk,simprocAttr]
   refine SE.seq (SE.kD ?_)
   simp -implicitDefEqProofs (maxSteps:=99999999) (disch:=first | omega | (simp only[vl];first | done | omega)) only[vu,vg,mk,d1,va,vg,vs,vw,vk,simprocAttr]
   refine SE.seq (SE.block (SE.seq (SE.kD ?_)))
   simp -implicitDefEqProofs (maxSteps:=99999999) (disch:=first | omega | (simp only[vl];first | done | omega)) only[vu,vg,mk,d1,hg,aF,va,vg,vs,vw,vk,simprocAttr]
   refine ⟨by omega,SE.seq (SE.kD ?_)⟩
   simp -implicitDefEqProofs (maxSteps:=99999999) (disch:=first | omega | (simp only[vl];first | done | omega)) only[vu,vg,mk,wf1,wf2,wf3,wf4,wf5,Vn,ap1,ap2,ap3,g1,va,vg,vs,vw,vk,simprocAttr]
   refine SE.seq (SE.kD ?_)
   simp -implicitDefEqProofs (maxSteps:=99999999) (disch:=first | omega | (simp only[vl];first | done | omega)) only[vu,vg,mk,g1,g2,g3,aet,pf,va,vg,vs,vw,vk,simprocAttr]
   refine ⟨cl,lg hi (fun l hl _=>?_) ?_⟩
   ·simp only[List.mem_cons,List.not_mem_nil,or_false] at hl
    rcases hl with rfl | rfl | rfl
    ·have:=q5 Fc.length (by omega) (by omega) (by omega)
     rw[hlen] at this;exact this
    ·have:=q5 tb (by omega) QR.symm (by omega)
     rw[hlen] at this;exact this
    ·have:=q5 H.length (by omega) (by omega) (by omega)
     rw[hlen] at this;exact this
   have Vo:∀i,i<F2.length→i≠ab→i≠Fc.length+1→Y.find F4 i=Y.find F2 i:=fun i h1 h2 h3=>by rw[q5 i h1 h2 h3,Y.ak h2]
   clear q5
   have Vp:∀e:xs≠[],i1<Fc.length∧i1≠ab∧(∀a,mP Vl=some a→i1≠a):=fun e=>by
    obtain ⟨r1,r2⟩:=Bi e
    rw[bt e] at r1
    refine ⟨Y.au r1,by omega,fun a ea e2=>?_⟩
    have:=hW.at a ea
    rw[←e2,r1] at this
    cases this
   have Vq:xs≠[]→Y.find F4 i1=bZ 4 25 xs:=fun e=>by
    obtain ⟨s1,s2,s3⟩:=Vp e
    rw[Vo i1 (by omega) s2 (by omega),vX i1 s1 s3]
    exact (Bi e).1
   have tF:=hOc.len
   rw[oM,List.length_take] at tF
   obtain ⟨i5,F5,u1,u2,u3,u4,u5,u6⟩:=rZ (H:=F4) (k:=4) (ty:=25) (xs:=xs) (ys:=[.agg [.Z (.int .u8 T'.kind),.Z (.string T'.text),.Z (.int .i64 T'.num),aX 4 (fN T'.kids (n0+1)) n0]]) (id:=i1) Vq (by simp;omega)
   obtain ⟨u4a,u4b⟩:=u4 (by simp)
   have h5:∀i,i<F4.length→(xs≠[]→i≠i1)→Y.find F5 i=Y.find F4 i:=u6
   have g5:Y.find F5 H.length=some ⟨4,[.agg [.Z (.int .u8 t.kind),.Z (.string tx),.Z (.int .i64 t.num),aX 4 xs i1]],true,25⟩:=by
    rw[h5 _ (by omega) fun e=>by have:=(Bi e).2;omega,Vo _ (by omega) (by omega) (by omega)]
    exact g2
   have g6:Y.find F5 ab=some ⟨1,[.aE 1 A 0 (p.length+1) none],true,30⟩:=by
    rw[h5 _ (by omega) fun e=>(Vp e).2.1.symm]
    exact q2
   have hsub:(((p.length+1:Nat):Int) - 1)=p.length:=by omega
   have ace:(p.length:Int)+1 - 1=p.length:=by omega
   have hle:p.length≤p.length+1:=by omega
   have f1:∀ys a,(aX 4 ys a).cells=[aX 4 ys a]:=fun _ _=>rL
   refine zC8 @eU f1 u1 u2 u3 g5 g6 @pf ?_
   have g7:∀y,Y.find (Y.set F5 H.length y) ab=some ⟨1,[.aE 1 A 0 (p.length+1) none],true,30⟩:=fun y=>by rw[Y.ak (by omega)];exact g6
   have lK:(1000001:Nat)≤maxLen:=by decide
   refine SE.ab9 (g7 _) (by omega) fun m UD hm2=>SE.kD ?_
   have hle:∀y,Y.find (Y.set (Y.set F5 H.length y) ab (some ⟨1,[.aE 1 A 0 (p.length+1) (some m)],true,30⟩)) ab=some ⟨1,[.aE 1 A 0 (p.length+1) (some m)],true,30⟩:=fun y=>Y.aB (by rw[Y.ah];omega)
   have hm0:0<m:=by omega
   refine BP hle hsub ace hm0 @Nat.sub_zero ?_
   refine ⟨⟨by omega,rfl,by omega,by omega⟩,SE.kD ?_⟩
   refine aZ ?_
   have e1:aI (p++[(k:Int)])=aI p++aI [(k:Int)]:=by simp[aI]
   have w0:∀(y z:Option aK) i,i<F5.length→i≠ab→i≠H.length→Y.find (Y.set (Y.set (Y.set F5 H.length y) ab z) ab (some ⟨1,[.aE 1 A 0 p.length (some m)],true,30⟩)) i=Y.find F5 i:=fun y z i _ h1 h2=>by rw[Y.ak h1,Y.ak h1,Y.ak h2]
   have w1:∀(y z:Option aK),Y.find (Y.set (Y.set (Y.set F5 H.length y) ab z) ab (some ⟨1,[.aE 1 A 0 p.length (some m)],true,30⟩)) ab=some ⟨1,[.aE 1 A 0 p.length (some m)],true,30⟩:=fun y z=>Y.aB (by rw[Y.ah,Y.ah];omega)
   have w2:∀(y z:Option aK),Y.find (Y.set (Y.set (Y.set F5 H.length y) ab z) ab (some ⟨1,[.aE 1 A 0 p.length (some m)],true,30⟩)) H.length=y:=fun y z=>by rw[Y.ak Li,Y.ak Li,Y.aB (by omega)]
   have w3:∀(y z:Option aK),(Y.set (Y.set (Y.set F5 H.length y) ab z) ab (some ⟨1,[.aE 1 A 0 p.length (some m)],true,30⟩)).length=F5.length:=fun y z=>by rw[Y.ah,Y.ah,Y.ah]
   have hA1:A≠i1∨xs=[]:=by
    by_cases e:xs=[]
    ·exact .inr e
    ·left
     intro e2
     have:=Vq e
     rw[←e2,q3,bt e] at this
     cases this
   have hAF:Y.find F5 A=some ⟨1,aI (p++[(k:Int)]),false,3⟩:=by
    rw[h5 A (by omega) fun e=>by rcases hA1 with h | h;exact h;exact absurd h e]
    exact q3
   have hOt:eP (dg ps) x (t.kids.take (k+1)) p 0=eP (dg ps) x (t.kids.take k) p 0++[T']:=by
    rw[xW _ _ _ _ _ _ hd,Nat.zero_add,hT']
   have hOF:∀i ys,ys≠[]→Y.find Fc i=bZ 4 25 ys→i≠i1→Y.find F5 i=bZ 4 25 ys∧i≠ab∧i≠H.length:=fun i ys e h hne=>by
    rw[bt e] at h ⊢
    have oD:=Y.au h
    have HI:i≠ab:=fun e2=>by rw[e2,MJ] at h;simp[lA] at h
    have HL:i≠H.length:=fun e2=>by rw[e2,Vm] at h;simp at h
    refine ⟨?_,HI,HL⟩
    rw[h5 i (by omega) fun _=>hne,Vo i (by omega) HI (by omega),vX i oD fun a ea e2=>?_]
    ·exact h
    ·have:=hW.at a ea
     rw[←e2,h] at this
     cases this
   refine cK _ _ ⟨k+1,i5,xs++[fU T' n0],is++List.range' n0 T'.size,.aE 1 A 0 p.length (some m),⟨by omega,?_,?_,fun i hi=>?_,fun _=>⟨?_,by omega⟩⟩,⟨?_,.inr ⟨A,some m,aI (p++[(k:Int)]),rfl,?_,?_⟩,fun h=>by omega,fun _=>⟨A,some m,rfl,by omega,fun h=>?_⟩⟩,⟨?_,?_,fun i hi h1 h2=>?_,?_⟩,by simp[Fr,eU]⟩ (by simp[aU,mk];omega)
   ·rw[hOt]
    have h8:∀G:Y,(∀i,i<F5.length→i≠ab→i≠H.length→Y.find G i=Y.find F5 i)→kK G (eP (dg ps) x (t.kids.take k) p 0++[T']) (xs++[fU T' n0]) (is++List.range' n0 T'.size):=fun G hG=>by
     have h9:=(hOc.Bc (G:=G) fun i hi ys e h=>by
      obtain ⟨z1,z2,z3⟩:=hOF i ys e h (MK i hi).2.1
      rw[hG i (by rw[bt e] at z1;exact Y.au z1) z2 z3]
      exact z1).append (.cons (Lc T' (q1.of (G:=G) fun i z1 z2=>by
       rw[hG i (by omega) (by omega) (by omega),h5 i (by omega) fun e=>by have:=(Vp e).1;omega])) .nil)
     rwa [List.append_nil] at h9
    exact h8 _ fun i z1 z2 z3=>w0 _ _ i z1 z2 z3
   ·refine List.nodup_append.2 ⟨hnd,List.nodup_range',fun a ha b hb e=>?_⟩
    have:=(MK a ha).2.2
    have:=mN hb
    omega
   ·rw[w3]
    rcases List.mem_append.1 hi with h | h
    ·have:=MK i h
     exact ⟨this.1,by omega,by omega⟩
    ·have:=mN h
     exact ⟨by omega,by omega,by omega⟩
   ·rw[w0 _ _ _ (by rw[bt (by simp)] at u4a;exact Y.au u4a) (by omega) (by omega),eU]
    exact u4a
   ·exact w1 _ _
   ·rw[w0 _ _ A (by omega) (by omega) (by omega)]
    exact hAF
   ·rw[e1,List.take_left' (aQ p)]
   ·rcases List.mem_append.1 h with h | h
    ·have:=(MK A h).2.2;omega
    ·have:=mN h;omega
   ·rw[w2,eU]
   ·rw[w0 _ _ _ (by omega) (by omega) (by omega),h5 _ (by omega) fun e=>by have:=(Bi e).2;omega,Vo _ (by omega) (by omega) (by omega),vX _ (by omega) fun a e=>(Bh a e).2.2.1.symm]
    exact aac
   ·rw[w0 _ _ _ (by omega) h1 (by omega),h5 _ (by omega) fun e=>by have:=(Bi e).2;omega,Vo _ (by omega) h1 (by omega)]
    exact ML i hi h1 h2
   ·rw[w3];omega
  ·have d1:¬(k:Int)<t.kids.length:=by omega
   have hkk:k=t.kids.length:=by omega
   refine SE.kD ?_
   rw[hp5]
   simp -implicitDefEqProofs (maxSteps:=99999999) (disch:=first | omega | (simp only[vl];first | done | omega)) only[vu,vg,mk,d1,nN,gA,va,vg,vs,vw,vk,simprocAttr]
   clear cK
   refine hK _ _ _ ?_
   clear hK
   refine SE.kD ?_
   rw[hp6]
   simp -implicitDefEqProofs (maxSteps:=99999999) (disch:=first | omega | (simp only[vl];first | done | omega)) only[vu,vg,hnb,Lh,pf,nN,gA,va,vg,vs,vw,vk,simprocAttr]
   have hT2:dx (dg ps) x t p=⟨t.kind,tx,t.num,eP (dg ps) x t.kids p 0⟩:=by rw[sK,K7]
   rw[hkk,List.take_length] at hO
   have tF:=hO.len
   rw[oM] at tF
   have aad:∀i ys,ys≠[]→Y.find F i=bZ 4 25 ys→i≠H.length+1:=fun i ys e h e2=>by
    rw[e2,Lh,bt e] at h;cases h
   have gq:∀(y:Option aK) i ys,ys≠[]→Y.find F i=bZ 4 25 ys→Y.find (Y.set F (H.length+1) y) i=bZ 4 25 ys:=fun y i ys e h=>by
    rw[Y.ak (aad i ys e h)];exact h
   by_cases ck:t.kids=[]
   ·have hx0:xs=[]:=List.length_eq_zero_iff.1 (by rw[tF,ck];rfl)
    subst hx0
    have QO:k=0:=by rw[hkk,ck];rfl
    obtain ⟨rfl,hall⟩:=bW QO
    have hO0:is=[]:=by
     rw[ck] at hO
     simp only[eP] at hO
     cases hO
     rfl
    subst hO0
    have hX:dn t p vq ab H=H:=by unfold dn;rw[if_pos ck]
    rw[hX]
    refine uw (pre:=[]) (is:=H.length::[]) (by simp) ?_ (by simp) (by simp) (fun id b hid hb=>.inl ⟨hb,by rw[Y.ak (by omega),hall id hid];exact hb⟩) (fun i s b hs=>by simp at hs)
    rw[hT2]
    exact .mk (xs:=[]) (i:=H.length) (fun e=>absurd rfl e) (hO.keep (gq _))
   ·have mc:0<t.kids.length:=List.length_pos_iff.2 ck
    have BA:xs≠[]:=fun e=>by rw[e] at tF;simp at tF;omega
    obtain ⟨r1,r2⟩:=hrow BA
    obtain ⟨bo,c,rfl,HI,HL⟩:=hkp (by omega)
    obtain ⟨es,he,het⟩:∃es,Y.find F bo=some ⟨1,es,false,3⟩∧es.take p.length=aI p:=by
     rcases hFv with ⟨_,e⟩ | ⟨a,c,es,e,h1,h2⟩
     ·cases e
     ·cases e;exact ⟨es,h1,h2⟩
    have hX:dn t p v ab H=some ⟨1,aI p,false,3⟩::Y.set (mj (mP v) H) ab (some (lA (.aE 1 H.length 0 p.length none))):=by unfold dn;rw[if_neg ck]
    rw[hX]
    refine eo.cut bo p.length ?_
    have uX:∀(y:Option aK) i,i≠bo→i≠H.length+1→Y.find (gB (Y.set F (H.length+1) y) bo p.length) i=Y.find F i:=fun y i h1 h2=>by rw[pD h1,Y.ak h2]
    have hca:∀(y:Option aK),Y.find (gB (Y.set F (H.length+1) y) bo p.length) bo=some ⟨1,aI p,false,3⟩:=fun y=>by
     have:=qn (H:=Y.set F (H.length+1) y) (id:=bo) (n:=p.length) (by rw[Y.ak (by omega)];exact he) (by simp)
     rw[het] at this
     exact this
    have Vg:i1≠bo:=fun e=>by rw[e,he,bt BA] at r1;cases r1
    refine uw (pre:=[bo]) (is:=i1::is) (by simp[Y.ah,cx]) ?_ ?_ ?_ (fun id b hid hb=>?_) (fun i s b hs hb=>?_)
    ·rw[hT2]
     refine .mk (fun _=>?_) (hO.keep fun i ys e h=>?_)
     ·rw[uX _ i1 Vg (by omega)];exact r1
     ·rw[uX _ i (fun e2=>by rw[e2,he,bt e] at h;cases h) (aad i ys e h)];exact h
    ·simp only[List.cons_append,List.nil_append,List.nodup_cons,List.mem_cons]
     exact ⟨fun h=>by rcases h with h | h;exact Vg h.symm;exact HL h,fun h=>(hge i1 h).2.1 rfl,hnd⟩
    ·intro i hi
     simp only[List.cons_append,List.nil_append,List.mem_cons] at hi
     rcases hi with rfl | rfl | hi
     ·omega
     ·omega
     ·have:=(hge i hi).1;omega
    ·rw[aj (by rw[Y.ah,cx];exact hid)] at hb
     by_cases ci:id=ab
     ·subst ci
      rw[Y.aB (by rw[cx];exact hid)] at hb
      cases hb
      refine .inr ⟨lA (.aE 1 bo 0 p.length c),by rw[uX _ id (by omega) (by omega)];exact Yp,rfl,rfl,fun h=>h,.cons (.CD ?_ (.inr rfl)) .nil⟩
      have aeu:(bo::i1::is).Nodup:=List.nodup_cons.2 ⟨fun h=>by rcases List.mem_cons.1 h with h | h;exact Vg h.symm;exact HL h,List.nodup_cons.2 ⟨fun h=>(hge i1 h).2.1 rfl,hnd⟩⟩
      have hN:=lw (n0:=H.length) aeu (i:=0) (s:=bo) rfl (by omega)
      exact hN
     ·rw[Y.ak ci] at hb
      obtain ⟨e1,e2⟩:=Iq hb
      exact .inl ⟨e1,by rw[uX _ id (by omega) (by omega),hold id hid ci e2];exact e1⟩
    ·cases i with
     | zero =>
      simp only[List.getElem?_cons_zero,Option.some.injEq] at hs
      subst hs
      rw[Nat.add_zero,aL (by rw[Y.ah,cx])] at hb
      cases hb
      exact ⟨_,hca _,rfl,rfl,fun h=>h,py⟩
     | succ i=>simp at hs
 cases hpf:dg ps p with
 | false =>
  rw[hpf] at Nu K7
  simp -implicitDefEqProofs (maxSteps:=99999999) (disch:=first | omega | (simp only[vl];first | done | omega)) only[vu,vg,vf1,vf2,vf3,vf4,Yn,Yo,Vk,nN,gA,va,vg,vs,vw,vk,simprocAttr]
  refine aJ Nu ?_
  refine aZ ?_
  refine hkey _ _ (by simp[Fr]) MI pF ?_ Vj
  rw[K7]
  exact Vi
 | true =>
  rw[hpf] at Nu K7
  simp -implicitDefEqProofs (maxSteps:=99999999) (disch:=first | omega | (simp only[vl];first | done | omega)) only[vu,vg,vf1,vf2,vf3,vf4,Yn,Yo,Vk,nN,gA,va,vg,vs,vw,vk,simprocAttr]
  refine aJ Nu ?_
  refine qc Yn Yo Vk Vi ?_
  refine hkey _ _ (by simp[Fr]) (by rw[Y.ah];exact MI) (fun i hi=>by rw[Y.ak (by omega)];exact pF i hi) ?_ (by rw[Y.ak (by omega)];exact Vj)
  rw[Y.aB (by omega),K7]
  rfl
theorem Yq(ps:List (List Int))(x:ByteArray)(hz:ps.length≤1000000)(dH:∀k,k<ps.length→(dA ps k).length≤1000000)(t:Nd):Lg ps x t:=by
 induction t using Nd.ind with
 | _ t ih=>exact Vh ps x hz dH t ih
set_option maxHeartbeats 0 in
theorem Yr(ps:List (List Int))(x:ByteArray)(hz:ps.length≤1000000)(dH:∀k,k<ps.length→(dA ps k).length≤1000000)(t:Nd)(ro:Option (List AV))(hs:t.size≤1000000)(mo lB:Nat)(H:Y)(hc:Y.find H mo=some ⟨2,[.agg [aX 1 (aW ps) lB,.Z (.string x)]],true,66⟩)(hl:aW ps≠[]→Y.find H lB=bZ 1 30 (aW ps)) :
  D Tryz.prog 45 [.ptr 2 mo 0 0,dF t ro] H (.ret (fU (dx (dg ps) x t []) H.length)) (fQ (dx (dg ps) x t []) H.length++H):=by
 have fR:=Y.au hc
 have eF:aW ps≠[]→lB<H.length:=fun h=>by have:=hl h;rw[bt h] at this;exact Y.au this
 have cl:bN Tryz.prog 75=true:=by kernel_rfl
 refine aD (by rw[List.length_append];omega) (aek (aA ?_))
 rw[aM]
 simp only[Z5,ux]
 refine ae fun L hL=>?_
 refine aZ ?_
 refine hL _ _ ?_
 clear hL
 refine ae fun L hL=>?_
 refine aZ ?_
 refine hL _ _ ?_
 clear hL
 refine ae fun L hL=>?_
 refine aZ ?_
 refine hL _ _ ?_
 clear hL
 refine ae fun L hL=>?_
 refine aZ ?_
 generalize hF:(some ⟨1,[AV.fn (Fn.func 75) [] [.ptr 1 H.length 0 0,.ptr 1 (H.length+3) 0 0,.ptr 1 (H.length+4) 0 0]],true,28⟩:Option aK)::_=F
 have KM:F.length=H.length+5:=by rw[←hF];rfl
 have hFo:∀i,i<H.length→Y.find F i=Y.find H i:=fun i hi=>by
  rw[←hF,aj (by simp;omega),aj (by simp;omega),aj (by simp;omega),aj (by simp;omega),aj (by omega)]
 have f0:Y.find F H.length=some ⟨1,[.ptr 2 mo 0 0],true,62⟩:=by
  rw[←hF,aj (by simp only[List.length_cons];omega),aj (by simp only[List.length_cons];omega),aj (by simp only[List.length_cons];omega),aj (by simp only[List.length_cons];omega),aL rfl]
 have f1:Y.find F (H.length+1)=some ⟨4,[.agg [.Z (.int .u8 t.kind),.Z (.string t.text),.Z (.int .i64 t.num),.an 4 (bC t.kids) ro]],true,25⟩:=by
  rw[←hF,aj (by simp only[List.length_cons];omega),aj (by simp only[List.length_cons];omega),aj (by simp only[List.length_cons];omega),aL (by simp only[List.length_cons])]
 have f2:∃rb,Y.find F (H.length+2)=some ⟨4,[.agg [rb,.Z (.string ⟨#[]⟩),.Z (.int .i64 0),.an 0 [] (some [])]],true,25⟩:=⟨.Z (.int .u8 0),by
  rw[←hF,aj (by simp only[List.length_cons];omega),aj (by simp only[List.length_cons];omega),aL (by simp only[List.length_cons])]⟩
 have f3:Y.find F (H.length+3)=some (lA (.an 0 [] (some []))):=by
  rw[←hF,aj (by simp only[List.length_cons];omega),aL (by simp only[List.length_cons])]
  rfl
 have f4:Y.find F (H.length+4)=some ⟨1,[AV.fn (Fn.func 75) [] [.ptr 1 H.length 0 0,.ptr 1 (H.length+3) 0 0,.ptr 1 (H.length+4) 0 0]],true,28⟩:=by
  rw[←hF]
  exact aL (by simp only[List.length_cons])
 clear hF
 obtain ⟨rb,f2⟩:=f2
 have hT:TP H.length (H.length+3) (H.length+4) mo lB ps x F:=⟨f0,(hFo mo fR).trans hc,fun h=>(hFo lB (eF h)).trans (hl h),f4⟩
 have Vr:=Yq ps x hz dH t ro [] H.length (H.length+3) (H.length+4) mo lB (.an 0 [] (some [])) F (by simp;omega) hT f3 (.inl ⟨rfl,rfl⟩)
 have hXl:=uz (t:=t) (p:=[]) (v:=.an 0 [] (some [])) (ab:=H.length+3) (H:=F)
 have P4:∀i,i<F.length→i≠H.length+3→Y.find (fQ (dx (dg ps) x t []) (dn t [] (.an 0 [] (some [])) (H.length+3) F).length++dn t [] (.an 0 [] (some [])) (H.length+3) F) i=Y.find F i:=fun i hi hne=>by
  rw[Y.bw (by omega)]
  unfold dn
  split
  ·rfl
  ·rw[aj (by rw[Y.ah,cx];omega),Y.ak hne]
   rfl
 have hlies:eZ (fQ (dx (dg ps) x t []) (dn t [] (.an 0 [] (some [])) (H.length+3) F).length++dn t [] (.an 0 [] (some [])) (H.length+3) F) (dx (dg ps) x t []) (dn t [] (.an 0 [] (some [])) (H.length+3) F).length:=lV
 generalize (dn t [] (.an 0 [] (some [])) (H.length+3) F).length=n0 at Vr P4 hlies hXl
 generalize hT':dx (dg ps) x t []=T' at Vr P4 hlies ⊢
 generalize hG:fQ T' n0++dn t [] (.an 0 [] (some [])) (H.length+3) F=G at Vr P4 hlies
 have Ij:n0+T'.size=G.length∨True:=.inr trivial
 rw[aM] at Vr
 have hr:=(P4 (H.length+2) (by omega) (by omega)).trans f2
 have Ij:F.length≤G.length:=by have:=Y.au hr;have:=P4 (H.length+4) (by omega) (by omega);rw[f4] at this;have:=Y.au this;omega
 refine hL _ _ ?_
 clear hL
 refine ae fun L hL=>?_
 simp -implicitDefEqProofs (maxSteps:=99999999) (disch:=first | omega | (simp only[vl];first | done | omega)) only[vu,vg,f0,f1,f4,cl,va,vg,vs,vw,vk,simprocAttr]
 refine ai Vr ?_
 refine yt hr @eU ?_
 refine hL _ _ ?_
 clear hL
 refine aZ ?_
 rw[←eU]
 have hend:∀y:Option aK,eo H (.ret (fU T' n0)) (Y.set G (H.length+2) y) (.ret (fU T' H.length)) (fQ T' H.length++H):=fun y=>by
  have gq:∀i,i≠H.length+2→Y.find (Y.set G (H.length+2) y) i=Y.find G i:=fun i h=>Y.ak h
  refine uw (pre:=[]) (is:=List.range' n0 T'.size) (by simp) (Lc T' (hlies.of fun i h1 h2=>gq i (by omega))) (by simpa using List.nodup_range') (fun i hi=>?_) (fun id b hid hb=>.inl ⟨hb,?_⟩) (fun i s b hs=>by simp at hs)
  ·have:=mN (by simpa using hi:i∈List.range' n0 T'.size)
   omega
  ·rw[gq id (by omega),P4 id (by omega) (by omega),hFo id hid]
   exact hb
 rw[hT']
 exact hend _
theorem B0(a b:List (List Int)):aW (a++b)=aW a++aW b:=by simp[aW]
set_option maxHeartbeats 0 in
theorem MM(ps qs:List (List Int))(x:ByteArray)(ro:Option (List AV))(hne:qs≠[]∨ps≠[])(hl:ps.length+qs.length≤2000000)(mo lB:Nat)(H:Y)(hc:Y.find H mo=some ⟨2,[.agg [aX 1 (aW ps) lB,.Z (.string x)]],true,66⟩)(hli:aW ps≠[]→Y.find H lB=bZ 1 30 (aW ps)) :
  D Tryz.prog 44 [.ptr 2 mo 0 0,.an 1 (aW qs) ro] H (.ret (.aG [])) (Y.set (bZ 1 30 (aW (ps++qs))::iv (aW ps) lB H) mo (some ⟨2,[.agg [aX 1 (aW (ps++qs)) H.length,.Z (.string x)]],true,66⟩)):=by
 have fR:=Y.au hc
 have eF:aW ps≠[]→lB<H.length∧mo≠lB:=fun h=>by
  have:=hli h;rw[bt h] at this
  exact ⟨Y.au this,fun e=>by rw[←e,hc] at this;cases this⟩
 obtain ⟨a1,a2,a3⟩:=SS (H:=H) (k:=1) (ty:=30) (xs:=aW ps) (ys:=aW qs) (id:=lB) hli (by simp[cY];omega)
 have K9:aW qs≠[]∨aW ps≠[]:=hne.imp (fun h e=>h (by simpa [aW] using e)) fun h e=>h (by simpa [aW] using e)
 obtain ⟨a4,a5⟩:=a2 K9
 rw[←B0] at a4 a5
 have hk:Y.find (bZ 1 30 (aW (ps++qs))::iv (aW ps) lB H) mo=some ⟨2,[.agg [aX 1 (aW ps) lB,.Z (.string x)]],true,66⟩:=by
  rw[aj (by rw[av];exact fR)]
  by_cases e:aW ps=[]
  ·rw[e] at hc ⊢;exact hc
  ·rw[iw (eF e).2];exact hc
 refine aD (by simp[Y.ah,av]) (aei (aA ?_))
 simp only[Z3,ux]
 simp -implicitDefEqProofs (maxSteps:=99999999) (disch:=first | omega | (simp only[vl];first | done | omega)) only[vu,vg,hc,a1,a4,a5,hk,pf,va,vg,vs,vw,vk,simprocAttr]
 exact eo.refl _ _ _
def lC(p:List Int):List jE→Nat→Int
 | [],_=>-1
 | q::r,i=>if q.1=p then i else lC p r (i+1)
theorem Dp{p:List Int}:∀{l:List jE}{i k:Nat},k<l.length→(∀j,j<k→¬(cV l j).1=p)→(cV l k).1=p→lC p l i=(i+k:Nat)
 | [],_,_,h,_,_=>by simp at h
 | q::r,i,0,_,_,h=>by simp[cV] at h;simp[lC,h]
 | q::r,i,k+1,h,hn,he=>by
  have h0:¬q.1=p:=by simpa [cV] using hn 0 (by omega)
  rw[lC,if_neg h0,Dp (i:=i+1) (k:=k) (by simpa using h) (fun j hj=>by simpa [cV] using hn (j+1) (by omega)) (by simpa [cV] using he)]
  omega
theorem yd{p:List Int}:∀{l:List jE}{i:Nat},(∀j,j<l.length→¬(cV l j).1=p)→lC p l i=-1
 | [],_,_=>rfl
 | q::r,i,hn=>by
  have h0:¬q.1=p:=by simpa [cV] using hn 0 (by simp)
  rw[lC,if_neg h0,yd fun j hj=>by simpa [cV] using hn (j+1) (by simpa using hj)]
theorem ye{p:List Int}:∀{l:List jE}{i:Nat},match l.find? fun b=>decide (b.1=p) with
  | none=>lC p l i=-1
  | some b=>∃k:Nat,lC p l i=(i+k:Nat)∧k<l.length∧cV l k=b
 | [],i=>by simp[lC]
 | q::r,i=>by
  rw[List.find?_cons]
  by_cases c:q.1=p
  ·rw[decide_eq_true c]
   exact ⟨0,by simp[lC,c],by simp,by simp[cV]⟩
  ·rw[decide_eq_false c]
   simp only
   have ih:=ye (p:=p) (l:=r) (i:=i+1)
   cases h:r.find? fun b=>decide (b.1=p) with
   | none =>
    rw[h] at ih
    simp only at ih ⊢
    rw[lC,if_neg c,ih]
   | some b =>
    rw[h] at ih
    simp only at ih ⊢
    obtain ⟨k,h1,h2,h3⟩:=ih
    exact ⟨k+1,by rw[lC,if_neg c,h1];omega,by simpa using h2,by simpa [cV] using h3⟩
set_option maxHeartbeats 0 in
theorem Ys(l:List jE)(p:List Int)(ro:Option (List AV))(hz:l.length≤1000000)(hp:∀k,k<l.length→EI (cV l k))(vR:Nat)(H:Y)(hb:Y.find H vR=some ⟨1,[.an 1 (aI p) none],true,30⟩) :
  D Tryz.prog 41 [.an 3 (l.map fP) ro,.fn (.func 42) [] [.ptr 1 vR 0 0]] H (.ret (.Z (.int .i64 (lC p l 0)))) H:=by
 have cl:bN Tryz.prog 42=true:=by kernel_rfl
 have hlt:=Y.au hb
 have eF:(l.map fP).length=l.length:=by simp
 have hone:∀(b:jE)(hq:b.1.length≤1000000),D Tryz.prog 42 [fP b,.ptr 1 vR 0 0] H (.ret (.Z (.bool (decide (b.1=p))))) H:=fun b hq=>by
  have h1:=fun H=>sL b.1 p none none H (by omega)
  unfold fP
  refine aD (Nat.le_refl _) (ad8 (aA ?_))
  simp only[ZT,ux]
  refine ae fun L hL=>?_
  refine aZ ?_
  refine hL _ _ ?_
  clear hL
  refine ae fun L hL=>?_
  refine iz hb ?_
  refine ai (h1 _) ?_
  refine aZ ?_
  refine hL _ _ ?_
  clear hL
  refine aZ ?_
  exact am (.cons .refl) rfl
 refine aD (Nat.le_refl _) (aef (aA ?_))
 simp only[Z0,ux]
 refine ae fun L hL=>?_
 refine aN ?_
 refine hL _ _ ?_
 clear hL
 refine ae fun L hL=>?_
 refine ae fun L hL=>?_
 refine ee eF ?_
 refine hL _ _ ?_
 clear hL
 refine bI (fun ts F=>∃k:Nat,(k≤l.length∧∀j,j<k→¬(cV l j).1=p)∧F=H∧Fr [some (.an 3 (l.map fP) ro),some (.fn (.func 42) [] [.ptr 1 vR 0 0]),none,none,some (.Z (.int .i64 0)),none,none,some (.Z (.int .i64 l.length)),some (.Z (.int .i64 k)),none,none,none,none,none,none,none,none,none,none] ts) (fun ts _=>l.length - (aU (ts.getD 8 .top)).toNat) ?_ ?_
 ·exact ⟨0,⟨Nat.zero_le _,fun j h=>absurd h (Nat.not_lt_zero _)⟩,rfl,by simp[Fr]⟩
 rintro ts F ⟨k,⟨hk,ky⟩,EJ,bx⟩ L2 cK
 rw[EJ]
 obtain ⟨js,rfl⟩:=bx.opened
 clear bx
 by_cases hd:k<l.length
 ·have d1:(k:Int)<l.length:=by omega
  have hg:=mV hd
  have hi:=hone (cV l k) (hp k hd).1
  unfold fP at hi
  by_cases e1:(cV l k).1=p
  ·rw[decide_eq_true e1] at hi
   have BH:=Dp (i:=0) hd ky e1
   rw[Nat.zero_add] at BH
   simp -implicitDefEqProofs (maxSteps:=99999999) (disch:=first | omega | (simp only[vl];first | done | omega)) only[mk,d1,hg,eF,va,vg,vs,vw,vk,simprocAttr]
   refine ⟨by omega,cl,ai hi ?_⟩
   refine aN ?_
   rw[BH]
   exact bL .refl
  ·rw[decide_eq_false e1] at hi
   simp -implicitDefEqProofs (maxSteps:=99999999) (disch:=first | omega | (simp only[vl];first | done | omega)) only[mk,d1,hg,eF,va,vg,vs,vw,vk,simprocAttr]
   refine ⟨by omega,cl,ai hi ?_⟩
   refine aN ?_
   refine cK _ _ ⟨k+1,⟨by omega,fun j hj=>?_⟩,rfl,by simp[Fr]⟩ (by simp[aU,mk];omega)
   rcases Nat.lt_succ_iff_lt_or_eq.1 hj with h' | rfl
   ·exact ky j h'
   ·exact e1
 ·have d1:¬(k:Int)<l.length:=by omega
  have BH:=yd (i:=0) fun j hj=>ky j (by omega)
  simp -implicitDefEqProofs (maxSteps:=99999999) (disch:=first | omega | (simp only[vl];first | done | omega)) only[mk,d1,va,vg,vs,vw,vk,simprocAttr]
  clear cK
  refine hL _ _ ?_
  clear hL
  refine aN ?_
  rw[BH]
  exact bL .refl
theorem Ll(f:List Int→Bool)(x:ByteArray)(t:Nd):∀p,(dx f x t p).size=t.size:=by
 induction t using Nd.ind with
 | _ t ih =>
  intro p
  have key:∀(l:List Nd),(∀k∈l,∀p,(dx f x k p).size=k.size)→∀i,Nd.aw (eP f x l p i)=Nd.aw l:=by
   intro l
   induction l with
   | nil=>intro _ _;rfl
   | cons k r fI=>intro h i;simp only[eP,Nd.aw,h k (by simp),fI fun k' hk'=>h k' (by simp[hk'])]
  rw[Nd.size_eq,Nd.size_eq t,sK]
  simp only[Nd.kids]
  have:=key t.kids ih 0
  cases t
  simp only[Nd.kids] at *
  rw[this]
theorem Vs(f:List Int→Bool)(x:ByteArray)(t:Nd):∀p,(dx f x t p).wt≤t.wt+x.size*t.size:=by
 induction t using Nd.ind with
 | _ t ih =>
  intro p
  have key:∀(l:List Nd),(∀k∈l,∀p,(dx f x k p).wt≤k.wt+x.size*k.size)→∀i,Nd.kx (eP f x l p i)≤Nd.kx l+x.size*Nd.aw l:=by
   intro l
   induction l with
   | nil=>intro _ _;simp[eP,Nd.kx]
   | cons k r fI =>
    intro h i
    have h1:=h k (by simp) (p++[(i:Int)])
    have h2:=fI (fun k' hk'=>h k' (by simp[hk'])) (i+1)
    simp only[eP,Nd.kx,Nd.aw,Nat.mul_add]
    omega
  have h1:=key t.kids ih 0
  have h2:=(dx f x t p).mh
  have h3:=t.mh
  have h4:=t.size_eq
  have e1:(dx f x t p).kids=eP f x t.kids p 0:=by rw[sK];rfl
  have e2:(dx f x t p).text.size≤t.text.size+x.size:=by
   have:(dx f x t p).text=if f p=true then x else t.text:=by rw[sK];rfl
   rw[this]
   split<;>omega
  rw[e1] at h2
  rw[h4,Nat.mul_add,Nat.mul_one]
  omega
theorem Lm(n:Nd):∀b∈cf n,b.2.2.length≤n.size:=by
 rw[lG]
 intro b hm
 unfold dM at hm
 split at hm
 ·obtain ⟨i,hi,rfl⟩:=List.mem_map.1 hm
  simp only
  unfold fJ
  rw[List.length_map]
  refine Nat.le_trans (List.length_filter_le _ _) ?_
  rw[dN]
  exact Nat.le_refl _
 ·simp at hm
theorem Vt(F:Y):OW F Nd.none (.agg [.Z (.int .u8 0),.Z (.string ⟨#[]⟩),.Z (.int .i64 0),.an 0 [] (some [])]) [0]:=.mk (xs:=[]) (i:=0) (fun e=>absurd rfl e) .nil
set_option maxHeartbeats 0 in
theorem P5(n:Nd)(hw:n.wt≤100000)(hs:n.size≤10000)(x:ByteArray)(path:List Int)(hp:path.length≤1000000)(ro:Option (List AV)):D Tryz.prog 14 [dF n ro,.Z (.string x),.an 1 (aI path) none] [] (.ret (.aG [fU (cz n x path).1 0,.Z (.int .i64 (cz n x path).2)])) (fQ (cz n x path).1 0):=by
 have lP:=fun H=>CS n ro (by omega) H
 have ky:=fun H=>uq n (by omega) (by omega) ro H
 have qi:=fun H h=>um n (by omega) (by omega) ro (gG n ro) H h
 have hnm:=fun H=>Mr x H
 have hok:=AU n (by omega)
 have il:=sP n
 rw[aM] at lP ky qi ⊢
 have bad:∀(F:Y)(e:Int),cz n x path=(Nd.none,e)→eo [] (.ret (.aG [.agg [.Z (.int .u8 0),.Z (.string ⟨#[]⟩),.Z (.int .i64 0),.an 0 [] (some [])],.Z (.int .i64 e)])) F (.ret (.aG [fU (cz n x path).1 0,.Z (.int .i64 (cz n x path).2)])) (fQ (cz n x path).1 0):=fun F e he=>by
  rw[he]
  have:=Io (H:=[]) (v:=.int .i64 e) (Vt F) (by simp) (by simp) (fun i hi=>by simp at hi)
  simpa using this
 refine aD (by simp) (ad7 (aA ?_))
 simp only[ZS,ux]
 refine ae fun L hL=>?_
 refine aZ ?_
 refine hL _ _ ?_
 clear hL
 refine ae fun L hL=>?_
 by_cases c1:n.kind=1
 case neg =>
  have hr:cz n x path=(Nd.none,4):=by unfold cz;rw[if_neg fun h=>c1 h.1]
  refine iz c1 ?_
  exact bad _ 4 hr
 rw[c1] at lP ky qi ⊢
 cases c2:bB n 40
 ·have hr:cz n x path=(Nd.none,4):=by unfold cz;rw[if_neg fun h=>by rw[c2] at h;simp at h]
  refine aZ ?_
  refine ai (lP _) ?_
  rw[c2]
  refine aZ ?_
  exact bad _ 4 hr
 cases c3:kw n
 ·have hr:cz n x path=(Nd.none,122):=by unfold cz;rw[if_pos ⟨c1,c2⟩,if_neg (by rw[c3];simp)]
  refine aZ ?_
  refine ai (lP _) ?_
  rw[c2]
  refine aZ ?_
  refine ai (ky _) ?_
  rw[c3]
  refine aZ ?_
  exact bad _ 122 hr
 refine aZ ?_
 refine ai (lP _) ?_
 rw[c2]
 refine aZ ?_
 refine ai (ky _) ?_
 rw[c3]
 refine aZ ?_
 refine hL _ _ ?_
 clear hL
 refine ae fun L hL=>?_
 refine aZ ?_
 have xe:∀(a b c:AV),∀id,id<([some ⟨4,[a],true,25⟩,some ⟨1,[b],true,30⟩,some ⟨4,[c],true,25⟩]:Y).length→∃y,Y.find ([some ⟨4,[a],true,25⟩,some ⟨1,[b],true,30⟩,some ⟨4,[c],true,25⟩]:Y) id=some y∧qh y:=by
  intro a b c id hid
  rcases id with _ | _ | _ | id
  ·exact ⟨_,rfl,by simp,by simp,by simp,by simp⟩
  ·exact ⟨_,rfl,by simp,by simp,by simp,by simp⟩
  ·exact ⟨_,rfl,by simp,by simp,by simp,by simp⟩
  ·simp only[List.length_cons,List.length_nil] at hid;omega
 refine ai (qi _ (xe _ _ _)) ?_
 refine aZ ?_
 refine hL _ _ ?_
 clear hL
 refine ae fun L hL=>?_
 refine aZ ?_
 refine ai (Ys (cf n) path none (by omega) hok 1 _ rfl) ?_
 have Bx:=ye (p:=path) (l:=cf n) (i:=0)
 cases hf:(cf n).find? fun b=>decide (b.1=path) with
 | none =>
  rw[hf] at Bx
  have hr:cz n x path=(Nd.none,6):=by unfold cz;rw[if_pos ⟨c1,c2⟩,if_pos c3,hf]
  rw[Bx]
  refine aZ ?_
  refine hL _ _ ?_
  clear hL
  refine ae fun L hL=>?_
  refine aZ ?_
  exact bad _ 6 hr
 | some b =>
 rw[hf] at Bx
 obtain ⟨k,tI,eW,hk3⟩:=Bx
 rw[Nat.zero_add] at tI
 have Vu:=hok k eW
 rw[hk3] at Vu
 have hbu:=Lm n b (List.mem_of_find?_eq_some hf)
 have Yt:=mV eW
 rw[hk3] at Yt
 rw[tI]
 have k0:¬(k:Int)<0:=by omega
 cases c4:iA x
 ·have hr:cz n x path=(Nd.none,2):=by unfold cz;rw[if_pos ⟨c1,c2⟩,if_pos c3,hf];simp only;rw[if_neg (by rw[c4];simp)]
  refine aZ ?_
  refine hL _ _ ?_
  clear hL
  refine ae fun L hL=>?_
  refine iz k0 ?_
  refine ai (hnm _) ?_
  rw[c4]
  refine aZ ?_
  exact bad _ 2 hr
 refine aZ ?_
 refine hL _ _ ?_
 clear hL
 refine ae fun L hL=>?_
 refine iz k0 ?_
 refine ai (hnm _) ?_
 rw[c4]
 refine aZ ?_
 refine hL _ _ ?_
 clear hL
 refine ae fun L hL=>?_
 refine aZ ?_
 obtain ⟨F0,jz⟩:∃F0:Y,F0=[some ⟨2,[AV.agg [AV.an 0 [] (some []),AV.Z (.string x)]],true,66⟩,some ⟨4,[AV.agg [.Z (.int .u8 0),.Z (.string ⟨#[]⟩),.Z (.int .i64 0),.an 0 [] (some [])]],true,25⟩,some ⟨1,[.an 1 (aI path) none],true,30⟩,some ⟨4,[AV.agg [.Z (.int .u8 1),.Z (.string n.text),.Z (.int .i64 n.num),.an 4 (bC n.kids) ro]],true,25⟩]:=⟨_,rfl⟩
 have a0:Y.find F0 0=some ⟨4,[AV.agg [.Z (.int .u8 1),.Z (.string n.text),.Z (.int .i64 n.num),.an 4 (bC n.kids) ro]],true,25⟩:=by rw[jz];rfl
 have a1:Y.find F0 1=some ⟨1,[.an 1 (aI path) none],true,30⟩:=by rw[jz];rfl
 have a2:Y.find F0 2=some ⟨4,[AV.agg [.Z (.int .u8 0),.Z (.string ⟨#[]⟩),.Z (.int .i64 0),.an 0 [] (some [])]],true,25⟩:=by rw[jz];rfl
 have a3:Y.find F0 3=some ⟨2,[AV.agg [aX 1 (aW []) 0,AV.Z (.string x)]],true,66⟩:=by rw[jz];rfl
 have al:F0.length=4:=by rw[jz];rfl
 rw[←jz]
 clear jz
 have Ln:=MM [] [path] x (some []) (.inl (by simp)) (by simp) 3 0 F0 a3 (fun e=>absurd rfl e)
 have k9:∃F1,F1=Y.set (bZ 1 30 (aW ([]++[path]))::iv (aW []) 0 F0) 3 (some ⟨2,[.agg [aX 1 (aW ([]++[path])) F0.length,.Z (.string x)]],true,66⟩):=⟨_,rfl⟩
 obtain ⟨F1,k9⟩:=k9
 rw[←k9] at Ln
 have b0:Y.find F1 0=Y.find F0 0:=by rw[k9,Y.ak (by omega),aj (by rw[av];omega)];rfl
 have b1:Y.find F1 1=Y.find F0 1:=by rw[k9,Y.ak (by omega),aj (by rw[av];omega)];rfl
 have b2:Y.find F1 2=Y.find F0 2:=by rw[k9,Y.ak (by omega),aj (by rw[av];omega)];rfl
 have b3:Y.find F1 3=some ⟨2,[.agg [aX 1 (aW [path]) 4,.Z (.string x)]],true,66⟩:=by rw[k9,Y.aB (by simp[av];omega),al];rfl
 have b4:Y.find F1 4=bZ 1 30 (aW [path]):=by rw[k9,Y.ak (by omega),aL (by rw[av,al])];rfl
 have bl:F1.length=5:=by rw[k9,Y.ah];simp[av,al]
 clear k9
 have hlp:aW [path]=[.an 1 (aI path) none]:=rfl
 rw[hlp] at Ln
 refine hL _ _ ?_
 clear hL
 refine ae fun L hL=>?_
 refine qc a0 a1 a2 a3 ?_
 refine lg Ln (fun l hl _=>?_) ?_
 ·simp only[List.mem_singleton] at hl
  subst hl
  exact b1
 have Vv:=MM [path] b.2.2 x none (.inr (by simp)) (by simp;have:=Vu.2.1;omega) 3 4 F1 b3 (fun _=>b4)
 have jY:∃F2,F2=Y.set (bZ 1 30 (aW ([path]++b.2.2))::iv (aW [path]) 4 F1) 3 (some ⟨2,[.agg [aX 1 (aW ([path]++b.2.2)) F1.length,.Z (.string x)]],true,66⟩):=⟨_,rfl⟩
 obtain ⟨F2,jY⟩:=jY
 rw[←jY] at Vv
 have e0:Y.find F2 0=Y.find F0 0:=by rw[jY,Y.ak (by omega),aj (by rw[av];omega),iw (by omega),b0]
 have e2:Y.find F2 2=Y.find F0 2:=by rw[jY,Y.ak (by omega),aj (by rw[av];omega),iw (by omega),b2]
 have e3:Y.find F2 3=some ⟨2,[.agg [aX 1 (aW (path::b.2.2)) 5,.Z (.string x)]],true,66⟩:=by rw[jY,Y.aB (by simp[av];omega),bl];rfl
 have e5:Y.find F2 5=bZ 1 30 (aW (path::b.2.2)):=by rw[jY,Y.ak (by omega),aL (by rw[av,bl])];rfl
 have el:F2.length=6:=by rw[jY,Y.ah];simp[av,bl]
 rw[a0] at e0
 rw[a2] at e2
 clear jY
 refine aZ ?_
 refine hL _ _ ?_
 clear hL
 refine ae fun L hL=>?_
 refine iz Yt ?_
 refine ⟨⟨by omega,by simpa using eW⟩,lg Vv (fun l hl _=>by simp at hl) ?_⟩
 refine aZ ?_
 have Vw:=Yr (path::b.2.2) x (by simp;omega) (fun j hj=>by
  cases j with
  | zero=>simpa [dA] using hp
  | succ j=>have:=Vu.2.2 j (by simpa using hj);simpa [dA] using this) n ro (by omega) 3 5 F2 e3 (fun _=>e5)
 rw[aM,c1] at Vw
 have hTs:(dx (dg (path::b.2.2)) x n []).size=n.size:=Ll _ _ _ _
 have aev:x.size≤24:=by
  have:=c4
  simp only[iA,Bool.and_eq_true,decide_eq_true_eq] at this
  exact this.1.1.1.2
 have hTw:(dx (dg (path::b.2.2)) x n []).wt≤500000:=by
  have h1:=Vs (dg (path::b.2.2)) x n []
  have h2:x.size*n.size≤24*10000:=Nat.mul_le_mul aev hs
  omega
 have MN:cz n x path=if fx n (dx (dg (path::b.2.2)) x n [])=true then (dx (dg (path::b.2.2)) x n [],0) else (Nd.none,120):=by
  unfold cz
  rw[if_pos ⟨c1,c2⟩,if_pos c3,hf]
  simp only
  rw[if_pos c4]
 generalize dx (dg (path::b.2.2)) x n []=T at *
 refine hL _ _ ?_
 clear hL
 refine ae fun L hL=>?_
 simp -implicitDefEqProofs (maxSteps:=99999999) (disch:=first | omega | (simp only[vl];first | done | omega)) only[vu,vg,e0,va,vg,vs,vw,vk,simprocAttr]
 refine ai Vw ?_
 have Vx:eZ (fQ T F2.length++F2) T F2.length:=lV
 have hF3:∀i,i<F2.length→Y.find (fQ T F2.length++F2) i=Y.find F2 i:=fun i hi=>Y.bw hi
 have ae5:(fQ T F2.length++F2).length=F2.length+T.size:=by rw[List.length_append,jR];omega
 generalize fQ T F2.length++F2=F3 at *
 refine iz @eU ?_
 refine hL _ _ ?_
 clear hL
 refine ae fun L hL=>?_
 have aew:eZ (some (⟨4,[AV.agg [.Z (.int .u8 T.kind),.Z (.string T.text),.Z (.int .i64 T.num),aX 4 (fN T.kids (F2.length+1)) F2.length]],true,25⟩:aK)::F3) T F2.length:=Vx.of fun i h1 h2=>aj (by omega)
 have hal:=vQ n T (by omega) (by omega) hTw (by omega) (gG n ro (some (⟨4,[AV.agg [.Z (.int .u8 T.kind),.Z (.string T.text),.Z (.int .i64 T.num),aX 4 (fN T.kids (F2.length+1)) F2.length]],true,25⟩:aK)::F3)) (Dg T aew)
 rw[aM,c1,eU] at hal
 have f0:=(hF3 0 (by omega)).trans e0
 have f2:=(hF3 2 (by omega)).trans e2
 refine iz f0 ?_
 refine ai hal ?_
 have hend:∀(G:Y),(∀i,F2.length≤i→i<F3.length→Y.find G i=Y.find F3 i)→eo [] (.ret (.aG [fU T F2.length,.Z (.int .i64 0)])) G (.ret (.aG [fU T 0,.Z (.int .i64 0)])) (fQ T 0):=fun G hG=>by
  have:=Io (H:=[]) (v:=.int .i64 0) (Lc T (Vx.of fun i h1 h2=>hG i h1 (by omega))) List.nodup_range' (by simp) (fun i hi=>by simp at hi)
  simpa using this
 rw[eU] at hend
 cases c5:fx n T with
 | false =>
  rw[c5,if_neg (by simp)] at MN
  refine iz f2 ?_
  exact bad _ 120 MN
 | true =>
  rw[c5,if_pos rfl] at MN
  refine aZ ?_
  refine hL _ _ ?_
  clear hL
  refine ae fun L hL=>?_
  refine iz f2 ?_
  refine hL _ _ ?_
  clear hL
  refine iz f2 ?_
  rw[MN]
  exact hend _ fun i h1 h2=>by rw[aj (by rw[Y.ah];omega),Y.ak (by omega)]
def Lo:ByteArray:=⟨#[102,117,110,99,32,102,40,97,41,32,123,32,118,97,114,32,98,32,61,32,97,59,32,125]⟩
def Lp:ByteArray:=⟨#[102,117,110,99,32,103,40,120,41,32,123,32,118,97,114,32,97,32,61,32,120,59,32,125]⟩
def EQ:ByteArray:=⟨#[102,117,110,99,32,102,40,97,41,32,123,32,118,97,114,32,98,32,61,32,97,59,32,112,114,105,110,116,32,97,59,32,125]⟩
def Lq:ByteArray:=⟨#[102,117,110,99,32,103,40,120,41,32,123,32,118,97,114,32,120,32,61,32,120,59,32,125]⟩
def Lr:ByteArray:=⟨#[102,117,110,99,32,102,40,98,41,32,123,32,118,97,114,32,98,32,61,32,98,59,32,125]⟩
def qp:Nd:=⟨1,⟨#[]⟩,0,[⟨2,⟨#[102]⟩,0,[⟨3,⟨#[]⟩,0,[⟨4,⟨#[97]⟩,0,[]⟩]⟩,⟨5,⟨#[]⟩,0,[⟨6,⟨#[98]⟩,0,[⟨22,⟨#[97]⟩,0,[]⟩]⟩]⟩]⟩]⟩
def Bj:Nd:=⟨1,⟨#[]⟩,0,[⟨2,⟨#[103]⟩,0,[⟨3,⟨#[]⟩,0,[⟨4,⟨#[120]⟩,0,[]⟩]⟩,⟨5,⟨#[]⟩,0,[⟨6,⟨#[97]⟩,0,[⟨22,⟨#[120]⟩,0,[]⟩]⟩]⟩]⟩]⟩
def vY:Nd:=⟨1,⟨#[]⟩,0,[⟨2,⟨#[102]⟩,0,[⟨3,⟨#[]⟩,0,[⟨4,⟨#[97]⟩,0,[]⟩]⟩,⟨5,⟨#[]⟩,0,[⟨6,⟨#[98]⟩,0,[⟨22,⟨#[97]⟩,0,[]⟩]⟩,⟨11,⟨#[]⟩,0,[⟨22,⟨#[97]⟩,0,[]⟩]⟩]⟩]⟩]⟩
def Bk:Nd:=⟨1,⟨#[]⟩,0,[⟨2,⟨#[103]⟩,0,[⟨3,⟨#[]⟩,0,[⟨4,⟨#[120]⟩,0,[]⟩]⟩,⟨5,⟨#[]⟩,0,[⟨6,⟨#[120]⟩,0,[⟨22,⟨#[120]⟩,0,[]⟩]⟩]⟩]⟩]⟩
def Bl:Nd:=⟨1,⟨#[]⟩,0,[⟨2,⟨#[102]⟩,0,[⟨3,⟨#[]⟩,0,[⟨4,⟨#[98]⟩,0,[]⟩]⟩,⟨5,⟨#[]⟩,0,[⟨6,⟨#[98]⟩,0,[⟨22,⟨#[98]⟩,0,[]⟩]⟩]⟩]⟩]⟩
set_option maxRecDepth 1000000
def ic3:IC:=(.seq (.ops [iH 2 (.box 4 25 (.t 0)),iH 3 (.box 4 25 (.t 1)),iP 4 (.mv kF)]) (.seq (.seq (.ops [iH 7 (yA 4 2),iH 8 (.call 7 [(.t 7),(kI 1000)]),iP 9 (.az .gtr (.t 8) (kI 1000)),iM 10 9,gH 11 10 .false (yA 4 3),gH 12 10 .false (.call 7 [(.t 11),(kI 1000)]),gP 13 10 .false (.az .gtr (.t 12) (kI 1000)),iP 14 (.pick (.t 10) kT (.t 13))]) (.cond (.t 14) (.seq (.ops [iH 15 (.call 8 []),iM 4 15]) .ret) .skip)) (.seq (.cH [⟨(some 5),none,(.h (.alloc (.agg [(.Z (.int .u8 0)),(.Z (.string ⟨#[]⟩)),(.Z (.int .i64 0)),aV]) 25))⟩,⟨(some 6),none,(.h (.alloc (.agg [(.Z (.int .u8 0)),(.Z (.string ⟨#[]⟩)),(.Z (.int .i64 0)),aV]) 25))⟩,iH 16 (yA 4 2),iH 17 (.call 9 [(.t 16)]),iH 18 (yA 4 3),iH 19 (.call 9 [(.t 18)]),iS 4 5 17,iS 4 6 19] [[],[],[],[2],[],[4,3,2],[0,3,2,5,4,1],[1,5,4,3,2,6,0]]) (.seq (.cH [iH 20 (yA 4 5),iH 21 (yA 4 6),iH 22 (yC 10 20 21),iH 23 (yA 4 2),iH 24 (yA 4 3),iH 25 (yC 11 23 24),iP 26 (.DH .true (.t 22) (.t 25)),iM 27 26,gH 28 27 .true (yA 4 5),gH 29 27 .true (yA 4 2),gH 30 27 .true (yC 12 28 29),iP 31 (.pick (.t 27) (.t 30) kF),iM 32 31,gH 33 32 .true (yA 4 6),gH 34 32 .true (yA 4 3),gH 35 32 .true (yC 12 33 34),iP 36 (.pick (.t 32) (.t 35) kF),iM 37 36,gH 38 37 .true (.call 8 []),iP 39 (.pick (.t 37) (.t 38) kF),iM 4 39] [[],[],[0,1],[],[],[3,4,2,0,1],[2,0,1,5,3,4],[6,2,0,1,5,3,4],[7,6,2,0,1,5,3,4],[7,6,2,0,1,5,3,4],[8,7,6,2,0,1,5,3,4,9],[7,6,2,0,1,5,3,4,10,8,9],[11,7,6,2,0,1,5,3,4,10,8,9],[12,11,7,6,2,0,1,5,3,4,10,8,9],[12,11,7,6,2,0,1,5,3,4,10,8,9],[13,12,11,7,6,2,0,1,5,3,4,10,8,9,14],[12,11,7,6,2,0,1,5,3,4,10,8,9,15,13,14],[16,12,11,7,6,2,0,1,5,3,4,10,8,9,15,13,14],[17,16,12,11,7,6,2,0,1,5,3,4,10,8,9,15,13,14],[17,16,12,11,7,6,2,0,1,5,3,4,10,8,9,15,13,14,18],[19,17,16,12,11,7,6,2,0,1,5,3,4,10,8,9,15,13,14,18]]) .ret))))
theorem dk3:Dk Tryz.prog 3 ic3 [(.t 4)] 40:=aO (fn:=Tryz.f3) Tryz.func3 (by kernel_rfl) (by kernel_rfl) (by kernel_rfl)
def ic8:IC:=(.seq (.ops [iP 0 (.mv kF)]) (.seq (.ops [⟨(some 7),none,(.h (.call 20 [(.k (.Z (.string ⟨#[102,117,110,99,32,102,40,97,41,32,123,32,118,97,114,32,98,32,61,32,97,59,32,125]⟩)))]))⟩,⟨(some 8),none,(.h (.call 20 [(.k (.Z (.string ⟨#[102,117,110,99,32,103,40,120,41,32,123,32,118,97,114,32,97,32,61,32,120,59,32,125]⟩)))]))⟩,⟨(some 1),none,(.h (.alloc (.agg [(.Z (.int .u8 0)),(.Z (.string ⟨#[]⟩)),(.Z (.int .i64 0)),aV]) 25))⟩,⟨(some 2),none,(.h (.alloc (.agg [(.Z (.int .u8 0)),(.Z (.string ⟨#[]⟩)),(.Z (.int .i64 0)),aV]) 25))⟩,iS 4 1 7,iS 4 2 8]) (.seq (.ops [iH 10 (yA 4 1),iH 11 (.dK 1 3 (.Z (.int .i64 0)) 3 [(0,(kI 0)),(1,(kI 0)),(2,(kI 0))]),⟨(some 12),none,(.h (.call 14 [(.t 10),(.k (.Z (.string ⟨#[98]⟩))),(.t 11)]))⟩,iM 9 12,iP 13 (.ext (.t 9) 0),iP 14 (.ext (.t 9) 1),⟨(some 3),none,(.h (.alloc (.agg [(.Z (.int .u8 0)),(.Z (.string ⟨#[]⟩)),(.Z (.int .i64 0)),aV]) 25))⟩,iS 4 3 13,iM 4 14]) (.seq (.ops [⟨(some 16),none,(.h (.call 20 [(.k (.Z (.string ⟨#[102,117,110,99,32,102,40,97,41,32,123,32,118,97,114,32,98,32,61,32,97,59,32,112,114,105,110,116,32,97,59,32,125]⟩)))]))⟩,iH 17 (.dK 1 3 (.Z (.int .i64 0)) 3 [(0,(kI 0)),(1,(kI 0)),(2,(kI 0))]),⟨(some 18),none,(.h (.call 14 [(.t 16),(.k (.Z (.string ⟨#[98]⟩))),(.t 17)]))⟩,iM 15 18,iP 19 (.ext (.t 15) 0),iP 20 (.ext (.t 15) 1),⟨(some 5),none,(.h (.alloc (.agg [(.Z (.int .u8 0)),(.Z (.string ⟨#[]⟩)),(.Z (.int .i64 0)),aV]) 25))⟩,iS 4 5 19,iM 6 20]) (.seq (.cH [iH 21 (yA 4 1),iH 22 (yA 4 2),iH 23 (yC 10 21 22),iM 24 23,gH 25 24 .true (yA 4 1),⟨(some 26),(some (24,.true)),(.h (.call 20 [(.k (.Z (.string ⟨#[102,117,110,99,32,103,40,120,41,32,123,32,118,97,114,32,120,32,61,32,120,59,32,125]⟩)))]))⟩,gH 27 24 .true (yC 10 25 26),iP 28 (.pick (.t 24) (.t 27) kF),iM 29 28,gM 30 29 .true 4,gP 31 29 .true (.az .eql (.t 30) (kI 0)),iP 32 (.pick (.t 29) (.t 31) kF),iM 33 32,gH 34 33 .true (yA 4 3),⟨(some 35),(some (33,.true)),(.h (.call 20 [(.k (.Z (.string ⟨#[102,117,110,99,32,102,40,98,41,32,123,32,118,97,114,32,98,32,61,32,98,59,32,125]⟩)))]))⟩,gH 36 33 .true (yC 16 34 35),iP 37 (.pick (.t 33) (.t 36) kF),iM 38 37,gM 39 38 .true 6,gP 40 38 .true (.az .eql (.t 39) (kI 120)),iP 41 (.pick (.t 38) (.t 40) kF),iM 0 41] [[],[],[0,1],[2,0,1],[3,2,0,1],[3,2,0,1],[4,3,2,0,1,5],[3,2,0,1,6,4,5],[7,3,2,0,1,6,4,5],[8,7,3,2,0,1,6,4,5],[9,8,7,3,2,0,1,6,4,5],[8,7,3,2,0,1,6,4,5,10,9],[11,8,7,3,2,0,1,6,4,5,10,9],[12,11,8,7,3,2,0,1,6,4,5,10,9],[12,11,8,7,3,2,0,1,6,4,5,10,9],[13,12,11,8,7,3,2,0,1,6,4,5,10,9,14],[12,11,8,7,3,2,0,1,6,4,5,10,9,15,13,14],[16,12,11,8,7,3,2,0,1,6,4,5,10,9,15,13,14],[17,16,12,11,8,7,3,2,0,1,6,4,5,10,9,15,13,14],[18,17,16,12,11,8,7,3,2,0,1,6,4,5,10,9,15,13,14],[17,16,12,11,8,7,3,2,0,1,6,4,5,10,9,15,13,14,19,18],[20,17,16,12,11,8,7,3,2,0,1,6,4,5,10,9,15,13,14,19,18]]) .ret)))))
theorem dk8:Dk Tryz.prog 8 ic8 [(.t 0)] 42:=aO (fn:=Tryz.f8) Tryz.func8 (by kernel_rfl) (by kernel_rfl) (by kernel_rfl)
def aae:IC:=(.seq (.ops [⟨(some 2),none,(.h (.alloc (.agg [(.Z (.int .u8 0)),(.Z (.string ⟨#[]⟩)),(.Z (.int .i64 0)),aV]) 25))⟩]) (.seq (.ops [iM 6 0,iH 7 (.call 53 [(.t 6)]),iM 5 7,iP 8 (.ext (.t 5) 0),iP 9 (.ext (.t 5) 1),⟨(some 3),none,(.h (.alloc (.agg [(.Z (.int .u8 0)),(.Z (.string ⟨#[]⟩)),(.Z (.int .i64 0)),aV]) 25))⟩,iH 4 (.alloc (.agg [(.Z (.int .i64 0)),(.Z (.int .i64 0))]) 93),iS 4 3 8,iS 2 4 9]) (.seq (.ops [iH 10 (yA 4 3),iS 4 2 10]) .ret)))
theorem aex:Dk Tryz.prog 20 aae [(.c 2 4 .true)] 11:=aO (fn:=Tryz.f20) Tryz.func20 (by kernel_rfl) (by kernel_rfl) (by kernel_rfl)
set_option maxRecDepth 100000
def qq(t:Nd):Bool:=decide (t.size≤1000) && decide (t.wt≤10000)
theorem nP{t:Nd}(h:qq t=true):t.size≤1000∧t.wt≤10000:=by
 simpa [qq] using h
theorem Ls:qq qp=true:=by kernel_rfl
theorem Lt:qq Bj=true:=by kernel_rfl
theorem Iu:qq vY=true:=by kernel_rfl
theorem Lu:qq Bk=true:=by kernel_rfl
theorem Lv:qq Bl=true:=by kernel_rfl
theorem Vy:fx qp Bj=true:=by kernel_rfl
theorem Vz:fx qp Bk=true:=by kernel_rfl
theorem Lw:(cz qp ⟨#[98]⟩ [0,0,0]).2=0:=by kernel_rfl
theorem Lx:lj (cz qp ⟨#[98]⟩ [0,0,0]).1 Bl=true:=by kernel_rfl
theorem Lz:(cz vY ⟨#[98]⟩ [0,0,0]).2=120:=by kernel_rfl
theorem VA:decide ((cz qp ⟨#[98]⟩ [0,0,0]).1.size≤1000)=true:=by kernel_rfl
def MO(x:AV)(f n:Nat)(ag:Bool):Bool:=if ag then decide (f+n≤x.cells.length) else decide (f<x.cells.length)
theorem Iv{x:AV}{f n:Nat}{ag:Bool}(h:MO x f n ag=true):AV.gI x f n ag:=by
 unfold MO at h
 unfold AV.gI
 cases ag<;>simpa using h
def MP(ev:X→AV):Option X→Bool
 | none=>true
 | some x=>match ev x with
  | .Z (.int _ n)=>decide (0≤n)
  | _=>false
theorem Iw{ev:X→AV}{o:Option X}(h:MP ev o=true):l8 ev o:=by
 cases o with
 | none=>trivial
 | some x =>
  simp only[MP] at h
  simp only[l8]
  split at h
  ·rename_i e;rw[e];exact of_decide_eq_true h
  ·cases h
def ER(ev:X→AV):List AV→List (Nat×Nat×X)→Bool
 | _,[]=>true
 | zs,(off,n,x)::r=>(!(ev x).bT && (decide ((ev x).ax=n) && decide (off+n≤zs.length))) && ER ev (zs.take off++(ev x).cells++zs.drop (off+n)) r
theorem Dq{ev:X→AV}:∀{ps:List (Nat×Nat×X)}{zs:List AV},ER ev zs ps=true→oc ev zs ps
 | [],_,_=>trivial
 | (off,n,x)::r,zs,h=>by
  simp only[ER,Bool.and_eq_true,Bool.not_eq_true',decide_eq_true_eq] at h
  exact ⟨⟨h.1.1,h.1.2.1,h.1.2.2⟩,Dq h.2⟩
def okB(ev:X→AV):PO→Bool
 | .mv _=>true
 | .pick c _ _=>match ev c with
  | .Z (.bool _)=>true
  | _=>false
 | .az op x y=>match ev x with
  | .Z u=>match ev y with
   | .Z v=>(s7 op u v).isSome
   | _=>false
  | _=>false
 | .un op x=>match ev x with
  | .Z u=>(E5 op u).isSome
  | _=>false
 | .conv _ x=>match ev x with
  | .Z (.int _ _)=>true
  | _=>false
 | .aP x=>match ev x with
  | .ptr k _ _ f=>decide (0<k) || decide (0<f)
  | .lp _ _=>true
  | _=>false
 | .af _ x=>match ev x with
  | .ptr k _ _ _=>decide (0<k)
  | .lp _ _=>true
  | _=>false
 | .fC k x i=>match ev i with
  | .Z (.int _ n)=>match ev x with
   | .an k' xs _=>decide (0≤n) && (decide (n<(xs.length:Int)) && decide (k'=k))
   | .aE k' _ _ m _=>decide (0≤n) && (decide (n<(m:Int)) && (decide (k'=k) && decide (0<k)))
   | _=>false
  | _=>false
 | .fg x i=>match ev x with
  | .Z (.string s)=>match ev i with
   | .Z (.int _ n)=>decide (0≤n) && decide (n<(s.size:Int))
   | _=>false
  | _=>false
 | .mW x lo hi=>match ev x with
  | .Z (.string s)=>MP ev lo && (MP ev hi && (decide (fp ev 0 lo≤fp ev s.size hi) && decide (fp ev s.size hi≤s.size)))
  | _=>false
 | .len x=>match ev x with
  | .an _ _ _=>true
  | .aE _ _ _ _ _=>true
  | _=>false
 | .fW x=>match ev x with
  | .Z (.string _)=>true
  | _=>false
 | .ext x i=>match ev x with
  | .aG vs=>decide (i<vs.length)
  | _=>false
 | .build zs ps=>ER ev zs ps
 | _=>false
theorem MQ{ev:X→AV}{q:PO}(h:okB ev q=true):q.ok ev:=by
 cases q with
 | mv x=>trivial
 | build zs ps=>exact Dq h
 | pick c a b =>
  simp only[okB] at h
  simp only[PO.ok]
  split at h
  ·rename_i e;rw[e];trivial
  ·cases h
 | az op x y =>
  simp only[okB] at h
  simp only[PO.ok]
  split at h
  ·rename_i e
   split at h
   ·rename_i e2;rw[e,e2];exact h
   ·cases h
  ·cases h
 | un op x =>
  simp only[okB] at h
  simp only[PO.ok]
  split at h
  ·rename_i e;rw[e];exact h
  ·cases h
 | conv k x =>
  simp only[okB] at h
  simp only[PO.ok]
  split at h
  ·rename_i e;rw[e];trivial
  ·cases h
 | aP x =>
  simp only[okB] at h
  simp only[PO.ok]
  split at h
  ·rename_i e;rw[e];simpa [zQ] using h
  ·rename_i e;rw[e];trivial
  ·cases h
 | af o x =>
  simp only[okB] at h
  simp only[PO.ok]
  split at h
  ·rename_i e;rw[e];simpa [zR] using h
  ·rename_i e;rw[e];trivial
  ·cases h
 | fC k x i =>
  simp only[okB] at h
  simp only[PO.ok]
  split at h
  ·rename_i e
   split at h
   ·rename_i e2;rw[e,e2];simpa [rA] using h
   ·rename_i e2;rw[e,e2];simpa [rA] using h
   ·cases h
  ·cases h
 | fg x i =>
  simp only[okB] at h
  simp only[PO.ok]
  split at h
  ·rename_i e
   split at h
   ·rename_i e2;rw[e,e2];simpa [yR] using h
   ·cases h
  ·cases h
 | mW x lo hi =>
  simp only[okB] at h
  simp only[PO.ok]
  split at h
  ·rename_i e
   simp only[Bool.and_eq_true,decide_eq_true_eq] at h
   rw[e]
   exact ⟨trivial,Iw h.1,Iw h.2.1,h.2.2.1,h.2.2.2⟩
  ·cases h
 | len x =>
  simp only[okB] at h
  simp only[PO.ok]
  split at h
  ·rename_i e;rw[e];trivial
  ·rename_i e;rw[e];trivial
  ·cases h
 | fW x =>
  simp only[okB] at h
  simp only[PO.ok]
  split at h
  ·rename_i e;rw[e];trivial
  ·cases h
 | ext x i =>
  simp only[okB] at h
  simp only[PO.ok]
  split at h
  ·rename_i e;rw[e];simpa [Jy] using h
  ·cases h
 | _=>cases h
def yF:Nat→Y→Nat→Option aK
 | _,[],_=>none
 | 0,_::_,_=>none
 | n+1,b::r,i=>if i=n then b else yF n r i
theorem lI:∀{H:Y}{i:Nat},yF H.length H i=Y.find H i
 | [],_=>rfl
 | b::r,i=>by
  show (if i=r.length then b else yF r.length r i)=_
  simp only[Y.find,lI (H:=r)]
def VB:Nat→Y→Nat→Option aK→Y
 | _,[],_,_=>[]
 | 0,b::r,_,_=>b::r
 | n+1,b::r,i,x=>if i=n then x::r else b::VB n r i x
theorem ET:∀{H:Y}{i:Nat}{x:Option aK},VB H.length H i x=Y.set H i x
 | [],_,_=>rfl
 | b::r,i,x=>by
  show (if i=r.length then x::r else b::VB r.length r i x)=_
  simp only[Y.set,ET (H:=r)]
def VC(H:Y)(n:Nat)(ag:Bool):AV→AV
 | .ptr _ id j f=>match yF H.length H id with
  | some blk=>AV.sub (blk.es.getD j .top) f n ag
  | none=>.top
 | .lp x f=>AV.sub x f n ag
 | _=>.top
theorem EU{H:Y}{n:Nat}{ag:Bool}{a:AV}:VC H n ag a=BK H n ag a:=by
 cases a<;>simp only[VC,BK,lI]<;>rfl
def Yu(H:Y):AV→AV→Y
 | .ptr k id j f,x=>match yF H.length H id with
  | some blk=>VB H.length H id (some { blk with es:=blk.es.set j (AV.kW (blk.es.getD j .top) f x) })
  | none=>H
 | _,_=>H
theorem MR{H:Y}{a x:AV}:Yu H a x=vc H a x:=by
 cases a<;>simp only[Yu,vc,lI,ET]<;>rfl
def VD(H:Y):AV→List AV
 | .an _ ys _=>ys
 | .aE _ id off n _=>match yF H.length H id with
  | some blk=>(blk.es.drop off).take n
  | none=>[]
 | _=>[]
theorem EV{H:Y}{a:AV}:VD H a=mG H a:=by
 cases a<;>simp only[VD,mG,lI]<;>rfl
def apE(H:Y)(k ty:Nat)(ys:List AV):AV→Y
 | .aE k' id off n none=>match yF H.length H id with
  | some blk=>some ⟨k,blk.es++ys,false,ty⟩::VB H.length H id none
  | none=>H
 | a=>ir H k ty ys a
theorem Yv{H:Y}{k ty:Nat}{ys:List AV}{a:AV}:apE H k ty ys a=ir H k ty ys a:=by
 unfold apE
 split
 ·simp only[ir,lI,ET]
  rfl
 ·rfl
def MS(ev:X→AV)(H:Y):HO→AV
 | .load n ag a=>VC H n ag (ev a)
 | .dD k _ s x=>jW H k (VD H (ev x)) (ev s)
 | q=>q.rB ev H
theorem nQ{ev:X→AV}{H:Y}{q:HO}:MS ev H q=q.rB ev H:=by
 cases q<;>simp only[MS,HO.rB,EU,EV]
def EW(ev:X→AV)(H:Y):HO→Y
 | .store _ a x=>Yu H (ev a) (ev x)
 | .dD k ty s x=>apE H k ty (VD H (ev x)) (ev s)
 | q=>q.nu ev H
theorem lD{ev:X→AV}{H:Y}{q:HO}:EW ev H q=q.nu ev H:=by
 cases q<;>simp only[EW,HO.nu,MR,Yv,EV]
def VE(H:Y)(n:Nat)(ag:Bool):AV→Bool
 | .ptr k id j f=>match yF H.length H id with
  | some blk=>decide (blk.k=k) && (decide (j<blk.es.length) && (MO (blk.es.getD j .top) f n ag && decide (0<k)))
  | none=>false
 | .lp x f=>MO x f n ag
 | _=>false
theorem EX{H:Y}{n:Nat}{ag:Bool}{a:AV}(h:VE H n ag a=true):tc H n ag a:=by
 cases a with
 | ptr k id j f =>
  simp only[VE,lI] at h
  simp only[tc]
  split at h
  ·rename_i e
   rw[e]
   simp only[Bool.and_eq_true,decide_eq_true_eq] at h
   exact ⟨h.1,h.2.1,Iv h.2.2.1,h.2.2.2⟩
  ·cases h
 | lp x f=>exact Iv h
 | _=>cases h
def VF(H:Y)(n:Nat):AV→AV→Bool
 | .ptr k id j f,x=>match yF H.length H id with
  | some blk=>decide (blk.k=k) && (decide (j<blk.es.length) && (!x.bT && (decide (x.ax=n) && (decide (f+n≤(blk.es.getD j .top).ax) && (((blk.es.getD j .top).isAgg || !x.isAgg) && decide (0<k))))))
  | none=>false
 | _,_=>false
theorem MT{H:Y}{n:Nat}{a x:AV}(h:VF H n a x=true):xO H n a x:=by
 cases a with
 | ptr k id j f =>
  simp only[VF,lI] at h
  simp only[xO]
  split at h
  ·rename_i e
   rw[e]
   simp only[Bool.and_eq_true,Bool.not_eq_true',decide_eq_true_eq] at h
   exact ⟨h.1,h.2.1,h.2.2.1,h.2.2.2.1,h.2.2.2.2.1,h.2.2.2.2.2.1,h.2.2.2.2.2.2⟩
  ·cases h
 | _=>cases h
def Dr(ev:X→AV)(k:Nat):List AV→List (Nat×X)→Bool
 | _,[]=>true
 | es,(i,x)::r=>(!(ev x).bT && (decide ((ev x).ax=k) && decide (i<es.length))) && Dr ev k (es.set i (ev x)) r
theorem vZ{ev:X→AV}{k:Nat}:∀{ps:List (Nat×X)}{es:List AV},Dr ev k es ps=true→lc ev k es ps
 | [],_,_=>trivial
 | (i,x)::r,es,h=>by
  simp only[Dr,Bool.and_eq_true,Bool.not_eq_true',decide_eq_true_eq] at h
  exact ⟨⟨h.1.1,h.1.2.1,h.1.2.2⟩,vZ h.2⟩
def Yw(H:Y)(k:Nat):AV→Bool
 | .an k' ys _=>decide (k'=k) || ys.isEmpty
 | .aE k' id off n _=>match yF H.length H id with
  | some blk=>decide (k'=k) && (decide (blk.k=k) && decide (off+n≤blk.es.length))
  | none=>false
 | _=>false
theorem Yx{H:Y}{k:Nat}{a:AV}(h:Yw H k a=true):td H k a:=by
 cases a with
 | an k' ys r=>simpa [Yw,td] using h
 | aE k' id off n c =>
  simp only[Yw,lI] at h
  simp only[td]
  split at h
  ·rename_i e
   rw[e]
   simpa using h
  ·cases h
 | _=>cases h
def apB(H:Y)(k ty:Nat)(ys:List AV):AV→Bool
 | .an k' xs (some [])=>(decide (k'=k) || xs.isEmpty) && decide (xs.length+ys.length≤100000000)
 | .aE k' id off n none=>match yF H.length H id with
  | some blk=>(decide (k'=k) && (decide (blk.k=k) && (decide (blk.ty=ty) && (decide (off=0) && decide (n+ys.length≤100000000))))) && (!blk.exact && decide (n=blk.es.length))
  | none=>false
 | _=>false
theorem Yy{H:Y}{k ty:Nat}{ys:List AV}{a:AV}(h:apB H k ty ys a=true):fq H k ty ys a:=by
 unfold apB at h
 split at h
 ·simpa [fq] using h
 ·rw[lI] at h
  split at h
  ·rename_i e
   simp only[fq]
   rw[e]
   simpa using h
  ·cases h
 ·cases h
def VG(ev:X→AV)(H:Y):HO→Bool
 | .load n ag a=>VE H n ag (ev a)
 | .alloc _ _=>true
 | .box k _ x=>!(ev x).bT && decide ((ev x).ax=k)
 | .dK k _ z ln ps=>Dr ev k (List.replicate ln z) ps
 | .dh k _ z ln ps=>Dr ev k (List.replicate ln z) ps
 | .store n a x=>VF H n (ev a) (ev x)
 | .dD k ty s x=>Yw H k (ev x) && apB H k ty (VD H (ev x)) (ev s)
 | _=>false
theorem qt{ev:X→AV}{H:Y}{q:HO}(h:VG ev H q=true):q.BL ev H:=by
 cases q with
 | load n ag a=>exact EX h
 | alloc z ty=>trivial
 | box k ty x=>simpa [VG,HO.BL] using h
 | dK k ty z ln ps=>exact vZ h
 | dh k ty z ln ps=>exact vZ h
 | store n a x=>exact MT h
 | dD k ty s x =>
  simp only[VG,Bool.and_eq_true,EV] at h
  exact ⟨Yx h.1,Yy h.2⟩
 | _=>cases h
abbrev mq:=FuncId→List AV→Y→Option (AV×Y)
def v8(P:Program)(call:mq):Prop:=∀f ej H v H',call f ej H=some (v,H')→D P f ej H (.ret v) H'
def Ds(ts:List AV):Option (Nat×Bool)→Option Bool
 | none=>some true
 | some (d,want)=>match ts.getD d .top with
  | .Z (.bool b)=>some (b == want)
  | .aG _=>some false
  | _=>none
theorem MU{ts:List AV}{g:Option (Nat×Bool)}{p q:Prop}(h:Ds ts g=some true)(hp:p):bX ts p q g:=by
 cases g with
 | none=>exact hp
 | some dw =>
  obtain ⟨d,want⟩:=dw
  simp only[Ds] at h
  simp only[bX]
  split at h
  ·rename_i b e
   rw[e]
   have:b=want:=by simpa using h
   exact ⟨fun _=>hp,fun hn=>absurd this hn⟩
  ·cases h
  ·cases h
theorem MV{ts:List AV}{g:Option (Nat×Bool)}{p q:Prop}(h:Ds ts g=some false)(hq:q):bX ts p q g:=by
 cases g with
 | none=>cases h
 | some dw =>
  obtain ⟨d,want⟩:=dw
  simp only[Ds] at h
  simp only[bX]
  split at h
  ·rename_i b e
   rw[e]
   have:b≠want:=by simpa using h
   exact ⟨fun hn=>absurd hn this,fun _=>hq⟩
  ·rename_i e
   rw[e]
   exact hq
  ·cases h
def B2(call:mq)(ts:List AV)(H:Y):dX→Option (AV×Y)
 | .p q=>if okB (X.ev ts) q then some (q.val (X.ev ts),H) else none
 | .h (.call f ej)=>call f (ej.map (X.ev ts)) H
 | .h q=>if VG (X.ev ts) H q then some (MS (X.ev ts) H q,EW (X.ev ts) H q) else none
theorem Yz{P:Program}{call:mq}(hc:v8 P call){ts:List AV}{H:Y}{op:dX}{v:AV}{H':Y}(h:B2 call ts H op=some (v,H')){C Cp:AV→Y→Prop}(hC:C v H'):FY P (X.ev ts) H C Cp op:=by
 cases op with
 | p q =>
  simp only[B2] at h
  split at h
  ·rename_i hk
   obtain ⟨rfl,rfl⟩:=Prod.mk.inj (Option.some.inj h)
   exact ⟨MQ hk,hC⟩
  ·cases h
 | h q =>
  cases q with
  | call f ej =>
   exact (hc f _ H v H' h).dk.mono fun e H1 _ ⟨h1,h2⟩=>by subst h1 h2;exact hC
  | load n ag a =>
   simp only[B2] at h
   split at h
   ·rename_i hk
    obtain ⟨rfl,rfl⟩:=Prod.mk.inj (Option.some.inj h)
    rw[nQ,lD] at hC
    exact ⟨qt hk,hC⟩
   ·cases h
  | alloc z ty =>
   simp only[B2] at h
   split at h
   ·rename_i hk
    obtain ⟨rfl,rfl⟩:=Prod.mk.inj (Option.some.inj h)
    rw[nQ,lD] at hC
    exact ⟨qt hk,hC⟩
   ·cases h
  | box k ty x =>
   simp only[B2] at h
   split at h
   ·rename_i hk
    obtain ⟨rfl,rfl⟩:=Prod.mk.inj (Option.some.inj h)
    rw[nQ,lD] at hC
    exact ⟨qt hk,hC⟩
   ·cases h
  | dK k ty z ln ps =>
   simp only[B2] at h
   split at h
   ·rename_i hk
    obtain ⟨rfl,rfl⟩:=Prod.mk.inj (Option.some.inj h)
    rw[nQ,lD] at hC
    exact ⟨qt hk,hC⟩
   ·cases h
  | dh k ty z ln ps =>
   simp only[B2] at h
   split at h
   ·rename_i hk
    obtain ⟨rfl,rfl⟩:=Prod.mk.inj (Option.some.inj h)
    rw[nQ,lD] at hC
    exact ⟨qt hk,hC⟩
   ·cases h
  | store n a x =>
   simp only[B2] at h
   split at h
   ·rename_i hk
    obtain ⟨rfl,rfl⟩:=Prod.mk.inj (Option.some.inj h)
    rw[nQ,lD] at hC
    exact ⟨qt hk,hC⟩
   ·cases h
  | dD k ty s x =>
   simp only[B2] at h
   split at h
   ·rename_i hk
    obtain ⟨rfl,rfl⟩:=Prod.mk.inj (Option.some.inj h)
    rw[nQ,lD] at hC
    exact ⟨qt hk,hC⟩
   ·cases h
  | _=>cases h
def eqS:Value→Value→Bool
 | .int k n,.int k' n'=>decide (k=k') && decide (n=n')
 | .bool b,.bool c=>b == c
 | .string x,.string y=>decide (x=y)
 | _,_=>false
theorem MW{u v:Value}(h:eqS u v=true):u=v:=by
 unfold eqS at h
 split at h
 ·simp only[Bool.and_eq_true,decide_eq_true_eq] at h
  rw[h.1,h.2]
 ·rw[eq_of_beq h]
 ·rw[of_decide_eq_true h]
 ·cases h
mutual
def oW:AV→AV→Bool
 | .Z u,.Z v=>eqS u v
 | .an k xs none,.an k' ys none=>decide (k=k') && B3 xs ys
 | .an k xs (some []),.an k' ys (some [])=>decide (k=k') && B3 xs ys
 | .aE k id off n c,.aE k' id' off' n' c'=>decide (k=k') && (decide (id=id') && (decide (off=off') && (decide (n=n') && decide (c=c'))))
 | .ptr k id j f,.ptr k' id' j' f'=>decide (k=k') && (decide (id=id') && (decide (j=j') && decide (f=f')))
 | .agg xs,.agg ys=>B3 xs ys
 | .aG xs,.aG ys=>B3 xs ys
 | _,_=>false
def B3:List AV→List AV→Bool
 | [],[]=>true
 | x::r,y::s=>oW x y && B3 r s
 | _,_=>false
end
mutual
theorem YA:∀{x y:AV},oW x y=true→x=y
 | .Z u,.Z v,h=>by
  have e:u=v:=MW (by simpa only[oW] using h)
  rw[e]
 | .an k xs none,.an k' ys none,h=>by
  simp only[oW,Bool.and_eq_true,decide_eq_true_eq] at h
  rw[h.1,lJ h.2]
 | .an k xs (some []),.an k' ys (some []),h=>by
  simp only[oW,Bool.and_eq_true,decide_eq_true_eq] at h
  rw[h.1,lJ h.2]
 | .aE k id off n c,.aE k' id' off' n' c',h=>by
  simp only[oW,Bool.and_eq_true,decide_eq_true_eq] at h
  rw[h.1,h.2.1,h.2.2.1,h.2.2.2.1,h.2.2.2.2]
 | .ptr k id j f,.ptr k' id' j' f',h=>by
  simp only[oW,Bool.and_eq_true,decide_eq_true_eq] at h
  rw[h.1,h.2.1,h.2.2.1,h.2.2.2]
 | .agg xs,.agg ys,h=>by
  have e:xs=ys:=lJ (by simpa only[oW] using h)
  rw[e]
 | .aG xs,.aG ys,h=>by
  have e:xs=ys:=lJ (by simpa only[oW] using h)
  rw[e]
 | x,y,h=>by
  unfold oW at h
  split at h
  ·rw[MW h]
  ·simp only[Bool.and_eq_true,decide_eq_true_eq] at h
   rw[h.1,lJ h.2]
  ·simp only[Bool.and_eq_true,decide_eq_true_eq] at h
   rw[h.1,lJ h.2]
  ·simp only[Bool.and_eq_true,decide_eq_true_eq] at h
   rw[h.1,h.2.1,h.2.2.1,h.2.2.2.1,h.2.2.2.2]
  ·simp only[Bool.and_eq_true,decide_eq_true_eq] at h
   rw[h.1,h.2.1,h.2.2.1,h.2.2.2]
  ·rw[lJ h]
  ·rw[lJ h]
  ·cases h
theorem lJ:∀{x y:List AV},B3 x y=true→x=y
 | [],[],_=>rfl
 | x::r,y::s,h=>by
  simp only[B3,Bool.and_eq_true] at h
  rw[YA h.1,lJ h.2]
 | [],_::_,h=>by simp[B3] at h
 | _::_,[],h=>by simp[B3] at h
end
def eqK:Option aK→Option aK→Bool
 | none,none=>true
 | some a,some b=>decide (a.k=b.k) && (B3 a.es b.es && ((a.exact == b.exact) && decide (a.ty=b.ty)))
 | _,_=>false
theorem YB:∀{a b:Option aK},eqK a b=true→a=b
 | none,none,_=>rfl
 | some ⟨k,es,ex,ty⟩,some ⟨k',es',ex',ty'⟩,h=>by
  simp only[eqK,Bool.and_eq_true,decide_eq_true_eq] at h
  rw[h.1,lJ h.2.1,eq_of_beq h.2.2.1,h.2.2.2]
 | none,some _,h=>by cases h
 | some _,none,h=>by cases h
def Ix:Y→Y→List Nat
 | b::r,c::s=>if eqK b c then Ix r s else r.length::Ix r s
 | _,_=>[]
theorem Bm:∀{D H:Y},D.length=H.length→∀{j:Nat},j∉Ix D H→Y.find D j=Y.find H j
 | [],[],_,_,_=>rfl
 | b::r,c::s,hl,j,hj=>by
  have Nr:r.length=s.length:=by simpa using hl
  simp only[Ix] at hj
  simp only[Y.find]
  split at hj
  ·rename_i e
   rw[YB e,Bm Nr hj,Nr]
  ·simp only[List.mem_cons,not_or] at hj
   rw[if_neg hj.1,if_neg (by rw[←Nr];exact hj.1),Bm Nr hj.2]
 | [],_::_,hl,_,_=>by simp at hl
 | _::_,[],hl,_,_=>by simp at hl
def YC(H H':Y):List Nat:=Ix (H'.drop (H'.length - H.length)) H
theorem YD{H H':Y}(hl:H.length≤H'.length){j:Nat}(hj:j∉YC H H')(hlt:j<H.length):Y.find H' j=Y.find H j:=by
 have e:H'=H'.take (H'.length - H.length)++H'.drop (H'.length - H.length):=(List.take_append_drop _ _).symm
 have hd:(H'.drop (H'.length - H.length)).length=H.length:=by rw[List.length_drop];omega
 rw[e,Y.bw (by rw[hd];exact hlt)]
 exact Bm hd hj
def MX:AV→Nat
 | .ptr _ id _ _=>id
 | _=>0
def VH(A:List (List Nat))(i:Nat)(hs:List (Nat×List Nat)):AV→Bool
 | .ptr _ id _ _=>hs.all fun c=>!k7 A c.1 i || !c.2.contains id
 | _=>true
def YE(A:List (List Nat))(i:Nat)(ld:List (Nat×Nat))(n:Nat)(ids:List Nat):Bool:=ld.all fun l=>!k7 A l.1 i || (!ids.contains l.2 && decide (l.2<n))
inductive VI:List (Nat×Y×Y)→List (Nat×List Nat)→Prop where
 | nil:VI [] []
 | cons {i:Nat}{ids:List Nat}{H H':Y}{l:List (Nat×Y×Y)}{m:List (Nat×List Nat)}:(∀j,j∉ids→j<H.length→Y.find H' j=Y.find H j)→VI l m→VI ((i,H,H')::l) ((i,ids)::m)
theorem VJ{A:List (List Nat)}{i:Nat}{hs:List (Nat×Y×Y)}{m:List (Nat×List Nat)}(hr:VI hs m){a:AV}(h:VH A i m a=true):yp A i hs a:=by
 cases a with
 | ptr k id j f =>
  simp only[VH,List.all_eq_true] at h
  intro c hc hu hl
  induction hr with
  | nil=>cases hc
  | cons h1 _ ih =>
   rcases List.mem_cons.1 hc with e | e
   ·subst e
    have:=h _ List.mem_cons_self
    simp only[Bool.or_eq_true,Bool.not_eq_true',List.contains_eq_mem,decide_eq_false_iff_not] at this
    rcases this with t | t
    ·simp only at hu
     rw[t] at hu
     cases hu
    ·exact h1 id t hl
   ·exact ih (fun x hx=>h x (List.mem_cons_of_mem _ hx)) e
 | _=>trivial
theorem MY{A:List (List Nat)}{i:Nat}{ld:List (Nat×Nat)}{H H':Y}{ids:List Nat}(h:YE A i ld H.length ids=true)(hk:∀j,j∉ids→j<H.length→Y.find H' j=Y.find H j):pc A i ld H H':=by
 intro l hl hu
 simp only[YE,List.all_eq_true] at h
 have:=h l hl
 simp only[Bool.or_eq_true,Bool.and_eq_true,Bool.not_eq_true',List.contains_eq_mem,decide_eq_false_iff_not,decide_eq_true_eq] at this
 rcases this with t | t
 ·rw[t] at hu
  cases hu
 ·exact hk _ t.1 t.2
theorem P6{H:Y}{a x:AV}{n:Nat}(h:VF H n a x=true):∀j,j∉[MX a]→j<H.length→Y.find (vc H a x) j=Y.find H j:=by
 intro j hj _
 have hj:j≠MX a:=by simpa using hj
 cases a with
 | ptr k id b f =>
  simp only[vc]
  split
  ·exact Y.ak hj
  ·rfl
 | _=>cases h
inductive Tr where
 | e
 | lf (v:AV)
 | nd (l r:Tr)
def Tr.get:Tr→Nat→AV
 | .e,_=>.aG []
 | .lf v,_=>v
 | .nd l r,i=>if i % 2=0 then l.get (i / 2) else r.get (i / 2)
def Tr.put:Nat→Tr→Nat→AV→Tr
 | 0,_,_,v=>.lf v
 | k+1,.nd l r,i,v=>if i % 2=0 then .nd (Tr.put k l (i / 2) v) r else .nd l (Tr.put k r (i / 2) v)
 | k+1,_,i,v=>if i % 2=0 then .nd (Tr.put k .e (i / 2) v) .e else .nd .e (Tr.put k .e (i / 2) v)
inductive Tr.Wf:Nat→Tr→Prop where
 | e {k:Nat}:Tr.Wf k .e
 | lf {v:AV}:Tr.Wf 0 (.lf v)
 | nd {k:Nat}{l r:Tr}:Tr.Wf k l→Tr.Wf k r→Tr.Wf (k+1) (.nd l r)
theorem Tr.wc:∀{k:Nat}{t:Tr}{i:Nat}{v:AV},Tr.Wf k t→Tr.Wf k (Tr.put k t i v)
 | 0,_,_,_,_=>.lf
 | k+1,.nd l r,i,v,h=>by
  cases h with
  | nd h1 h2 =>
   simp only[Tr.put]
   split
   ·exact .nd (Tr.wc h1) h2
   ·exact .nd h1 (Tr.wc h2)
 | k+1,.e,i,v,h=>by
  simp only[Tr.put]
  split
  ·exact .nd (Tr.wc .e) .e
  ·exact .nd .e (Tr.wc .e)
 | k+1,.lf _,i,v,h=>by cases h
theorem Tr.sm:∀{k:Nat}{t:Tr}{i j:Nat}{v:AV},Tr.Wf k t→i<2 ^ k→j<2 ^ k→(Tr.put k t i v).get j=if i=j then v else t.get j
 | 0,t,i,j,v,h,hi,hj=>by
  have h1:i=j:=by simp at hi hj;omega
  rw[if_pos h1]
  rfl
 | k+1,.nd l r,i,j,v,h,hi,hj=>by
  rw[Nat.pow_succ] at hi hj
  cases h with
  | nd h1 h2 =>
   simp only[Tr.put]
   by_cases ci:i % 2=0
   ·rw[if_pos ci]
    simp only[Tr.get]
    by_cases cj:j % 2=0
    ·rw[if_pos cj,if_pos cj,Tr.sm h1 (by omega) (by omega)]
     by_cases c:i=j
     ·rw[if_pos c,if_pos (by omega)]
     ·rw[if_neg c,if_neg (by omega)]
    ·rw[if_neg cj,if_neg cj,if_neg (by omega)]
   ·rw[if_neg ci]
    simp only[Tr.get]
    by_cases cj:j % 2=0
    ·rw[if_pos cj,if_pos cj,if_neg (by omega)]
    ·rw[if_neg cj,if_neg cj,Tr.sm h2 (by omega) (by omega)]
     by_cases c:i=j
     ·rw[if_pos c,if_pos (by omega)]
     ·rw[if_neg c,if_neg (by omega)]
 | k+1,.e,i,j,v,h,hi,hj=>by
  rw[Nat.pow_succ] at hi hj
  have he:∀n,Tr.e.get n = .aG []:=fun _=>rfl
  simp only[Tr.put]
  by_cases ci:i % 2=0
  ·rw[if_pos ci]
   simp only[Tr.get]
   by_cases cj:j % 2=0
   ·rw[if_pos cj,Tr.sm .e (by omega) (by omega),he]
    by_cases c:i=j
    ·rw[if_pos c,if_pos (by omega)]
    ·rw[if_neg c,if_neg (by omega)]
   ·rw[if_neg cj,if_neg (by omega)]
  ·rw[if_neg ci]
   simp only[Tr.get]
   by_cases cj:j % 2=0
   ·rw[if_pos cj,if_neg (by omega)]
   ·rw[if_neg cj,Tr.sm .e (by omega) (by omega),he]
    by_cases c:i=j
    ·rw[if_pos c,if_pos (by omega)]
    ·rw[if_neg c,if_neg (by omega)]
 | k+1,.lf _,i,j,v,h,hi,hj=>by cases h
structure qu(n:Nat)(t:Tr)(ts:List AV):Prop where
 wf:Tr.Wf 9 t
 len:ts.length=n
 AD:n≤512
 get:∀i,i<n→ts.getD i .top=t.get i
theorem qu.put{n:Nat}{t:Tr}{ts:List AV}(h:qu n t ts){d:Nat}(hd:d<n)(v:AV):qu n (Tr.put 9 t d v) (ts.set d v) where
 wf:=Tr.wc h.wf
 len:=by rw[List.length_set,h.len]
 AD:=h.AD
 get:=fun i hi=>by
  have hn:=h.AD
  rw[Tr.sm h.wf (by omega) (by omega)]
  by_cases c:d=i
  ·subst c
   rw[if_pos rfl]
   simp[List.getD,h.len,hd]
  ·rw[if_neg c,←h.get i hi]
   simp[List.getD,List.getElem?_set_ne c]
def nR(n:Nat)(t:Tr):X→AV
 | .t i=>if i<n then t.get i else .top
 | .k v=>v
theorem qv{n:Nat}{t:Tr}{ts:List AV}(h:qu n t ts):nR n t=X.ev ts:=by
 funext x
 cases x with
 | t i =>
  simp only[nR,X.ev]
  split
  ·rename_i c
   exact (h.get i c).symm
  ·rename_i c
   have:=h.len
   simp[List.getD,List.getElem?_eq_none (by omega:ts.length≤i)]
 | k v=>rfl
def opT(call:mq)(ev:X→AV)(H:Y):dX→Option (AV×Y)
 | .p q=>if okB ev q then some (q.val ev,H) else none
 | .h (.call f ej)=>call f (ej.map ev) H
 | .h q=>if VG ev H q then some (MS ev H q,EW ev H q) else none
theorem YF{call:mq}{ts:List AV}{H:Y}{op:dX}:opT call (X.ev ts) H op=B2 call ts H op:=by
 cases op with
 | p q=>rfl
 | h q=>cases q<;>rfl
def MZ(n:Nat)(t:Tr):Option (Nat×Bool)→Option Bool
 | none=>some true
 | some (d,want)=>match nR n t (.t d) with
  | .Z (.bool b)=>some (b == want)
  | .aG _=>some false
  | _=>none
theorem Iy{n:Nat}{t:Tr}{ts:List AV}(h:qu n t ts){g:Option (Nat×Bool)}:MZ n t g=Ds ts g:=by
 cases g with
 | none=>rfl
 | some g =>
  obtain ⟨d,w⟩:=g
  simp only[MZ,Ds,qv h,X.ev]<;>rfl
def nS(n:Nat)(t:Tr)(d:Option Nat)(v:AV):Option Tr:=match d with
 | none=>some t
 | some d=>if d<n then some (Tr.put 9 t d v) else none
theorem je{n:Nat}{t t':Tr}{ts:List AV}{d:Option Nat}{v:AV}(h:qu n t ts)(hp:nS n t d v=some t'):qu n t' (bR ts d v):=by
 cases d with
 | none =>
  cases hp
  exact h
 | some d =>
  simp only[nS] at hp
  split at hp
  ·rename_i c
   rw[←Option.some.inj hp]
   exact h.put c v
  ·cases hp
def runT(call:mq)(n:Nat):List bQ→Tr→Y→Option (Tr×Y)
 | [],t,H=>some (t,H)
 | o::r,t,H=>match MZ n t o.guard with
  | some true=>match opT call (nR n t) H o.op with
   | some (v,H')=>match nS n t o.dst v with
    | some t'=>runT call n r t' H'
    | none=>none
   | none=>none
  | some false=>match nS n t o.dst (.aG []) with
   | some t'=>runT call n r t' H
   | none=>none
  | none=>none
theorem Bn{P:Program}{call:mq}(hc:v8 P call){n:Nat}{K:List AV→Y→Prop}{Kp:AV→List AV→Y→Prop}:∀{l:List bQ}{t:Tr}{ts:List AV}{H:Y}{t':Tr}{H':Y},qu n t ts→runT call n l t H=some (t',H')→(∀ts',qu n t' ts'→K ts' H')→cS P K Kp l ts H
 | [],t,ts,H,t',H',hr,h,hK=>by
  obtain ⟨rfl,rfl⟩:=Prod.mk.inj (Option.some.inj h)
  exact hK ts hr
 | o::r,t,ts,H,t',H',hr,h,hK=>by
  simp only[runT,Iy hr] at h
  split at h
  ·rename_i hg
   rw[qv hr,YF] at h
   split at h
   ·rename_i v H1 ho
    split at h
    ·rename_i t1 hp
     exact MU hg (Yz hc ho (Bn hc (je hr hp) h hK))
    ·cases h
   ·cases h
  ·rename_i hg
   split at h
   ·rename_i t1 hp
    exact MV hg (Bn hc (je hr hp) h hK)
   ·cases h
  ·cases h
theorem P7{P:Program}{c:IC}{K:Post}{ts:List AV}{H:Y}(I:Nat→List AV→Y→Prop)(n:Nat)(h:∀n ts H,I n ts H→∀L:List AV→Y→Prop,(∀m ts' H',m<n→I m ts' H'→L ts' H')→ES P c (jl L K) ts H)(h0:I n ts H):ES P (.loop c) K ts H:=by
 classical
 have least:∀ts H,(∃n,I n ts H)→∃n,I n ts H∧∀m,I m ts H→n≤m:=fun ts H ⟨n,hn⟩=>by
  induction n using Nat.strongRecOn with
  | _ n ih =>
   by_cases c:∃m,m<n∧I m ts H
   ·obtain ⟨m,h1,h2⟩:=c
    exact ih m h1 h2
   ·exact ⟨n,hn,fun m hm=>Nat.le_of_not_lt fun h=>c ⟨m,h,hm⟩⟩
 let μ:List AV→Y→Nat:=fun ts H=>if h:∃n,I n ts H then Classical.choose (least ts H h) else 0
 have hμ:∀ts H (h:∃n,I n ts H),I (μ ts H) ts H∧∀m,I m ts H→μ ts H≤m:=fun ts H hx=>by
  have e:μ ts H=Classical.choose (least ts H hx):=dif_pos hx
  rw[e]
  exact Classical.choose_spec (least ts H hx)
 refine bI (fun ts H=>∃n,I n ts H) μ ⟨n,h0⟩ fun ts H hI L hL=>?_
 obtain ⟨h1,h2⟩:=hμ ts H hI
 exact h _ ts H h1 L fun m ts' H' hm RG=>hL ts' H' ⟨m,RG⟩ (Nat.lt_of_le_of_lt ((hμ ts' H' ⟨m,RG⟩).2 m RG) hm)
abbrev xk:=FuncId→Option (IC×List RV×Nat)
def EY(P:Program)(T:xk):Prop:=∀f c rs n,T f=some (c,rs,n)→Dk P f c rs n
def oQ(call:mq)(n:Nat)(A:List (List Nat)):Nat→List bQ→Tr→Y→List (Nat×Nat)→List (Nat×List Nat)→Option (Tr×Y)
 | _,[],t,H,_,_=>some (t,H)
 | i,o::r,t,H,ld,hs=>match MZ n t o.guard with
  | some true=>match o.op with
   | .p q=>if okB (nR n t) q then (match nS n t o.dst (q.val (nR n t)) with
    | some t'=>oQ call n A (i+1) r t' H ld hs
    | none=>none) else none
   | .h (.load m ag a)=>if VH A i hs (nR n t a) && VE H m ag (nR n t a) then (match nS n t o.dst (VC H m ag (nR n t a)) with
    | some t'=>oQ call n A (i+1) r t' H (Sh i ld (nR n t a)) hs
    | none=>none) else none
   | .h (.store m a x)=>if VF H m (nR n t a) (nR n t x) && YE A i ld H.length [MX (nR n t a)] then (match nS n t o.dst .top with
    | some t'=>oQ call n A (i+1) r t' (Yu H (nR n t a) (nR n t x)) ld ((i,[MX (nR n t a)])::hs)
    | none=>none) else none
   | .h (.alloc z ty)=>(match nS n t o.dst (.ptr z.ax H.length 0 0) with
    | some t'=>oQ call n A (i+1) r t' (some ⟨z.ax,[z],true,ty⟩::H) ((i,H.length)::ld) hs
    | none=>none)
   | .h (.dK k ty z ln ps)=>if Dr (nR n t) k (List.replicate ln z) ps then (match nS n t o.dst (.an k (pb (nR n t) (List.replicate ln z) ps) (some [])) with
    | some t'=>oQ call n A (i+1) r t' H ld hs
    | none=>none) else none
   | .h (.call f ej)=>match call f (ej.map (nR n t)) H with
    | some (v,H')=>if decide (H.length≤H'.length) && YE A i ld H.length (YC H H') then (match nS n t o.dst v with
     | some t'=>oQ call n A (i+1) r t' H' ld ((i,YC H H')::hs)
     | none=>none) else none
    | none=>none
   | _=>none
  | some false=>(match nS n t o.dst (.aG []) with
   | some t'=>oQ call n A (i+1) r t' H ld hs
   | none=>none)
  | none=>none
theorem jU{P:Program}{call:mq}(hc:v8 P call){n:Nat}{A:List (List Nat)}{nl:Nat}{K:List AV→Y→Prop}{Kp:AV→Y→Prop}:∀{l:List bQ}{i:Nat}{t:Tr}{ts:List AV}{H:Y}{ld:List (Nat×Nat)}{hs:List (Nat×Y×Y)}{m:List (Nat×List Nat)}{t':Tr}{H':Y},qu n t ts→VI hs m→oQ call n A i l t H ld m=some (t',H')→(∀ts',qu n t' ts'→K ts' H')→cE P A nl K Kp i l ts H ld hs
 | [],i,t,ts,H,ld,hs,m,t',H',hp,hr,h,hK=>by
  obtain ⟨rfl,rfl⟩:=Prod.mk.inj (Option.some.inj h)
  exact hK ts hp
 | o::r,i,t,ts,H,ld,hs,m,t',H',hp,hr,h,hK=>by
  simp only[oQ,Iy hp,qv hp] at h
  simp only[cE]
  split at h
  ·rename_i hg
   refine MU hg ?_
   split at h
   ·rename_i q ho
    rw[ho]
    split at h
    ·rename_i hk
     split at h
     ·rename_i t1 h1
      exact ⟨MQ hk,jU hc (je hp h1) hr h hK⟩
     ·cases h
    ·cases h
   ·rename_i m' ag a ho
    rw[ho]
    split at h
    ·rename_i hk
     simp only[Bool.and_eq_true] at hk
     split at h
     ·rename_i t1 h1
      rw[EU] at h1
      exact ⟨VJ hr hk.1,EX hk.2,jU hc (je hp h1) hr h hK⟩
     ·cases h
    ·cases h
   ·rename_i m' a x ho
    rw[ho]
    split at h
    ·rename_i hk
     simp only[Bool.and_eq_true] at hk
     have hkp:=P6 hk.1
     split at h
     ·rename_i t1 h1
      rw[MR] at h
      exact ⟨MT hk.1,MY hk.2 hkp,jU hc (je hp h1) (.cons hkp hr) h hK⟩
     ·cases h
    ·cases h
   ·rename_i z ty ho
    rw[ho]
    split at h
    ·rename_i t1 h1
     exact ⟨trivial,jU hc (je hp h1) hr h hK⟩
    ·cases h
   ·rename_i k ty z ln ps ho
    rw[ho]
    split at h
    ·rename_i hk
     split at h
     ·rename_i t1 h1
      exact ⟨vZ hk,jU hc (je hp h1) hr h hK⟩
     ·cases h
    ·cases h
   ·rename_i f ej ho
    rw[ho]
    split at h
    ·rename_i v H1 hv
     split at h
     ·rename_i hk
      simp only[Bool.and_eq_true,decide_eq_true_eq] at hk
      have hkp:=fun j (h1:j∉YC H H1)(h2:j<H.length)=>YD hk.1 h1 h2
      split at h
      ·rename_i t1 h1
       exact ⟨.ret v,H1,hc _ _ _ _ _ hv,MY hk.2 hkp,jU hc (je hp h1) (.cons hkp hr) h hK⟩
      ·cases h
     ·cases h
    ·cases h
   ·cases h
  ·rename_i hg
   split at h
   ·rename_i t1 h1
    exact MV hg (jU hc (je hp h1) hr h hK)
   ·cases h
  ·cases h
def EZ(step:Tr→Y→Option (AX×Tr×Y)):Nat→Tr→Y→Option (AX×Tr×Y)
 | 0,_,_=>none
 | n+1,t,H=>match step t H with
  | some (.normal,t',H')=>EZ step n t' H'
  | r=>r
def jJ(call:mq)(n m:Nat):IC→Tr→Y→Option (AX×Tr×Y)
 | .skip,t,H=>some (.normal,t,H)
 | .ops l,t,H=>match runT call n l t H with
  | some (t',H')=>some (.normal,t',H')
  | none=>none
 | .cH l A,t,H=>match oQ call n A 0 l t H [] [] with
  | some (t',H')=>some (.normal,t',H')
  | none=>none
 | .seq a b,t,H=>match jJ call n m a t H with
  | some (.normal,t',H')=>jJ call n m b t' H'
  | r=>r
 | .cond c a b,t,H=>match nR n t c with
  | .Z (.bool true)=>jJ call n m a t H
  | .Z (.bool false)=>jJ call n m b t H
  | _=>none
 | .block id c,t,H=>match jJ call n m c t H with
  | some (.exit i,t',H')=>if i=id then some (.normal,t',H') else some (.exit i,t',H')
  | r=>r
 | .loop c,t,H=>EZ (jJ call n m c) m t H
 | .exit id,t,H=>some (.exit id,t,H)
 | .ret,t,H=>some (.ret,t,H)
 | _,_,_=>none
theorem Dt{P:Program}{call:mq}(hc:v8 P call){n m:Nat}:∀{c:IC}{K:Post}{t:Tr}{ts:List AV}{H:Y}{x:AX}{t':Tr}{H':Y},qu n t ts→jJ call n m c t H=some (x,t',H')→(∀ts',qu n t' ts'→K x ts' H')→ES P c K ts H:=by
 intro c
 induction c with
 | skip =>
  intro K t ts H x t' H' hp h hK
  obtain ⟨rfl,h2⟩:=Prod.mk.inj (Option.some.inj h)
  obtain ⟨rfl,rfl⟩:=Prod.mk.inj h2
  exact hK ts hp
 | exit id =>
  intro K t ts H x t' H' hp h hK
  obtain ⟨rfl,h2⟩:=Prod.mk.inj (Option.some.inj h)
  obtain ⟨rfl,rfl⟩:=Prod.mk.inj h2
  exact hK ts hp
 | ret =>
  intro K t ts H x t' H' hp h hK
  obtain ⟨rfl,h2⟩:=Prod.mk.inj (Option.some.inj h)
  obtain ⟨rfl,rfl⟩:=Prod.mk.inj h2
  exact hK ts hp
 | ops l =>
  intro K t ts H x t' H' hp h hK
  simp only[jJ] at h
  split at h
  ·rename_i t1 H1 hr
   obtain ⟨rfl,h2⟩:=Prod.mk.inj (Option.some.inj h)
   obtain ⟨rfl,rfl⟩:=Prod.mk.inj h2
   exact Bn hc hp hr hK
  ·cases h
 | cH l A =>
  intro K t ts H x t' H' hp h hK
  simp only[jJ] at h
  split at h
  ·rename_i t1 H1 hr
   obtain ⟨rfl,h2⟩:=Prod.mk.inj (Option.some.inj h)
   obtain ⟨rfl,rfl⟩:=Prod.mk.inj h2
   exact jU hc hp .nil hr hK
  ·cases h
 | seq a b ve wK =>
  intro K t ts H x t' H' hp h hK
  simp only[jJ] at h
  rw[Mi]
  split at h
  ·rename_i t1 H1 hr
   exact ve hp hr fun fG h1=>wK h1 h hK
  ·rename_i hn
   refine ve hp h ?_
   cases x with
   | normal=>exact absurd h (hn _ _)
   | _=>exact hK
 | cond c a b ve wK =>
  intro K t ts H x t' H' hp h hK
  simp only[jJ,qv hp] at h
  rw[Gf]
  split at h
  ·rename_i e
   rw[e,Gg]
   exact ve hp h hK
  ·rename_i e
   rw[e,Gh]
   exact wK hp h hK
  ·cases h
 | block id c ih =>
  intro K t ts H x t' H' hp h hK
  simp only[jJ] at h
  rw[Cy]
  split at h
  ·rename_i i t1 H1 hr
   refine ih hp hr fun fG h1=>?_
   rw[Cz]
   split at h
   ·rename_i e
    obtain ⟨rfl,h2⟩:=Prod.mk.inj (Option.some.inj h)
    obtain ⟨rfl,rfl⟩:=Prod.mk.inj h2
    rw[if_pos e]
    exact hK fG h1
   ·rename_i e
    obtain ⟨rfl,h2⟩:=Prod.mk.inj (Option.some.inj h)
    obtain ⟨rfl,rfl⟩:=Prod.mk.inj h2
    rw[if_neg e]
    exact hK fG h1
  ·rename_i hn
   refine ih hp h ?_
   cases x with
   | exit i=>exact absurd h (hn _ _ _)
   | _=>exact hK
 | loop c ih =>
  intro K t ts H x t' H' hp h hK
  simp only[jJ] at h
  refine P7 (fun k ts H=>∃t,qu n t ts∧EZ (jJ call n m c) k t H=some (x,t',H')) m (fun k ts H hI L hL=>?_) ⟨t,hp,h⟩
  obtain ⟨t,hp,hI⟩:=hI
  cases k with
  | zero=>cases hI
  | succ k =>
   simp only[EZ] at hI
   split at hI
   ·rename_i t1 H1 hr
    exact ih hp hr fun fG h1=>hL k fG H1 (Nat.lt_succ_self k) ⟨t1,h1,hI⟩
   ·rename_i hn
    refine ih hp hI ?_
    cases x with
    | normal=>exact absurd hI (hn _ _)
    | _=>exact hK
 | _ =>
  intro K t ts H x t' H' hp h hK
  cases h
def Bo:List AV→Nat→Tr→Tr
 | [],_,t=>t
 | x::r,i,t=>Bo r (i+1) (Tr.put 9 t i x)
theorem Du{n:Nat}:∀{ej pre:List AV}{t:Tr},pre.length+ej.length≤n→qu n t (pre++List.replicate (n - pre.length) (.aG []))→qu n (Bo ej pre.length t) (pre++ej++List.replicate (n - (pre++ej).length) (.aG []))
 | [],pre,t,hl,h=>by simpa [Bo] using h
 | x::r,pre,t,hl,h=>by
  simp only[List.length_cons] at hl
  have h1:=h.put (d:=pre.length) (by omega) x
  have e:(pre++List.replicate (n - pre.length) (AV.aG [])).set pre.length x=(pre++[x])++List.replicate (n - (pre++[x]).length) (AV.aG []):=by
   rw[List.set_append_right _ _ (Nat.le_refl _),Nat.sub_self,show n - pre.length=(n - (pre++[x]).length)+1 by simp;omega,List.replicate_succ,List.set_cons_zero,List.append_assoc]
   rfl
  rw[e] at h1
  have h2:=Du (ej:=r) (pre:=pre++[x]) (by simp;omega) h1
  simp only[Bo]
  simpa using h2
theorem acf{n:Nat}(h:n≤512):qu n .e (List.replicate n (.aG [])) where
 wf:=.e
 len:=List.length_replicate
 AD:=h
 get:=fun i hi=>by simp[List.getD,hi,Tr.get]
def xl(n:Nat)(t:Tr)(H:Y):List RV→Bool
 | []=>true
 | .t _::r=>xl n t H r
 | .c a k ag::r=>(match nR n t (.t a) with
  | .ptr k' id j f=>VE H k ag (.ptr k' id j f)
  | _=>false) && xl n t H r
def uA(n:Nat)(t:Tr)(H:Y):List RV→List AV
 | []=>[]
 | .t a::r=>nR n t (.t a)::uA n t H r
 | .c a k ag::r=>VC H k ag (nR n t (.t a))::uA n t H r
theorem sQ{n:Nat}{t:Tr}{ts:List AV}{H:Y}(hp:qu n t ts):∀{rs:List RV},xl n t H rs=true→gf rs ts H
 | [],_=>trivial
 | .t _::r,h=>sQ hp (rs:=r) h
 | .c a k ag::r,h=>by
  simp only[xl,Bool.and_eq_true,qv hp,X.ev] at h
  refine ⟨?_,sQ hp h.2⟩
  have h1:=h.1
  split at h1
  ·rename_i e
   rw[e]
   exact EX h1
  ·cases h1
theorem sR{n:Nat}{t:Tr}{ts:List AV}{H:Y}(hp:qu n t ts):∀{rs:List RV},uA n t H rs=jf rs ts H
 | []=>rfl
 | .t a::r=>by simp only[uA,jf,sR hp (rs:=r),qv hp,X.ev]
 | .c a k ag::r=>by simp only[uA,jf,sR hp (rs:=r),qv hp,X.ev,EU]
def aaf(rs:List RV)(n:Nat)(H:Y):Option (AX×Tr×Y)→Option (AV×Y)
 | some (.ret,t,H')=>if xl n t H' rs && decide (H.length≤H'.length) then some (oneOf (uA n t H' rs),H') else none
 | some (.normal,t,H')=>if xl n t H' rs && decide (H.length≤H'.length) then some (oneOf (uA n t H' rs),H') else none
 | _=>none
def M0(T:xk)(m:Nat):Nat→mq
 | 0,_,_,_=>none
 | k+1,f,ej,H=>match T f with
  | some (c,rs,n)=>if decide (ej.length≤n) && decide (n≤512) then aaf rs n H (jJ (M0 T m k) n m c (Bo ej 0 .e) H) else none
  | none=>none
theorem Iz{P:Program}{T:xk}(hT:EY P T){m:Nat}:∀k,v8 P (M0 T m k)
 | 0=>fun f ej H v H' h=>by cases h
 | k+1=>fun f ej H v H' h=>by
  have ih:=Iz hT (m:=m) k
  simp only[M0] at h
  split at h
  ·rename_i c rs n ht
   split at h
   ·rename_i hn
    simp only[Bool.and_eq_true,decide_eq_true_eq] at hn
    have o7:=Du (n:=n) (ej:=ej) (pre:=[]) (by simpa using hn.1) (acf hn.2)
    simp only[List.nil_append,List.length_nil] at o7
    unfold aaf at h
    split at h
    ·rename_i t1 H1 hr
     split at h
     ·rename_i hb
      simp only[Bool.and_eq_true,decide_eq_true_eq] at hb
      obtain ⟨rfl,rfl⟩:=Prod.mk.inj (Option.some.inj h)
      refine aD hb.2 (hT f c rs n ht (aA (Dt ih o7 hr fun fG h1=>⟨sQ h1 hb.1,?_⟩)))
      rw[sR h1]
      exact eo.refl _ _ _
     ·cases h
    ·rename_i t1 H1 hr
     split at h
     ·rename_i hb
      simp only[Bool.and_eq_true,decide_eq_true_eq] at hb
      obtain ⟨rfl,rfl⟩:=Prod.mk.inj (Option.some.inj h)
      refine aD hb.2 (hT f c rs n ht (aA (Dt ih o7 hr fun fG h1=>⟨sQ h1 hb.1,?_⟩)))
      rw[sR h1]
      exact eo.refl _ _ _
     ·cases h
    ·cases h
   ·cases h
  ·cases h
set_option maxRecDepth 1000000
def VK:IC:=(.seq (.ops [iP 2 (.mv kF)]) (.seq (.ops [iM 3 0,iP 4 (.az .eql (.t 3) (.k (.Z (.int .u8 32)))),iM 5 4,gM 6 5 .false 0,gP 7 5 .false (.az .eql (.t 6) (.k (.Z (.int .u8 9)))),iP 8 (.pick (.t 5) kT (.t 7)),iM 9 8,gM 10 9 .false 0,gP 11 9 .false (.az .eql (.t 10) (.k (.Z (.int .u8 10)))),iP 12 (.pick (.t 9) kT (.t 11)),iM 13 12,gM 14 13 .false 0,gP 15 13 .false (.az .eql (.t 14) (.k (.Z (.int .u8 13)))),iP 16 (.pick (.t 13) kT (.t 15)),iM 2 16]) .ret))
theorem acg:Dk Tryz.prog 158 VK [(.t 2)] 17:=aO (fn:=Tryz.f158) Tryz.func158 (by kernel_rfl) (by kernel_rfl) (by kernel_rfl)
def VL:IC:=(.seq (.ops [iP 6 (.mv kF)]) (.seq (.ops [iM 7 0,iP 8 (.fW (.t 7)),iM 9 1,iP 10 (xB .sub 8 9),iM 11 2,iP 12 (.fW (.t 11)),iP 13 (xB .geq 10 12),iM 14 13,gM 15 14 .true 0,gM 16 14 .true 1,gM 17 14 .true 1,gM 18 14 .true 2,gP 19 14 .true (.fW (.t 18)),gP 20 14 .true (xB .add 17 19),gP 21 14 .true (.mW (.t 15) (some (.t 16)) (some (.t 20))),gM 22 14 .true 2,gP 23 14 .true (xB .eql 21 22),iP 24 (.pick (.t 14) (.t 23) kF),iM 6 24]) .ret))
theorem ach:Dk Tryz.prog 159 VL [(.t 6)] 25:=aO (fn:=Tryz.f159) Tryz.func159 (by kernel_rfl) (by kernel_rfl) (by kernel_rfl)
def VM:IC:=(.seq (.ops [iP 2 (xI 0),iP 3 (.mv kF)]) (.seq (.seq (.ops [iM 6 0,⟨(some 7),none,(.p (.az .eql (.t 6) (.k (.Z (.string ⟨#[]⟩)))))⟩,iM 8 7,gM 9 8 .false 0,gP 10 8 .false (.fW (.t 9)),gP 11 8 .false (.az .gtr (.t 10) (kI 1)),gM 12 8 .false 11,gM 13 12 .true 0,gP 14 12 .true (.fg (.t 13) (kI 0)),gP 15 12 .true (.az .eql (.t 14) (.k (.Z (.int .u8 48)))),gP 16 8 .false (.pick (.t 12) (.t 15) kF),iP 17 (.pick (.t 8) kT (.t 16))]) (.cond (.t 17) (.seq (.ops [iP 2 (xI 0),iP 3 (.mv kF)]) .ret) .skip)) (.seq (.ops [iP 4 (.mv (.k (.Z (.int .u64 0))))]) (.seq (.seq (.ops [iP 5 (xI 0)]) (.block 0 (.loop (.seq (.seq (.ops [iM 18 5,iM 19 0,iP 20 (.fW (.t 19)),iP 21 (xB .lss 18 20)]) (.cond (.t 21) .skip (.exit 0))) (.seq (.block 1 (.seq (.seq (.ops [iM 24 0,iM 25 5,iP 26 (.fg (.t 24) (.t 25)),iH 27 (.call 81 [(.t 26)]),iP 28 (xN 27),iM 29 28,gM 30 29 .false 4,gP 31 29 .false (.az .gtr (.t 30) (.k (.Z (.int .u64 922337203685477580)))),iP 32 (.pick (.t 29) kT (.t 31))]) (.cond (.t 32) (.seq (.ops [iP 2 (xI 0),iP 3 (.mv kF)]) .ret) .skip)) (.seq (.ops [iM 33 4,iP 34 (.az .mul (.k (.Z (.int .u64 10))) (.t 33)),iM 35 0,iM 36 5,iP 37 (.fg (.t 35) (.t 36)),iP 38 (.az .sub (.t 37) (.k (.Z (.int .u8 48)))),iP 39 (.conv .u64 (.t 38)),iP 40 (xB .add 34 39),iM 4 40]) (.seq (.ops [iM 41 4,iP 42 (.az .gtr (.t 41) (.k (.Z (.int .u64 9223372036854775807))))]) (.cond (.t 42) (.seq (.ops [iP 2 (xI 0),iP 3 (.mv kF)]) .ret) .skip))))) (.ops [iM 22 5,iP 23 (.az .add (.t 22) (kI 1)),iM 5 23])))))) (.seq (.ops [iM 43 4,iP 44 (.conv .i64 (.t 43)),iM 2 44,iP 3 (.mv kT)]) .ret)))))
theorem aci:Dk Tryz.prog 160 VM [(.t 2),(.t 3)] 45:=aO (fn:=Tryz.f160) Tryz.func160 (by kernel_rfl) (by kernel_rfl) (by kernel_rfl)
def VN:IC:=(.seq (.ops [⟨(some 4),none,(.h (.alloc (.agg [(.Z (.int .u8 0)),(.Z (.string ⟨#[]⟩)),(.Z (.int .i64 0)),aV]) 25))⟩]) (.seq (.ops [iM 5 0,iM 6 1,⟨(some 7),none,(.p (.build [(.Z (.int .u8 0)),(.Z (.string ⟨#[]⟩)),(.Z (.int .i64 0)),aV] [(0,1,(.t 5)),(3,1,(.t 6))]))⟩,iS 4 4 7]) .ret))
theorem acj:Dk Tryz.prog 205 VN [(.c 4 4 .true)] 8:=aO (fn:=Tryz.f205) Tryz.func205 (by kernel_rfl) (by kernel_rfl) (by kernel_rfl)
def VO:IC:=(.seq (.ops [iM 4 0,iP 5 (.aP (.t 4)),iP 6 (.af 3 (.t 5)),iP 7 (.af 0 (.t 6)),iH 8 (yD 1 7),iP 9 (.az .eql (.t 8) (kI 0))]) (.cond (.t 9) (.cH [iM 10 0,iM 11 1,iM 12 0,iP 13 (.aP (.t 12)),iP 14 (.af 0 (.t 13)),iH 15 (yD 1 14),iM 16 0,iP 17 (.aP (.t 16)),iP 18 (.af 1 (.t 17)),iH 19 (yD 1 18),iP 20 (xA 3 15 19),iP 21 (.af 2 (.t 20)),iH 22 (yD 1 21),iP 23 (.build [(.Z (.int .i64 0)),(.Z (.int .i64 0))] [(0,1,(.t 11)),(1,1,(.t 22))]),iP 24 (.aP (.t 10)),iP 25 (.af 3 (.t 24)),iS 2 25 23] [[],[],[],[2],[3,2],[4,3,2],[],[6],[7,6],[8,7,6],[5,4,3,2,9,8,7,6],[10,5,4,3,2,9,8,7,6],[11,10,5,4,3,2,9,8,7,6],[1,12,11,10,5,4,3,2,9,8,7,6],[0,1,2,3,4,5,6,7,8,9,10,11,12,13],[14,0,1,2,3,4,5,6,7,8,9,10,11,12,13],[15,14,0,1,2,3,4,5,6,7,8,9,10,11,12,13]]) .skip))
theorem ack:Dk Tryz.prog 188 VO [] 26:=aO (fn:=Tryz.f188) Tryz.func188 (by kernel_rfl) (by kernel_rfl) (by kernel_rfl)
def VP:IC:=(.seq (.ops [iP 4 (.mv kF)]) (.seq (.cH [iM 6 0,iP 7 (.aP (.t 6)),iP 8 (.af 0 (.t 7)),iH 9 (yD 1 8),iM 10 0,iP 11 (.aP (.t 10)),iP 12 (.af 1 (.t 11)),iH 13 (yD 1 12),iP 14 (xA 3 9 13),iH 15 (yA 3 14),⟨(some 5),none,(.h (.alloc (.agg [(.Z (.int .u8 0)),(.Z (.string ⟨#[]⟩)),(.Z (.int .i64 0))]) 153))⟩,iS 3 5 15] [[],[0],[1,0],[2,1,0],[],[4],[5,4],[6,5,4],[3,2,1,0,7,6,5,4],[8,3,2,1,0,7,6,5,4],[],[10,9,8,3,2,1,0,7,6,5,4]]) (.seq (.ops [iM 16 0,iP 17 (.aP (.t 16)),iP 18 (.af 3 (.t 17)),iP 19 (.af 0 (.t 18)),iH 20 (yD 1 19),iP 21 (.az .eql (.t 20) (kI 0)),iM 22 21,gP 23 22 .true (.af 0 (.t 5)),gH 24 22 .true (yD 1 23),gP 25 22 .true (.az .eql (.t 24) (.k (.Z (.int .u8 2)))),gM 26 22 .true 25,gP 27 26 .false (.af 0 (.t 5)),gH 28 26 .false (yD 1 27),gP 29 26 .false (.az .eql (.t 28) (.k (.Z (.int .u8 4)))),gP 30 22 .true (.pick (.t 26) kT (.t 29)),iP 31 (.pick (.t 22) (.t 30) kF),iM 32 31,gP 33 32 .true (.af 1 (.t 5)),gH 34 32 .true (yD 1 33),gM 35 32 .true 1,gP 36 32 .true (xB .eql 34 35),iP 37 (.pick (.t 32) (.t 36) kF),iM 4 37]) .ret)))
theorem acl:Dk Tryz.prog 165 VP [(.t 4)] 38:=aO (fn:=Tryz.f165) Tryz.func165 (by kernel_rfl) (by kernel_rfl) (by kernel_rfl)
def VQ:IC:=(.seq (.seq (.ops [iM 4 0,iM 5 1,iH 6 (yC 165 4 5),iP 7 (xN 6)]) (.cond (.t 7) (.seq (.ops [iM 8 0,iH 9 (.call 188 [(.t 8),(kI 102)])]) .ret) .skip)) (.ops [iM 10 0,iP 11 (.aP (.t 10)),iP 12 (.af 1 (.t 11)),iH 13 (yD 1 12),iP 14 (.az .add (.t 13) (kI 1)),iP 15 (.aP (.t 10)),iP 16 (.af 1 (.t 15)),iS 1 16 14]))
theorem acm:Dk Tryz.prog 162 VQ [] 17:=aO (fn:=Tryz.f162) Tryz.func162 (by kernel_rfl) (by kernel_rfl) (by kernel_rfl)
def VS:IC:=(.seq (.ops [⟨(some 4),none,(.p (.mv (.k (.Z (.string ⟨#[]⟩)))))⟩]) (.seq (.seq (.ops [iM 6 0,iP 7 (.aP (.t 6)),iP 8 (.af 3 (.t 7)),iP 9 (.af 0 (.t 8)),iH 10 (yD 1 9),iP 11 (.az .neq (.t 10) (kI 0))]) (.cond (.t 11) (.seq (.ops [⟨(some 4),none,(.p (.mv (.k (.Z (.string ⟨#[]⟩)))))⟩]) .ret) .skip)) (.seq (.cH [iM 12 0,iP 13 (.aP (.t 12)),iP 14 (.af 0 (.t 13)),iH 15 (yD 1 14),iM 16 0,iP 17 (.aP (.t 16)),iP 18 (.af 1 (.t 17)),iH 19 (yD 1 18),iP 20 (xA 3 15 19),iH 21 (yA 3 20),⟨(some 5),none,(.h (.alloc (.agg [(.Z (.int .u8 0)),(.Z (.string ⟨#[]⟩)),(.Z (.int .i64 0))]) 153))⟩,iS 3 5 21] [[],[0],[1,0],[2,1,0],[],[4],[5,4],[6,5,4],[3,2,1,0,7,6,5,4],[8,3,2,1,0,7,6,5,4],[],[10,9,8,3,2,1,0,7,6,5,4]]) (.seq (.seq (.ops [iP 22 (.af 0 (.t 5)),iH 23 (yD 1 22),iM 24 1,iP 25 (xB .neq 23 24)]) (.cond (.t 25) (.seq (.ops [iM 26 0,iH 27 (.call 188 [(.t 26),(kI 102)])]) (.seq (.ops [⟨(some 4),none,(.p (.mv (.k (.Z (.string ⟨#[]⟩)))))⟩]) .ret)) .skip)) (.seq (.ops [iM 28 0,iP 29 (.aP (.t 28)),iP 30 (.af 1 (.t 29)),iH 31 (yD 1 30),iP 32 (.az .add (.t 31) (kI 1)),iP 33 (.aP (.t 28)),iP 34 (.af 1 (.t 33)),iS 1 34 32]) (.seq (.ops [iP 35 (.af 1 (.t 5)),iH 36 (yD 1 35),iM 4 36]) .ret))))))
theorem acn:Dk Tryz.prog 189 VS [(.t 4)] 37:=aO (fn:=Tryz.f189) Tryz.func189 (by kernel_rfl) (by kernel_rfl) (by kernel_rfl)
def VT:IC:=(.seq (.seq (.ops [iM 4 0,iM 5 1,iH 6 (yC 165 4 5),iP 7 (xN 6)]) (.cond (.t 7) (.seq (.ops [iM 8 0,iH 9 (.call 188 [(.t 8),(kI 102)])]) .ret) .skip)) (.seq (.seq (.ops [iM 10 0,iP 11 (.aP (.t 10)),iP 12 (.af 2 (.t 11)),iH 13 (yD 1 12),iP 14 (.az .geq (.t 13) (kI 120))]) (.cond (.t 14) (.seq (.ops [iM 15 0,iH 16 (.call 188 [(.t 15),(kI 103)])]) .ret) .skip)) (.seq (.ops [iM 17 0,iP 18 (.aP (.t 17)),iP 19 (.af 2 (.t 18)),iH 20 (yD 1 19),iP 21 (.az .add (.t 20) (kI 1)),iP 22 (.aP (.t 17)),iP 23 (.af 2 (.t 22)),iS 1 23 21]) (.ops [iM 24 0,iP 25 (.aP (.t 24)),iP 26 (.af 1 (.t 25)),iH 27 (yD 1 26),iP 28 (.az .add (.t 27) (kI 1)),iP 29 (.aP (.t 24)),iP 30 (.af 1 (.t 29)),iS 1 30 28]))))
theorem aco:Dk Tryz.prog 164 VT [] 31:=aO (fn:=Tryz.f164) Tryz.func164 (by kernel_rfl) (by kernel_rfl) (by kernel_rfl)
def VU:IC:=(.seq (.ops [iM 4 0,iM 5 1,iH 6 (yC 162 4 5)]) (.ops [iM 7 0,iP 8 (.aP (.t 7)),iP 9 (.af 2 (.t 8)),iH 10 (yD 1 9),iP 11 (.az .sub (.t 10) (kI 1)),iP 12 (.aP (.t 7)),iP 13 (.af 2 (.t 12)),iS 1 13 11]))
theorem acp:Dk Tryz.prog 166 VU [] 14:=aO (fn:=Tryz.f166) Tryz.func166 (by kernel_rfl) (by kernel_rfl) (by kernel_rfl)
def VV:IC:=(.seq (.ops [⟨(some 4),none,(.h (.alloc (.agg [(.Z (.int .u8 0)),(.Z (.string ⟨#[]⟩)),(.Z (.int .i64 0)),aV]) 25))⟩]) (.seq (.ops [iM 6 0,iH 7 (.call 189 [(.t 6),(.k (.Z (.int .u8 1)))]),iM 5 7]) (.seq (.ops [iM 8 1,iM 9 5,⟨(some 10),none,(.p (.build [(.Z (.int .u8 0)),(.Z (.string ⟨#[]⟩)),(.Z (.int .i64 0)),aV] [(0,1,(.t 8)),(1,1,(.t 9))]))⟩,iS 4 4 10]) .ret)))
theorem acq:Dk Tryz.prog 163 VV [(.c 4 4 .true)] 11:=aO (fn:=Tryz.f163) Tryz.func163 (by kernel_rfl) (by kernel_rfl) (by kernel_rfl)
end Go.Proofs.YtnoplgongieehaaGreatDoor
