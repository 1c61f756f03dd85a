import Derived.Test.YtdjnccnecgblmaaGreatDoorTU
import Derived.Test.YtdjnccnecgblmaaGreatDoorIc43
namespace Go.Proofs.YtdjnccnecgblmaaGreatDoor
open Go.RowKit
set_option maxRecDepth 100000
set_option linter.unusedVariables false
set_option linter.unusedSimpArgs false
theorem sameL_t {l m : List Nd} (h : l.length=m.length) (hp : ∀ j,j < l.length→sameN (nthN l j) (nthN m j)=true) : sameL l m=true:=by
 rw[sameL_iff]
 refine List.ext_getElem h fun j h1 h2=>?_
 have:=(sameN_iff _ _).1 (hp j h1)
 rwa [nthN_eq h1,nthN_eq h2] at this
theorem sameL_n {l m : List Nd} (h : ¬ l.length=m.length) : sameL l m=false:=by
 rw[← Bool.not_eq_true,sameL_iff]
 exact fun e=>h (by rw[e])
theorem sameL_f {l m : List Nd} {k : Nat} (hk : k < l.length) (h : sameN (nthN l k) (nthN m k)=false) : sameL l m=false:=by
 rw[← Bool.not_eq_true,sameL_iff]
 rintro rfl
 rw[sameN_refl] at h
 cases h
set_option maxHeartbeats 0 in
theorem sameNodes_of (l : List Nd) (hz : Nd.sizeL l ≤ 1000000) (ih : ∀ a ∈ l,∀ (b : Nd) (H : AHeap),D Tryz.prog 112 [ndR a none,ndR b none] H (.ret (.sc (.bool (sameN a b)))) H) (m : List Nd) (ro ro' : Option (List AV)) (H : AHeap) : D Tryz.prog 67 [.lst 4 (ndL l) ro,.lst 4 (ndL m) ro'] H (.ret (.sc (.bool (sameL l m)))) H:=by
 have hl:=Nd.len_le l
 refine D_of_DK (Nat.le_refl _) (dk67 (E_of_ES ?_))
 simp only[ic67,ux]
 refine ES_seq_gen fun L hL=>?_
 simp -implicitDefEqProofs (maxSteps:=99999999) (disch:=first | omega | (simp only[vl];first | done | omega)) only[vu,va,vg,vs,vw,vk,simprocAttr]
 refine hL _ _ ?_
 clear hL
 refine ES_seq_gen fun L hL=>?_
 by_cases c1 : l.length=m.length
 rotate_left
 ·have c2 : ¬ (l.length : Int)=m.length:=by omega
  simp -implicitDefEqProofs (maxSteps:=99999999) (disch:=first | omega | (simp only[vl];first | done | omega)) only[vu,ndL_length,c2,va,vg,vs,vw,vk,simprocAttr]
  exact over_bN .refl (sameL_n c1).symm
 have c2 : (l.length : Int)=m.length:=by omega
 simp -implicitDefEqProofs (maxSteps:=99999999) (disch:=first | omega | (simp only[vl];first | done | omega)) only[vu,ndL_length,c2,va,vg,vs,vw,vk,simprocAttr]
 refine hL _ _ ?_
 clear hL
 refine ES_seq_gen fun L hL=>?_
 simp -implicitDefEqProofs (maxSteps:=99999999) (disch:=first | omega | (simp only[vl];first | done | omega)) only[vu,va,vg,vs,vw,vk,simprocAttr]
 refine ES_loopL (fun ts F=>∃ k : Nat,(k ≤ l.length ∧ ∀ j,j < k→sameN (nthN l j) (nthN m j)=true) ∧ F=H ∧ Fr [some (.lst 4 (ndL l) ro),some (.lst 4 (ndL m) ro'),none,none,some (.sc (.bool false)),some (.sc (.int .i64 k)),none,none,none,none,none,none,none,none,none,none,none,none,none,none,none,none,none,none,none,none,none] ts) (fun ts _=>l.length - (intV (ts.getD 5 .top)).toNat) ?_ ?_
 ·exact ⟨0,⟨Nat.zero_le _,fun j h=>absurd h (Nat.not_lt_zero _)⟩,rfl,by simp[Fr]⟩
 rintro ts F ⟨k,⟨hk,hp⟩,rfl,hfr⟩ L2 hL2
 obtain ⟨js,rfl⟩:=hfr.opened
 clear hfr
 by_cases hd : k < l.length
 ·have d1 : (k : Int) < l.length:=by omega
  have d2 : (k : Int) < m.length:=by omega
  have hg:=ndL_get hd
  have hg2:=ndL_get (l:=m) (k:=k) (by omega)
  have hi:=fun H=>ih _ (nthN_mem hd) (nthN m k) H
  rw[ndR_eq,ndR_eq] at hi
  simp -implicitDefEqProofs (maxSteps:=99999999) (disch:=first | omega | (simp only[vl];first | done | omega)) only[mk,d1,d2,hg,hg2,ndL_length,va,vg,vs,vw,vk,simprocAttr]
  refine ⟨by omega,by omega,callD_same (hi _) ?_⟩
  cases e1 : sameN (nthN l k) (nthN m k)
  ·simp -implicitDefEqProofs (maxSteps:=99999999) (disch:=first | omega | (simp only[vl];first | done | omega)) only[vu,va,vg,vs,vw,vk,simprocAttr]
   exact over_bN .refl (sameL_f hd e1).symm
  simp -implicitDefEqProofs (maxSteps:=99999999) (disch:=first | omega | (simp only[vl];first | done | omega)) only[vu,va,vg,vs,vw,vk,simprocAttr]
  refine hL2 _ _ ⟨k+1,⟨by omega,fun j hj=>?_⟩,rfl,by simp[Fr]⟩ (by simp[intV,mk];omega)
  rcases Nat.lt_succ_iff_lt_or_eq.1 hj with h' | rfl
  ·exact hp j h'
  ·exact e1
 ·have d1 : ¬ (k : Int) < l.length:=by omega
  simp -implicitDefEqProofs (maxSteps:=99999999) (disch:=first | omega | (simp only[vl];first | done | omega)) only[mk,d1,ndL_length,va,vg,vs,vw,vk,simprocAttr]
  refine hL _ _ ?_
  clear hL
  simp -implicitDefEqProofs (maxSteps:=99999999) (disch:=first | omega | (simp only[vl];first | done | omega)) only[va,vg,vs,vw,vk,simprocAttr]
  exact over_bN .refl (sameL_t c1 fun j hj=>hp j (by omega)).symm
set_option maxHeartbeats 0 in
theorem sameNode_d (a : Nd) : ∀ (hz : a.size ≤ 1000000) (b : Nd) (ro ro' : Option (List AV)) (H : AHeap),D Tryz.prog 112 [ndR a ro,ndR b ro'] H (.ret (.sc (.bool (sameN a b)))) H:=by
 induction a using Nd.ind with
 | _ a ih =>
  intro hz b ro ro' H
  have hs:=Nd.size_eq a
  have hk:=fun H=>sameNodes_of a.kids (by omega) (fun x hx b H=>ih x hx (by have:=Nd.kid_lt hx;omega) b none none H) b.kids ro ro' H
  have hq:=sameN_eq a b
  rw[ndR_eq,ndR_eq]
  refine D_of_DK (Nat.le_refl _) (dk112 (E_of_ES ?_))
  simp only[ic112,ux]
  refine ES_seq_gen fun L hL=>?_
  simp -implicitDefEqProofs (maxSteps:=99999999) (disch:=first | omega | (simp only[vl];first | done | omega)) only[vu,va,vg,vs,vw,vk,simprocAttr]
  refine hL _ _ ?_
  clear hL
  refine ES_seq_gen fun L hL=>?_
  by_cases c1 : a.kind=b.kind
  rotate_left
  ·simp -implicitDefEqProofs (maxSteps:=99999999) (disch:=first | omega | (simp only[vl];first | done | omega)) only[vu,c1,va,vg,vs,vw,vk,simprocAttr]
   refine hL _ _ ?_
   clear hL
   simp -implicitDefEqProofs (maxSteps:=99999999) (disch:=first | omega | (simp only[vl];first | done | omega)) only[vu,va,vg,vs,vw,vk,simprocAttr]
   exact over_bN (.cons (.cons .refl)) (by rw[hq];simp[c1])
  have c1':=decide_eq_true c1
  by_cases c2 : a.text=b.text
  rotate_left
  ·simp -implicitDefEqProofs (maxSteps:=99999999) (disch:=first | omega | (simp only[vl];first | done | omega)) only[vu,c1',c2,va,vg,vs,vw,vk,simprocAttr]
   refine hL _ _ ?_
   clear hL
   simp -implicitDefEqProofs (maxSteps:=99999999) (disch:=first | omega | (simp only[vl];first | done | omega)) only[vu,va,vg,vs,vw,vk,simprocAttr]
   exact over_bN (.cons (.cons .refl)) (by rw[hq];simp[c2])
  have c2':=decide_eq_true c2
  by_cases c3 : a.num=b.num
  rotate_left
  ·simp -implicitDefEqProofs (maxSteps:=99999999) (disch:=first | omega | (simp only[vl];first | done | omega)) only[vu,c1',c2',c3,va,vg,vs,vw,vk,simprocAttr]
   refine hL _ _ ?_
   clear hL
   simp -implicitDefEqProofs (maxSteps:=99999999) (disch:=first | omega | (simp only[vl];first | done | omega)) only[vu,va,vg,vs,vw,vk,simprocAttr]
   exact over_bN (.cons (.cons .refl)) (by rw[hq];simp[c3])
  have c3':=decide_eq_true c3
  simp -implicitDefEqProofs (maxSteps:=99999999) (disch:=first | omega | (simp only[vl];first | done | omega)) only[vu,c1',c2',c3',va,vg,vs,vw,vk,simprocAttr]
  refine callR_ret (hk _) ?_
  simp -implicitDefEqProofs (maxSteps:=99999999) (disch:=first | omega | (simp only[vl];first | done | omega)) only[vu,va,vg,vs,vw,vk,simprocAttr]
  refine hL _ _ ?_
  clear hL
  simp -implicitDefEqProofs (maxSteps:=99999999) (disch:=first | omega | (simp only[vl];first | done | omega)) only[vu,va,vg,vs,vw,vk,simprocAttr]
  exact over_bN (.cons (.cons .refl)) (by rw[hq];simp[c1,c2,c3])
theorem sameNodes_d (l m : List Nd) (hz : Nd.sizeL l ≤ 1000000) (ro ro' : Option (List AV)) (H : AHeap) : D Tryz.prog 67 [.lst 4 (ndL l) ro,.lst 4 (ndL m) ro'] H (.ret (.sc (.bool (sameL l m)))) H :=
 sameNodes_of l hz (fun a ha b H=>sameNode_d a (by have:=Nd.sizeL_mem ha;omega) b none none H) m ro ro' H
end Go.Proofs.YtdjnccnecgblmaaGreatDoor
namespace Go.Proofs.YtdjnccnecgblmaaGreatDoor
open Go.RowKit
set_option maxRecDepth 100000
set_option linter.unusedVariables false
set_option linter.unusedSimpArgs false
set_option maxHeartbeats 0 in
theorem equalF_of (l : List Nd) (hz : Nd.sizeL l ≤ 1000000) (ih : ∀ a ∈ l,∀ (b : Nd) (H : AHeap),D Tryz.prog 97 [ndR a none,ndR b none] H (.ret (.sc (.bool (sameN a b)))) H) (m : List Nd) (ro ro' : Option (List AV)) (H : AHeap) : D Tryz.prog 100 [.lst 4 (ndL l) ro,.lst 4 (ndL m) ro',.fn (.func 97) [] []] H (.ret (.sc (.bool (sameL l m)))) H:=by
 have hl:=Nd.len_le l
 have cl : callable Tryz.prog 97=true:=by kernel_rfl
 refine D_of_DK (Nat.le_refl _) (dk100 (E_of_ES ?_))
 simp only[ic100,ux]
 refine ES_seq_gen fun L hL=>?_
 simp -implicitDefEqProofs (maxSteps:=99999999) (disch:=first | omega | (simp only[vl];first | done | omega)) only[vu,va,vg,vs,vw,vk,simprocAttr]
 refine hL _ _ ?_
 clear hL
 refine ES_seq_gen fun L hL=>?_
 by_cases c1 : l.length=m.length
 rotate_left
 ·have c2 : ¬ (l.length : Int)=m.length:=by omega
  simp -implicitDefEqProofs (maxSteps:=99999999) (disch:=first | omega | (simp only[vl];first | done | omega)) only[vu,ndL_length,c2,va,vg,vs,vw,vk,simprocAttr]
  exact over_bN .refl (sameL_n c1).symm
 have c2 : (l.length : Int)=m.length:=by omega
 simp -implicitDefEqProofs (maxSteps:=99999999) (disch:=first | omega | (simp only[vl];first | done | omega)) only[vu,ndL_length,c2,va,vg,vs,vw,vk,simprocAttr]
 refine hL _ _ ?_
 clear hL
 refine ES_seq_gen fun L hL=>?_
 simp -implicitDefEqProofs (maxSteps:=99999999) (disch:=first | omega | (simp only[vl];first | done | omega)) only[vu,ndL_length,va,vg,vs,vw,vk,simprocAttr]
 refine ES_loopL (fun ts F=>∃ k : Nat,(k ≤ l.length ∧ ∀ j,j < k→sameN (nthN l j) (nthN m j)=true) ∧ Over H F ∧ Fr [some (.lst 4 (ndL l) ro),some (.lst 4 (ndL m) ro'),some (.fn (.func 97) [] []),none,none,none,some (.sc (.bool false)),none,none,none,none,none,none,none,none,some (.lst 4 (ndL l) ro),some (.sc (.int .i64 l.length)),some (.sc (.int .i64 k)),none,none,none,none,none,none,none,none,none,none,none,none,none,none] ts) (fun ts _=>l.length - (intV (ts.getD 17 .top)).toNat) ?_ ?_
 ·exact ⟨0,⟨Nat.zero_le _,fun j h=>absurd h (Nat.not_lt_zero _)⟩,.refl,by simp[Fr]⟩
 rintro ts F ⟨k,⟨hk,hp⟩,hF,hfr⟩ L2 hL2
 obtain ⟨js,rfl⟩:=hfr.opened
 clear hfr
 by_cases hd : k < l.length
 ·have d1 : (k : Int) < l.length:=by omega
  have d2 : (k : Int) < m.length:=by omega
  have hg:=ndL_get hd
  have hg2:=ndL_get (l:=m) (k:=k) (by omega)
  have hi:=fun H=>ih _ (nthN_mem hd) (nthN m k) H
  rw[ndR_eq,ndR_eq] at hi
  simp -implicitDefEqProofs (maxSteps:=99999999) (disch:=first | omega | (simp only[vl];first | done | omega)) only[mk,d1,d2,hg,hg2,ndL_length,va,vg,vs,vw,vk,simprocAttr]
  refine ⟨by omega,by omega,cl,callR_ret (hi _) ?_⟩
  cases e1 : sameN (nthN l k) (nthN m k)
  ·simp -implicitDefEqProofs (maxSteps:=99999999) (disch:=first | omega | (simp only[vl];first | done | omega)) only[vu,va,vg,vs,vw,vk,simprocAttr]
   exact over_bN (.cons (.cons hF)) (sameL_f hd e1).symm
  simp -implicitDefEqProofs (maxSteps:=99999999) (disch:=first | omega | (simp only[vl];first | done | omega)) only[vu,va,vg,vs,vw,vk,simprocAttr]
  refine hL2 _ _ ⟨k+1,⟨by omega,fun j hj=>?_⟩,.cons (.cons hF),by simp[Fr]⟩ (by simp[intV,mk];omega)
  rcases Nat.lt_succ_iff_lt_or_eq.1 hj with h' | rfl
  ·exact hp j h'
  ·exact e1
 ·have d1 : ¬ (k : Int) < l.length:=by omega
  simp -implicitDefEqProofs (maxSteps:=99999999) (disch:=first | omega | (simp only[vl];first | done | omega)) only[mk,d1,va,vg,vs,vw,vk,simprocAttr]
  refine hL _ _ ?_
  clear hL
  simp -implicitDefEqProofs (maxSteps:=99999999) (disch:=first | omega | (simp only[vl];first | done | omega)) only[va,vg,vs,vw,vk,simprocAttr]
  exact over_bN hF (sameL_t c1 fun j hj=>hp j (by omega)).symm
set_option maxHeartbeats 0 in
theorem same_d (a : Nd) : ∀ (hz : a.size ≤ 1000000) (b : Nd) (ro ro' : Option (List AV)) (H : AHeap),D Tryz.prog 97 [ndR a ro,ndR b ro'] H (.ret (.sc (.bool (sameN a b)))) H:=by
 induction a using Nd.ind with
 | _ a ih =>
  intro hz b ro ro' H
  have hs:=Nd.size_eq a
  have hk:=fun H=>equalF_of a.kids (by omega) (fun x hx b H=>ih x hx (by have:=Nd.kid_lt hx;omega) b none none H) b.kids ro ro' H
  have hq:=sameN_eq a b
  rw[ndR_eq,ndR_eq]
  refine D_of_DK (Nat.le_refl _) (dk97 (E_of_ES ?_))
  simp only[ic97,ux]
  refine ES_seq_gen fun L hL=>?_
  simp -implicitDefEqProofs (maxSteps:=99999999) (disch:=first | omega | (simp only[vl];first | done | omega)) only[vu,va,vg,vs,vw,vk,simprocAttr]
  refine hL _ _ ?_
  clear hL
  refine ES_seq_gen fun L hL=>?_
  by_cases c1 : a.kind=b.kind
  rotate_left
  ·simp -implicitDefEqProofs (maxSteps:=99999999) (disch:=first | omega | (simp only[vl];first | done | omega)) only[vu,c1,va,vg,vs,vw,vk,simprocAttr]
   refine hL _ _ ?_
   clear hL
   simp -implicitDefEqProofs (maxSteps:=99999999) (disch:=first | omega | (simp only[vl];first | done | omega)) only[vu,va,vg,vs,vw,vk,simprocAttr]
   exact over_bN (.cons (.cons .refl)) (by rw[hq];simp[c1])
  have c1':=decide_eq_true c1
  by_cases c2 : a.text=b.text
  rotate_left
  ·simp -implicitDefEqProofs (maxSteps:=99999999) (disch:=first | omega | (simp only[vl];first | done | omega)) only[vu,c1',c2,va,vg,vs,vw,vk,simprocAttr]
   refine hL _ _ ?_
   clear hL
   simp -implicitDefEqProofs (maxSteps:=99999999) (disch:=first | omega | (simp only[vl];first | done | omega)) only[vu,va,vg,vs,vw,vk,simprocAttr]
   exact over_bN (.cons (.cons .refl)) (by rw[hq];simp[c2])
  have c2':=decide_eq_true c2
  by_cases c3 : a.num=b.num
  rotate_left
  ·simp -implicitDefEqProofs (maxSteps:=99999999) (disch:=first | omega | (simp only[vl];first | done | omega)) only[vu,c1',c2',c3,va,vg,vs,vw,vk,simprocAttr]
   refine hL _ _ ?_
   clear hL
   simp -implicitDefEqProofs (maxSteps:=99999999) (disch:=first | omega | (simp only[vl];first | done | omega)) only[vu,va,vg,vs,vw,vk,simprocAttr]
   exact over_bN (.cons (.cons .refl)) (by rw[hq];simp[c3])
  have c3':=decide_eq_true c3
  simp -implicitDefEqProofs (maxSteps:=99999999) (disch:=first | omega | (simp only[vl];first | done | omega)) only[vu,c1',c2',c3',va,vg,vs,vw,vk,simprocAttr]
  refine callR_ret (hk _) ?_
  simp -implicitDefEqProofs (maxSteps:=99999999) (disch:=first | omega | (simp only[vl];first | done | omega)) only[vu,va,vg,vs,vw,vk,simprocAttr]
  refine hL _ _ ?_
  clear hL
  simp -implicitDefEqProofs (maxSteps:=99999999) (disch:=first | omega | (simp only[vl];first | done | omega)) only[vu,va,vg,vs,vw,vk,simprocAttr]
  exact over_bN (.cons (.cons .refl)) (by rw[hq];simp[c1,c2,c3])
end Go.Proofs.YtdjnccnecgblmaaGreatDoor
