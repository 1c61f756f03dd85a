import Derived.Test.YtdjnccnecgblmaaGreatDoorS326
import Derived.Test.YtdjnccnecgblmaaGreatDoorIc52
namespace Go.Proofs.YtdjnccnecgblmaaGreatDoor
open Go.RowKit
set_option maxRecDepth 100000
set_option linter.unusedVariables false
set_option linter.unusedSimpArgs false
theorem hinv_d (h : Hk) (hs : h.short) (H : AHeap) : D Tryz.prog 130 [hk h] H (.ret (hk h.turn)) H:=by
 have h1:=fun H=>clone_d h.new none H hs.2.1
 have h2:=fun H=>clone_d h.old none H hs.1.1
 refine D_of_DK (Nat.le_refl _) (dk130 (E_of_ES ?_))
 simp only[ic130,ux]
 simp -implicitDefEqProofs (maxSteps:=99999999) (disch:=first | omega | (simp only[vl];first | done | omega)) only[vu,va,vg,vs,vw,vk,simprocAttr]
 refine callD_same (h1 _) ?_
 simp -implicitDefEqProofs (maxSteps:=99999999) (disch:=first | omega | (simp only[vl];first | done | omega)) only[vu,va,vg,vs,vw,vk,simprocAttr]
 refine callD_same (h2 _) ?_
 simp -implicitDefEqProofs (maxSteps:=99999999) (disch:=first | omega | (simp only[vl];first | done | omega)) only[vu,va,vg,vs,vw,vk,simprocAttr]
 exact weak_over (by repeat constructor) (.agg (.cons (.same trivial) (.cons (.lst strs_fz) (.cons (.lst strs_fz) .nil))))
theorem part_len {l : List Nd} (h : partQ l=true) : l.length ≤ 1:=by
 obtain ⟨t,rfl⟩:=part_ne h
 simp
theorem rightE_len {e : Ed} (h : rightE e=true) : e.old.length ≤ 1 ∧ e.new.length ≤ 1:=by
 unfold rightE at h
 simp only[Bool.and_eq_true] at h
 obtain ⟨_,h⟩:=h
 split at h
 ·simp only[Bool.and_eq_true,decide_eq_true_eq] at h
  simp[h.1.2,h.2]
 split at h
 ·simp only[Bool.and_eq_true,decide_eq_true_eq] at h
  exact ⟨by simp[h.1.2],part_len h.2⟩
 split at h
 ·simp only[Bool.and_eq_true,decide_eq_true_eq] at h
  exact ⟨part_len h.2,by simp[h.1.2]⟩
 split at h
 ·simp only[Bool.and_eq_true,decide_eq_true_eq] at h
  exact ⟨part_len h.1.1.2,part_len h.1.2⟩
 split at h
 ·simp only[Bool.and_eq_true,decide_eq_true_eq] at h
  exact ⟨part_len h.2,by simp[h.1.2]⟩
 ·cases h
theorem ndL_fz {H : AHeap} {n : Nat} (l : List Nd) : FzL H n (ndL l) (ndL l):=by
 have hA : ∀ t : Nd,Fz H n (ndA t) (ndA t):=by
  intro t
  induction t using Nd.ind with
  | _ t ih =>
   rw[ndA_eq]
   refine .agg (.cons (.same trivial) (.cons (.same trivial) (.cons (.same trivial) (.cons (.lst ?_) .nil))))
   have key : ∀ l : List Nd,(∀ k ∈ l,Fz H n (ndA k) (ndA k))→FzL H n (ndL l) (ndL l):=by
    intro l
    induction l with
    | nil=>intro _;exact .nil
    | cons x r ihr=>intro h;exact .cons (h x (by simp)) (ihr fun k hk=>h k (by simp[hk]))
   exact key _ ih
 induction l with
 | nil=>exact .nil
 | cons x r ihr=>exact .cons (hA x) ihr
theorem pthA_fz {H : AHeap} {n : Nat} (l : List Int) : FzL H n (pthA l) (pthA l):=nums_fz
theorem edV_fz {H : AHeap} {n : Nat} (e : Ed) : Fz H n (edV e) (edV e):=.agg (.cons (.same trivial) (.cons (.lst (pthA_fz _)) (.cons (.same trivial) (.cons (.same trivial) (.cons (.same trivial) (.cons (.same trivial) (.cons (.lst (ndL_fz _)) (.cons (.lst (ndL_fz _)) .nil))))))))
theorem paV_fz {H : AHeap} {n : Nat} (p : Pa) : Fz H n (paV p) (paV p):=.agg (.cons (.same trivial) (.cons (.same trivial) (.cons (.same trivial) (.cons (.same trivial) (.cons (.lst strs_fz) (.cons (.lst strs_fz) (.cons (.same trivial) (.cons (.lst (pthA_fz _)) (.cons (.same trivial) (.cons (.same trivial) (.cons (.same trivial) (.cons (.same trivial) (.cons (.lst (ndL_fz _)) (.cons (.lst (ndL_fz _)) .nil))))))))))))))
theorem Ed.inv_sm {e : Ed} (h : e.sm) : e.inv.sm:=by
 obtain ⟨a,b,c,d,f,g,i⟩:=h
 unfold Ed.inv
 split
 ·exact ⟨a,c,b,d,f,g,i⟩
 ·exact ⟨a,c,b,f,d,i,g⟩
theorem Pa.inv_sm {p : Pa} (h : p.sm) : p.inv.sm:=by
 obtain ⟨a,b,c,d⟩:=h
 refine ⟨a,b,?_,?_⟩
 ·unfold Pa.inv;simp only;split
  ·exact ⟨c.2,c.1⟩
  ·exact c
 ·unfold Pa.inv;simp only;split
  ·exact Ed.inv_sm d
  ·exact d
set_option maxHeartbeats 0 in
theorem einv_d (e : Ed) (hr : rightE e=true) (hs : e.sm) (H : AHeap) : D Tryz.prog 131 [edV e] H (.ret (edV e.inv)) H:=by
 have hq:=rightE_d e hs
 obtain ⟨l1,l2⟩:=rightE_len hr
 have hso:=hs
 obtain ⟨s1,s2,s3,s4,s5,s6,s7⟩:=hs
 have hc:=fun H=>cloneI_d e.path none H (by omega)
 have ho:=fun H=>copE_d e.old l1 none s4 H
 have hn:=fun H=>copE_d e.new l2 none s5 H
 refine D_of_DK (Nat.le_refl _) (dk131 (E_of_ES ?_))
 simp only[ic131,ux]
 refine ES_seq_gen fun L hL=>?_
 simp -implicitDefEqProofs (maxSteps:=99999999) (disch:=first | omega | (simp only[vl];first | done | omega)) only[vu,va,vg,vs,vw,vk,simprocAttr]
 refine hL _ _ ?_
 clear hL
 refine ES_seq_gen fun L hL=>?_
 simp -implicitDefEqProofs (maxSteps:=99999999) (disch:=first | omega | (simp only[vl];first | done | omega)) only[vu,va,vg,vs,vw,vk,simprocAttr]
 refine callR_ret (hq _) ?_
 simp -implicitDefEqProofs (maxSteps:=99999999) (disch:=first | omega | (simp only[vl];first | done | omega)) only[vu,hr,va,vg,vs,vw,vk,simprocAttr]
 refine hL _ _ ?_
 clear hL
 refine ES_seq_gen fun L hL=>?_
 simp -implicitDefEqProofs (maxSteps:=99999999) (disch:=first | omega | (simp only[vl];first | done | omega)) only[vu,va,vg,vs,vw,vk,simprocAttr]
 refine callR_ret (hc _) ?_
 simp -implicitDefEqProofs (maxSteps:=99999999) (disch:=first | omega | (simp only[vl];first | done | omega)) only[vu,va,vg,vs,vw,vk,simprocAttr]
 refine hL _ _ ?_
 clear hL
 refine ES_seq_gen fun L hL=>?_
 simp -implicitDefEqProofs (maxSteps:=99999999) (disch:=first | omega | (simp only[vl];first | done | omega)) only[vu,va,vg,vs,vw,vk,simprocAttr]
 refine hL _ _ ?_
 clear hL
 refine ES_seq_gen fun L hL=>?_
 by_cases k5 : e.k=5
 ·have hi : e.inv={ e with fr:=e.to_,to_:=e.fr,at_:=e.far,far:=e.at_ }:=by unfold Ed.inv;rw[if_pos k5]
  simp -implicitDefEqProofs (maxSteps:=99999999) (disch:=first | omega | (simp only[vl];first | done | omega)) only[vu,k5,va,vg,vs,vw,vk,simprocAttr]
  refine callD_same (ho _) ?_
  simp -implicitDefEqProofs (maxSteps:=99999999) (disch:=first | omega | (simp only[vl];first | done | omega)) only[vu,k5,va,vg,vs,vw,vk,simprocAttr]
  rw[show e.inv=⟨5,e.path,e.far,e.at_,e.to_,e.fr,e.old,e.new⟩ by simp[Ed.inv,k5]]
  exact weak_over (by repeat constructor) (edV_fz ⟨5,e.path,e.far,e.at_,e.to_,e.fr,e.old,e.new⟩)
 simp -implicitDefEqProofs (maxSteps:=99999999) (disch:=first | omega | (simp only[vl];first | done | omega)) only[vu,k5,va,vg,vs,vw,vk,simprocAttr]
 refine hL _ _ ?_
 clear hL
 refine ES_seq_gen fun L hL=>?_
 simp -implicitDefEqProofs (maxSteps:=99999999) (disch:=first | omega | (simp only[vl];first | done | omega)) only[vu,va,vg,vs,vw,vk,simprocAttr]
 refine callD_same (hn _) ?_
 simp -implicitDefEqProofs (maxSteps:=99999999) (disch:=first | omega | (simp only[vl];first | done | omega)) only[vu,va,vg,vs,vw,vk,simprocAttr]
 refine callD_same (ho _) ?_
 simp -implicitDefEqProofs (maxSteps:=99999999) (disch:=first | omega | (simp only[vl];first | done | omega)) only[vu,va,vg,vs,vw,vk,simprocAttr]
 refine hL _ _ ?_
 clear hL
 refine ES_seq_gen fun L hL=>?_
 by_cases k2 : e.k=2
 ·simp -implicitDefEqProofs (maxSteps:=99999999) (disch:=first | omega | (simp only[vl];first | done | omega)) only[vu,k2,va,vg,vs,vw,vk,simprocAttr]
  refine hL _ _ ?_
  clear hL
  simp -implicitDefEqProofs (maxSteps:=99999999) (disch:=first | omega | (simp only[vl];first | done | omega)) only[vu,va,vg,vs,vw,vk,simprocAttr]
  rw[show e.inv=⟨3,e.path,e.at_,e.far,e.to_,e.fr,e.new,e.old⟩ by simp[Ed.inv,k2]]
  exact weak_over (by repeat constructor) (edV_fz ⟨3,e.path,e.at_,e.far,e.to_,e.fr,e.new,e.old⟩)
 by_cases k3 : e.k=3
 ·simp -implicitDefEqProofs (maxSteps:=99999999) (disch:=first | omega | (simp only[vl];first | done | omega)) only[vu,k2,k3,va,vg,vs,vw,vk,simprocAttr]
  refine hL _ _ ?_
  clear hL
  simp -implicitDefEqProofs (maxSteps:=99999999) (disch:=first | omega | (simp only[vl];first | done | omega)) only[vu,va,vg,vs,vw,vk,simprocAttr]
  rw[show e.inv=⟨2,e.path,e.at_,e.far,e.to_,e.fr,e.new,e.old⟩ by simp[Ed.inv,k3]]
  exact weak_over (by repeat constructor) (edV_fz ⟨2,e.path,e.at_,e.far,e.to_,e.fr,e.new,e.old⟩)
 simp -implicitDefEqProofs (maxSteps:=99999999) (disch:=first | omega | (simp only[vl];first | done | omega)) only[vu,k2,k3,va,vg,vs,vw,vk,simprocAttr]
 refine hL _ _ ?_
 clear hL
 simp -implicitDefEqProofs (maxSteps:=99999999) (disch:=first | omega | (simp only[vl];first | done | omega)) only[vu,va,vg,vs,vw,vk,simprocAttr]
 rw[show e.inv=⟨e.k,e.path,e.at_,e.far,e.to_,e.fr,e.new,e.old⟩ by simp[Ed.inv,k5,k2,k3]]
 exact weak_over (by repeat constructor) (edV_fz ⟨e.k,e.path,e.at_,e.far,e.to_,e.fr,e.new,e.old⟩)
set_option maxHeartbeats 0 in
theorem pright_d (p : Pa) (hs : p.sm) (H : AHeap) : D Tryz.prog 25 [paV p] H (.ret (.sc (.bool (rightP p)))) H:=by
 have hsm:=fun H=>psame_d p (bareP p) hs H
 have hso:=hs
 obtain ⟨s1,s2,s3,s4⟩:=hs
 have hn:=fun H=>pnameG_d p.file s1 H
 have hh:=fun H=>right_d p.h none none H s3
 have he:=fun H=>rightE_d p.e s4 H
 refine D_of_DK (Nat.le_refl _) (dk25 (E_of_ES ?_))
 simp only[ic25,ux]
 refine ES_seq_gen fun L hL=>?_
 simp -implicitDefEqProofs (maxSteps:=99999999) (disch:=first | omega | (simp only[vl];first | done | omega)) only[vu,va,vg,vs,vw,vk,simprocAttr]
 refine hL _ _ ?_
 clear hL
 refine ES_seq_gen fun L hL=>?_
 simp -implicitDefEqProofs (maxSteps:=99999999) (disch:=first | omega | (simp only[vl];first | done | omega)) only[vu,va,vg,vs,vw,vk,simprocAttr]
 refine hL _ _ ?_
 clear hL
 refine ES_seq_gen fun L hL=>?_
 simp -implicitDefEqProofs (maxSteps:=99999999) (disch:=first | omega | (simp only[vl];first | done | omega)) only[vu,va,vg,vs,vw,vk,simprocAttr]
 refine hL _ _ ?_
 clear hL
 refine ES_seq_gen fun L hL=>?_
 by_cases k1 : p.k=1
 ·skip
  simp -implicitDefEqProofs (maxSteps:=99999999) (disch:=first | omega | (simp only[vl];first | done | omega)) only[vu,iqT k1,va,vg,vs,vw,vk,simprocAttr]
  refine hL _ _ ?_
  clear hL
  simp -implicitDefEqProofs (maxSteps:=99999999) (disch:=first | omega | (simp only[vl];first | done | omega)) only[vu,va,vg,vs,vw,vk,simprocAttr]
  refine callR_ret (hn _) ?_
  cases hf : nmQ p.file with
  | false =>
   simp -implicitDefEqProofs (maxSteps:=99999999) (disch:=first | omega | (simp only[vl];first | done | omega)) only[vu,va,vg,vs,vw,vk,simprocAttr]
   exact over_bN (by repeat constructor) (by simp[rightP,okP,k1,hf])
  | true =>
   simp -implicitDefEqProofs (maxSteps:=99999999) (disch:=first | omega | (simp only[vl];first | done | omega)) only[vu,va,vg,vs,vw,vk,simprocAttr]
   have hb : bareP p=⟨p.k,p.file,p.text,.zero,.zero⟩:=by simp[bareP,k1]
   rw[hb] at hsm
   skip
   refine callR_ret (D_le (.cons .refl (.cons (.agg (.cons .refl (.cons .refl (.cons .refl (.cons .refl (.cons .nil (.cons .nil (.cons .refl (.cons .nil (.cons .refl (.cons .refl (.cons .refl (.cons .refl (.cons .nil (.cons .nil (.nil)))))))))))))))) .nil)) (hsm _)) ?_
   simp -implicitDefEqProofs (maxSteps:=99999999) (disch:=first | omega | (simp only[vl];first | done | omega)) only[vu,va,vg,vs,vw,vk,simprocAttr]
   exact over_bN (by repeat constructor) (by rw[← hb];simp[rightP,okP,k1,hf])
 by_cases k2 : p.k=2
 ·skip
  simp -implicitDefEqProofs (maxSteps:=99999999) (disch:=first | omega | (simp only[vl];first | done | omega)) only[vu,iqF k1,iqT k2,va,vg,vs,vw,vk,simprocAttr]
  refine hL _ _ ?_
  clear hL
  simp -implicitDefEqProofs (maxSteps:=99999999) (disch:=first | omega | (simp only[vl];first | done | omega)) only[vu,va,vg,vs,vw,vk,simprocAttr]
  refine callR_ret (hn _) ?_
  cases hf : nmQ p.file with
  | false =>
   simp -implicitDefEqProofs (maxSteps:=99999999) (disch:=first | omega | (simp only[vl];first | done | omega)) only[vu,va,vg,vs,vw,vk,simprocAttr]
   exact over_bN (by repeat constructor) (by simp[rightP,okP,k1,k2,hf])
  | true =>
   simp -implicitDefEqProofs (maxSteps:=99999999) (disch:=first | omega | (simp only[vl];first | done | omega)) only[vu,va,vg,vs,vw,vk,simprocAttr]
   have hb : bareP p=⟨p.k,p.file,p.text,.zero,.zero⟩:=by simp[bareP,k1,k2]
   rw[hb] at hsm
   skip
   refine callR_ret (D_le (.cons .refl (.cons (.agg (.cons .refl (.cons .refl (.cons .refl (.cons .refl (.cons .nil (.cons .nil (.cons .refl (.cons .nil (.cons .refl (.cons .refl (.cons .refl (.cons .refl (.cons .nil (.cons .nil (.nil)))))))))))))))) .nil)) (hsm _)) ?_
   simp -implicitDefEqProofs (maxSteps:=99999999) (disch:=first | omega | (simp only[vl];first | done | omega)) only[vu,va,vg,vs,vw,vk,simprocAttr]
   exact over_bN (by repeat constructor) (by rw[← hb];simp[rightP,okP,k1,k2,hf])
 by_cases k3 : p.k=3
 ·skip
  simp -implicitDefEqProofs (maxSteps:=99999999) (disch:=first | omega | (simp only[vl];first | done | omega)) only[vu,iqF k1,iqF k2,iqT k3,va,vg,vs,vw,vk,simprocAttr]
  refine callD_same (hh _) ?_
  simp -implicitDefEqProofs (maxSteps:=99999999) (disch:=first | omega | (simp only[vl];first | done | omega)) only[vu,va,vg,vs,vw,vk,simprocAttr]
  refine hL _ _ ?_
  clear hL
  cases ok : rightB p.h with
  | false =>
   simp -implicitDefEqProofs (maxSteps:=99999999) (disch:=first | omega | (simp only[vl];first | done | omega)) only[vu,ok,va,vg,vs,vw,vk,simprocAttr]
   exact over_bN (by repeat constructor) (by simp[rightP,okP,k1,k2,k3,ok])
  | true =>
   simp -implicitDefEqProofs (maxSteps:=99999999) (disch:=first | omega | (simp only[vl];first | done | omega)) only[vu,ok,va,vg,vs,vw,vk,simprocAttr]
   refine callR_ret (hn _) ?_
   cases hf : nmQ p.file with
   | false =>
    simp -implicitDefEqProofs (maxSteps:=99999999) (disch:=first | omega | (simp only[vl];first | done | omega)) only[vu,va,vg,vs,vw,vk,simprocAttr]
    exact over_bN (by repeat constructor) (by simp[rightP,okP,k1,k2,k3,ok,hf])
   | true =>
    simp -implicitDefEqProofs (maxSteps:=99999999) (disch:=first | omega | (simp only[vl];first | done | omega)) only[vu,va,vg,vs,vw,vk,simprocAttr]
    have hb : bareP p=⟨p.k,p.file,ez,p.h,.zero⟩:=by simp[bareP,k1,k2,k3]
    rw[hb] at hsm
    skip
    refine callR_ret (D_le (.cons .refl (.cons (.agg (.cons .refl (.cons .refl (.cons .refl (.cons .refl (.cons .refl (.cons .refl (.cons .refl (.cons .nil (.cons .refl (.cons .refl (.cons .refl (.cons .refl (.cons .nil (.cons .nil (.nil)))))))))))))))) .nil)) (hsm _)) ?_
    simp -implicitDefEqProofs (maxSteps:=99999999) (disch:=first | omega | (simp only[vl];first | done | omega)) only[vu,va,vg,vs,vw,vk,simprocAttr]
    exact over_bN (by repeat constructor) (by rw[← hb];simp[rightP,okP,k1,k2,k3,ok,hf])
 by_cases k4 : p.k=4
 ·skip
  simp -implicitDefEqProofs (maxSteps:=99999999) (disch:=first | omega | (simp only[vl];first | done | omega)) only[vu,iqF k1,iqF k2,iqF k3,iqT k4,va,vg,vs,vw,vk,simprocAttr]
  refine callD_same (he _) ?_
  simp -implicitDefEqProofs (maxSteps:=99999999) (disch:=first | omega | (simp only[vl];first | done | omega)) only[vu,va,vg,vs,vw,vk,simprocAttr]
  refine hL _ _ ?_
  clear hL
  cases ok : rightE p.e with
  | false =>
   simp -implicitDefEqProofs (maxSteps:=99999999) (disch:=first | omega | (simp only[vl];first | done | omega)) only[vu,ok,va,vg,vs,vw,vk,simprocAttr]
   exact over_bN (by repeat constructor) (by simp[rightP,okP,k1,k2,k3,k4,ok])
  | true =>
   simp -implicitDefEqProofs (maxSteps:=99999999) (disch:=first | omega | (simp only[vl];first | done | omega)) only[vu,ok,va,vg,vs,vw,vk,simprocAttr]
   refine callR_ret (hn _) ?_
   cases hf : nmQ p.file with
   | false =>
    simp -implicitDefEqProofs (maxSteps:=99999999) (disch:=first | omega | (simp only[vl];first | done | omega)) only[vu,va,vg,vs,vw,vk,simprocAttr]
    exact over_bN (by repeat constructor) (by simp[rightP,okP,k1,k2,k3,k4,ok,hf])
   | true =>
    simp -implicitDefEqProofs (maxSteps:=99999999) (disch:=first | omega | (simp only[vl];first | done | omega)) only[vu,va,vg,vs,vw,vk,simprocAttr]
    have hb : bareP p=⟨p.k,p.file,ez,.zero,p.e⟩:=by simp[bareP,k1,k2,k3,k4]
    rw[hb] at hsm
    skip
    refine callR_ret (D_le (.cons .refl (.cons (.agg (.cons .refl (.cons .refl (.cons .refl (.cons .refl (.cons .nil (.cons .nil (.cons .refl (.cons .refl (.cons .refl (.cons .refl (.cons .refl (.cons .refl (.cons .refl (.cons .refl (.nil)))))))))))))))) .nil)) (hsm _)) ?_
    simp -implicitDefEqProofs (maxSteps:=99999999) (disch:=first | omega | (simp only[vl];first | done | omega)) only[vu,va,vg,vs,vw,vk,simprocAttr]
    exact over_bN (by repeat constructor) (by rw[← hb];simp[rightP,okP,k1,k2,k3,k4,ok,hf])
 simp -implicitDefEqProofs (maxSteps:=99999999) (disch:=first | omega | (simp only[vl];first | done | omega)) only[vu,iqF k1,iqF k2,iqF k3,iqF k4,va,vg,vs,vw,vk,simprocAttr]
 refine hL _ _ ?_
 clear hL
 simp -implicitDefEqProofs (maxSteps:=99999999) (disch:=first | omega | (simp only[vl];first | done | omega)) only[vu,iqF k1,iqF k2,iqF k3,iqF k4,va,vg,vs,vw,vk,simprocAttr]
 exact over_bN (by repeat constructor) (by simp[rightP,okP,k1,k2,k3,k4])
set_option maxHeartbeats 0 in
theorem pinv_d (p : Pa) (hr : rightP p=true) (hs : p.sm) (H : AHeap) : D Tryz.prog 65 [paV p] H (.ret (paV p.inv)) H:=by
 have hq:=fun H=>pright_d p hs H
 obtain ⟨s1,s2,s3,s4⟩:=hs
 have hh:=fun H=>hinv_d p.h s3 H
 refine D_of_DK (Nat.le_refl _) (dk65 (E_of_ES ?_))
 simp only[ic65,ux]
 refine ES_seq_gen fun L hL=>?_
 simp -implicitDefEqProofs (maxSteps:=99999999) (disch:=first | omega | (simp only[vl];first | done | omega)) only[vu,va,vg,vs,vw,vk,simprocAttr]
 refine hL _ _ ?_
 clear hL
 refine ES_seq_gen fun L hL=>?_
 simp -implicitDefEqProofs (maxSteps:=99999999) (disch:=first | omega | (simp only[vl];first | done | omega)) only[vu,va,vg,vs,vw,vk,simprocAttr]
 refine callR_ret (hq _) ?_
 simp -implicitDefEqProofs (maxSteps:=99999999) (disch:=first | omega | (simp only[vl];first | done | omega)) only[vu,hr,va,vg,vs,vw,vk,simprocAttr]
 refine hL _ _ ?_
 clear hL
 refine ES_seq_gen fun L hL=>?_
 by_cases k1 : p.k=1
 ·have hi : p.inv={ p with k:=2 }:=by simp[Pa.inv,k1]
  simp -implicitDefEqProofs (maxSteps:=99999999) (disch:=first | omega | (simp only[vl];first | done | omega)) only[vu,k1,va,vg,vs,vw,vk,simprocAttr]
  refine hL _ _ ?_
  clear hL
  simp -implicitDefEqProofs (maxSteps:=99999999) (disch:=first | omega | (simp only[vl];first | done | omega)) only[vu,va,vg,vs,vw,vk,simprocAttr]
  rw[hi]
  exact weak_over (by repeat constructor) (paV_fz { p with k:=2 })
 by_cases k2 : p.k=2
 ·have hi : p.inv={ p with k:=1 }:=by simp[Pa.inv,k2]
  simp -implicitDefEqProofs (maxSteps:=99999999) (disch:=first | omega | (simp only[vl];first | done | omega)) only[vu,k1,k2,va,vg,vs,vw,vk,simprocAttr]
  refine hL _ _ ?_
  clear hL
  simp -implicitDefEqProofs (maxSteps:=99999999) (disch:=first | omega | (simp only[vl];first | done | omega)) only[vu,va,vg,vs,vw,vk,simprocAttr]
  rw[hi]
  exact weak_over (by repeat constructor) (paV_fz { p with k:=1 })
 by_cases k3 : p.k=3
 ·have hi : p.inv={ p with h:=p.h.turn }:=by simp[Pa.inv,k3]
  simp -implicitDefEqProofs (maxSteps:=99999999) (disch:=first | omega | (simp only[vl];first | done | omega)) only[vu,k1,k2,k3,va,vg,vs,vw,vk,simprocAttr]
  refine callR_ret (hh _) ?_
  simp -implicitDefEqProofs (maxSteps:=99999999) (disch:=first | omega | (simp only[vl];first | done | omega)) only[vu,va,vg,vs,vw,vk,simprocAttr]
  refine hL _ _ ?_
  clear hL
  simp -implicitDefEqProofs (maxSteps:=99999999) (disch:=first | omega | (simp only[vl];first | done | omega)) only[vu,va,vg,vs,vw,vk,simprocAttr]
  rw[hi]
  exact weak_over (by repeat constructor) (paV_fz { p with h:=p.h.turn })
 by_cases k4 : p.k=4
 ·have hi : p.inv={ p with e:=p.e.inv }:=by simp[Pa.inv,k4]
  have hre : rightE p.e=true:=by
   simp only[rightP,okP,Bool.and_eq_true] at hr
   have:=hr.1
   simpa [k1,k2,k3,k4] using this
  have he:=fun H=>einv_d p.e hre s4 H
  simp -implicitDefEqProofs (maxSteps:=99999999) (disch:=first | omega | (simp only[vl];first | done | omega)) only[vu,k1,k2,k3,k4,va,vg,vs,vw,vk,simprocAttr]
  refine callR_ret (he _) ?_
  simp -implicitDefEqProofs (maxSteps:=99999999) (disch:=first | omega | (simp only[vl];first | done | omega)) only[vu,va,vg,vs,vw,vk,simprocAttr]
  refine hL _ _ ?_
  clear hL
  simp -implicitDefEqProofs (maxSteps:=99999999) (disch:=first | omega | (simp only[vl];first | done | omega)) only[vu,va,vg,vs,vw,vk,simprocAttr]
  rw[hi]
  exact weak_over (by repeat constructor) (paV_fz { p with e:=p.e.inv })
 simp[rightP,okP,k1,k2,k3,k4] at hr
set_option maxHeartbeats 0 in
theorem own_d (p : Pa) (hr : rightP p=true) (hs : p.sm) (H : AHeap) : D Tryz.prog 43 [paV p] H (.ret (paV p)) H:=by
 have h1:=fun H=>pinv_d p hr hs H
 have h2:=fun H=>pinv_d p.inv (rightP_inv p hr) (Pa.inv_sm hs) H
 rw[Pa.inv_inv] at h2
 refine D_of_DK (Nat.le_refl _) (dk43 (E_of_ES ?_))
 simp only[ic43,ux]
 simp -implicitDefEqProofs (maxSteps:=99999999) (disch:=first | omega | (simp only[vl];first | done | omega)) only[vu,va,vg,vs,vw,vk,simprocAttr]
 refine callR_ret (h1 _) ?_
 simp -implicitDefEqProofs (maxSteps:=99999999) (disch:=first | omega | (simp only[vl];first | done | omega)) only[vu,va,vg,vs,vw,vk,simprocAttr]
 refine callR_ret (h2 _) ?_
 simp -implicitDefEqProofs (maxSteps:=99999999) (disch:=first | omega | (simp only[vl];first | done | omega)) only[vu,va,vg,vs,vw,vk,simprocAttr]
 exact weak_over (by repeat constructor) (paV_fz p)
set_option maxHeartbeats 0 in
theorem ksameE_d (a b : Ed) (hs : a.sm) (H : AHeap) : D Tryz.prog 45 [edV a,edV b] H (.ret (.sc (.bool (sameE a b)))) H:=by
 obtain ⟨s1,s2,s3,s4,s5,s6,s7⟩:=hs
 have hi:=fun H=>sameInts_d a.path b.path none none H (by omega)
 have ho:=fun H=>sameNodes_d a.old b.old s4 none none H
 have hn:=fun H=>sameNodes_d a.new b.new s5 none none H
 have hS : sameE a b=(decide (a.k=b.k) && (decide (a.path=b.path) && (decide (a.at_=b.at_) && (decide (a.far=b.far) && (decide (a.fr=b.fr) && (decide (a.to_=b.to_) && (sameL a.old b.old && sameL a.new b.new))))))):=rfl
 refine D_of_DK (Nat.le_refl _) (dk45 (E_of_ES ?_))
 simp only[ic45,ux]
 refine ES_seq_gen fun L hL=>?_
 simp -implicitDefEqProofs (maxSteps:=99999999) (disch:=first | omega | (simp only[vl];first | done | omega)) only[vu,va,vg,vs,vw,vk,simprocAttr]
 refine hL _ _ ?_
 clear hL
 by_cases c1 : a.k=b.k
 rotate_left
 ·simp -implicitDefEqProofs (maxSteps:=99999999) (disch:=first | omega | (simp only[vl];first | done | omega)) only[vu,c1,va,vg,vs,vw,vk,simprocAttr]
  exact over_bN (by repeat constructor) (by rw[hS];simp[c1])
 simp -implicitDefEqProofs (maxSteps:=99999999) (disch:=first | omega | (simp only[vl];first | done | omega)) only[vu,c1,va,vg,vs,vw,vk,simprocAttr]
 refine callR_ret (hi _) ?_
 by_cases c2 : a.path=b.path
 rotate_left
 ·simp -implicitDefEqProofs (maxSteps:=99999999) (disch:=first | omega | (simp only[vl];first | done | omega)) only[vu,c2,va,vg,vs,vw,vk,simprocAttr]
  exact over_bN (by repeat constructor) (by rw[hS];simp[c2])
 by_cases c3 : a.at_=b.at_
 rotate_left
 ·simp -implicitDefEqProofs (maxSteps:=99999999) (disch:=first | omega | (simp only[vl];first | done | omega)) only[vu,c2,c3,va,vg,vs,vw,vk,simprocAttr]
  exact over_bN (by repeat constructor) (by rw[hS];simp[c3])
 by_cases c4 : a.far=b.far
 rotate_left
 ·simp -implicitDefEqProofs (maxSteps:=99999999) (disch:=first | omega | (simp only[vl];first | done | omega)) only[vu,c2,c3,c4,va,vg,vs,vw,vk,simprocAttr]
  exact over_bN (by repeat constructor) (by rw[hS];simp[c4])
 by_cases c5 : a.fr=b.fr
 rotate_left
 ·simp -implicitDefEqProofs (maxSteps:=99999999) (disch:=first | omega | (simp only[vl];first | done | omega)) only[vu,c2,c3,c4,c5,va,vg,vs,vw,vk,simprocAttr]
  exact over_bN (by repeat constructor) (by rw[hS];simp[c5])
 by_cases c6 : a.to_=b.to_
 rotate_left
 ·simp -implicitDefEqProofs (maxSteps:=99999999) (disch:=first | omega | (simp only[vl];first | done | omega)) only[vu,c2,c3,c4,c5,c6,va,vg,vs,vw,vk,simprocAttr]
  exact over_bN (by repeat constructor) (by rw[hS];simp[c6])
 simp -implicitDefEqProofs (maxSteps:=99999999) (disch:=first | omega | (simp only[vl];first | done | omega)) only[vu,c2,c3,c4,c5,c6,va,vg,vs,vw,vk,simprocAttr]
 refine callR_ret (ho _) ?_
 cases d1 : sameL a.old b.old with
 | false =>
  simp -implicitDefEqProofs (maxSteps:=99999999) (disch:=first | omega | (simp only[vl];first | done | omega)) only[vu,va,vg,vs,vw,vk,simprocAttr]
  exact over_bN (by repeat constructor) (by rw[hS];simp[d1])
 | true =>
  simp -implicitDefEqProofs (maxSteps:=99999999) (disch:=first | omega | (simp only[vl];first | done | omega)) only[vu,va,vg,vs,vw,vk,simprocAttr]
  refine callR_ret (hn _) ?_
  simp -implicitDefEqProofs (maxSteps:=99999999) (disch:=first | omega | (simp only[vl];first | done | omega)) only[vu,va,vg,vs,vw,vk,simprocAttr]
  exact over_bN (by repeat constructor) (by rw[hS];simp[c1,c2,c3,c4,c5,c6,d1])
set_option maxHeartbeats 0 in
theorem ksame_d (a b : Pa) (hs : a.sm) (H : AHeap) : D Tryz.prog 20 [paV a,paV b] H (.ret (.sc (.bool (sameP a b)))) H:=by
 obtain ⟨s1,s2,s3,s4⟩:=hs
 have hh:=fun H=>sameHunk_d a.h b.h none none none none H ⟨s3.1.1,s3.2.1⟩
 have he:=fun H=>ksameE_d a.e b.e s4 H
 have hS : sameP a b=(decide (a.k=b.k) && (decide (a.file=b.file) && (decide (a.text=b.text) && (sameH a.h b.h && sameE a.e b.e)))):=rfl
 refine D_of_DK (Nat.le_refl _) (dk20 (E_of_ES ?_))
 simp only[ic20,ux]
 refine ES_seq_gen fun L hL=>?_
 simp -implicitDefEqProofs (maxSteps:=99999999) (disch:=first | omega | (simp only[vl];first | done | omega)) only[vu,va,vg,vs,vw,vk,simprocAttr]
 refine hL _ _ ?_
 clear hL
 by_cases c1 : a.k=b.k
 rotate_left
 ·simp -implicitDefEqProofs (maxSteps:=99999999) (disch:=first | omega | (simp only[vl];first | done | omega)) only[vu,c1,va,vg,vs,vw,vk,simprocAttr]
  exact over_bN (by repeat constructor) (by rw[hS];simp[c1])
 by_cases c2 : a.file=b.file
 rotate_left
 ·simp -implicitDefEqProofs (maxSteps:=99999999) (disch:=first | omega | (simp only[vl];first | done | omega)) only[vu,c1,c2,va,vg,vs,vw,vk,simprocAttr]
  exact over_bN (by repeat constructor) (by rw[hS];simp[c2])
 by_cases c3 : a.text=b.text
 rotate_left
 ·simp -implicitDefEqProofs (maxSteps:=99999999) (disch:=first | omega | (simp only[vl];first | done | omega)) only[vu,c1,c2,c3,va,vg,vs,vw,vk,simprocAttr]
  exact over_bN (by repeat constructor) (by rw[hS];simp[c3])
 simp -implicitDefEqProofs (maxSteps:=99999999) (disch:=first | omega | (simp only[vl];first | done | omega)) only[vu,c1,c2,c3,va,vg,vs,vw,vk,simprocAttr]
 refine callR_ret (hh _) ?_
 cases d1 : sameH a.h b.h with
 | false =>
  simp -implicitDefEqProofs (maxSteps:=99999999) (disch:=first | omega | (simp only[vl];first | done | omega)) only[vu,va,vg,vs,vw,vk,simprocAttr]
  exact over_bN (by repeat constructor) (by rw[hS];simp[d1])
 | true =>
  simp -implicitDefEqProofs (maxSteps:=99999999) (disch:=first | omega | (simp only[vl];first | done | omega)) only[vu,va,vg,vs,vw,vk,simprocAttr]
  refine callR_ret (he _) ?_
  simp -implicitDefEqProofs (maxSteps:=99999999) (disch:=first | omega | (simp only[vl];first | done | omega)) only[vu,va,vg,vs,vw,vk,simprocAttr]
  exact over_bN (by repeat constructor) (by rw[hS];simp[c1,c2,c3,d1])
end Go.Proofs.YtdjnccnecgblmaaGreatDoor
namespace Go.Proofs.YtdjnccnecgblmaaGreatDoor
open Go.RowKit
set_option maxRecDepth 100000
set_option linter.unusedVariables false
set_option linter.unusedSimpArgs false
def editOf (e : Ed) (most : Int) : Int:=bulkL e.new most (bulkL e.old most (1+e.path.length+((e.fr.size+e.to_.size) / 8 : Nat)))
def patchN (p : Pa) (most : Int) : Int:=1+((p.file.size+p.text.size) / 8 : Nat)+textsOf p.h.old most+textsOf p.h.new most
def patchOf (p : Pa) (most : Int) : Int:=if patchN p most > most then patchN p most else patchN p most+editOf p.e (most - patchN p most)
def nmdL (most : Int) : List Nm→Int→Int
 | [],n=>n
 | x :: r,n=>if n ≤ most then nmdL most r (n+1+(x.1.size / 8 : Nat)+patchOf x.2 (most - n)) else n
def namedOf (l : List Nm) (most : Int) : Int:=nmdL most l 0
theorem bulkL_hi (l : List Nd) (most : Int) : ∀ c,bulkL l most c ≤ c+Nd.wtL l:=by
 induction l with
 | nil=>intro c;simp[bulkL,Nd.wtL]
 | cons x r ih =>
  intro c
  unfold bulkL
  simp only[Nd.wtL]
  split
  ·have:=ih (c+bulk x (most - c))
   have:=bulk_hi x (most - c)
   omega
  ·omega
theorem editOf_rng {e : Ed} (hs : e.sm) (most : Int) : 0 ≤ editOf e most ∧ editOf e most ≤ 40000000:=by
 obtain ⟨s1,s2,s3,s4,s5,s6,s7⟩:=hs
 unfold editOf
 have h1:=bulkL_ge most e.old (1+e.path.length+((e.fr.size+e.to_.size) / 8 : Nat))
 have h2:=bulkL_hi e.old most (1+e.path.length+((e.fr.size+e.to_.size) / 8 : Nat))
 have h3:=bulkL_ge most e.new (bulkL e.old most (1+e.path.length+((e.fr.size+e.to_.size) / 8 : Nat)))
 have h4:=bulkL_hi e.new most (bulkL e.old most (1+e.path.length+((e.fr.size+e.to_.size) / 8 : Nat)))
 omega
theorem patchN_rng {p : Pa} (hs : p.sm) {most : Int} (hm : 0 ≤ most ∧ most ≤ 1000000) : 0 ≤ patchN p most ∧ patchN p most ≤ 300000000:=by
 obtain ⟨s1,s2,s3,s4⟩:=hs
 have h1:=textsOf_rng s3.1 hm
 have h2:=textsOf_rng s3.2 hm
 unfold patchN
 omega
theorem patchOf_rng {p : Pa} (hs : p.sm) {most : Int} (hm : 0 ≤ most ∧ most ≤ 1000000) : 0 ≤ patchOf p most ∧ patchOf p most ≤ 400000000:=by
 have h1:=patchN_rng hs hm
 have h2:=editOf_rng hs.2.2.2 (most - patchN p most)
 unfold patchOf
 split <;> omega
theorem tdiv8n (a b : Nat) : ((a : Int)+(b : Int)).tdiv 8=((a+b) / 8 : Nat):=by
 rw[Int.tdiv_eq_ediv_of_nonneg (by omega)]
 omega
theorem tdiv8m (a : Nat) : (a : Int).tdiv 8=(a / 8 : Nat):=by
 rw[Int.tdiv_eq_ediv_of_nonneg (by omega)]
 omega
set_option maxHeartbeats 0 in
theorem editOf_d (e : Ed) (hs : e.sm) (most : Int) (hm : 0 ≤ most ∧ most ≤ 1000000) (H : AHeap) : D Tryz.prog 102 [edV e,.sc (.int .i64 most)] H (.ret (.sc (.int .i64 (editOf e most)))) H:=by
 have hrng:=editOf_rng hs most
 have hso:=hs
 obtain ⟨s1,s2,s3,s4,s5,s6,s7⟩:=hs
 have hq:=tdiv8n e.fr.size e.to_.size
 have hlo1:=Nd.len_le e.old
 have hln1:=Nd.len_le e.new
 have hE : editOf e most=bulkL e.new most (bulkL e.old most (1+e.path.length+((e.fr.size+e.to_.size) / 8 : Nat))):=rfl
 refine D_of_DK (Nat.le_refl _) (dk102 (E_of_ES ?_))
 simp only[ic102,ux]
 refine ES_seq_gen fun L hL=>?_
 simp -implicitDefEqProofs (maxSteps:=99999999) (disch:=first | omega | (simp only[vl];first | done | omega)) only[vu,va,vg,vs,vw,vk,simprocAttr]
 refine hL _ _ ?_
 clear hL
 refine ES_seq_gen fun L hL=>?_
 simp -implicitDefEqProofs (maxSteps:=99999999) (disch:=first | omega | (simp only[vl];first | done | omega)) only[vu,hq,pthA_length,va,vg,vs,vw,vk,simprocAttr]
 obtain ⟨n0,hn0⟩ : ∃ n0 : Int,n0=1+e.path.length+((e.fr.size+e.to_.size) / 8 : Nat):=⟨_,rfl⟩
 rw[← hn0] at hE ⊢
 have hn1 : 0 ≤ n0 ∧ n0 ≤ 30000000:=by omega
 clear hn0 hq
 refine hL _ _ ?_
 clear hL
 refine ES_seq_gen fun L hL=>?_
 refine ES_seq_gen fun L hL=>?_
 simp -implicitDefEqProofs (maxSteps:=99999999) (disch:=first | omega | (simp only[vl];first | done | omega)) only[vu,va,vg,vs,vw,vk,simprocAttr]
 refine hL _ _ ?_
 clear hL
 clear L
 have hc1 : n0 ≤ bulkL e.old most n0 ∧ bulkL e.old most n0 ≤ n0+Nd.wtL e.old:=⟨bulkL_ge _ _ _,bulkL_hi _ _ _⟩
 suffices key : ∀ ts,Fr [none,some (.sc (.int .i64 most)),some (.ptr 8 H.length 0 0),none,none,some (.sc (.int .i64 (bulkL e.old most n0))),none,none,none,none,none,none,none,none,none,none,none,none,none,none,none,none,none,none,none,none,none,none,none,none,none,none,none,none,none,none,none,none,none,none,none,none,none,none,none,none,none,none,none,none,none,none,none,none,none,none,none,none,none,none,none,none,none,none,none,none,none,none] ts→L ts (some ⟨8,[edV e],true,47⟩ :: H) by
  refine ES_loopL (fun ts F=>∃ (k : Nat) (c : Int),(k ≤ e.old.length ∧ 0 ≤ c ∧ c+Nd.wtL (e.old.drop k) ≤ n0+Nd.wtL e.old ∧ bulkL (e.old.drop k) most c=bulkL e.old most n0) ∧ F=some ⟨8,[edV e],true,47⟩ :: H ∧ Fr [none,some (.sc (.int .i64 most)),some (.ptr 8 H.length 0 0),none,none,some (.sc (.int .i64 c)),some (.sc (.int .i64 k)),none,none,none,none,none,none,none,none,none,none,none,none,none,none,none,none,none,none,none,none,none,none,none,none,none,none,none,none,none,none,none,none,none,none,none,none,none,none,none,none,none,none,none,none,none,none,none,none,none,none,none,none,none,none,none,none,none,none,none,none,none] ts) (fun ts _=>e.old.length - (intV (ts.getD 6 .top)).toNat) ?_ ?_
  ·exact ⟨0,n0,⟨Nat.zero_le _,by omega,by simp,rfl⟩,rfl,by simp[Fr]⟩
  rintro ts F ⟨k,c,⟨hk,hc0,hc1,hb⟩,rfl,hfr⟩ L2 hL2
  obtain ⟨js,rfl⟩:=hfr.opened
  clear hfr
  by_cases hd : k < e.old.length
  ·have d1 : (k : Int) < e.old.length:=by omega
   have hg:=ndL_get hd
   have hmem:=nthN_mem hd
   have hwm:=Nd.wtL_mem hmem
   rw[bulkL_drop hd] at hb
   rw[wtL_drop hd] at hc1
   by_cases d2 : c ≤ most
   ·rw[if_pos d2] at hb
    have hi:=fun H=>nodesOf_d (nthN e.old k) none (most - c) (by omega) (by omega) H
    have hhi:=bulk_hi (nthN e.old k) (most - c)
    have hlo:=bulk_lo (nthN e.old k) (most - c)
    rw[ndR_eq] at hi
    simp -implicitDefEqProofs (maxSteps:=99999999) (disch:=first | omega | (simp only[vl];first | done | omega)) only[mk,d1,d2,hg,ndL_length,va,vg,vs,vw,vk,simprocAttr]
    refine ⟨by omega,callR_ret (hi _) ?_⟩
    simp -implicitDefEqProofs (maxSteps:=99999999) (disch:=first | omega | (simp only[vl];first | done | omega)) only[vu,va,vg,vs,vw,vk,simprocAttr]
    exact hL2 _ _ ⟨k+1,_,⟨by omega,by omega,by omega,hb⟩,rfl,by simp[Fr]⟩ (by simp[intV,mk];omega)
   ·rw[if_neg d2] at hb
    simp -implicitDefEqProofs (maxSteps:=99999999) (disch:=first | omega | (simp only[vl];first | done | omega)) only[mk,d1,d2,ndL_length,va,vg,vs,vw,vk,simprocAttr]
    clear hL2
    rw[hb]
    refine key _ ?_
    simp[Fr]
  ·have d1 : ¬ (k : Int) < e.old.length:=by omega
   have en : e.old.drop k=[]:=List.drop_of_length_le (by omega)
   rw[en] at hb
   simp only[bulkL] at hb
   simp -implicitDefEqProofs (maxSteps:=99999999) (disch:=first | omega | (simp only[vl];first | done | omega)) only[mk,d1,ndL_length,va,vg,vs,vw,vk,simprocAttr]
   clear hL2
   rw[hb]
   refine key _ ?_
   simp[Fr]
 intro ts hfr
 obtain ⟨js,rfl⟩:=hfr.opened
 clear hfr
 generalize bulkL e.old most n0=c1 at *
 refine hL _ _ ?_
 clear hL
 refine ES_seq_gen fun L hL=>?_
 refine ES_seq_gen fun L hL=>?_
 simp -implicitDefEqProofs (maxSteps:=99999999) (disch:=first | omega | (simp only[vl];first | done | omega)) only[mk,vu,va,vg,vs,vw,vk,simprocAttr]
 refine hL _ _ ?_
 clear hL
 refine ES_loopL (fun ts F=>∃ (k : Nat) (c : Int),(k ≤ e.new.length ∧ 0 ≤ c ∧ c+Nd.wtL (e.new.drop k) ≤ c1+Nd.wtL e.new ∧ bulkL (e.new.drop k) most c=bulkL e.new most c1) ∧ F=some ⟨8,[edV e],true,47⟩ :: H ∧ Fr [none,some (.sc (.int .i64 most)),some (.ptr 8 H.length 0 0),none,none,some (.sc (.int .i64 c)),none,some (.sc (.int .i64 k)),none,none,none,none,none,none,none,none,none,none,none,none,none,none,none,none,none,none,none,none,none,none,none,none,none,none,none,none,none,none,none,none,none,none,none,none,none,none,none,none,none,none,none,none,none,none,none,none,none,none,none,none,none,none,none,none,none,none,none,none] ts) (fun ts _=>e.new.length - (intV (ts.getD 7 .top)).toNat) ?_ ?_
 ·exact ⟨0,c1,⟨Nat.zero_le _,by omega,by simp,rfl⟩,rfl,by simp[Fr]⟩
 rintro ts F ⟨k,c,⟨hk,hc0,hc1,hb⟩,rfl,hfr⟩ L2 hL2
 obtain ⟨js,rfl⟩:=hfr.opened
 clear hfr
 by_cases hd : k < e.new.length
 ·have d1 : (k : Int) < e.new.length:=by omega
  have hg:=ndL_get hd
  have hmem:=nthN_mem hd
  have hwm:=Nd.wtL_mem hmem
  rw[bulkL_drop hd] at hb
  rw[wtL_drop hd] at hc1
  by_cases d2 : c ≤ most
  ·rw[if_pos d2] at hb
   have hi:=fun H=>nodesOf_d (nthN e.new k) none (most - c) (by omega) (by omega) H
   have hhi:=bulk_hi (nthN e.new k) (most - c)
   have hlo:=bulk_lo (nthN e.new k) (most - c)
   rw[ndR_eq] at hi
   simp -implicitDefEqProofs (maxSteps:=99999999) (disch:=first | omega | (simp only[vl];first | done | omega)) only[mk,d1,d2,hg,ndL_length,va,vg,vs,vw,vk,simprocAttr]
   refine ⟨by omega,callR_ret (hi _) ?_⟩
   simp -implicitDefEqProofs (maxSteps:=99999999) (disch:=first | omega | (simp only[vl];first | done | omega)) only[vu,va,vg,vs,vw,vk,simprocAttr]
   exact hL2 _ _ ⟨k+1,_,⟨by omega,by omega,by omega,hb⟩,rfl,by simp[Fr]⟩ (by simp[intV,mk];omega)
  ·rw[if_neg d2] at hb
   simp -implicitDefEqProofs (maxSteps:=99999999) (disch:=first | omega | (simp only[vl];first | done | omega)) only[mk,d1,d2,ndL_length,va,vg,vs,vw,vk,simprocAttr]
   clear hL2
   refine hL _ _ ?_
   clear hL
   simp -implicitDefEqProofs (maxSteps:=99999999) (disch:=first | omega | (simp only[vl];first | done | omega)) only[vu,va,vg,vs,vw,vk,simprocAttr]
   rw[hb,← hE]
   exact weak_sc (.cons .refl)
 ·have d1 : ¬ (k : Int) < e.new.length:=by omega
  have en : e.new.drop k=[]:=List.drop_of_length_le (by omega)
  rw[en] at hb
  simp only[bulkL] at hb
  simp -implicitDefEqProofs (maxSteps:=99999999) (disch:=first | omega | (simp only[vl];first | done | omega)) only[mk,d1,ndL_length,va,vg,vs,vw,vk,simprocAttr]
  clear hL2
  refine hL _ _ ?_
  clear hL
  simp -implicitDefEqProofs (maxSteps:=99999999) (disch:=first | omega | (simp only[vl];first | done | omega)) only[vu,va,vg,vs,vw,vk,simprocAttr]
  rw[hb,← hE]
  exact weak_sc (.cons .refl)
set_option maxHeartbeats 0 in
theorem patchOf_d (p : Pa) (hs : p.sm) (most : Int) (hm : 0 ≤ most ∧ most ≤ 1000000) (H : AHeap) : D Tryz.prog 53 [paV p,.sc (.int .i64 most)] H (.ret (.sc (.int .i64 (patchOf p most)))) H:=by
 have hr1:=patchN_rng hs hm
 have hr2:=patchOf_rng hs hm
 have hso:=hs
 obtain ⟨s1,s2,s3,s4⟩:=hs
 have ht1:=fun H=>textsOf_d p.h.old none most H s3.1 hm
 have ht2:=fun H=>textsOf_d p.h.new none most H s3.2 hm
 have g1:=textsOf_rng s3.1 hm
 have g2:=textsOf_rng s3.2 hm
 have hq:=tdiv8n p.file.size p.text.size
 have hN : patchN p most=1+((p.file.size+p.text.size) / 8 : Nat)+textsOf p.h.old most+textsOf p.h.new most:=rfl
 have hP : patchOf p most=if patchN p most > most then patchN p most else patchN p most+editOf p.e (most - patchN p most):=rfl
 refine D_of_DK (Nat.le_refl _) (dk53 (E_of_ES ?_))
 simp only[ic53,ux]
 refine ES_seq_gen fun L hL=>?_
 simp -implicitDefEqProofs (maxSteps:=99999999) (disch:=first | omega | (simp only[vl];first | done | omega)) only[vu,va,vg,vs,vw,vk,simprocAttr]
 refine hL _ _ ?_
 clear hL
 refine ES_seq_gen fun L hL=>?_
 simp -implicitDefEqProofs (maxSteps:=99999999) (disch:=first | omega | (simp only[vl];first | done | omega)) only[vu,hq,va,vg,vs,vw,vk,simprocAttr]
 refine callD_same (ht1 _) ?_
 simp -implicitDefEqProofs (maxSteps:=99999999) (disch:=first | omega | (simp only[vl];first | done | omega)) only[vu,va,vg,vs,vw,vk,simprocAttr]
 refine callD_same (ht2 _) ?_
 simp -implicitDefEqProofs (maxSteps:=99999999) (disch:=first | omega | (simp only[vl];first | done | omega)) only[vu,va,vg,vs,vw,vk,simprocAttr]
 rw[← hN]
 refine hL _ _ ?_
 clear hL
 refine ES_seq_gen fun L hL=>?_
 by_cases c : patchN p most > most
 ·rw[if_pos c] at hP
  simp -implicitDefEqProofs (maxSteps:=99999999) (disch:=first | omega | (simp only[vl];first | done | omega)) only[vu,c,va,vg,vs,vw,vk,simprocAttr]
  rw[hP]
  exact weak_sc (.cons .refl)
 rw[if_neg c] at hP
 have he:=fun H=>editOf_d p.e s4 (most - patchN p most) (by omega) H
 simp -implicitDefEqProofs (maxSteps:=99999999) (disch:=first | omega | (simp only[vl];first | done | omega)) only[vu,c,va,vg,vs,vw,vk,simprocAttr]
 refine hL _ _ ?_
 clear hL
 simp -implicitDefEqProofs (maxSteps:=99999999) (disch:=first | omega | (simp only[vl];first | done | omega)) only[vu,va,vg,vs,vw,vk,simprocAttr]
 refine callR_ret (he _) ?_
 simp -implicitDefEqProofs (maxSteps:=99999999) (disch:=first | omega | (simp only[vl];first | done | omega)) only[vu,va,vg,vs,vw,vk,simprocAttr]
 rw[← hP]
 exact weak_sc (.cons .refl)
end Go.Proofs.YtdjnccnecgblmaaGreatDoor
namespace Go.Proofs.YtdjnccnecgblmaaGreatDoor
open Go.RowKit
set_option maxRecDepth 100000
set_option linter.unusedVariables false
set_option linter.unusedSimpArgs false
def pnR (l : List Nm) : List AV:=l.map fun x=>nmV x
theorem pnR_length (l : List Nm) : (pnR l).length=l.length:=by simp[pnR]
def Nm.none : Nm:=(ez,Pa.zero)
def nthM (l : List Nm) (k : Nat) : Nm:=l.getD k Nm.none
theorem nthM_eq {l : List Nm} {k : Nat} (h : k < l.length) : nthM l k=l[k]:=by simp[nthM,List.getD,h]
theorem nthM_mem {l : List Nm} {k : Nat} (h : k < l.length) : nthM l k ∈ l:=by rw[nthM_eq h];exact List.getElem_mem _
theorem pnR_get {l : List Nm} {k : Nat} (h : k < l.length) : (pnR l).getD k .top=nmV (nthM l k):=by simp[pnR,nthM,List.getD,h]
def Nm.sm (x : Nm) : Prop:=x.1.size ≤ 100000000 ∧ x.2.sm
def SmL (l : List Nm) : Prop:=l.length ≤ 1000000 ∧ ∀ x ∈ l,Nm.sm x
theorem SmL.nth {l : List Nm} (h : SmL l) {k : Nat} (hk : k < l.length) : Nm.sm (nthM l k):=h.2 _ (nthM_mem hk)
theorem nmdL_drop {l : List Nm} {k : Nat} (h : k < l.length) (most n : Int) : nmdL most (l.drop k) n=if n ≤ most then nmdL most (l.drop (k+1)) (n+1+((nthM l k).1.size / 8 : Nat)+patchOf (nthM l k).2 (most - n)) else n:=by
 rw[List.drop_eq_getElem_cons h,nthM_eq h]
 simp only[nmdL]
theorem nmdL_rng {most : Int} (hm : 0 ≤ most ∧ most ≤ 1000000) : ∀ (l : List Nm) (n : Int),(∀ x ∈ l,Nm.sm x)→0 ≤ n→n ≤ 500000000→0 ≤ nmdL most l n ∧ nmdL most l n ≤ 500000000
 | [],n,_,h0,h1=>⟨h0,h1⟩
 | x :: r,n,hx,h0,h1=>by
  unfold nmdL
  split
  ·have h2:=patchOf_rng (hx x (by simp)).2 (most:=most - n) (by omega)
   have h3:=(hx x (by simp)).1
   exact nmdL_rng hm r _ (fun y hy=>hx y (by simp[hy])) (by omega) (by omega)
  ·exact ⟨h0,h1⟩
set_option maxHeartbeats 0 in
theorem namedOf_d (l : List Nm) (hs : SmL l) (ro : Option (List AV)) (most : Int) (hm : 0 ≤ most ∧ most ≤ 1000000) (H : AHeap) : D Tryz.prog 26 [.lst 15 (pnR l) ro,.sc (.int .i64 most)] H (.ret (.sc (.int .i64 (namedOf l most)))) H:=by
 have hll:=hs.1
 refine D_of_DK (Nat.le_refl _) (dk26 (E_of_ES ?_))
 simp only[ic26,ux]
 refine ES_seq_gen fun L hL=>?_
 simp -implicitDefEqProofs (maxSteps:=99999999) (disch:=first | omega | (simp only[vl];first | done | omega)) only[vu,va,vg,vs,vw,vk,simprocAttr]
 refine hL _ _ ?_
 clear hL
 refine ES_seq_gen fun L hL=>?_
 simp -implicitDefEqProofs (maxSteps:=99999999) (disch:=first | omega | (simp only[vl];first | done | omega)) only[vu,va,vg,vs,vw,vk,simprocAttr]
 refine hL _ _ ?_
 clear hL
 refine ES_seq_gen fun L hL=>?_
 refine ES_seq_gen fun L hL=>?_
 simp -implicitDefEqProofs (maxSteps:=99999999) (disch:=first | omega | (simp only[vl];first | done | omega)) only[vu,va,vg,vs,vw,vk,simprocAttr]
 refine hL _ _ ?_
 clear hL
 refine ES_loopL (fun ts F=>∃ (k : Nat) (n : Int),(k ≤ l.length ∧ 0 ≤ n ∧ n ≤ 500000000 ∧ nmdL most (l.drop k) n=namedOf l most) ∧ F=H ∧ Fr [some (.lst 15 (pnR l) ro),some (.sc (.int .i64 most)),none,none,none,some (.sc (.int .i64 n)),some (.sc (.int .i64 k)),none,none,none,none,none,none,none,none,none,none,none,none,none,none,none,none,none,none,none,none,none,none,none,none,none,none,none,none,none,none,none,none] ts) (fun ts _=>l.length - (intV (ts.getD 6 .top)).toNat) ?_ ?_
 ·exact ⟨0,0,⟨Nat.zero_le _,by omega,by omega,rfl⟩,rfl,by simp[Fr]⟩
 rintro ts F ⟨k,n,⟨hk,hc0,hc1,hb⟩,rfl,hfr⟩ L2 hL2
 obtain ⟨js,rfl⟩:=hfr.opened
 clear hfr
 by_cases hd : k < l.length
 ·have d1 : (k : Int) < l.length:=by omega
  have hg:=pnR_get hd
  have hx:=hs.nth hd
  rw[nmdL_drop hd] at hb
  by_cases d2 : n ≤ most
  ·rw[if_pos d2] at hb
   have hi:=fun H=>patchOf_d (nthM l k).2 hx.2 (most - n) (by omega) H
   have hr:=patchOf_rng hx.2 (most:=most - n) (by omega)
   have hq:=tdiv8m (nthM l k).1.size
   have hz:=hx.1
   simp -implicitDefEqProofs (maxSteps:=99999999) (disch:=first | omega | (simp only[vl];first | done | omega)) only[mk,vu,d1,d2,hg,hq,pnR_length,va,vg,vs,vw,vk,simprocAttr]
   refine ⟨by omega,by omega,callD_same (hi _) ?_⟩
   simp -implicitDefEqProofs (maxSteps:=99999999) (disch:=first | omega | (simp only[vl];first | done | omega)) only[vu,va,vg,vs,vw,vk,simprocAttr]
   exact hL2 _ _ ⟨k+1,_,⟨by omega,by omega,by omega,hb⟩,rfl,by simp[Fr]⟩ (by simp[intV,mk];omega)
  ·rw[if_neg d2] at hb
   simp -implicitDefEqProofs (maxSteps:=99999999) (disch:=first | omega | (simp only[vl];first | done | omega)) only[mk,vu,d1,d2,pnR_length,va,vg,vs,vw,vk,simprocAttr]
   clear hL2
   refine hL _ _ ?_
   clear hL
   simp -implicitDefEqProofs (maxSteps:=99999999) (disch:=first | omega | (simp only[vl];first | done | omega)) only[vu,va,vg,vs,vw,vk,simprocAttr]
   rw[hb]
   exact weak_sc .refl
 ·have d1 : ¬ (k : Int) < l.length:=by omega
  have en : l.drop k=[]:=List.drop_of_length_le (by omega)
  rw[en] at hb
  simp only[nmdL] at hb
  simp -implicitDefEqProofs (maxSteps:=99999999) (disch:=first | omega | (simp only[vl];first | done | omega)) only[mk,vu,d1,pnR_length,va,vg,vs,vw,vk,simprocAttr]
  clear hL2
  refine hL _ _ ?_
  clear hL
  simp -implicitDefEqProofs (maxSteps:=99999999) (disch:=first | omega | (simp only[vl];first | done | omega)) only[vu,va,vg,vs,vw,vk,simprocAttr]
  rw[hb]
  exact weak_sc .refl
def pnRR (l : List (List Nm)) : List AV:=l.map fun r=>.lst 15 (pnR r) none
theorem pnRR_length (l : List (List Nm)) : (pnRR l).length=l.length:=by simp[pnRR]
def nthR2 (l : List (List Nm)) (k : Nat) : List Nm:=l.getD k []
theorem nthR2_eq {l : List (List Nm)} {k : Nat} (h : k < l.length) : nthR2 l k=l[k]:=by simp[nthR2,List.getD,h]
theorem nthR2_mem {l : List (List Nm)} {k : Nat} (h : k < l.length) : nthR2 l k ∈ l:=by rw[nthR2_eq h];exact List.getElem_mem _
theorem pnRR_get {l : List (List Nm)} {k : Nat} (h : k < l.length) : (pnRR l).getD k .top = .lst 15 (pnR (nthR2 l k)) none:=by simp[pnRR,nthR2,List.getD,h]
def SmLL (l : List (List Nm)) : Prop:=l.length ≤ 2000000 ∧ ∀ r ∈ l,SmL r
def grL : List (List Nm)→Int→Int
 | [],n=>n
 | r :: q,n=>if n ≤ 3000 then grL q (n+namedOf r (3000 - n)) else n
def greatB (l : List (List Nm)) : Bool:=decide (grL l l.length > 3000) || decide (l.length > 60)
theorem grL_drop {l : List (List Nm)} {k : Nat} (h : k < l.length) (n : Int) : grL (l.drop k) n=if n ≤ 3000 then grL (l.drop (k+1)) (n+namedOf (nthR2 l k) (3000 - n)) else n:=by
 rw[List.drop_eq_getElem_cons h,nthR2_eq h]
 simp only[grL]
set_option maxHeartbeats 0 in
theorem great_d (l : List (List Nm)) (hs : SmLL l) (ro : Option (List AV)) (H : AHeap) : D Tryz.prog 6 [.lst 1 (pnRR l) ro] H (.ret (.sc (.bool (greatB l)))) H:=by
 have hll:=hs.1
 refine D_of_DK (Nat.le_refl _) (dk6 (E_of_ES ?_))
 simp only[ic6,ux]
 refine ES_seq_gen fun L hL=>?_
 simp -implicitDefEqProofs (maxSteps:=99999999) (disch:=first | omega | (simp only[vl];first | done | omega)) only[vu,va,vg,vs,vw,vk,simprocAttr]
 refine hL _ _ ?_
 clear hL
 refine ES_seq_gen fun L hL=>?_
 simp -implicitDefEqProofs (maxSteps:=99999999) (disch:=first | omega | (simp only[vl];first | done | omega)) only[vu,pnRR_length,va,vg,vs,vw,vk,simprocAttr]
 refine hL _ _ ?_
 clear hL
 refine ES_seq_gen fun L hL=>?_
 refine ES_seq_gen fun L hL=>?_
 simp -implicitDefEqProofs (maxSteps:=99999999) (disch:=first | omega | (simp only[vl];first | done | omega)) only[vu,va,vg,vs,vw,vk,simprocAttr]
 refine hL _ _ ?_
 clear hL
 clear L
 have key : ∀ ts,Fr [some (.lst 1 (pnRR l) ro),none,none,some (.sc (.int .i64 (grL l l.length))),none,none,none,none,none,none,none,none,none,none,none,none,none,none,none,none,none,none,none,none,none,none,none,none,none,none,none,none,none] ts→L ts H:=by
  intro ts hfr
  obtain ⟨js,rfl⟩:=hfr.opened
  clear hfr
  refine hL _ _ ?_
  clear hL
  by_cases c : grL l l.length > 3000
  ·simp -implicitDefEqProofs (maxSteps:=99999999) (disch:=first | omega | (simp only[vl];first | done | omega)) only[mk,vu,c,va,vg,vs,vw,vk,simprocAttr]
   exact over_bN .refl (by simp[greatB,c])
  by_cases c2 : (l.length : Int) > 60
  ·simp -implicitDefEqProofs (maxSteps:=99999999) (disch:=first | omega | (simp only[vl];first | done | omega)) only[mk,vu,c,c2,pnRR_length,va,vg,vs,vw,vk,simprocAttr]
   exact over_bN .refl (by simp[greatB];omega)
  ·simp -implicitDefEqProofs (maxSteps:=99999999) (disch:=first | omega | (simp only[vl];first | done | omega)) only[mk,vu,c,c2,pnRR_length,va,vg,vs,vw,vk,simprocAttr]
   exact over_bN .refl (by simp[greatB];omega)
 clear hL
 refine ES_loopL (fun ts F=>∃ (k : Nat) (n : Int),(k ≤ l.length ∧ 0 ≤ n ∧ n ≤ 600000000 ∧ grL (l.drop k) n=grL l l.length) ∧ F=H ∧ Fr [some (.lst 1 (pnRR l) ro),none,none,some (.sc (.int .i64 n)),some (.sc (.int .i64 k)),none,none,none,none,none,none,none,none,none,none,none,none,none,none,none,none,none,none,none,none,none,none,none,none,none,none,none,none] ts) (fun ts _=>l.length - (intV (ts.getD 4 .top)).toNat) ?_ ?_
 ·exact ⟨0,l.length,⟨Nat.zero_le _,by omega,by omega,rfl⟩,rfl,by simp[Fr]⟩
 rintro ts F ⟨k,n,⟨hk,hc0,hc1,hb⟩,rfl,hfr⟩ L2 hL2
 obtain ⟨js,rfl⟩:=hfr.opened
 clear hfr
 by_cases hd : k < l.length
 ·have d1 : (k : Int) < l.length:=by omega
  have hg:=pnRR_get hd
  have hx:=hs.2 _ (nthR2_mem hd)
  rw[grL_drop hd] at hb
  by_cases d2 : n ≤ 3000
  ·rw[if_pos d2] at hb
   have hi:=fun H=>namedOf_d (nthR2 l k) hx none (3000 - n) (by omega) H
   have hr:=nmdL_rng (most:=3000 - n) (by omega) (nthR2 l k) 0 hx.2 (by omega) (by omega)
   have hr' : 0 ≤ namedOf (nthR2 l k) (3000 - n) ∧ namedOf (nthR2 l k) (3000 - n) ≤ 500000000:=hr
   clear hr
   simp -implicitDefEqProofs (maxSteps:=99999999) (disch:=first | omega | (simp only[vl];first | done | omega)) only[mk,vu,d1,d2,hg,pnRR_length,va,vg,vs,vw,vk,simprocAttr]
   refine ⟨by omega,callR_ret (hi _) ?_⟩
   simp -implicitDefEqProofs (maxSteps:=99999999) (disch:=first | omega | (simp only[vl];first | done | omega)) only[vu,va,vg,vs,vw,vk,simprocAttr]
   exact hL2 _ _ ⟨k+1,_,⟨by omega,by omega,by omega,hb⟩,rfl,by simp[Fr]⟩ (by simp[intV,mk];omega)
  ·rw[if_neg d2] at hb
   simp -implicitDefEqProofs (maxSteps:=99999999) (disch:=first | omega | (simp only[vl];first | done | omega)) only[mk,vu,d1,d2,pnRR_length,va,vg,vs,vw,vk,simprocAttr]
   clear hL2
   rw[hb]
   refine key _ ?_
   simp[Fr]
 ·have d1 : ¬ (k : Int) < l.length:=by omega
  have en : l.drop k=[]:=List.drop_of_length_le (by omega)
  rw[en] at hb
  simp only[grL] at hb
  simp -implicitDefEqProofs (maxSteps:=99999999) (disch:=first | omega | (simp only[vl];first | done | omega)) only[mk,vu,d1,pnRR_length,va,vg,vs,vw,vk,simprocAttr]
  clear hL2
  rw[hb]
  refine key _ ?_
  simp[Fr]
end Go.Proofs.YtdjnccnecgblmaaGreatDoor
