import Derived.Test.YtdjnccnecgblmaaGreatDoorUB
namespace Go.Proofs.YtdjnccnecgblmaaGreatDoor
open Go.RowKit
set_option maxRecDepth 100000
set_option linter.unusedVariables false
set_option linter.unusedSimpArgs false
theorem any_num (l : List Int) : (l.any fun n=>!pnumQ n)=!l.all pnumQ:=by
 induction l with
 | nil=>rfl
 | cons x r ih=>simp[ih,Bool.not_and]
theorem cat_ez {a b : ByteArray} : (a ++ b=⟨#[]⟩) ↔ (a=⟨#[]⟩ ∧ b=⟨#[]⟩):=by
 rw[size_ez,size_ez,size_ez,ByteArray.size_append]
 omega
theorem nameQ_ez : nameQ ⟨#[]⟩=false:=rfl
theorem len0 {α : Type} {l : List α} (h : l=[]) : ((l.length : Int)=0)=True:=by rw[h];simp
theorem len1 {α : Type} {l : List α} (h : ¬ l=[]) : ((l.length : Int)=0)=False:=by
 have:=List.length_pos_iff.2 h
 exact eq_false (by omega)
theorem lenp0 {α : Type} {l : List α} (h : l=[]) : ((l.length : Int) > 0)=False:=by rw[h];simp
theorem lenp1 {α : Type} {l : List α} (h : ¬ l=[]) : ((l.length : Int) > 0)=True:=by
 have:=List.length_pos_iff.2 h
 exact eq_true (by omega)
theorem part_ne {l : List Nd} (h : partQ l=true) : ∃ t,l=[t]:=by
 unfold partQ at h
 split at h
 ·exact ⟨_,rfl⟩
 ·cases h
theorem tfB : (true == false)=false:=rfl
theorem ftB : (false == true)=false:=rfl
theorem pq0 : pnumQ 0=true:=rfl
theorem part_nn {l : List Nd} (h : partQ l=true) : ¬ l=[]:=fun e=>by rw[e] at h;cases h
set_option maxHeartbeats 0 in
theorem rightE1_d (e : Ed) (hk : e.k=1) (hs : e.sm) (H : AHeap) : D Tryz.prog 50 [edV e] H (.ret (.sc (.bool (rightE e)))) H:=by
 obtain ⟨s1,s2,s3,s4,s5,s6,s7⟩:=hs
 have hcf : ∀ H,D Tryz.prog 92 [.lst 1 (pthA e.path) none,.fn (.func 93) [] []] H (.ret (.sc (.bool (!e.path.all pnumQ)))) H:=fun H=>by
  have:=containsFuncI_d e.path none 93 (fun n=>!pnumQ n) H rfl (fun b=>numc_d b H) (by omega)
  rwa [any_num] at this
 have ho:=fun H=>part_d e.old none s4 H
 have hn:=fun H=>part_d e.new none s5 H
 have hn1:=fun H=>name_d e.fr H
 have hn2:=fun H=>name_d e.to_ H
 refine D_of_DK (Nat.le_refl _) (dk50 (E_of_ES ?_))
 simp only[ic50,ux]
 refine ES_seq_gen fun L hL=>?_
 simp -implicitDefEqProofs (maxSteps:=99999999) (disch:=first | omega | (simp only[vl];first | done | omega)) only[vu,va,vg,vs,vw,vk,simprocAttr]
 refine hL _ _ ?_
 clear hL
 refine ES_seq_gen fun L hL=>?_
 simp -implicitDefEqProofs (maxSteps:=99999999) (disch:=first | omega | (simp only[vl];first | done | omega)) only[vu,pthA_length,nums_length,ndL_length,tfB,ftB,hk,va,vg,vs,vw,vk,simprocAttr]
 refine hL _ _ ?_
 clear hL
 refine ES_seq_gen fun L hL=>?_
 simp -implicitDefEqProofs (maxSteps:=99999999) (disch:=first | omega | (simp only[vl];first | done | omega)) only[vu,pthA_length,nums_length,ndL_length,tfB,ftB,hk,va,vg,vs,vw,vk,simprocAttr]
 refine hL _ _ ?_
 clear hL
 refine ES_seq_gen fun L hL=>?_
 simp -implicitDefEqProofs (maxSteps:=99999999) (disch:=first | omega | (simp only[vl];first | done | omega)) only[vu,pthA_length,nums_length,ndL_length,tfB,ftB,hk,va,vg,vs,vw,vk,simprocAttr]
 refine hL _ _ ?_
 clear hL
 refine ES_seq_gen fun L hL=>?_
 simp -implicitDefEqProofs (maxSteps:=99999999) (disch:=first | omega | (simp only[vl];first | done | omega)) only[vu,pthA_length,nums_length,ndL_length,tfB,ftB,hk,va,vg,vs,vw,vk,simprocAttr]
 refine callR_ret (hcf _) ?_
 cases t1 : e.path.all pnumQ with
 | false =>
  simp -implicitDefEqProofs (maxSteps:=99999999) (disch:=first | omega | (simp only[vl];first | done | omega)) only[vu,pthA_length,nums_length,ndL_length,tfB,ftB,hk,t1,va,vg,vs,vw,vk,simprocAttr]
  exact over_bN (.cons .refl) (by unfold rightE;simp[pq0,hk,t1])
 | true =>
  simp -implicitDefEqProofs (maxSteps:=99999999) (disch:=first | omega | (simp only[vl];first | done | omega)) only[vu,pthA_length,nums_length,ndL_length,tfB,ftB,hk,t1,va,vg,vs,vw,vk,simprocAttr]
  refine callR_ret (numb_d _ _) ?_
  cases t2 : pnumQ e.at_ with
  | false =>
   simp -implicitDefEqProofs (maxSteps:=99999999) (disch:=first | omega | (simp only[vl];first | done | omega)) only[vu,pthA_length,nums_length,ndL_length,tfB,ftB,hk,t1,t2,va,vg,vs,vw,vk,simprocAttr]
   exact over_bN (.cons .refl) (by unfold rightE;simp[pq0,hk,t1,t2])
  | true =>
   simp -implicitDefEqProofs (maxSteps:=99999999) (disch:=first | omega | (simp only[vl];first | done | omega)) only[vu,pthA_length,nums_length,ndL_length,tfB,ftB,hk,t1,t2,va,vg,vs,vw,vk,simprocAttr]
   refine callR_ret (numb_d _ _) ?_
   cases t3 : pnumQ e.far with
   | false =>
    simp -implicitDefEqProofs (maxSteps:=99999999) (disch:=first | omega | (simp only[vl];first | done | omega)) only[vu,pthA_length,nums_length,ndL_length,tfB,ftB,hk,t1,t2,t3,va,vg,vs,vw,vk,simprocAttr]
    exact over_bN (.cons .refl) (by unfold rightE;simp[pq0,hk,t1,t2,t3])
   | true =>
    by_cases c1 : e.at_=0
    rotate_left
    ·simp -implicitDefEqProofs (maxSteps:=99999999) (disch:=first | omega | (simp only[vl];first | done | omega)) only[vu,pthA_length,nums_length,ndL_length,tfB,ftB,hk,t1,t2,t3,c1,va,vg,vs,vw,vk,simprocAttr]
     exact over_bN (.cons .refl) (by unfold rightE;simp[pq0,hk,t1,t2,t3,c1])
    by_cases c2 : ¬ e.path=[]
    rotate_left
    ·simp -implicitDefEqProofs (maxSteps:=99999999) (disch:=first | omega | (simp only[vl];first | done | omega)) only[vu,pthA_length,nums_length,ndL_length,tfB,ftB,hk,t1,t2,t3,c1,len0 (Classical.not_not.1 c2),va,vg,vs,vw,vk,simprocAttr]
     exact over_bN (.cons .refl) (by unfold rightE;simp[pq0,hk,t1,t2,t3,c1,c2])
    have c3 : ¬ e.far=0→((0 : Int)=e.far)=False:=fun c=>eq_false fun h=>c h.symm
    by_cases c4 : e.far=0
    rotate_left
    ·simp -implicitDefEqProofs (maxSteps:=99999999) (disch:=first | omega | (simp only[vl];first | done | omega)) only[vu,pthA_length,nums_length,ndL_length,tfB,ftB,hk,t1,t2,t3,c1,len1 c2,c4,c3 c4,va,vg,vs,vw,vk,simprocAttr]
     exact over_bN (.cons .refl) (by unfold rightE;simp[pq0,hk,t1,t2,t3,c1,c2,c4])
    simp -implicitDefEqProofs (maxSteps:=99999999) (disch:=first | omega | (simp only[vl];first | done | omega)) only[vu,pthA_length,nums_length,ndL_length,tfB,ftB,hk,t1,t2,t3,c1,len1 c2,c4,va,vg,vs,vw,vk,simprocAttr]
    refine callR_ret (hn1 _) ?_
    cases t5 : nameQ e.fr with
    | false =>
     simp -implicitDefEqProofs (maxSteps:=99999999) (disch:=first | omega | (simp only[vl];first | done | omega)) only[vu,pthA_length,nums_length,ndL_length,tfB,ftB,hk,t1,t2,t3,c1,len1 c2,c4,t5,va,vg,vs,vw,vk,simprocAttr]
     exact over_bN (.cons .refl) (by unfold rightE;simp[pq0,hk,t1,t2,t3,c1,c2,c4,t5])
    | true =>
     simp -implicitDefEqProofs (maxSteps:=99999999) (disch:=first | omega | (simp only[vl];first | done | omega)) only[vu,pthA_length,nums_length,ndL_length,tfB,ftB,hk,t1,t2,t3,c1,len1 c2,c4,t5,va,vg,vs,vw,vk,simprocAttr]
     refine callR_ret (hn2 _) ?_
     cases t6 : nameQ e.to_ with
     | false =>
      simp -implicitDefEqProofs (maxSteps:=99999999) (disch:=first | omega | (simp only[vl];first | done | omega)) only[vu,pthA_length,nums_length,ndL_length,tfB,ftB,hk,t1,t2,t3,c1,len1 c2,c4,t5,t6,va,vg,vs,vw,vk,simprocAttr]
      exact over_bN (.cons .refl) (by unfold rightE;simp[pq0,hk,t1,t2,t3,c1,c2,c4,t5,t6])
     | true =>
      by_cases c5 : ¬ e.fr=e.to_
      rotate_left
      ·simp -implicitDefEqProofs (maxSteps:=99999999) (disch:=first | omega | (simp only[vl];first | done | omega)) only[vu,pthA_length,nums_length,ndL_length,tfB,ftB,hk,t1,t2,t3,c1,len1 c2,c4,t5,t6,Classical.not_not.1 c5,va,vg,vs,vw,vk,simprocAttr]
       exact over_bN (.cons .refl) (by unfold rightE;simp[pq0,hk,t1,t2,t3,c1,c2,c4,t5,t6,c5])
      simp -implicitDefEqProofs (maxSteps:=99999999) (disch:=first | omega | (simp only[vl];first | done | omega)) only[vu,pthA_length,nums_length,ndL_length,tfB,ftB,hk,t1,t2,t3,c1,len1 c2,c4,t5,t6,c5,va,vg,vs,vw,vk,simprocAttr]
      refine callR_ret (ho _) ?_
      cases t7 : partQ e.old with
      | true =>
       simp -implicitDefEqProofs (maxSteps:=99999999) (disch:=first | omega | (simp only[vl];first | done | omega)) only[vu,pthA_length,nums_length,ndL_length,tfB,ftB,hk,t1,t2,t3,c1,len1 c2,c4,t5,t6,c5,t7,va,vg,vs,vw,vk,simprocAttr]
       exact over_bN (.cons .refl) (by unfold rightE;simp[pq0,hk,t1,t2,t3,c1,c2,c4,t5,t6,c5,t7,part_nn t7])
      | false =>
       simp -implicitDefEqProofs (maxSteps:=99999999) (disch:=first | omega | (simp only[vl];first | done | omega)) only[vu,pthA_length,nums_length,ndL_length,tfB,ftB,hk,t1,t2,t3,c1,len1 c2,c4,t5,t6,c5,t7,va,vg,vs,vw,vk,simprocAttr]
       refine callR_ret (hn _) ?_
       cases t8 : partQ e.new with
       | true =>
        simp -implicitDefEqProofs (maxSteps:=99999999) (disch:=first | omega | (simp only[vl];first | done | omega)) only[vu,pthA_length,nums_length,ndL_length,tfB,ftB,hk,t1,t2,t3,c1,len1 c2,c4,t5,t6,c5,t7,t8,va,vg,vs,vw,vk,simprocAttr]
        exact over_bN (.cons .refl) (by unfold rightE;simp[pq0,hk,t1,t2,t3,c1,c2,c4,t5,t6,c5,t7,t8,part_nn t8])
       | false =>
        by_cases c7 : e.old=[]
        rotate_left
        ·simp -implicitDefEqProofs (maxSteps:=99999999) (disch:=first | omega | (simp only[vl];first | done | omega)) only[vu,pthA_length,nums_length,ndL_length,tfB,ftB,hk,t1,t2,t3,c1,len1 c2,c4,t5,t6,c5,t7,t8,lenp1 c7,va,vg,vs,vw,vk,simprocAttr]
         exact over_bN (.cons .refl) (by unfold rightE;simp[pq0,hk,t1,t2,t3,c1,c2,c4,t5,t6,c5,t7,t8,c7])
        by_cases c8 : e.new=[]
        rotate_left
        ·simp -implicitDefEqProofs (maxSteps:=99999999) (disch:=first | omega | (simp only[vl];first | done | omega)) only[vu,pthA_length,nums_length,ndL_length,tfB,ftB,hk,t1,t2,t3,c1,len1 c2,c4,t5,t6,c5,t7,t8,lenp0 c7,lenp1 c8,va,vg,vs,vw,vk,simprocAttr]
         exact over_bN (.cons .refl) (by unfold rightE;simp[pq0,hk,t1,t2,t3,c1,c2,c4,t5,t6,c5,t7,t8,c7,c8])
        simp -implicitDefEqProofs (maxSteps:=99999999) (disch:=first | omega | (simp only[vl];first | done | omega)) only[vu,pthA_length,nums_length,ndL_length,tfB,ftB,hk,t1,t2,t3,c1,len1 c2,c4,t5,t6,c5,t7,t8,lenp0 c7,lenp0 c8,va,vg,vs,vw,vk,simprocAttr]
        refine hL _ _ ?_
        clear hL
        simp -implicitDefEqProofs (maxSteps:=99999999) (disch:=first | omega | (simp only[vl];first | done | omega)) only[vu,pthA_length,nums_length,ndL_length,tfB,ftB,hk,va,vg,vs,vw,vk,simprocAttr]
        exact over_bN (.cons .refl) (by unfold rightE;simp[pq0,hk,t1,t2,t3,c1,c2,c4,t5,t6,c5,t7,t8,c7,c8])
set_option maxHeartbeats 0 in
theorem rightE2_d (e : Ed) (hk : e.k=2) (hs : e.sm) (H : AHeap) : D Tryz.prog 50 [edV e] H (.ret (.sc (.bool (rightE e)))) H:=by
 obtain ⟨s1,s2,s3,s4,s5,s6,s7⟩:=hs
 have hcf : ∀ H,D Tryz.prog 92 [.lst 1 (pthA e.path) none,.fn (.func 93) [] []] H (.ret (.sc (.bool (!e.path.all pnumQ)))) H:=fun H=>by
  have:=containsFuncI_d e.path none 93 (fun n=>!pnumQ n) H rfl (fun b=>numc_d b H) (by omega)
  rwa [any_num] at this
 have ho:=fun H=>part_d e.old none s4 H
 have hn:=fun H=>part_d e.new none s5 H
 have hn1:=fun H=>name_d e.fr H
 have hn2:=fun H=>name_d e.to_ H
 refine D_of_DK (Nat.le_refl _) (dk50 (E_of_ES ?_))
 simp only[ic50,ux]
 refine ES_seq_gen fun L hL=>?_
 simp -implicitDefEqProofs (maxSteps:=99999999) (disch:=first | omega | (simp only[vl];first | done | omega)) only[vu,va,vg,vs,vw,vk,simprocAttr]
 refine hL _ _ ?_
 clear hL
 refine ES_seq_gen fun L hL=>?_
 simp -implicitDefEqProofs (maxSteps:=99999999) (disch:=first | omega | (simp only[vl];first | done | omega)) only[vu,pthA_length,nums_length,ndL_length,tfB,ftB,hk,va,vg,vs,vw,vk,simprocAttr]
 refine hL _ _ ?_
 clear hL
 refine ES_seq_gen fun L hL=>?_
 simp -implicitDefEqProofs (maxSteps:=99999999) (disch:=first | omega | (simp only[vl];first | done | omega)) only[vu,pthA_length,nums_length,ndL_length,tfB,ftB,hk,va,vg,vs,vw,vk,simprocAttr]
 refine hL _ _ ?_
 clear hL
 refine ES_seq_gen fun L hL=>?_
 simp -implicitDefEqProofs (maxSteps:=99999999) (disch:=first | omega | (simp only[vl];first | done | omega)) only[vu,pthA_length,nums_length,ndL_length,tfB,ftB,hk,va,vg,vs,vw,vk,simprocAttr]
 refine hL _ _ ?_
 clear hL
 refine ES_seq_gen fun L hL=>?_
 simp -implicitDefEqProofs (maxSteps:=99999999) (disch:=first | omega | (simp only[vl];first | done | omega)) only[vu,pthA_length,nums_length,ndL_length,tfB,ftB,hk,va,vg,vs,vw,vk,simprocAttr]
 refine callR_ret (hcf _) ?_
 cases t1 : e.path.all pnumQ with
 | false =>
  simp -implicitDefEqProofs (maxSteps:=99999999) (disch:=first | omega | (simp only[vl];first | done | omega)) only[vu,pthA_length,nums_length,ndL_length,tfB,ftB,hk,t1,va,vg,vs,vw,vk,simprocAttr]
  exact over_bN (.cons .refl) (by unfold rightE;simp[pq0,hk,t1])
 | true =>
  simp -implicitDefEqProofs (maxSteps:=99999999) (disch:=first | omega | (simp only[vl];first | done | omega)) only[vu,pthA_length,nums_length,ndL_length,tfB,ftB,hk,t1,va,vg,vs,vw,vk,simprocAttr]
  refine callR_ret (numb_d _ _) ?_
  cases t2 : pnumQ e.at_ with
  | false =>
   simp -implicitDefEqProofs (maxSteps:=99999999) (disch:=first | omega | (simp only[vl];first | done | omega)) only[vu,pthA_length,nums_length,ndL_length,tfB,ftB,hk,t1,t2,va,vg,vs,vw,vk,simprocAttr]
   exact over_bN (.cons .refl) (by unfold rightE;simp[pq0,hk,t1,t2])
  | true =>
   simp -implicitDefEqProofs (maxSteps:=99999999) (disch:=first | omega | (simp only[vl];first | done | omega)) only[vu,pthA_length,nums_length,ndL_length,tfB,ftB,hk,t1,t2,va,vg,vs,vw,vk,simprocAttr]
   refine callR_ret (numb_d _ _) ?_
   cases t3 : pnumQ e.far with
   | false =>
    simp -implicitDefEqProofs (maxSteps:=99999999) (disch:=first | omega | (simp only[vl];first | done | omega)) only[vu,pthA_length,nums_length,ndL_length,tfB,ftB,hk,t1,t2,t3,va,vg,vs,vw,vk,simprocAttr]
    exact over_bN (.cons .refl) (by unfold rightE;simp[pq0,hk,t1,t2,t3])
   | true =>
    by_cases c4 : e.far=0
    rotate_left
    ·by_cases c1 : e.at_=e.far
     ·simp -implicitDefEqProofs (maxSteps:=99999999) (disch:=first | omega | (simp only[vl];first | done | omega)) only[vu,pthA_length,nums_length,ndL_length,tfB,ftB,hk,t1,t2,t3,c1,c4,va,vg,vs,vw,vk,simprocAttr]
      exact over_bN (.cons .refl) (by unfold rightE;simp[pq0,hk,t1,t2,t3,c4])
     ·simp -implicitDefEqProofs (maxSteps:=99999999) (disch:=first | omega | (simp only[vl];first | done | omega)) only[vu,pthA_length,nums_length,ndL_length,tfB,ftB,hk,t1,t2,t3,c1,c4,va,vg,vs,vw,vk,simprocAttr]
      exact over_bN (.cons .refl) (by unfold rightE;simp[pq0,hk,t1,t2,t3,c4])
    have hgo : ∀ {x : Prop} ,(e.at_=0→x)→(¬ e.at_=0→x)→x:=fun h1 h2=>(Classical.em _).elim h1 h2
    by_cases c1 : e.at_=0
    rotate_left
    all_goals
     simp -implicitDefEqProofs (maxSteps:=99999999) (disch:=first | omega | (simp only[vl];first | done | omega)) only[vu,pthA_length,nums_length,ndL_length,tfB,ftB,hk,t1,t2,t3,c4,c1,va,vg,vs,vw,vk,simprocAttr]
     by_cases E : e.fr=⟨#[]⟩ ∧ e.to_=⟨#[]⟩
     rotate_left
     ·have hc : (e.fr ++ e.to_=⟨#[]⟩)=False:=eq_false fun h=>E (cat_ez.1 h)
      have hft : fits (e.fr.size+e.to_.size)=true:=by simp[fits];omega
      have hR : rightE e=false:=by
       unfold rightE
       by_cases E1 : e.fr=ez
       ·have E2 : ¬ e.to_=ez:=fun h=>E ⟨E1,h⟩
        simp[hk,t1,t2,t3,c4,E2]
       ·simp[hk,t1,t2,t3,c4,E1]
      refine callR_ret (hn1 _) ?_
      cases t5 : nameQ e.fr with
      | false =>
       simp -implicitDefEqProofs (maxSteps:=99999999) (disch:=first | omega | (simp only[vl];first | done | omega)) only[vu,pthA_length,nums_length,ndL_length,tfB,ftB,hk,t1,t2,t3,c4,c1,t5,hc,hft,va,vg,vs,vw,vk,simprocAttr]
       exact over_bN (.cons .refl) hR.symm
      | true =>
       simp -implicitDefEqProofs (maxSteps:=99999999) (disch:=first | omega | (simp only[vl];first | done | omega)) only[vu,pthA_length,nums_length,ndL_length,tfB,ftB,hk,t1,t2,t3,c4,c1,t5,va,vg,vs,vw,vk,simprocAttr]
       refine callR_ret (hn2 _) ?_
       cases t6 : nameQ e.to_ with
       | false =>
        simp -implicitDefEqProofs (maxSteps:=99999999) (disch:=first | omega | (simp only[vl];first | done | omega)) only[vu,pthA_length,nums_length,ndL_length,tfB,ftB,hk,t1,t2,t3,c4,c1,t5,t6,hc,hft,va,vg,vs,vw,vk,simprocAttr]
        exact over_bN (.cons .refl) hR.symm
       | true =>
        by_cases c5 : e.fr=e.to_
        ·simp -implicitDefEqProofs (maxSteps:=99999999) (disch:=first | omega | (simp only[vl];first | done | omega)) only[vu,pthA_length,nums_length,ndL_length,tfB,ftB,hk,t1,t2,t3,c4,c1,t5,t6,c5,(c5 ▸ hc : (e.to_ ++ e.to_=⟨#[]⟩)=False),(c5 ▸ hft : fits (e.to_.size+e.to_.size)=true),va,vg,vs,vw,vk,simprocAttr]
         exact over_bN (.cons .refl) hR.symm
        ·simp -implicitDefEqProofs (maxSteps:=99999999) (disch:=first | omega | (simp only[vl];first | done | omega)) only[vu,pthA_length,nums_length,ndL_length,tfB,ftB,hk,t1,t2,t3,c4,c1,t5,t6,c5,hc,hft,va,vg,vs,vw,vk,simprocAttr]
         exact over_bN (.cons .refl) hR.symm
     obtain ⟨E1,E2⟩:=E
     have hc : ((⟨#[]⟩ : ByteArray) ++ ⟨#[]⟩=⟨#[]⟩)=True:=eq_true rfl
     have hft : fits ((⟨#[]⟩ : ByteArray).size+(⟨#[]⟩ : ByteArray).size)=true:=rfl
     have t5 : nameQ e.fr=false:=by rw[E1];rfl
     refine callR_ret (hn1 _) ?_
     simp -implicitDefEqProofs (maxSteps:=99999999) (disch:=first | omega | (simp only[vl];first | done | omega)) only[vu,pthA_length,nums_length,ndL_length,tfB,ftB,hk,t1,t2,t3,c4,c1,t5,E1,E2,hc,hft,nameQ_ez,va,vg,vs,vw,vk,simprocAttr]
     refine callR_ret (ho _) ?_
     cases t7 : partQ e.old with
     | true =>
      simp -implicitDefEqProofs (maxSteps:=99999999) (disch:=first | omega | (simp only[vl];first | done | omega)) only[vu,pthA_length,nums_length,ndL_length,tfB,ftB,hk,t1,t2,t3,c4,c1,t5,E1,E2,hc,hft,nameQ_ez,t7,va,vg,vs,vw,vk,simprocAttr]
      exact over_bN (.cons .refl) (by unfold rightE;simp[pq0,hk,t1,t2,t3,c4,show e.fr=ez from E1,show e.to_=ez from E2,t7,part_nn t7])
     | false =>
      simp -implicitDefEqProofs (maxSteps:=99999999) (disch:=first | omega | (simp only[vl];first | done | omega)) only[vu,pthA_length,nums_length,ndL_length,tfB,ftB,hk,t1,t2,t3,c4,c1,t5,E1,E2,hc,hft,nameQ_ez,t7,va,vg,vs,vw,vk,simprocAttr]
      refine callR_ret (hn _) ?_
      cases t8 : partQ e.new with
      | false =>
       simp -implicitDefEqProofs (maxSteps:=99999999) (disch:=first | omega | (simp only[vl];first | done | omega)) only[vu,pthA_length,nums_length,ndL_length,tfB,ftB,hk,t1,t2,t3,c4,c1,t5,E1,E2,hc,hft,nameQ_ez,t7,t8,va,vg,vs,vw,vk,simprocAttr]
       exact over_bN (.cons .refl) (by unfold rightE;simp[pq0,hk,t1,t2,t3,c4,show e.fr=ez from E1,show e.to_=ez from E2,t7,t8])
      | true =>
       by_cases c7 : e.old=[]
       rotate_left
       ·simp -implicitDefEqProofs (maxSteps:=99999999) (disch:=first | omega | (simp only[vl];first | done | omega)) only[vu,pthA_length,nums_length,ndL_length,tfB,ftB,hk,t1,t2,t3,c4,c1,t5,E1,E2,hc,hft,nameQ_ez,t7,t8,lenp1 c7,va,vg,vs,vw,vk,simprocAttr]
        exact over_bN (.cons .refl) (by unfold rightE;simp[pq0,hk,t1,t2,t3,c4,show e.fr=ez from E1,show e.to_=ez from E2,t7,t8,c7])
       simp -implicitDefEqProofs (maxSteps:=99999999) (disch:=first | omega | (simp only[vl];first | done | omega)) only[vu,pthA_length,nums_length,ndL_length,tfB,ftB,hk,t1,t2,t3,c4,c1,t5,E1,E2,hc,hft,nameQ_ez,t7,t8,lenp0 c7,va,vg,vs,vw,vk,simprocAttr]
       refine hL _ _ ?_
       clear hL
       simp -implicitDefEqProofs (maxSteps:=99999999) (disch:=first | omega | (simp only[vl];first | done | omega)) only[vu,pthA_length,nums_length,ndL_length,tfB,ftB,hk,va,vg,vs,vw,vk,simprocAttr]
       exact over_bN (.cons .refl) (by unfold rightE;simp[pq0,hk,t1,t2,t3,c4,show e.fr=ez from E1,show e.to_=ez from E2,t7,t8,c7])
set_option maxHeartbeats 0 in
theorem rightE3_d (e : Ed) (hk : e.k=3) (hs : e.sm) (H : AHeap) : D Tryz.prog 50 [edV e] H (.ret (.sc (.bool (rightE e)))) H:=by
 obtain ⟨s1,s2,s3,s4,s5,s6,s7⟩:=hs
 have hcf : ∀ H,D Tryz.prog 92 [.lst 1 (pthA e.path) none,.fn (.func 93) [] []] H (.ret (.sc (.bool (!e.path.all pnumQ)))) H:=fun H=>by
  have:=containsFuncI_d e.path none 93 (fun n=>!pnumQ n) H rfl (fun b=>numc_d b H) (by omega)
  rwa [any_num] at this
 have ho:=fun H=>part_d e.old none s4 H
 have hn:=fun H=>part_d e.new none s5 H
 have hn1:=fun H=>name_d e.fr H
 have hn2:=fun H=>name_d e.to_ H
 refine D_of_DK (Nat.le_refl _) (dk50 (E_of_ES ?_))
 simp only[ic50,ux]
 refine ES_seq_gen fun L hL=>?_
 simp -implicitDefEqProofs (maxSteps:=99999999) (disch:=first | omega | (simp only[vl];first | done | omega)) only[vu,va,vg,vs,vw,vk,simprocAttr]
 refine hL _ _ ?_
 clear hL
 refine ES_seq_gen fun L hL=>?_
 simp -implicitDefEqProofs (maxSteps:=99999999) (disch:=first | omega | (simp only[vl];first | done | omega)) only[vu,pthA_length,nums_length,ndL_length,tfB,ftB,hk,va,vg,vs,vw,vk,simprocAttr]
 refine hL _ _ ?_
 clear hL
 refine ES_seq_gen fun L hL=>?_
 simp -implicitDefEqProofs (maxSteps:=99999999) (disch:=first | omega | (simp only[vl];first | done | omega)) only[vu,pthA_length,nums_length,ndL_length,tfB,ftB,hk,va,vg,vs,vw,vk,simprocAttr]
 refine hL _ _ ?_
 clear hL
 refine ES_seq_gen fun L hL=>?_
 simp -implicitDefEqProofs (maxSteps:=99999999) (disch:=first | omega | (simp only[vl];first | done | omega)) only[vu,pthA_length,nums_length,ndL_length,tfB,ftB,hk,va,vg,vs,vw,vk,simprocAttr]
 refine hL _ _ ?_
 clear hL
 refine ES_seq_gen fun L hL=>?_
 simp -implicitDefEqProofs (maxSteps:=99999999) (disch:=first | omega | (simp only[vl];first | done | omega)) only[vu,pthA_length,nums_length,ndL_length,tfB,ftB,hk,va,vg,vs,vw,vk,simprocAttr]
 refine callR_ret (hcf _) ?_
 cases t1 : e.path.all pnumQ with
 | false =>
  simp -implicitDefEqProofs (maxSteps:=99999999) (disch:=first | omega | (simp only[vl];first | done | omega)) only[vu,pthA_length,nums_length,ndL_length,tfB,ftB,hk,t1,va,vg,vs,vw,vk,simprocAttr]
  exact over_bN (.cons .refl) (by unfold rightE;simp[pq0,hk,t1])
 | true =>
  simp -implicitDefEqProofs (maxSteps:=99999999) (disch:=first | omega | (simp only[vl];first | done | omega)) only[vu,pthA_length,nums_length,ndL_length,tfB,ftB,hk,t1,va,vg,vs,vw,vk,simprocAttr]
  refine callR_ret (numb_d _ _) ?_
  cases t2 : pnumQ e.at_ with
  | false =>
   simp -implicitDefEqProofs (maxSteps:=99999999) (disch:=first | omega | (simp only[vl];first | done | omega)) only[vu,pthA_length,nums_length,ndL_length,tfB,ftB,hk,t1,t2,va,vg,vs,vw,vk,simprocAttr]
   exact over_bN (.cons .refl) (by unfold rightE;simp[pq0,hk,t1,t2])
  | true =>
   simp -implicitDefEqProofs (maxSteps:=99999999) (disch:=first | omega | (simp only[vl];first | done | omega)) only[vu,pthA_length,nums_length,ndL_length,tfB,ftB,hk,t1,t2,va,vg,vs,vw,vk,simprocAttr]
   refine callR_ret (numb_d _ _) ?_
   cases t3 : pnumQ e.far with
   | false =>
    simp -implicitDefEqProofs (maxSteps:=99999999) (disch:=first | omega | (simp only[vl];first | done | omega)) only[vu,pthA_length,nums_length,ndL_length,tfB,ftB,hk,t1,t2,t3,va,vg,vs,vw,vk,simprocAttr]
    exact over_bN (.cons .refl) (by unfold rightE;simp[pq0,hk,t1,t2,t3])
   | true =>
    by_cases c4 : e.far=0
    rotate_left
    ·by_cases c1 : e.at_=e.far
     ·simp -implicitDefEqProofs (maxSteps:=99999999) (disch:=first | omega | (simp only[vl];first | done | omega)) only[vu,pthA_length,nums_length,ndL_length,tfB,ftB,hk,t1,t2,t3,c1,c4,va,vg,vs,vw,vk,simprocAttr]
      exact over_bN (.cons .refl) (by unfold rightE;simp[pq0,hk,t1,t2,t3,c4])
     ·simp -implicitDefEqProofs (maxSteps:=99999999) (disch:=first | omega | (simp only[vl];first | done | omega)) only[vu,pthA_length,nums_length,ndL_length,tfB,ftB,hk,t1,t2,t3,c1,c4,va,vg,vs,vw,vk,simprocAttr]
      exact over_bN (.cons .refl) (by unfold rightE;simp[pq0,hk,t1,t2,t3,c4])
    have hgo : ∀ {x : Prop} ,(e.at_=0→x)→(¬ e.at_=0→x)→x:=fun h1 h2=>(Classical.em _).elim h1 h2
    by_cases c1 : e.at_=0
    rotate_left
    all_goals
     simp -implicitDefEqProofs (maxSteps:=99999999) (disch:=first | omega | (simp only[vl];first | done | omega)) only[vu,pthA_length,nums_length,ndL_length,tfB,ftB,hk,t1,t2,t3,c4,c1,va,vg,vs,vw,vk,simprocAttr]
     by_cases E : e.fr=⟨#[]⟩ ∧ e.to_=⟨#[]⟩
     rotate_left
     ·have hc : (e.fr ++ e.to_=⟨#[]⟩)=False:=eq_false fun h=>E (cat_ez.1 h)
      have hft : fits (e.fr.size+e.to_.size)=true:=by simp[fits];omega
      have hR : rightE e=false:=by
       unfold rightE
       by_cases E1 : e.fr=ez
       ·have E2 : ¬ e.to_=ez:=fun h=>E ⟨E1,h⟩
        simp[hk,t1,t2,t3,c4,E2]
       ·simp[hk,t1,t2,t3,c4,E1]
      refine callR_ret (hn1 _) ?_
      cases t5 : nameQ e.fr with
      | false =>
       simp -implicitDefEqProofs (maxSteps:=99999999) (disch:=first | omega | (simp only[vl];first | done | omega)) only[vu,pthA_length,nums_length,ndL_length,tfB,ftB,hk,t1,t2,t3,c4,c1,t5,hc,hft,va,vg,vs,vw,vk,simprocAttr]
       exact over_bN (.cons .refl) hR.symm
      | true =>
       simp -implicitDefEqProofs (maxSteps:=99999999) (disch:=first | omega | (simp only[vl];first | done | omega)) only[vu,pthA_length,nums_length,ndL_length,tfB,ftB,hk,t1,t2,t3,c4,c1,t5,va,vg,vs,vw,vk,simprocAttr]
       refine callR_ret (hn2 _) ?_
       cases t6 : nameQ e.to_ with
       | false =>
        simp -implicitDefEqProofs (maxSteps:=99999999) (disch:=first | omega | (simp only[vl];first | done | omega)) only[vu,pthA_length,nums_length,ndL_length,tfB,ftB,hk,t1,t2,t3,c4,c1,t5,t6,hc,hft,va,vg,vs,vw,vk,simprocAttr]
        exact over_bN (.cons .refl) hR.symm
       | true =>
        by_cases c5 : e.fr=e.to_
        ·simp -implicitDefEqProofs (maxSteps:=99999999) (disch:=first | omega | (simp only[vl];first | done | omega)) only[vu,pthA_length,nums_length,ndL_length,tfB,ftB,hk,t1,t2,t3,c4,c1,t5,t6,c5,(c5 ▸ hc : (e.to_ ++ e.to_=⟨#[]⟩)=False),(c5 ▸ hft : fits (e.to_.size+e.to_.size)=true),va,vg,vs,vw,vk,simprocAttr]
         exact over_bN (.cons .refl) hR.symm
        ·simp -implicitDefEqProofs (maxSteps:=99999999) (disch:=first | omega | (simp only[vl];first | done | omega)) only[vu,pthA_length,nums_length,ndL_length,tfB,ftB,hk,t1,t2,t3,c4,c1,t5,t6,c5,hc,hft,va,vg,vs,vw,vk,simprocAttr]
         exact over_bN (.cons .refl) hR.symm
     obtain ⟨E1,E2⟩:=E
     have hc : ((⟨#[]⟩ : ByteArray) ++ ⟨#[]⟩=⟨#[]⟩)=True:=eq_true rfl
     have hft : fits ((⟨#[]⟩ : ByteArray).size+(⟨#[]⟩ : ByteArray).size)=true:=rfl
     have t5 : nameQ e.fr=false:=by rw[E1];rfl
     refine callR_ret (hn1 _) ?_
     simp -implicitDefEqProofs (maxSteps:=99999999) (disch:=first | omega | (simp only[vl];first | done | omega)) only[vu,pthA_length,nums_length,ndL_length,tfB,ftB,hk,t1,t2,t3,c4,c1,t5,E1,E2,hc,hft,nameQ_ez,va,vg,vs,vw,vk,simprocAttr]
     refine callR_ret (ho _) ?_
     cases t7 : partQ e.old with
     | false =>
      simp -implicitDefEqProofs (maxSteps:=99999999) (disch:=first | omega | (simp only[vl];first | done | omega)) only[vu,pthA_length,nums_length,ndL_length,tfB,ftB,hk,t1,t2,t3,c4,c1,t5,E1,E2,hc,hft,nameQ_ez,t7,va,vg,vs,vw,vk,simprocAttr]
      exact over_bN (.cons .refl) (by unfold rightE;simp[pq0,hk,t1,t2,t3,c4,show e.fr=ez from E1,show e.to_=ez from E2,t7])
     | true =>
      simp -implicitDefEqProofs (maxSteps:=99999999) (disch:=first | omega | (simp only[vl];first | done | omega)) only[vu,pthA_length,nums_length,ndL_length,tfB,ftB,hk,t1,t2,t3,c4,c1,t5,E1,E2,hc,hft,nameQ_ez,t7,va,vg,vs,vw,vk,simprocAttr]
      refine callR_ret (hn _) ?_
      cases t8 : partQ e.new with
      | true =>
       simp -implicitDefEqProofs (maxSteps:=99999999) (disch:=first | omega | (simp only[vl];first | done | omega)) only[vu,pthA_length,nums_length,ndL_length,tfB,ftB,hk,t1,t2,t3,c4,c1,t5,E1,E2,hc,hft,nameQ_ez,t7,t8,va,vg,vs,vw,vk,simprocAttr]
       exact over_bN (.cons .refl) (by unfold rightE;simp[pq0,hk,t1,t2,t3,c4,show e.fr=ez from E1,show e.to_=ez from E2,t7,t8,part_nn t8])
      | false =>
       by_cases c8 : e.new=[]
       rotate_left
       ·simp -implicitDefEqProofs (maxSteps:=99999999) (disch:=first | omega | (simp only[vl];first | done | omega)) only[vu,pthA_length,nums_length,ndL_length,tfB,ftB,hk,t1,t2,t3,c4,c1,t5,E1,E2,hc,hft,nameQ_ez,t7,t8,lenp1 c8,va,vg,vs,vw,vk,simprocAttr]
        exact over_bN (.cons .refl) (by unfold rightE;simp[pq0,hk,t1,t2,t3,c4,show e.fr=ez from E1,show e.to_=ez from E2,t7,t8,c8])
       simp -implicitDefEqProofs (maxSteps:=99999999) (disch:=first | omega | (simp only[vl];first | done | omega)) only[vu,pthA_length,nums_length,ndL_length,tfB,ftB,hk,t1,t2,t3,c4,c1,t5,E1,E2,hc,hft,nameQ_ez,t7,t8,lenp0 c8,va,vg,vs,vw,vk,simprocAttr]
       refine hL _ _ ?_
       clear hL
       simp -implicitDefEqProofs (maxSteps:=99999999) (disch:=first | omega | (simp only[vl];first | done | omega)) only[vu,pthA_length,nums_length,ndL_length,tfB,ftB,hk,va,vg,vs,vw,vk,simprocAttr]
       exact over_bN (.cons .refl) (by unfold rightE;simp[pq0,hk,t1,t2,t3,c4,show e.fr=ez from E1,show e.to_=ez from E2,t7,t8,c8])
set_option maxHeartbeats 0 in
theorem rightE4_d (e : Ed) (hk : e.k=4) (hs : e.sm) (H : AHeap) : D Tryz.prog 50 [edV e] H (.ret (.sc (.bool (rightE e)))) H:=by
 obtain ⟨s1,s2,s3,s4,s5,s6,s7⟩:=hs
 have hcf : ∀ H,D Tryz.prog 92 [.lst 1 (pthA e.path) none,.fn (.func 93) [] []] H (.ret (.sc (.bool (!e.path.all pnumQ)))) H:=fun H=>by
  have:=containsFuncI_d e.path none 93 (fun n=>!pnumQ n) H rfl (fun b=>numc_d b H) (by omega)
  rwa [any_num] at this
 have ho:=fun H=>part_d e.old none s4 H
 have hn:=fun H=>part_d e.new none s5 H
 have hn1:=fun H=>name_d e.fr H
 have hn2:=fun H=>name_d e.to_ H
 refine D_of_DK (Nat.le_refl _) (dk50 (E_of_ES ?_))
 simp only[ic50,ux]
 refine ES_seq_gen fun L hL=>?_
 simp -implicitDefEqProofs (maxSteps:=99999999) (disch:=first | omega | (simp only[vl];first | done | omega)) only[vu,va,vg,vs,vw,vk,simprocAttr]
 refine hL _ _ ?_
 clear hL
 refine ES_seq_gen fun L hL=>?_
 simp -implicitDefEqProofs (maxSteps:=99999999) (disch:=first | omega | (simp only[vl];first | done | omega)) only[vu,pthA_length,nums_length,ndL_length,tfB,ftB,hk,va,vg,vs,vw,vk,simprocAttr]
 refine hL _ _ ?_
 clear hL
 refine ES_seq_gen fun L hL=>?_
 simp -implicitDefEqProofs (maxSteps:=99999999) (disch:=first | omega | (simp only[vl];first | done | omega)) only[vu,pthA_length,nums_length,ndL_length,tfB,ftB,hk,va,vg,vs,vw,vk,simprocAttr]
 refine hL _ _ ?_
 clear hL
 refine ES_seq_gen fun L hL=>?_
 simp -implicitDefEqProofs (maxSteps:=99999999) (disch:=first | omega | (simp only[vl];first | done | omega)) only[vu,pthA_length,nums_length,ndL_length,tfB,ftB,hk,va,vg,vs,vw,vk,simprocAttr]
 refine hL _ _ ?_
 clear hL
 refine ES_seq_gen fun L hL=>?_
 simp -implicitDefEqProofs (maxSteps:=99999999) (disch:=first | omega | (simp only[vl];first | done | omega)) only[vu,pthA_length,nums_length,ndL_length,tfB,ftB,hk,va,vg,vs,vw,vk,simprocAttr]
 refine callR_ret (hcf _) ?_
 cases t1 : e.path.all pnumQ with
 | false =>
  simp -implicitDefEqProofs (maxSteps:=99999999) (disch:=first | omega | (simp only[vl];first | done | omega)) only[vu,pthA_length,nums_length,ndL_length,tfB,ftB,hk,t1,va,vg,vs,vw,vk,simprocAttr]
  exact over_bN (.cons .refl) (by unfold rightE;simp[pq0,hk,t1])
 | true =>
  simp -implicitDefEqProofs (maxSteps:=99999999) (disch:=first | omega | (simp only[vl];first | done | omega)) only[vu,pthA_length,nums_length,ndL_length,tfB,ftB,hk,t1,va,vg,vs,vw,vk,simprocAttr]
  refine callR_ret (numb_d _ _) ?_
  cases t2 : pnumQ e.at_ with
  | false =>
   simp -implicitDefEqProofs (maxSteps:=99999999) (disch:=first | omega | (simp only[vl];first | done | omega)) only[vu,pthA_length,nums_length,ndL_length,tfB,ftB,hk,t1,t2,va,vg,vs,vw,vk,simprocAttr]
   exact over_bN (.cons .refl) (by unfold rightE;simp[pq0,hk,t1,t2])
  | true =>
   simp -implicitDefEqProofs (maxSteps:=99999999) (disch:=first | omega | (simp only[vl];first | done | omega)) only[vu,pthA_length,nums_length,ndL_length,tfB,ftB,hk,t1,t2,va,vg,vs,vw,vk,simprocAttr]
   refine callR_ret (numb_d _ _) ?_
   cases t3 : pnumQ e.far with
   | false =>
    simp -implicitDefEqProofs (maxSteps:=99999999) (disch:=first | omega | (simp only[vl];first | done | omega)) only[vu,pthA_length,nums_length,ndL_length,tfB,ftB,hk,t1,t2,t3,va,vg,vs,vw,vk,simprocAttr]
    exact over_bN (.cons .refl) (by unfold rightE;simp[pq0,hk,t1,t2,t3])
   | true =>
    by_cases c1 : e.at_=0
    rotate_left
    ·simp -implicitDefEqProofs (maxSteps:=99999999) (disch:=first | omega | (simp only[vl];first | done | omega)) only[vu,pthA_length,nums_length,ndL_length,tfB,ftB,hk,t1,t2,t3,c1,va,vg,vs,vw,vk,simprocAttr]
     exact over_bN (.cons .refl) (by unfold rightE;simp[pq0,hk,t1,t2,t3,c1])
    by_cases c2 : ¬ e.path=[]
    rotate_left
    ·simp -implicitDefEqProofs (maxSteps:=99999999) (disch:=first | omega | (simp only[vl];first | done | omega)) only[vu,pthA_length,nums_length,ndL_length,tfB,ftB,hk,t1,t2,t3,c1,len0 (Classical.not_not.1 c2),va,vg,vs,vw,vk,simprocAttr]
     exact over_bN (.cons .refl) (by unfold rightE;simp[pq0,hk,t1,t2,t3,c1,c2])
    have c3 : ¬ e.far=0→((0 : Int)=e.far)=False:=fun c=>eq_false fun h=>c h.symm
    by_cases c4 : e.far=0
    rotate_left
    ·simp -implicitDefEqProofs (maxSteps:=99999999) (disch:=first | omega | (simp only[vl];first | done | omega)) only[vu,pthA_length,nums_length,ndL_length,tfB,ftB,hk,t1,t2,t3,c1,len1 c2,c4,c3 c4,va,vg,vs,vw,vk,simprocAttr]
     exact over_bN (.cons .refl) (by unfold rightE;simp[pq0,hk,t1,t2,t3,c1,c2,c4])
    simp -implicitDefEqProofs (maxSteps:=99999999) (disch:=first | omega | (simp only[vl];first | done | omega)) only[vu,pthA_length,nums_length,ndL_length,tfB,ftB,hk,t1,t2,t3,c1,len1 c2,c4,va,vg,vs,vw,vk,simprocAttr]
    by_cases E : e.fr=⟨#[]⟩ ∧ e.to_=⟨#[]⟩
    rotate_left
    ·have hc : (e.fr ++ e.to_=⟨#[]⟩)=False:=eq_false fun h=>E (cat_ez.1 h)
     have hft : fits (e.fr.size+e.to_.size)=true:=by simp[fits];omega
     have hR : rightE e=false:=by
      unfold rightE
      by_cases E1 : e.fr=ez
      ·have E2 : ¬ e.to_=ez:=fun h=>E ⟨E1,h⟩
       simp[hk,t1,t2,t3,c1,c2,c4,E2]
      ·simp[hk,t1,t2,t3,c1,c2,c4,E1]
     refine callR_ret (hn1 _) ?_
     cases t5 : nameQ e.fr with
     | false =>
      simp -implicitDefEqProofs (maxSteps:=99999999) (disch:=first | omega | (simp only[vl];first | done | omega)) only[vu,pthA_length,nums_length,ndL_length,tfB,ftB,hk,t1,t2,t3,c1,len1 c2,c4,t5,hc,hft,va,vg,vs,vw,vk,simprocAttr]
      exact over_bN (.cons .refl) hR.symm
     | true =>
      simp -implicitDefEqProofs (maxSteps:=99999999) (disch:=first | omega | (simp only[vl];first | done | omega)) only[vu,pthA_length,nums_length,ndL_length,tfB,ftB,hk,t1,t2,t3,c1,len1 c2,c4,t5,va,vg,vs,vw,vk,simprocAttr]
      refine callR_ret (hn2 _) ?_
      cases t6 : nameQ e.to_ with
      | false =>
       simp -implicitDefEqProofs (maxSteps:=99999999) (disch:=first | omega | (simp only[vl];first | done | omega)) only[vu,pthA_length,nums_length,ndL_length,tfB,ftB,hk,t1,t2,t3,c1,len1 c2,c4,t5,t6,hc,hft,va,vg,vs,vw,vk,simprocAttr]
       exact over_bN (.cons .refl) hR.symm
      | true =>
       by_cases c5 : e.fr=e.to_
       ·simp -implicitDefEqProofs (maxSteps:=99999999) (disch:=first | omega | (simp only[vl];first | done | omega)) only[vu,pthA_length,nums_length,ndL_length,tfB,ftB,hk,t1,t2,t3,c1,len1 c2,c4,t5,t6,c5,(c5 ▸ hc : (e.to_ ++ e.to_=⟨#[]⟩)=False),(c5 ▸ hft : fits (e.to_.size+e.to_.size)=true),va,vg,vs,vw,vk,simprocAttr]
        exact over_bN (.cons .refl) hR.symm
       ·simp -implicitDefEqProofs (maxSteps:=99999999) (disch:=first | omega | (simp only[vl];first | done | omega)) only[vu,pthA_length,nums_length,ndL_length,tfB,ftB,hk,t1,t2,t3,c1,len1 c2,c4,t5,t6,c5,hc,hft,va,vg,vs,vw,vk,simprocAttr]
        exact over_bN (.cons .refl) hR.symm
    obtain ⟨E1,E2⟩:=E
    have hc : ((⟨#[]⟩ : ByteArray) ++ ⟨#[]⟩=⟨#[]⟩)=True:=eq_true rfl
    have hft : fits ((⟨#[]⟩ : ByteArray).size+(⟨#[]⟩ : ByteArray).size)=true:=rfl
    have t5 : nameQ e.fr=false:=by rw[E1];rfl
    refine callR_ret (hn1 _) ?_
    simp -implicitDefEqProofs (maxSteps:=99999999) (disch:=first | omega | (simp only[vl];first | done | omega)) only[vu,pthA_length,nums_length,ndL_length,tfB,ftB,hk,t1,t2,t3,c1,len1 c2,c4,t5,E1,E2,hc,hft,nameQ_ez,va,vg,vs,vw,vk,simprocAttr]
    refine callR_ret (ho _) ?_
    cases t7 : partQ e.old with
    | false =>
     simp -implicitDefEqProofs (maxSteps:=99999999) (disch:=first | omega | (simp only[vl];first | done | omega)) only[vu,pthA_length,nums_length,ndL_length,tfB,ftB,hk,t1,t2,t3,c1,len1 c2,c4,t5,E1,E2,hc,hft,nameQ_ez,t7,va,vg,vs,vw,vk,simprocAttr]
     exact over_bN (.cons .refl) (by unfold rightE;simp[pq0,hk,t1,t2,t3,c1,c2,c4,show e.fr=ez from E1,show e.to_=ez from E2,t7])
    | true =>
     simp -implicitDefEqProofs (maxSteps:=99999999) (disch:=first | omega | (simp only[vl];first | done | omega)) only[vu,pthA_length,nums_length,ndL_length,tfB,ftB,hk,t1,t2,t3,c1,len1 c2,c4,t5,E1,E2,hc,hft,nameQ_ez,t7,va,vg,vs,vw,vk,simprocAttr]
     refine callR_ret (hn _) ?_
     cases t8 : partQ e.new with
     | false =>
      simp -implicitDefEqProofs (maxSteps:=99999999) (disch:=first | omega | (simp only[vl];first | done | omega)) only[vu,pthA_length,nums_length,ndL_length,tfB,ftB,hk,t1,t2,t3,c1,len1 c2,c4,t5,E1,E2,hc,hft,nameQ_ez,t7,t8,va,vg,vs,vw,vk,simprocAttr]
      exact over_bN (.cons .refl) (by unfold rightE;simp[pq0,hk,t1,t2,t3,c1,c2,c4,show e.fr=ez from E1,show e.to_=ez from E2,t7,t8])
     | true =>
      simp -implicitDefEqProofs (maxSteps:=99999999) (disch:=first | omega | (simp only[vl];first | done | omega)) only[vu,pthA_length,nums_length,ndL_length,tfB,ftB,hk,t1,t2,t3,c1,len1 c2,c4,t5,E1,E2,hc,hft,nameQ_ez,t7,t8,va,vg,vs,vw,vk,simprocAttr]
      refine hL _ _ ?_
      clear hL
      simp -implicitDefEqProofs (maxSteps:=99999999) (disch:=first | omega | (simp only[vl];first | done | omega)) only[vu,pthA_length,nums_length,ndL_length,tfB,ftB,hk,va,vg,vs,vw,vk,simprocAttr]
      obtain ⟨a,ha⟩:=part_ne t7
      obtain ⟨b,hb⟩:=part_ne t8
      have hsm:=fun H=>same_d a (by rw[ha] at s4;simp only[Nd.sizeL] at s4;omega) b none none H
      rw[ndR_none,ndR_none,ndA_eq,ndA_eq] at hsm
      have hA : ndL e.old=[ndA a]:=by rw[ha];rfl
      have hB : ndL e.new=[ndA b]:=by rw[hb];rfl
      rw[ndA_eq] at hA hB
      have hab : sameL e.old e.new=sameN a b:=by rw[ha,hb];simp[sameL]
      simp -implicitDefEqProofs (maxSteps:=99999999) (disch:=first | omega | (simp only[vl];first | done | omega)) only[vu,pthA_length,nums_length,ndL_length,tfB,ftB,hk,hA,hB,va,vg,vs,vw,vk,simprocAttr]
      refine ⟨by rw[ha];simp,by rw[hb];simp,callD_same (hsm _) ?_⟩
      simp -implicitDefEqProofs (maxSteps:=99999999) (disch:=first | omega | (simp only[vl];first | done | omega)) only[vu,pthA_length,nums_length,ndL_length,tfB,ftB,va,vg,vs,vw,vk,simprocAttr]
      exact over_bN (.cons .refl) (by unfold rightE;simp[pq0,hk,t1,t2,t3,c1,c2,c4,show e.fr=ez from E1,show e.to_=ez from E2,t7,t8,hab])
set_option maxHeartbeats 0 in
theorem rightE5_d (e : Ed) (hk : e.k=5) (hs : e.sm) (H : AHeap) : D Tryz.prog 50 [edV e] H (.ret (.sc (.bool (rightE e)))) H:=by
 obtain ⟨s1,s2,s3,s4,s5,s6,s7⟩:=hs
 have hcf : ∀ H,D Tryz.prog 92 [.lst 1 (pthA e.path) none,.fn (.func 93) [] []] H (.ret (.sc (.bool (!e.path.all pnumQ)))) H:=fun H=>by
  have:=containsFuncI_d e.path none 93 (fun n=>!pnumQ n) H rfl (fun b=>numc_d b H) (by omega)
  rwa [any_num] at this
 have ho:=fun H=>part_d e.old none s4 H
 have hn:=fun H=>part_d e.new none s5 H
 have hn1:=fun H=>name_d e.fr H
 have hn2:=fun H=>name_d e.to_ H
 refine D_of_DK (Nat.le_refl _) (dk50 (E_of_ES ?_))
 simp only[ic50,ux]
 refine ES_seq_gen fun L hL=>?_
 simp -implicitDefEqProofs (maxSteps:=99999999) (disch:=first | omega | (simp only[vl];first | done | omega)) only[vu,va,vg,vs,vw,vk,simprocAttr]
 refine hL _ _ ?_
 clear hL
 refine ES_seq_gen fun L hL=>?_
 simp -implicitDefEqProofs (maxSteps:=99999999) (disch:=first | omega | (simp only[vl];first | done | omega)) only[vu,pthA_length,nums_length,ndL_length,tfB,ftB,hk,va,vg,vs,vw,vk,simprocAttr]
 refine hL _ _ ?_
 clear hL
 refine ES_seq_gen fun L hL=>?_
 simp -implicitDefEqProofs (maxSteps:=99999999) (disch:=first | omega | (simp only[vl];first | done | omega)) only[vu,pthA_length,nums_length,ndL_length,tfB,ftB,hk,va,vg,vs,vw,vk,simprocAttr]
 refine hL _ _ ?_
 clear hL
 refine ES_seq_gen fun L hL=>?_
 simp -implicitDefEqProofs (maxSteps:=99999999) (disch:=first | omega | (simp only[vl];first | done | omega)) only[vu,pthA_length,nums_length,ndL_length,tfB,ftB,hk,va,vg,vs,vw,vk,simprocAttr]
 refine hL _ _ ?_
 clear hL
 refine ES_seq_gen fun L hL=>?_
 simp -implicitDefEqProofs (maxSteps:=99999999) (disch:=first | omega | (simp only[vl];first | done | omega)) only[vu,pthA_length,nums_length,ndL_length,tfB,ftB,hk,va,vg,vs,vw,vk,simprocAttr]
 refine callR_ret (hcf _) ?_
 cases t1 : e.path.all pnumQ with
 | false =>
  simp -implicitDefEqProofs (maxSteps:=99999999) (disch:=first | omega | (simp only[vl];first | done | omega)) only[vu,pthA_length,nums_length,ndL_length,tfB,ftB,hk,t1,va,vg,vs,vw,vk,simprocAttr]
  exact over_bN (.cons .refl) (by unfold rightE;simp[pq0,hk,t1])
 | true =>
  simp -implicitDefEqProofs (maxSteps:=99999999) (disch:=first | omega | (simp only[vl];first | done | omega)) only[vu,pthA_length,nums_length,ndL_length,tfB,ftB,hk,t1,va,vg,vs,vw,vk,simprocAttr]
  refine callR_ret (numb_d _ _) ?_
  cases t2 : pnumQ e.at_ with
  | false =>
   simp -implicitDefEqProofs (maxSteps:=99999999) (disch:=first | omega | (simp only[vl];first | done | omega)) only[vu,pthA_length,nums_length,ndL_length,tfB,ftB,hk,t1,t2,va,vg,vs,vw,vk,simprocAttr]
   exact over_bN (.cons .refl) (by unfold rightE;simp[pq0,hk,t1,t2])
  | true =>
   simp -implicitDefEqProofs (maxSteps:=99999999) (disch:=first | omega | (simp only[vl];first | done | omega)) only[vu,pthA_length,nums_length,ndL_length,tfB,ftB,hk,t1,t2,va,vg,vs,vw,vk,simprocAttr]
   refine callR_ret (numb_d _ _) ?_
   cases t3 : pnumQ e.far with
   | false =>
    simp -implicitDefEqProofs (maxSteps:=99999999) (disch:=first | omega | (simp only[vl];first | done | omega)) only[vu,pthA_length,nums_length,ndL_length,tfB,ftB,hk,t1,t2,t3,va,vg,vs,vw,vk,simprocAttr]
    exact over_bN (.cons .refl) (by unfold rightE;simp[pq0,hk,t1,t2,t3])
   | true =>
    by_cases c1 : ¬ e.at_=e.far
    rotate_left
    ·simp -implicitDefEqProofs (maxSteps:=99999999) (disch:=first | omega | (simp only[vl];first | done | omega)) only[vu,pthA_length,nums_length,ndL_length,tfB,ftB,hk,t1,t2,t3,Classical.not_not.1 c1,va,vg,vs,vw,vk,simprocAttr]
     exact over_bN (.cons .refl) (by unfold rightE;simp[pq0,hk,t1,t2,t3,c1])
    by_cases c4 : e.far=0
    ·skip
     simp -implicitDefEqProofs (maxSteps:=99999999) (disch:=first | omega | (simp only[vl];first | done | omega)) only[vu,pthA_length,nums_length,ndL_length,tfB,ftB,hk,t1,t2,t3,c4,(c4 ▸ c1 : ¬ e.at_=0),va,vg,vs,vw,vk,simprocAttr]
     by_cases E : e.fr=⟨#[]⟩ ∧ e.to_=⟨#[]⟩
     rotate_left
     ·have hc : (e.fr ++ e.to_=⟨#[]⟩)=False:=eq_false fun h=>E (cat_ez.1 h)
      have hft : fits (e.fr.size+e.to_.size)=true:=by simp[fits];omega
      have hR : rightE e=false:=by
       unfold rightE
       by_cases E1 : e.fr=ez
       ·have E2 : ¬ e.to_=ez:=fun h=>E ⟨E1,h⟩
        simp[hk,t1,t2,t3,c1,E2]
       ·simp[hk,t1,t2,t3,c1,E1]
      refine callR_ret (hn1 _) ?_
      cases t5 : nameQ e.fr with
      | false =>
       simp -implicitDefEqProofs (maxSteps:=99999999) (disch:=first | omega | (simp only[vl];first | done | omega)) only[vu,pthA_length,nums_length,ndL_length,tfB,ftB,hk,t1,t2,t3,c4,(c4 ▸ c1 : ¬ e.at_=0),t5,hc,hft,va,vg,vs,vw,vk,simprocAttr]
       exact over_bN (.cons .refl) hR.symm
      | true =>
       simp -implicitDefEqProofs (maxSteps:=99999999) (disch:=first | omega | (simp only[vl];first | done | omega)) only[vu,pthA_length,nums_length,ndL_length,tfB,ftB,hk,t1,t2,t3,c4,(c4 ▸ c1 : ¬ e.at_=0),t5,va,vg,vs,vw,vk,simprocAttr]
       refine callR_ret (hn2 _) ?_
       cases t6 : nameQ e.to_ with
       | false =>
        simp -implicitDefEqProofs (maxSteps:=99999999) (disch:=first | omega | (simp only[vl];first | done | omega)) only[vu,pthA_length,nums_length,ndL_length,tfB,ftB,hk,t1,t2,t3,c4,(c4 ▸ c1 : ¬ e.at_=0),t5,t6,hc,hft,va,vg,vs,vw,vk,simprocAttr]
        exact over_bN (.cons .refl) hR.symm
       | true =>
        by_cases c5 : e.fr=e.to_
        ·simp -implicitDefEqProofs (maxSteps:=99999999) (disch:=first | omega | (simp only[vl];first | done | omega)) only[vu,pthA_length,nums_length,ndL_length,tfB,ftB,hk,t1,t2,t3,c4,(c4 ▸ c1 : ¬ e.at_=0),t5,t6,c5,(c5 ▸ hc : (e.to_ ++ e.to_=⟨#[]⟩)=False),(c5 ▸ hft : fits (e.to_.size+e.to_.size)=true),va,vg,vs,vw,vk,simprocAttr]
         exact over_bN (.cons .refl) hR.symm
        ·simp -implicitDefEqProofs (maxSteps:=99999999) (disch:=first | omega | (simp only[vl];first | done | omega)) only[vu,pthA_length,nums_length,ndL_length,tfB,ftB,hk,t1,t2,t3,c4,(c4 ▸ c1 : ¬ e.at_=0),t5,t6,c5,hc,hft,va,vg,vs,vw,vk,simprocAttr]
         exact over_bN (.cons .refl) hR.symm
     obtain ⟨E1,E2⟩:=E
     have hc : ((⟨#[]⟩ : ByteArray) ++ ⟨#[]⟩=⟨#[]⟩)=True:=eq_true rfl
     have hft : fits ((⟨#[]⟩ : ByteArray).size+(⟨#[]⟩ : ByteArray).size)=true:=rfl
     have t5 : nameQ e.fr=false:=by rw[E1];rfl
     refine callR_ret (hn1 _) ?_
     simp -implicitDefEqProofs (maxSteps:=99999999) (disch:=first | omega | (simp only[vl];first | done | omega)) only[vu,pthA_length,nums_length,ndL_length,tfB,ftB,hk,t1,t2,t3,c4,(c4 ▸ c1 : ¬ e.at_=0),t5,E1,E2,hc,hft,nameQ_ez,va,vg,vs,vw,vk,simprocAttr]
     refine callR_ret (ho _) ?_
     cases t7 : partQ e.old with
     | false =>
      simp -implicitDefEqProofs (maxSteps:=99999999) (disch:=first | omega | (simp only[vl];first | done | omega)) only[vu,pthA_length,nums_length,ndL_length,tfB,ftB,hk,t1,t2,t3,c4,(c4 ▸ c1 : ¬ e.at_=0),t5,E1,E2,hc,hft,nameQ_ez,t7,va,vg,vs,vw,vk,simprocAttr]
      exact over_bN (.cons .refl) (by unfold rightE;simp[pq0,hk,t1,t2,t3,c1,show e.fr=ez from E1,show e.to_=ez from E2,t7])
     | true =>
      simp -implicitDefEqProofs (maxSteps:=99999999) (disch:=first | omega | (simp only[vl];first | done | omega)) only[vu,pthA_length,nums_length,ndL_length,tfB,ftB,hk,t1,t2,t3,c4,(c4 ▸ c1 : ¬ e.at_=0),t5,E1,E2,hc,hft,nameQ_ez,t7,va,vg,vs,vw,vk,simprocAttr]
      refine callR_ret (hn _) ?_
      cases t8 : partQ e.new with
      | true =>
       simp -implicitDefEqProofs (maxSteps:=99999999) (disch:=first | omega | (simp only[vl];first | done | omega)) only[vu,pthA_length,nums_length,ndL_length,tfB,ftB,hk,t1,t2,t3,c4,(c4 ▸ c1 : ¬ e.at_=0),t5,E1,E2,hc,hft,nameQ_ez,t7,t8,va,vg,vs,vw,vk,simprocAttr]
       exact over_bN (.cons .refl) (by unfold rightE;simp[pq0,hk,t1,t2,t3,c1,show e.fr=ez from E1,show e.to_=ez from E2,t7,t8,part_nn t8])
      | false =>
       by_cases c8 : e.new=[]
       rotate_left
       ·simp -implicitDefEqProofs (maxSteps:=99999999) (disch:=first | omega | (simp only[vl];first | done | omega)) only[vu,pthA_length,nums_length,ndL_length,tfB,ftB,hk,t1,t2,t3,c4,(c4 ▸ c1 : ¬ e.at_=0),t5,E1,E2,hc,hft,nameQ_ez,t7,t8,lenp1 c8,va,vg,vs,vw,vk,simprocAttr]
        exact over_bN (.cons .refl) (by unfold rightE;simp[pq0,hk,t1,t2,t3,c1,show e.fr=ez from E1,show e.to_=ez from E2,t7,t8,c8])
       simp -implicitDefEqProofs (maxSteps:=99999999) (disch:=first | omega | (simp only[vl];first | done | omega)) only[vu,pthA_length,nums_length,ndL_length,tfB,ftB,hk,t1,t2,t3,c4,(c4 ▸ c1 : ¬ e.at_=0),t5,E1,E2,hc,hft,nameQ_ez,t7,t8,lenp0 c8,va,vg,vs,vw,vk,simprocAttr]
       refine hL _ _ ?_
       clear hL
       simp -implicitDefEqProofs (maxSteps:=99999999) (disch:=first | omega | (simp only[vl];first | done | omega)) only[vu,pthA_length,nums_length,ndL_length,tfB,ftB,hk,va,vg,vs,vw,vk,simprocAttr]
       exact over_bN (.cons .refl) (by unfold rightE;simp[pq0,hk,t1,t2,t3,c1,show e.fr=ez from E1,show e.to_=ez from E2,t7,t8,c8])
    ·skip
     simp -implicitDefEqProofs (maxSteps:=99999999) (disch:=first | omega | (simp only[vl];first | done | omega)) only[vu,pthA_length,nums_length,ndL_length,tfB,ftB,hk,t1,t2,t3,c1,c4,va,vg,vs,vw,vk,simprocAttr]
     by_cases E : e.fr=⟨#[]⟩ ∧ e.to_=⟨#[]⟩
     rotate_left
     ·have hc : (e.fr ++ e.to_=⟨#[]⟩)=False:=eq_false fun h=>E (cat_ez.1 h)
      have hft : fits (e.fr.size+e.to_.size)=true:=by simp[fits];omega
      have hR : rightE e=false:=by
       unfold rightE
       by_cases E1 : e.fr=ez
       ·have E2 : ¬ e.to_=ez:=fun h=>E ⟨E1,h⟩
        simp[hk,t1,t2,t3,c1,E2]
       ·simp[hk,t1,t2,t3,c1,E1]
      refine callR_ret (hn1 _) ?_
      cases t5 : nameQ e.fr with
      | false =>
       simp -implicitDefEqProofs (maxSteps:=99999999) (disch:=first | omega | (simp only[vl];first | done | omega)) only[vu,pthA_length,nums_length,ndL_length,tfB,ftB,hk,t1,t2,t3,c1,c4,t5,hc,hft,va,vg,vs,vw,vk,simprocAttr]
       exact over_bN (.cons .refl) hR.symm
      | true =>
       simp -implicitDefEqProofs (maxSteps:=99999999) (disch:=first | omega | (simp only[vl];first | done | omega)) only[vu,pthA_length,nums_length,ndL_length,tfB,ftB,hk,t1,t2,t3,c1,c4,t5,va,vg,vs,vw,vk,simprocAttr]
       refine callR_ret (hn2 _) ?_
       cases t6 : nameQ e.to_ with
       | false =>
        simp -implicitDefEqProofs (maxSteps:=99999999) (disch:=first | omega | (simp only[vl];first | done | omega)) only[vu,pthA_length,nums_length,ndL_length,tfB,ftB,hk,t1,t2,t3,c1,c4,t5,t6,hc,hft,va,vg,vs,vw,vk,simprocAttr]
        exact over_bN (.cons .refl) hR.symm
       | true =>
        by_cases c5 : e.fr=e.to_
        ·simp -implicitDefEqProofs (maxSteps:=99999999) (disch:=first | omega | (simp only[vl];first | done | omega)) only[vu,pthA_length,nums_length,ndL_length,tfB,ftB,hk,t1,t2,t3,c1,c4,t5,t6,c5,(c5 ▸ hc : (e.to_ ++ e.to_=⟨#[]⟩)=False),(c5 ▸ hft : fits (e.to_.size+e.to_.size)=true),va,vg,vs,vw,vk,simprocAttr]
         exact over_bN (.cons .refl) hR.symm
        ·simp -implicitDefEqProofs (maxSteps:=99999999) (disch:=first | omega | (simp only[vl];first | done | omega)) only[vu,pthA_length,nums_length,ndL_length,tfB,ftB,hk,t1,t2,t3,c1,c4,t5,t6,c5,hc,hft,va,vg,vs,vw,vk,simprocAttr]
         exact over_bN (.cons .refl) hR.symm
     obtain ⟨E1,E2⟩:=E
     have hc : ((⟨#[]⟩ : ByteArray) ++ ⟨#[]⟩=⟨#[]⟩)=True:=eq_true rfl
     have hft : fits ((⟨#[]⟩ : ByteArray).size+(⟨#[]⟩ : ByteArray).size)=true:=rfl
     have t5 : nameQ e.fr=false:=by rw[E1];rfl
     refine callR_ret (hn1 _) ?_
     simp -implicitDefEqProofs (maxSteps:=99999999) (disch:=first | omega | (simp only[vl];first | done | omega)) only[vu,pthA_length,nums_length,ndL_length,tfB,ftB,hk,t1,t2,t3,c1,c4,t5,E1,E2,hc,hft,nameQ_ez,va,vg,vs,vw,vk,simprocAttr]
     refine callR_ret (ho _) ?_
     cases t7 : partQ e.old with
     | false =>
      simp -implicitDefEqProofs (maxSteps:=99999999) (disch:=first | omega | (simp only[vl];first | done | omega)) only[vu,pthA_length,nums_length,ndL_length,tfB,ftB,hk,t1,t2,t3,c1,c4,t5,E1,E2,hc,hft,nameQ_ez,t7,va,vg,vs,vw,vk,simprocAttr]
      exact over_bN (.cons .refl) (by unfold rightE;simp[pq0,hk,t1,t2,t3,c1,show e.fr=ez from E1,show e.to_=ez from E2,t7])
     | true =>
      simp -implicitDefEqProofs (maxSteps:=99999999) (disch:=first | omega | (simp only[vl];first | done | omega)) only[vu,pthA_length,nums_length,ndL_length,tfB,ftB,hk,t1,t2,t3,c1,c4,t5,E1,E2,hc,hft,nameQ_ez,t7,va,vg,vs,vw,vk,simprocAttr]
      refine callR_ret (hn _) ?_
      cases t8 : partQ e.new with
      | true =>
       simp -implicitDefEqProofs (maxSteps:=99999999) (disch:=first | omega | (simp only[vl];first | done | omega)) only[vu,pthA_length,nums_length,ndL_length,tfB,ftB,hk,t1,t2,t3,c1,c4,t5,E1,E2,hc,hft,nameQ_ez,t7,t8,va,vg,vs,vw,vk,simprocAttr]
       exact over_bN (.cons .refl) (by unfold rightE;simp[pq0,hk,t1,t2,t3,c1,show e.fr=ez from E1,show e.to_=ez from E2,t7,t8,part_nn t8])
      | false =>
       by_cases c8 : e.new=[]
       rotate_left
       ·simp -implicitDefEqProofs (maxSteps:=99999999) (disch:=first | omega | (simp only[vl];first | done | omega)) only[vu,pthA_length,nums_length,ndL_length,tfB,ftB,hk,t1,t2,t3,c1,c4,t5,E1,E2,hc,hft,nameQ_ez,t7,t8,lenp1 c8,va,vg,vs,vw,vk,simprocAttr]
        exact over_bN (.cons .refl) (by unfold rightE;simp[pq0,hk,t1,t2,t3,c1,show e.fr=ez from E1,show e.to_=ez from E2,t7,t8,c8])
       simp -implicitDefEqProofs (maxSteps:=99999999) (disch:=first | omega | (simp only[vl];first | done | omega)) only[vu,pthA_length,nums_length,ndL_length,tfB,ftB,hk,t1,t2,t3,c1,c4,t5,E1,E2,hc,hft,nameQ_ez,t7,t8,lenp0 c8,va,vg,vs,vw,vk,simprocAttr]
       refine hL _ _ ?_
       clear hL
       simp -implicitDefEqProofs (maxSteps:=99999999) (disch:=first | omega | (simp only[vl];first | done | omega)) only[vu,pthA_length,nums_length,ndL_length,tfB,ftB,hk,va,vg,vs,vw,vk,simprocAttr]
       exact over_bN (.cons .refl) (by unfold rightE;simp[pq0,hk,t1,t2,t3,c1,show e.fr=ez from E1,show e.to_=ez from E2,t7,t8,c8])
set_option maxHeartbeats 0 in
theorem rightE0_d (e : Ed) (k1 : ¬ e.k=1) (k2 : ¬ e.k=2) (k3 : ¬ e.k=3) (k4 : ¬ e.k=4) (k5 : ¬ e.k=5) (hs : e.sm) (H : AHeap) : D Tryz.prog 50 [edV e] H (.ret (.sc (.bool (rightE e)))) H:=by
 obtain ⟨s1,s2,s3,s4,s5,s6,s7⟩:=hs
 have hcf : ∀ H,D Tryz.prog 92 [.lst 1 (pthA e.path) none,.fn (.func 93) [] []] H (.ret (.sc (.bool (!e.path.all pnumQ)))) H:=fun H=>by
  have:=containsFuncI_d e.path none 93 (fun n=>!pnumQ n) H rfl (fun b=>numc_d b H) (by omega)
  rwa [any_num] at this
 have ho:=fun H=>part_d e.old none s4 H
 have hn:=fun H=>part_d e.new none s5 H
 have hn1:=fun H=>name_d e.fr H
 have hn2:=fun H=>name_d e.to_ H
 refine D_of_DK (Nat.le_refl _) (dk50 (E_of_ES ?_))
 simp only[ic50,ux]
 refine ES_seq_gen fun L hL=>?_
 simp -implicitDefEqProofs (maxSteps:=99999999) (disch:=first | omega | (simp only[vl];first | done | omega)) only[vu,va,vg,vs,vw,vk,simprocAttr]
 refine hL _ _ ?_
 clear hL
 refine ES_seq_gen fun L hL=>?_
 simp -implicitDefEqProofs (maxSteps:=99999999) (disch:=first | omega | (simp only[vl];first | done | omega)) only[vu,pthA_length,nums_length,ndL_length,tfB,ftB,k1,k2,k3,k4,k5,va,vg,vs,vw,vk,simprocAttr]
 refine hL _ _ ?_
 clear hL
 refine ES_seq_gen fun L hL=>?_
 simp -implicitDefEqProofs (maxSteps:=99999999) (disch:=first | omega | (simp only[vl];first | done | omega)) only[vu,pthA_length,nums_length,ndL_length,tfB,ftB,k1,k2,k3,k4,k5,va,vg,vs,vw,vk,simprocAttr]
 refine hL _ _ ?_
 clear hL
 refine ES_seq_gen fun L hL=>?_
 simp -implicitDefEqProofs (maxSteps:=99999999) (disch:=first | omega | (simp only[vl];first | done | omega)) only[vu,pthA_length,nums_length,ndL_length,tfB,ftB,k1,k2,k3,k4,k5,va,vg,vs,vw,vk,simprocAttr]
 refine hL _ _ ?_
 clear hL
 refine ES_seq_gen fun L hL=>?_
 simp -implicitDefEqProofs (maxSteps:=99999999) (disch:=first | omega | (simp only[vl];first | done | omega)) only[vu,pthA_length,nums_length,ndL_length,tfB,ftB,k1,k2,k3,k4,k5,va,vg,vs,vw,vk,simprocAttr]
 refine callR_ret (hcf _) ?_
 cases t1 : e.path.all pnumQ with
 | false =>
  simp -implicitDefEqProofs (maxSteps:=99999999) (disch:=first | omega | (simp only[vl];first | done | omega)) only[vu,pthA_length,nums_length,ndL_length,tfB,ftB,k1,k2,k3,k4,k5,t1,va,vg,vs,vw,vk,simprocAttr]
  exact over_bN (.cons .refl) (by unfold rightE;simp[pq0,k1,k2,k3,k4,k5,t1])
 | true =>
  simp -implicitDefEqProofs (maxSteps:=99999999) (disch:=first | omega | (simp only[vl];first | done | omega)) only[vu,pthA_length,nums_length,ndL_length,tfB,ftB,k1,k2,k3,k4,k5,t1,va,vg,vs,vw,vk,simprocAttr]
  refine callR_ret (numb_d _ _) ?_
  cases t2 : pnumQ e.at_ with
  | false =>
   simp -implicitDefEqProofs (maxSteps:=99999999) (disch:=first | omega | (simp only[vl];first | done | omega)) only[vu,pthA_length,nums_length,ndL_length,tfB,ftB,k1,k2,k3,k4,k5,t1,t2,va,vg,vs,vw,vk,simprocAttr]
   exact over_bN (.cons .refl) (by unfold rightE;simp[pq0,k1,k2,k3,k4,k5,t1,t2])
  | true =>
   simp -implicitDefEqProofs (maxSteps:=99999999) (disch:=first | omega | (simp only[vl];first | done | omega)) only[vu,pthA_length,nums_length,ndL_length,tfB,ftB,k1,k2,k3,k4,k5,t1,t2,va,vg,vs,vw,vk,simprocAttr]
   refine callR_ret (numb_d _ _) ?_
   cases t3 : pnumQ e.far with
   | false =>
    simp -implicitDefEqProofs (maxSteps:=99999999) (disch:=first | omega | (simp only[vl];first | done | omega)) only[vu,pthA_length,nums_length,ndL_length,tfB,ftB,k1,k2,k3,k4,k5,t1,t2,t3,va,vg,vs,vw,vk,simprocAttr]
    exact over_bN (.cons .refl) (by unfold rightE;simp[pq0,k1,k2,k3,k4,k5,t1,t2,t3])
   | true =>
    by_cases c1 : e.at_=0
    rotate_left
    ·simp -implicitDefEqProofs (maxSteps:=99999999) (disch:=first | omega | (simp only[vl];first | done | omega)) only[vu,pthA_length,nums_length,ndL_length,tfB,ftB,k1,k2,k3,k4,k5,t1,t2,t3,c1,va,vg,vs,vw,vk,simprocAttr]
     exact over_bN (.cons .refl) (by unfold rightE;simp[pq0,k1,k2,k3,k4,k5,t1,t2,t3,c1])
    by_cases c2 : ¬ e.path=[]
    rotate_left
    ·simp -implicitDefEqProofs (maxSteps:=99999999) (disch:=first | omega | (simp only[vl];first | done | omega)) only[vu,pthA_length,nums_length,ndL_length,tfB,ftB,k1,k2,k3,k4,k5,t1,t2,t3,c1,len0 (Classical.not_not.1 c2),va,vg,vs,vw,vk,simprocAttr]
     exact over_bN (.cons .refl) (by unfold rightE;simp[pq0,k1,k2,k3,k4,k5,t1,t2,t3,c1,c2])
    have c3 : ¬ e.far=0→((0 : Int)=e.far)=False:=fun c=>eq_false fun h=>c h.symm
    by_cases c4 : e.far=0
    rotate_left
    ·simp -implicitDefEqProofs (maxSteps:=99999999) (disch:=first | omega | (simp only[vl];first | done | omega)) only[vu,pthA_length,nums_length,ndL_length,tfB,ftB,k1,k2,k3,k4,k5,t1,t2,t3,c1,len1 c2,c4,c3 c4,va,vg,vs,vw,vk,simprocAttr]
     exact over_bN (.cons .refl) (by unfold rightE;simp[pq0,k1,k2,k3,k4,k5,t1,t2,t3,c1,c2,c4])
    simp -implicitDefEqProofs (maxSteps:=99999999) (disch:=first | omega | (simp only[vl];first | done | omega)) only[vu,pthA_length,nums_length,ndL_length,tfB,ftB,k1,k2,k3,k4,k5,t1,t2,t3,c1,len1 c2,c4,va,vg,vs,vw,vk,simprocAttr]
    by_cases E : e.fr=⟨#[]⟩ ∧ e.to_=⟨#[]⟩
    rotate_left
    ·have hc : (e.fr ++ e.to_=⟨#[]⟩)=False:=eq_false fun h=>E (cat_ez.1 h)
     have hft : fits (e.fr.size+e.to_.size)=true:=by simp[fits];omega
     have hR : rightE e=false:=by
      unfold rightE
      by_cases E1 : e.fr=ez
      ·have E2 : ¬ e.to_=ez:=fun h=>E ⟨E1,h⟩
       simp[k1,k2,k3,k4,k5,t1,t2,t3,c1,c2,c4,E2]
      ·simp[k1,k2,k3,k4,k5,t1,t2,t3,c1,c2,c4,E1]
     refine callR_ret (hn1 _) ?_
     cases t5 : nameQ e.fr with
     | false =>
      simp -implicitDefEqProofs (maxSteps:=99999999) (disch:=first | omega | (simp only[vl];first | done | omega)) only[vu,pthA_length,nums_length,ndL_length,tfB,ftB,k1,k2,k3,k4,k5,t1,t2,t3,c1,len1 c2,c4,t5,hc,hft,va,vg,vs,vw,vk,simprocAttr]
      exact over_bN (.cons .refl) hR.symm
     | true =>
      simp -implicitDefEqProofs (maxSteps:=99999999) (disch:=first | omega | (simp only[vl];first | done | omega)) only[vu,pthA_length,nums_length,ndL_length,tfB,ftB,k1,k2,k3,k4,k5,t1,t2,t3,c1,len1 c2,c4,t5,va,vg,vs,vw,vk,simprocAttr]
      refine callR_ret (hn2 _) ?_
      cases t6 : nameQ e.to_ with
      | false =>
       simp -implicitDefEqProofs (maxSteps:=99999999) (disch:=first | omega | (simp only[vl];first | done | omega)) only[vu,pthA_length,nums_length,ndL_length,tfB,ftB,k1,k2,k3,k4,k5,t1,t2,t3,c1,len1 c2,c4,t5,t6,hc,hft,va,vg,vs,vw,vk,simprocAttr]
       exact over_bN (.cons .refl) hR.symm
      | true =>
       by_cases c5 : e.fr=e.to_
       ·simp -implicitDefEqProofs (maxSteps:=99999999) (disch:=first | omega | (simp only[vl];first | done | omega)) only[vu,pthA_length,nums_length,ndL_length,tfB,ftB,k1,k2,k3,k4,k5,t1,t2,t3,c1,len1 c2,c4,t5,t6,c5,(c5 ▸ hc : (e.to_ ++ e.to_=⟨#[]⟩)=False),(c5 ▸ hft : fits (e.to_.size+e.to_.size)=true),va,vg,vs,vw,vk,simprocAttr]
        exact over_bN (.cons .refl) hR.symm
       ·simp -implicitDefEqProofs (maxSteps:=99999999) (disch:=first | omega | (simp only[vl];first | done | omega)) only[vu,pthA_length,nums_length,ndL_length,tfB,ftB,k1,k2,k3,k4,k5,t1,t2,t3,c1,len1 c2,c4,t5,t6,c5,hc,hft,va,vg,vs,vw,vk,simprocAttr]
        exact over_bN (.cons .refl) hR.symm
    obtain ⟨E1,E2⟩:=E
    have hc : ((⟨#[]⟩ : ByteArray) ++ ⟨#[]⟩=⟨#[]⟩)=True:=eq_true rfl
    have hft : fits ((⟨#[]⟩ : ByteArray).size+(⟨#[]⟩ : ByteArray).size)=true:=rfl
    have t5 : nameQ e.fr=false:=by rw[E1];rfl
    refine callR_ret (hn1 _) ?_
    simp -implicitDefEqProofs (maxSteps:=99999999) (disch:=first | omega | (simp only[vl];first | done | omega)) only[vu,pthA_length,nums_length,ndL_length,tfB,ftB,k1,k2,k3,k4,k5,t1,t2,t3,c1,len1 c2,c4,t5,E1,E2,hc,hft,nameQ_ez,va,vg,vs,vw,vk,simprocAttr]
    refine callR_ret (ho _) ?_
    cases t7 : partQ e.old with
    | true =>
     simp -implicitDefEqProofs (maxSteps:=99999999) (disch:=first | omega | (simp only[vl];first | done | omega)) only[vu,pthA_length,nums_length,ndL_length,tfB,ftB,k1,k2,k3,k4,k5,t1,t2,t3,c1,len1 c2,c4,t5,E1,E2,hc,hft,nameQ_ez,t7,va,vg,vs,vw,vk,simprocAttr]
     exact over_bN (.cons .refl) (by unfold rightE;simp[pq0,k1,k2,k3,k4,k5,t1,t2,t3,c1,c2,c4,show e.fr=ez from E1,show e.to_=ez from E2,t7,part_nn t7])
    | false =>
     simp -implicitDefEqProofs (maxSteps:=99999999) (disch:=first | omega | (simp only[vl];first | done | omega)) only[vu,pthA_length,nums_length,ndL_length,tfB,ftB,k1,k2,k3,k4,k5,t1,t2,t3,c1,len1 c2,c4,t5,E1,E2,hc,hft,nameQ_ez,t7,va,vg,vs,vw,vk,simprocAttr]
     refine callR_ret (hn _) ?_
     cases t8 : partQ e.new with
     | true =>
      simp -implicitDefEqProofs (maxSteps:=99999999) (disch:=first | omega | (simp only[vl];first | done | omega)) only[vu,pthA_length,nums_length,ndL_length,tfB,ftB,k1,k2,k3,k4,k5,t1,t2,t3,c1,len1 c2,c4,t5,E1,E2,hc,hft,nameQ_ez,t7,t8,va,vg,vs,vw,vk,simprocAttr]
      exact over_bN (.cons .refl) (by unfold rightE;simp[pq0,k1,k2,k3,k4,k5,t1,t2,t3,c1,c2,c4,show e.fr=ez from E1,show e.to_=ez from E2,t7,t8,part_nn t8])
     | false =>
      by_cases c7 : e.old=[]
      rotate_left
      ·simp -implicitDefEqProofs (maxSteps:=99999999) (disch:=first | omega | (simp only[vl];first | done | omega)) only[vu,pthA_length,nums_length,ndL_length,tfB,ftB,k1,k2,k3,k4,k5,t1,t2,t3,c1,len1 c2,c4,t5,E1,E2,hc,hft,nameQ_ez,t7,t8,lenp1 c7,va,vg,vs,vw,vk,simprocAttr]
       exact over_bN (.cons .refl) (by unfold rightE;simp[pq0,k1,k2,k3,k4,k5,t1,t2,t3,c1,c2,c4,show e.fr=ez from E1,show e.to_=ez from E2,t7,t8,c7])
      by_cases c8 : e.new=[]
      rotate_left
      ·simp -implicitDefEqProofs (maxSteps:=99999999) (disch:=first | omega | (simp only[vl];first | done | omega)) only[vu,pthA_length,nums_length,ndL_length,tfB,ftB,k1,k2,k3,k4,k5,t1,t2,t3,c1,len1 c2,c4,t5,E1,E2,hc,hft,nameQ_ez,t7,t8,lenp0 c7,lenp1 c8,va,vg,vs,vw,vk,simprocAttr]
       exact over_bN (.cons .refl) (by unfold rightE;simp[pq0,k1,k2,k3,k4,k5,t1,t2,t3,c1,c2,c4,show e.fr=ez from E1,show e.to_=ez from E2,t7,t8,c7,c8])
      simp -implicitDefEqProofs (maxSteps:=99999999) (disch:=first | omega | (simp only[vl];first | done | omega)) only[vu,pthA_length,nums_length,ndL_length,tfB,ftB,k1,k2,k3,k4,k5,t1,t2,t3,c1,len1 c2,c4,t5,E1,E2,hc,hft,nameQ_ez,t7,t8,lenp0 c7,lenp0 c8,va,vg,vs,vw,vk,simprocAttr]
      refine hL _ _ ?_
      clear hL
      simp -implicitDefEqProofs (maxSteps:=99999999) (disch:=first | omega | (simp only[vl];first | done | omega)) only[vu,pthA_length,nums_length,ndL_length,tfB,ftB,k1,k2,k3,k4,k5,va,vg,vs,vw,vk,simprocAttr]
      exact over_bN (.cons .refl) (by unfold rightE;simp[pq0,k1,k2,k3,k4,k5,t1,t2,t3,c1,c2,c4,show e.fr=ez from E1,show e.to_=ez from E2,t7,t8,c7,c8])
theorem rightE_d (e : Ed) (hs : e.sm) (H : AHeap) : D Tryz.prog 50 [edV e] H (.ret (.sc (.bool (rightE e)))) H:=by
 by_cases k1 : e.k=1
 ·exact rightE1_d e k1 hs H
 by_cases k2 : e.k=2
 ·exact rightE2_d e k2 hs H
 by_cases k3 : e.k=3
 ·exact rightE3_d e k3 hs H
 by_cases k4 : e.k=4
 ·exact rightE4_d e k4 hs H
 by_cases k5 : e.k=5
 ·exact rightE5_d e k5 hs H
 exact rightE0_d e k1 k2 k3 k4 k5 hs H
end Go.Proofs.YtdjnccnecgblmaaGreatDoor
