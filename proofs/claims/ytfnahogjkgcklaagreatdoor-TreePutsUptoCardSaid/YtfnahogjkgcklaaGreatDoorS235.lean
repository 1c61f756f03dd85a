import Derived.Test.YtfnahogjkgcklaaGreatDoorS234
namespace Go.Proofs.YtfnahogjkgcklaaGreatDoor
open Go.RowKit
set_option maxRecDepth 100000
set_option linter.unusedVariables false
set_option linter.unusedSimpArgs false
theorem over_iN {F H : AHeap} (h : Over H F) {a b : Int} (e : a=b) : Weak H (.ret (.sc (.int .i64 a))) F (.ret (.sc (.int .i64 b))) H:=by
 subst e
 exact weak_over h (.same trivial)
theorem manyR_d (k : Int) (H : AHeap) : D Tryz.prog 79 [.sc (.int .u8 k)] H (.ret (.sc (.int .i64 (manyQ k)))) H:=by
 refine D_of_DK (Nat.le_refl _) (dk79 (E_of_ES ?_))
 simp only[ic79,ux]
 by_cases c1 : k=1
 ·subst c1
  simp -implicitDefEqProofs (maxSteps:=99999999) (disch:=first | omega | (simp only[vl];first | done | omega)) only[vu,va,vg,vs,vw,vk,simprocAttr]
  exact over_iN .refl rfl
 by_cases c3 : k=3
 ·subst c3
  simp -implicitDefEqProofs (maxSteps:=99999999) (disch:=first | omega | (simp only[vl];first | done | omega)) only[vu,va,vg,vs,vw,vk,simprocAttr]
  exact over_iN .refl rfl
 by_cases c5 : k=5
 ·subst c5
  simp -implicitDefEqProofs (maxSteps:=99999999) (disch:=first | omega | (simp only[vl];first | done | omega)) only[vu,va,vg,vs,vw,vk,simprocAttr]
  exact over_iN .refl rfl
 by_cases c25 : k=25
 ·subst c25
  simp -implicitDefEqProofs (maxSteps:=99999999) (disch:=first | omega | (simp only[vl];first | done | omega)) only[vu,va,vg,vs,vw,vk,simprocAttr]
  exact over_iN .refl rfl
 by_cases c2 : k=2
 ·subst c2
  simp -implicitDefEqProofs (maxSteps:=99999999) (disch:=first | omega | (simp only[vl];first | done | omega)) only[vu,va,vg,vs,vw,vk,simprocAttr]
  exact over_iN .refl rfl
 by_cases c7 : k=7
 ·subst c7
  simp -implicitDefEqProofs (maxSteps:=99999999) (disch:=first | omega | (simp only[vl];first | done | omega)) only[vu,va,vg,vs,vw,vk,simprocAttr]
  exact over_iN .refl rfl
 by_cases c9 : k=9
 ·subst c9
  simp -implicitDefEqProofs (maxSteps:=99999999) (disch:=first | omega | (simp only[vl];first | done | omega)) only[vu,va,vg,vs,vw,vk,simprocAttr]
  exact over_iN .refl rfl
 by_cases c24 : k=24
 ·subst c24
  simp -implicitDefEqProofs (maxSteps:=99999999) (disch:=first | omega | (simp only[vl];first | done | omega)) only[vu,va,vg,vs,vw,vk,simprocAttr]
  exact over_iN .refl rfl
 by_cases c26 : k=26
 ·subst c26
  simp -implicitDefEqProofs (maxSteps:=99999999) (disch:=first | omega | (simp only[vl];first | done | omega)) only[vu,va,vg,vs,vw,vk,simprocAttr]
  exact over_iN .refl rfl
 by_cases c27 : k=27
 ·subst c27
  simp -implicitDefEqProofs (maxSteps:=99999999) (disch:=first | omega | (simp only[vl];first | done | omega)) only[vu,va,vg,vs,vw,vk,simprocAttr]
  exact over_iN .refl rfl
 by_cases c8 : k=8
 ·subst c8
  simp -implicitDefEqProofs (maxSteps:=99999999) (disch:=first | omega | (simp only[vl];first | done | omega)) only[vu,va,vg,vs,vw,vk,simprocAttr]
  exact over_iN .refl rfl
 by_cases c6 : k=6
 ·subst c6
  simp -implicitDefEqProofs (maxSteps:=99999999) (disch:=first | omega | (simp only[vl];first | done | omega)) only[vu,va,vg,vs,vw,vk,simprocAttr]
  exact over_iN .refl rfl
 by_cases c10 : k=10
 ·subst c10
  simp -implicitDefEqProofs (maxSteps:=99999999) (disch:=first | omega | (simp only[vl];first | done | omega)) only[vu,va,vg,vs,vw,vk,simprocAttr]
  exact over_iN .refl rfl
 by_cases c11 : k=11
 ·subst c11
  simp -implicitDefEqProofs (maxSteps:=99999999) (disch:=first | omega | (simp only[vl];first | done | omega)) only[vu,va,vg,vs,vw,vk,simprocAttr]
  exact over_iN .refl rfl
 by_cases c23 : k=23
 ·subst c23
  simp -implicitDefEqProofs (maxSteps:=99999999) (disch:=first | omega | (simp only[vl];first | done | omega)) only[vu,va,vg,vs,vw,vk,simprocAttr]
  exact over_iN .refl rfl
 by_cases c28 : k=28
 ·subst c28
  simp -implicitDefEqProofs (maxSteps:=99999999) (disch:=first | omega | (simp only[vl];first | done | omega)) only[vu,va,vg,vs,vw,vk,simprocAttr]
  exact over_iN .refl rfl
 by_cases c12 : k=12
 ·subst c12
  simp -implicitDefEqProofs (maxSteps:=99999999) (disch:=first | omega | (simp only[vl];first | done | omega)) only[vu,va,vg,vs,vw,vk,simprocAttr]
  exact over_iN .refl rfl
 simp -implicitDefEqProofs (maxSteps:=99999999) (disch:=first | omega | (simp only[vl];first | done | omega)) only[vu,c1,c3,c5,c25,c2,c7,c9,c24,c26,c27,c8,c6,c10,c11,c23,c28,c12,va,vg,vs,vw,vk,simprocAttr]
 exact over_iN .refl (by simp[manyQ,c1,c3,c5,c25,c2,c7,c9,c24,c26,c27,c8,c6,c10,c11,c23,c28,c12])
theorem namedR_d (k : Int) (H : AHeap) : D Tryz.prog 124 [.sc (.int .u8 k)] H (.ret (.sc (.bool (namedP k)))) H:=by
 refine D_of_DK (Nat.le_refl _) (dk124 (E_of_ES ?_))
 simp only[ic124,ux]
 by_cases c2 : k=2
 ·subst c2
  simp -implicitDefEqProofs (maxSteps:=99999999) (disch:=first | omega | (simp only[vl];first | done | omega)) only[vu,va,vg,vs,vw,vk,simprocAttr]
  exact over_bN .refl rfl
 by_cases c4 : k=4
 ·subst c4
  simp -implicitDefEqProofs (maxSteps:=99999999) (disch:=first | omega | (simp only[vl];first | done | omega)) only[vu,va,vg,vs,vw,vk,simprocAttr]
  exact over_bN .refl rfl
 by_cases c6 : k=6
 ·subst c6
  simp -implicitDefEqProofs (maxSteps:=99999999) (disch:=first | omega | (simp only[vl];first | done | omega)) only[vu,va,vg,vs,vw,vk,simprocAttr]
  exact over_bN .refl rfl
 by_cases c22 : k=22
 ·subst c22
  simp -implicitDefEqProofs (maxSteps:=99999999) (disch:=first | omega | (simp only[vl];first | done | omega)) only[vu,va,vg,vs,vw,vk,simprocAttr]
  exact over_bN .refl rfl
 by_cases c25 : k=25
 ·subst c25
  simp -implicitDefEqProofs (maxSteps:=99999999) (disch:=first | omega | (simp only[vl];first | done | omega)) only[vu,va,vg,vs,vw,vk,simprocAttr]
  exact over_bN .refl rfl
 simp -implicitDefEqProofs (maxSteps:=99999999) (disch:=first | omega | (simp only[vl];first | done | omega)) only[vu,c2,c4,c6,c22,c25,va,vg,vs,vw,vk,simprocAttr]
 exact over_bN .refl (by simp[namedP,c2,c4,c6,c22,c25])
theorem stmtR_d (k : Int) (H : AHeap) : D Tryz.prog 126 [.sc (.int .u8 k)] H (.ret (.sc (.bool (stmtP k)))) H:=by
 refine D_of_DK (Nat.le_refl _) (dk126 (E_of_ES ?_))
 simp only[ic126,ux]
 by_cases c5 : k=5
 ·subst c5
  simp -implicitDefEqProofs (maxSteps:=99999999) (disch:=first | omega | (simp only[vl];first | done | omega)) only[vu,va,vg,vs,vw,vk,simprocAttr]
  exact over_bN .refl rfl
 by_cases g1 : k ≥ 6
 ·by_cases g2 : k ≤ 12
  ·simp -implicitDefEqProofs (maxSteps:=99999999) (disch:=first | omega | (simp only[vl];first | done | omega)) only[vu,c5,g1,g2,va,vg,vs,vw,vk,simprocAttr]
   exact over_bN .refl (by simp[stmtP,c5];omega)
  ·simp -implicitDefEqProofs (maxSteps:=99999999) (disch:=first | omega | (simp only[vl];first | done | omega)) only[vu,c5,g1,g2,va,vg,vs,vw,vk,simprocAttr]
   exact over_bN .refl (by simp[stmtP,c5];omega)
 ·simp -implicitDefEqProofs (maxSteps:=99999999) (disch:=first | omega | (simp only[vl];first | done | omega)) only[vu,c5,g1,va,vg,vs,vw,vk,simprocAttr]
  exact over_bN .refl (by simp[stmtP,c5];omega)
theorem exprR_d (k : Int) (H : AHeap) : D Tryz.prog 78 [.sc (.int .u8 k)] H (.ret (.sc (.bool (exprP k)))) H:=by
 refine D_of_DK (Nat.le_refl _) (dk78 (E_of_ES ?_))
 simp only[ic78,ux]
 by_cases g1 : k ≥ 20
 ·by_cases g2 : k ≤ 29
  ·simp -implicitDefEqProofs (maxSteps:=99999999) (disch:=first | omega | (simp only[vl];first | done | omega)) only[vu,g1,g2,va,vg,vs,vw,vk,simprocAttr]
   exact over_bN .refl (by simp[exprP];omega)
  ·simp -implicitDefEqProofs (maxSteps:=99999999) (disch:=first | omega | (simp only[vl];first | done | omega)) only[vu,g1,g2,va,vg,vs,vw,vk,simprocAttr]
   exact over_bN .refl (by simp[exprP];omega)
 ·simp -implicitDefEqProofs (maxSteps:=99999999) (disch:=first | omega | (simp only[vl];first | done | omega)) only[vu,g1,va,vg,vs,vw,vk,simprocAttr]
  exact over_bN .refl (by simp[exprP];omega)
set_option maxHeartbeats 0 in
theorem fitsR_d (p k a : Int) (H : AHeap) : D Tryz.prog 81 [.sc (.int .u8 p),.sc (.int .u8 k),.sc (.int .i64 a)] H (.ret (.sc (.bool (fitsQ p k a)))) H:=by
 refine D_of_DK (Nat.le_refl _) (dk81 (E_of_ES ?_))
 simp only[ic81,ux]
 obtain ⟨m,hm⟩ : ∃ m,manyQ p=m:=⟨_,rfl⟩
 refine ES_seq_gen fun L hL=>?_
 simp -implicitDefEqProofs (maxSteps:=99999999) (disch:=first | omega | (simp only[vl];first | done | omega)) only[vu,va,vg,vs,vw,vk,simprocAttr]
 refine hL _ _ ?_
 clear hL
 refine ES_seq_gen fun L hL=>?_
 simp -implicitDefEqProofs (maxSteps:=99999999) (disch:=first | omega | (simp only[vl];first | done | omega)) only[vu,va,vg,vs,vw,vk,simprocAttr]
 refine callR_ret (manyR_d p _) ?_
 simp -implicitDefEqProofs (maxSteps:=99999999) (disch:=first | omega | (simp only[vl];first | done | omega)) only[vu,hm,va,vg,vs,vw,vk,simprocAttr]
 refine hL _ _ ?_
 clear hL
 refine ES_seq_gen fun L hL=>?_
 by_cases c0 : a < 0
 ·have hq : fitsQ p k a=false:=by unfold fitsQ;rw[if_pos (.inl c0)]
  simp -implicitDefEqProofs (maxSteps:=99999999) (disch:=first | omega | (simp only[vl];first | done | omega)) only[vu,c0,va,vg,vs,vw,vk,simprocAttr]
  exact over_bN .refl hq.symm
 by_cases c1 : m ≥ 0 ∧ a ≥ m
 ·have hq : fitsQ p k a=false:=by unfold fitsQ;rw[hm,if_pos (.inr c1)]
  simp -implicitDefEqProofs (maxSteps:=99999999) (disch:=first | omega | (simp only[vl];first | done | omega)) only[vu,c0,c1.1,c1.2,va,vg,vs,vw,vk,simprocAttr]
  exact over_bN .refl hq.symm
 have hq : fitsQ p k a=if p=1 then decide (k=2)
  else if p=2 then decide (a=0 ∧ k=3) || decide (a=1 ∧ k=5)
  else if p=3 then decide (k=4)
  else if p=5 then stmtP k
  else if p=7 then decide (a=0 ∧ (k=22 ∨ k=26)) || (decide (a=1) && exprP k)
  else if p=8 ∨ p=9 then (decide (a=0) && exprP k) || decide (a > 0 ∧ k=5)
  else if p=12 then decide (k=25)
  else exprP k:=by
  unfold fitsQ
  rw[if_neg (by rw[hm];exact fun h=>h.elim c0 c1)]
 suffices ∀ b1 b2 b3 b4 b5 b6 b7 b8 b9 b10 b11,L ([.sc (.int .u8 p),.sc (.int .u8 k),.sc (.int .i64 a),.tup [],.tup [],.tup [],.sc (.bool false),.sc (.int .i64 m),.sc (.int .u8 p),.sc (.int .i64 m),b1,b2,b3,b4,b5,b6,b7,b8,b9,b10,b11,.tup [],.tup [],.tup [],.tup [],.tup [],.tup [],.tup [],.tup [],.tup [],.tup [],.tup [],.tup [],.tup [],.tup [],.tup [],.tup [],.tup [],.tup [],.tup [],.tup [],.tup [],.tup [],.tup [],.tup [],.tup [],.tup [],.tup [],.tup [],.tup [],.tup [],.tup [],.tup [],.tup [],.tup [],.tup [],.tup [],.tup [],.tup [],.tup [],.tup [],.tup [],.tup [],.tup [],.tup [],.tup [],.tup [],.tup [],.tup [],.tup [],.tup [],.tup [],.tup [],.tup [],.tup [],.tup [],.tup [],.tup [],.tup [],.tup [],.tup [],.tup [],.tup [],.tup [],.tup [],.tup [],.tup [],.tup [],.tup [],.tup [],.tup [],.tup [],.tup []]) H by
  by_cases c2 : m ≥ 0
  ·have c3 : ¬ a ≥ m:=fun h=>c1 ⟨c2,h⟩
   simp -implicitDefEqProofs (maxSteps:=99999999) (disch:=first | omega | (simp only[vl];first | done | omega)) only[vu,c0,c2,c3,va,vg,vs,vw,vk,simprocAttr]
   exact this _ _ _ _ _ _ _ _ _ _ _
  ·simp -implicitDefEqProofs (maxSteps:=99999999) (disch:=first | omega | (simp only[vl];first | done | omega)) only[vu,c0,c2,va,vg,vs,vw,vk,simprocAttr]
   exact this _ _ _ _ _ _ _ _ _ _ _
 intro b1 b2 b3 b4 b5 b6 b7 b8 b9 b10 b11
 clear hm c1
 by_cases p1 : p=1
 ·subst p1
  refine hL _ _ ?_
  clear hL
  refine ES_seq_gen fun L hL=>?_
  simp -implicitDefEqProofs (maxSteps:=99999999) (disch:=first | omega | (simp only[vl];first | done | omega)) only[vu,va,vg,vs,vw,vk,simprocAttr]
  exact over_bN .refl (by simp[hq])
 by_cases p2 : p=2
 ·subst p2
  refine hL _ _ ?_
  clear hL
  refine ES_seq_gen fun L hL=>?_
  by_cases ca : a=0
  ·subst ca
   by_cases ck : k=3
   ·subst ck
    simp -implicitDefEqProofs (maxSteps:=99999999) (disch:=first | omega | (simp only[vl];first | done | omega)) only[vu,va,vg,vs,vw,vk,simprocAttr]
    exact over_bN .refl (by simp[hq])
   ·skip
    simp -implicitDefEqProofs (maxSteps:=99999999) (disch:=first | omega | (simp only[vl];first | done | omega)) only[vu,ck,va,vg,vs,vw,vk,simprocAttr]
    exact over_bN .refl (by simp[hq,ck])
  by_cases cb : a=1
  ·subst cb
   simp -implicitDefEqProofs (maxSteps:=99999999) (disch:=first | omega | (simp only[vl];first | done | omega)) only[vu,va,vg,vs,vw,vk,simprocAttr]
   exact over_bN .refl (by simp[hq])
  simp -implicitDefEqProofs (maxSteps:=99999999) (disch:=first | omega | (simp only[vl];first | done | omega)) only[vu,ca,cb,va,vg,vs,vw,vk,simprocAttr]
  exact over_bN .refl (by simp[hq,ca,cb])
 by_cases p3 : p=3
 ·subst p3
  refine hL _ _ ?_
  clear hL
  refine ES_seq_gen fun L hL=>?_
  simp -implicitDefEqProofs (maxSteps:=99999999) (disch:=first | omega | (simp only[vl];first | done | omega)) only[vu,va,vg,vs,vw,vk,simprocAttr]
  exact over_bN .refl (by simp[hq])
 by_cases p5 : p=5
 ·subst p5
  refine hL _ _ ?_
  clear hL
  refine ES_seq_gen fun L hL=>?_
  simp -implicitDefEqProofs (maxSteps:=99999999) (disch:=first | omega | (simp only[vl];first | done | omega)) only[vu,va,vg,vs,vw,vk,simprocAttr]
  refine callR_ret (stmtR_d _ _) ?_
  simp -implicitDefEqProofs (maxSteps:=99999999) (disch:=first | omega | (simp only[vl];first | done | omega)) only[vu,va,vg,vs,vw,vk,simprocAttr]
  exact over_bN .refl (by simp[hq])
 by_cases p7 : p=7
 ·subst p7
  refine hL _ _ ?_
  clear hL
  refine ES_seq_gen fun L hL=>?_
  by_cases ca : a=0
  ·subst ca
   by_cases ck : k=22
   ·subst ck
    simp -implicitDefEqProofs (maxSteps:=99999999) (disch:=first | omega | (simp only[vl];first | done | omega)) only[vu,va,vg,vs,vw,vk,simprocAttr]
    exact over_bN .refl (by simp[hq])
   by_cases cl : k=26
   ·subst cl
    simp -implicitDefEqProofs (maxSteps:=99999999) (disch:=first | omega | (simp only[vl];first | done | omega)) only[vu,va,vg,vs,vw,vk,simprocAttr]
    exact over_bN .refl (by simp[hq])
   simp -implicitDefEqProofs (maxSteps:=99999999) (disch:=first | omega | (simp only[vl];first | done | omega)) only[vu,ck,cl,va,vg,vs,vw,vk,simprocAttr]
   exact over_bN .refl (by simp[hq,ck,cl])
  by_cases cb : a=1
  ·subst cb
   simp -implicitDefEqProofs (maxSteps:=99999999) (disch:=first | omega | (simp only[vl];first | done | omega)) only[vu,va,vg,vs,vw,vk,simprocAttr]
   refine callR_ret (exprR_d _ _) ?_
   simp -implicitDefEqProofs (maxSteps:=99999999) (disch:=first | omega | (simp only[vl];first | done | omega)) only[vu,va,vg,vs,vw,vk,simprocAttr]
   exact over_bN .refl (by simp[hq])
  simp -implicitDefEqProofs (maxSteps:=99999999) (disch:=first | omega | (simp only[vl];first | done | omega)) only[vu,ca,cb,va,vg,vs,vw,vk,simprocAttr]
  exact over_bN .refl (by simp[hq,ca,cb])
 by_cases p8 : p=8
 ·subst p8
  refine hL _ _ ?_
  clear hL
  refine ES_seq_gen fun L hL=>?_
  by_cases ca : a=0
  ·subst ca
   cases hx : exprP k
   ·simp -implicitDefEqProofs (maxSteps:=99999999) (disch:=first | omega | (simp only[vl];first | done | omega)) only[vu,va,vg,vs,vw,vk,simprocAttr]
    refine callR_ret (exprR_d _ _) ?_
    simp -implicitDefEqProofs (maxSteps:=99999999) (disch:=first | omega | (simp only[vl];first | done | omega)) only[vu,hx,va,vg,vs,vw,vk,simprocAttr]
    exact over_bN .refl (by simp[hq,hx])
   ·simp -implicitDefEqProofs (maxSteps:=99999999) (disch:=first | omega | (simp only[vl];first | done | omega)) only[vu,va,vg,vs,vw,vk,simprocAttr]
    refine callR_ret (exprR_d _ _) ?_
    simp -implicitDefEqProofs (maxSteps:=99999999) (disch:=first | omega | (simp only[vl];first | done | omega)) only[vu,hx,va,vg,vs,vw,vk,simprocAttr]
    exact over_bN .refl (by simp[hq,hx])
  by_cases cb : a > 0
  ·skip
   simp -implicitDefEqProofs (maxSteps:=99999999) (disch:=first | omega | (simp only[vl];first | done | omega)) only[vu,ca,cb,va,vg,vs,vw,vk,simprocAttr]
   exact over_bN .refl (by simp[hq,ca,cb])
  omega
 by_cases p9 : p=9
 ·subst p9
  refine hL _ _ ?_
  clear hL
  refine ES_seq_gen fun L hL=>?_
  by_cases ca : a=0
  ·subst ca
   cases hx : exprP k
   ·simp -implicitDefEqProofs (maxSteps:=99999999) (disch:=first | omega | (simp only[vl];first | done | omega)) only[vu,va,vg,vs,vw,vk,simprocAttr]
    refine callR_ret (exprR_d _ _) ?_
    simp -implicitDefEqProofs (maxSteps:=99999999) (disch:=first | omega | (simp only[vl];first | done | omega)) only[vu,hx,va,vg,vs,vw,vk,simprocAttr]
    exact over_bN .refl (by simp[hq,hx])
   ·simp -implicitDefEqProofs (maxSteps:=99999999) (disch:=first | omega | (simp only[vl];first | done | omega)) only[vu,va,vg,vs,vw,vk,simprocAttr]
    refine callR_ret (exprR_d _ _) ?_
    simp -implicitDefEqProofs (maxSteps:=99999999) (disch:=first | omega | (simp only[vl];first | done | omega)) only[vu,hx,va,vg,vs,vw,vk,simprocAttr]
    exact over_bN .refl (by simp[hq,hx])
  by_cases cb : a > 0
  ·skip
   simp -implicitDefEqProofs (maxSteps:=99999999) (disch:=first | omega | (simp only[vl];first | done | omega)) only[vu,ca,cb,va,vg,vs,vw,vk,simprocAttr]
   exact over_bN .refl (by simp[hq,ca,cb])
  omega
 by_cases p12 : p=12
 ·subst p12
  refine hL _ _ ?_
  clear hL
  refine ES_seq_gen fun L hL=>?_
  simp -implicitDefEqProofs (maxSteps:=99999999) (disch:=first | omega | (simp only[vl];first | done | omega)) only[vu,va,vg,vs,vw,vk,simprocAttr]
  exact over_bN .refl (by simp[hq])
 refine hL _ _ ?_
 clear hL
 refine ES_seq_gen fun L hL=>?_
 simp -implicitDefEqProofs (maxSteps:=99999999) (disch:=first | omega | (simp only[vl];first | done | omega)) only[vu,p1,p2,p3,p5,p7,p8,p9,p12,va,vg,vs,vw,vk,simprocAttr]
 refine hL _ _ ?_
 clear hL
 simp -implicitDefEqProofs (maxSteps:=99999999) (disch:=first | omega | (simp only[vl];first | done | omega)) only[vu,p1,p2,p3,p5,p7,p8,p9,p12,va,vg,vs,vw,vk,simprocAttr]
 refine callR_ret (exprR_d _ _) ?_
 simp -implicitDefEqProofs (maxSteps:=99999999) (disch:=first | omega | (simp only[vl];first | done | omega)) only[vu,va,vg,vs,vw,vk,simprocAttr]
 exact over_bN .refl (by simp[hq,p1,p2,p3,p5,p7,p8,p9,p12])
end Go.Proofs.YtfnahogjkgcklaaGreatDoor
