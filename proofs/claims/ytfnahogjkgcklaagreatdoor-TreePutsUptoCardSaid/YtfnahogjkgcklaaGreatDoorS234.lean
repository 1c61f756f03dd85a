import Derived.Test.YtfnahogjkgcklaaGreatDoorS233
import Derived.Test.YtfnahogjkgcklaaGreatDoorIc41
namespace Go.Proofs.YtfnahogjkgcklaaGreatDoor
open Go.RowKit
set_option maxRecDepth 100000
set_option linter.unusedVariables false
set_option linter.unusedSimpArgs false
theorem klA_kds {l : List Int} (h : l ≠ []) : klA l = .lst 1 (kds l) (some []):=if_neg h
theorem is_d (k f : Int) (H : AHeap) : D Tryz.prog 76 [.sc (.int .u8 k),.sc (.int .u8 f)] H (.ret (.sc (.bool (isP k f)))) H:=by
 refine D_of_DK (Nat.le_refl _) (dk76 (E_of_ES ?_))
 simp only[ic76,ux]
 by_cases c1 : f=200
 ·by_cases g1 : k ≥ 20
  ·simp -implicitDefEqProofs (maxSteps:=99999999) (disch:=first | omega | (simp only[vl];first | done | omega)) only[vu,c1,g1,va,vg,vs,vw,vk,simprocAttr]
   exact over_bN .refl (by simp[isP,c1,exprP];intro;omega)
  ·simp -implicitDefEqProofs (maxSteps:=99999999) (disch:=first | omega | (simp only[vl];first | done | omega)) only[vu,c1,g1,va,vg,vs,vw,vk,simprocAttr]
   exact over_bN .refl (by simp[isP,c1,exprP];omega)
 by_cases c2 : f=201
 ·by_cases g1 : k ≥ 6
  ·by_cases g2 : k ≤ 12
   ·simp -implicitDefEqProofs (maxSteps:=99999999) (disch:=first | omega | (simp only[vl];first | done | omega)) only[vu,c2,g1,g2,va,vg,vs,vw,vk,simprocAttr]
    exact over_bN .refl (by simp[isP,c2,stmtP];omega)
   ·simp -implicitDefEqProofs (maxSteps:=99999999) (disch:=first | omega | (simp only[vl];first | done | omega)) only[vu,c2,g1,g2,va,vg,vs,vw,vk,simprocAttr]
    exact over_bN .refl (by simp[isP,c2,stmtP];omega)
  ·simp -implicitDefEqProofs (maxSteps:=99999999) (disch:=first | omega | (simp only[vl];first | done | omega)) only[vu,c2,g1,va,vg,vs,vw,vk,simprocAttr]
   exact over_bN .refl (by simp[isP,c2,stmtP];omega)
 by_cases c3 : f=202
 ·by_cases g1 : k=22
  ·simp -implicitDefEqProofs (maxSteps:=99999999) (disch:=first | omega | (simp only[vl];first | done | omega)) only[vu,c3,g1,va,vg,vs,vw,vk,simprocAttr]
   exact over_bN .refl (by simp[isP,c3,g1])
  ·simp -implicitDefEqProofs (maxSteps:=99999999) (disch:=first | omega | (simp only[vl];first | done | omega)) only[vu,c3,g1,va,vg,vs,vw,vk,simprocAttr]
   exact over_bN .refl (by simp[isP,c3,g1])
 simp -implicitDefEqProofs (maxSteps:=99999999) (disch:=first | omega | (simp only[vl];first | done | omega)) only[vu,c1,c2,c3,va,vg,vs,vw,vk,simprocAttr]
 exact over_bN .refl (by simp[isP,c1,c2,c3])
theorem rowG_all {p : Int} (h : (rowG p).2=true) : (rowG p).1 ≠ []:=by
 rcases rowR_cases p with ⟨hn,_⟩ | hm
 ·unfold rowG at h;rw[hn] at h;cases h
 ·simp only[rowsL,List.map_cons,List.map_nil,List.mem_cons,List.not_mem_nil,or_false] at hm
  rcases hm with rfl | rfl | rfl | rfl | rfl | rfl | rfl | rfl | rfl | rfl | rfl | rfl | rfl | rfl | rfl | rfl | rfl | rfl | rfl | rfl | rfl | rfl <;> first | (exact absurd h (by decide)) | (simp[rowG,rowR,rowsL,iGet])
theorem klA_len (l : List Int) : lenN (klA l)=l.length ∧ lenOk (klA l) ∧ (klA l).isTop=false ∧ (klA l).isAgg=false ∧ (klA l).ncells=1 ∧ (klA l).cells=[klA l]:=by
 unfold klA
 split
 ·rename_i h;subst h;exact ⟨rfl,trivial,rfl,rfl,rfl,rfl⟩
 ·exact ⟨by simp[lenN],trivial,rfl,rfl,rfl,rfl⟩
set_option maxHeartbeats 4000000 in
theorem fits_d (p k a : Int) (H : AHeap) : D Tryz.prog 38 [.sc (.int .u8 p),.sc (.int .u8 k),.sc (.int .i64 a)] H (.ret (.sc (.bool (fitsP p k a)))) H:=by
 refine D_of_DK (Nat.le_refl _) (dk38 (E_of_ES ?_))
 simp only[ic38,ux]
 have hr:=rows_d p
 unfold rwA at hr
 have hP : fitsP p k a=if a < 0 then false else if (rowG p).2 then isP k ((rowG p).1.getD 0 0) else decide (a < (rowG p).1.length) && isP k ((rowG p).1.getD a.toNat 0):=rfl
 have hall:=rowG_all (p:=p)
 generalize (rowR p).isSome=s at *
 obtain ⟨l,b,hG⟩ : ∃ l b,rowG p=(l,b):=⟨_,_,rfl⟩
 rw[hG] at hr hP hall
 simp only at hr hP hall
 obtain ⟨k1,k2,k3,k4,k5,k6⟩:=klA_len l
 refine ES_seq_gen fun L hL=>?_
 simp -implicitDefEqProofs (maxSteps:=99999999) (disch:=first | omega | (simp only[vl];first | done | omega)) only[vu,va,vg,vs,vw,vk,simprocAttr]
 refine hL _ _ ?_
 clear hL
 refine ES_seq_gen fun L hL=>?_
 simp -implicitDefEqProofs (maxSteps:=99999999) (disch:=first | omega | (simp only[vl];first | done | omega)) only[vu,va,vg,vs,vw,vk,simprocAttr]
 refine callR_ret (hr _) ?_
 simp -implicitDefEqProofs (maxSteps:=99999999) (disch:=first | omega | (simp only[vl];first | done | omega)) only[vu,k3,k4,k5,k6,va,vg,vs,vw,vk,simprocAttr]
 refine hL _ _ ?_
 clear hL
 refine ES_seq_gen fun L hL=>?_
 by_cases c1 : a < 0
 ·simp -implicitDefEqProofs (maxSteps:=99999999) (disch:=first | omega | (simp only[vl];first | done | omega)) only[vu,c1,k3,k4,k5,k6,va,vg,vs,vw,vk,simprocAttr]
  exact over_bN (.cons .refl) (by rw[hP,if_pos c1])
 rw[if_neg c1] at hP
 cases b
 case true =>
  have hne:=hall rfl
  obtain ⟨x,r,rfl⟩:=List.exists_cons_of_ne_nil hne
  rw[klA_kds hne] at *
  simp -implicitDefEqProofs (maxSteps:=99999999) (disch:=first | omega | (simp only[vl];first | done | omega)) only[vu,c1,kds_length,kds,List.map_cons,va,vg,vs,vw,vk,simprocAttr]
  refine ⟨by omega,callR_ret (is_d _ _ _) ?_⟩
  simp -implicitDefEqProofs (maxSteps:=99999999) (disch:=first | omega | (simp only[vl];first | done | omega)) only[vu,va,vg,vs,vw,vk,simprocAttr]
  exact over_bN (.cons .refl) (by rw[hP];rfl)
 case false =>
  simp only[Bool.false_eq_true,if_false] at hP
  simp -implicitDefEqProofs (maxSteps:=99999999) (disch:=first | omega | (simp only[vl];first | done | omega)) only[vu,c1,k3,k4,k5,k6,va,vg,vs,vw,vk,simprocAttr]
  refine hL _ _ ?_
  clear hL
  by_cases c2 : a < l.length
  ·have hne : l ≠ []:=fun e=>by rw[e] at c2;simp at c2;omega
   obtain ⟨n,rfl⟩ : ∃ n : Nat,a=n:=⟨a.toNat,by omega⟩
   have hn : n < l.length:=by omega
   rw[klA_kds hne] at *
   simp -implicitDefEqProofs (maxSteps:=99999999) (disch:=first | omega | (simp only[vl];first | done | omega)) only[vu,c2,kds_length,kds_get hn,va,vg,vs,vw,vk,simprocAttr]
   refine ⟨by omega,callR_ret (is_d _ _ _) ?_⟩
   simp -implicitDefEqProofs (maxSteps:=99999999) (disch:=first | omega | (simp only[vl];first | done | omega)) only[vu,va,vg,vs,vw,vk,simprocAttr]
   exact over_bN (.cons .refl) (by rw[hP];simp[c2,hn,nthK])
  ·simp -implicitDefEqProofs (maxSteps:=99999999) (disch:=first | omega | (simp only[vl];first | done | omega)) only[vu,c2,k1,k2,k3,k4,k5,k6,va,vg,vs,vw,vk,simprocAttr]
   exact over_bN (.cons .refl) (by rw[hP];simp[c2])
theorem namedP_eq (k : Int) : memK [2,4,6,22,25] k=namedP k:=by
 simp[memK,namedP,eq_comm,Bool.or_assoc]
theorem named_d (k : Int) (H : AHeap) : D Tryz.prog 31 [.sc (.int .u8 k)] H (.ret (.sc (.bool (namedP k)))) H:=by
 refine D_of_DK (Nat.le_refl _) (dk31 (E_of_ES ?_))
 simp only[ic31,ux]
 have hc:=containsK_d [2,4,6,22,25] (some []) k (by decide)
 rw[show kds [2,4,6,22,25]=[.sc (.int .u8 2),.sc (.int .u8 4),.sc (.int .u8 6),.sc (.int .u8 22),.sc (.int .u8 25)] from rfl] at hc
 simp -implicitDefEqProofs (maxSteps:=99999999) (disch:=first | omega | (simp only[vl];first | done | omega)) only[vu,va,vg,vs,vw,vk,simprocAttr]
 refine callR_ret (hc _) ?_
 simp -implicitDefEqProofs (maxSteps:=99999999) (disch:=first | omega | (simp only[vl];first | done | omega)) only[vu,va,vg,vs,vw,vk,simprocAttr]
 exact over_bN .refl (namedP_eq k)
end Go.Proofs.YtfnahogjkgcklaaGreatDoor
