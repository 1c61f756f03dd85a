import Derived.Test.YtfnahogjkgcklaaGreatDoorS231
import Derived.Test.YtfnahogjkgcklaaGreatDoorIc40
import Derived.Test.YtfnahogjkgcklaaGreatDoorIc44
namespace Go.Proofs.YtfnahogjkgcklaaGreatDoor
open Go.RowKit
set_option maxRecDepth 100000
set_option linter.unusedVariables false
set_option linter.unusedSimpArgs false
theorem over_bN {F H : AHeap} (h : Over H F) {a b : Bool} (e : a=b) : Weak H (.ret (.sc (.bool a))) F (.ret (.sc (.bool b))) H:=by
 subst e
 exact weak_over h (.same trivial)
def idN (x : AV) : AV:=x
theorem mPutN (q : IntKind) (k : Int) (v : AV) (M : List (Int × AV)) : mPut (.int q k) v (mI q idN M)=mI q idN (iSetL k v M):=mPut_mI (f:=idN) (a:=v)
theorem mPutN0 (q : IntKind) (k : Int) (v : AV) : mPut (.int q k) v []=mI q idN [(k,v)]:=mPut_mI (f:=idN) (a:=v) (M:=[])
theorem iSetL_nil (k : Int) (v : AV) : iSetL k v ([] : List (Int × AV))=[(k,v)]:=rfl
theorem iSetL_cons (k j : Int) (v u : AV) (r : List (Int × AV)) : iSetL k v ((j,u) :: r)=if k=j then (k,v) :: r else (j,u) :: iSetL k v r:=rfl
def klA (l : List Int) : AV:=if l=[] then .lst 0 [] (some []) else .lst 1 (l.map fun n=>.sc (.int .u8 n)) (some [])
def rwA (r : List Int × Bool) : AV:=.agg [klA r.1,.sc (.bool r.2)]
def rowsA : List (Int × AV):=rowsL.map fun p=>(p.1,rwA p.2)
theorem iGet_map {α β : Type} (g : α→β) (k : Int) : ∀ (M : List (Int × α)),iGet k (M.map fun p=>(p.1,g p.2))=(iGet k M).map g
 | []=>rfl
 | p :: r=>by
  have ih:=iGet_map g k r
  simp only[List.map_cons,iGet]
  split
  ·rfl
  ·exact ih
def rowG (k : Int) : List Int × Bool:=(rowR k).getD ([],false)
theorem rows_get (k : Int) : (iGet k rowsA).getD (.agg [.lst 0 [] (some []),.sc (.bool false)])=rwA (rowG k):=by
 unfold rowsA rowG rowR
 rw[iGet_map]
 cases iGet k rowsL <;> rfl
theorem rows_some (k : Int) : (iGet k rowsA).isSome=(rowR k).isSome:=by
 unfold rowsA rowR
 rw[iGet_map]
 cases iGet k rowsL <;> rfl
theorem one_d (x : AV) (H : AHeap) (h1 : x.isTop=false ∧ x.isAgg=false ∧ x.ncells=1 ∧ x.cells=[x]) (h2 : x.ids (· < H.length)) : D Tryz.prog 70 [x] H (.ret (.agg [x,.sc (.bool false)])) H:=by
 obtain ⟨a1,a2,a3,a4⟩:=h1
 refine D_of_DK (Nat.le_refl _) (dk70 (E_of_ES ?_))
 simp only[ic70,ux]
 simp -implicitDefEqProofs (maxSteps:=99999999) (disch:=first | omega | (simp only[vl];first | done | omega)) only[a1,a2,a3,a4,va,vg,vs,vw,vk,simprocAttr]
 exact weak_over (.cons .refl) (.same ⟨h2,trivial,trivial⟩)
theorem many_d (k : Int) (H : AHeap) : D Tryz.prog 71 [.sc (.int .u8 k)] H (.ret (.agg [.lst 1 [.sc (.int .u8 k)] (some []),.sc (.bool true)])) H:=by
 refine D_of_DK (Nat.le_refl _) (dk71 (E_of_ES ?_))
 simp only[ic71,ux]
 simp -implicitDefEqProofs (maxSteps:=99999999) (disch:=first | omega | (simp only[vl];first | done | omega)) only[vu,va,vg,vs,vw,vk,simprocAttr]
 exact weak_over (.cons .refl) (.same ⟨⟨⟨trivial,trivial⟩,trivial⟩,trivial,trivial⟩)
theorem mVal_idN {q : IntKind} {k : Int} {z : AV} {M : List (Int × AV)} : mVal (.int q k) z (mI q idN M)=(iGet k M).getD z:=by
 rw[mVal_mI]
 cases iGet k M <;> rfl
theorem mHas_idN {q : IntKind} {k : Int} {M : List (Int × AV)} : (decide (mIdx (.int q k) (mI q idN M) < M.length))=(iGet k M).isSome:=by rw[mIdx_mI];exact iIdx_lt
set_option maxHeartbeats 0 in
theorem rows_d (k : Int) (H : AHeap) : D Tryz.prog 36 [.sc (.int .u8 k)] H (.ret (.tup [rwA (rowG k),.sc (.bool (rowR k).isSome)])) H:=by
 have ok:=mI_okT (α:=AV)
 have g1:=fun (n : Int) (H : AHeap)=>many_d n H
 have g2:=fun (x : AV) (H : AHeap)=>one_d x H
 have c1 : callable Tryz.prog 70=true:=by kernel_rfl
 have c2 : callable Tryz.prog 71=true:=by kernel_rfl
 refine D_of_DK (Nat.le_refl _) (dk36 (E_of_ES ?_))
 simp only[ic36,ux]
 refine ES_seq_gen fun L hL=>?_
 simp -implicitDefEqProofs (maxSteps:=99999999) (disch:=first | omega | (simp only[vl];first | done | omega)) only[vu,va,vg,vs,vw,vk,simprocAttr]
 refine hL _ _ ?_
 clear hL
 refine ES_seq_gen fun L hL=>?_
 simp -implicitDefEqProofs (maxSteps:=99999999) (disch:=first | omega | (simp only[vl];first | done | omega)) only[vu,va,vg,vs,vw,vk,simprocAttr]
 refine hL _ _ ?_
 clear hL
 refine ES_seq_gen fun L hL=>?_
 simp -implicitDefEqProofs (maxSteps:=99999999) (disch:=first | omega | (simp only[vl];first | done | omega)) only[vu,va,vg,vs,vw,vk,simprocAttr]
 refine hL _ _ ?_
 clear hL
 refine ES_seq_gen fun L hL=>?_
 simp -implicitDefEqProofs (maxSteps:=99999999) (disch:=first | omega | (simp only[vl];first | done | omega)) only[vu,c1,c2,va,vg,vs,vw,vk,simprocAttr]
 refine callR_ret (g1 _ _) ?_
 simp -implicitDefEqProofs (maxSteps:=99999999) (disch:=first | omega | (simp only[vl];first | done | omega)) only[vu,c1,c2,ok,mPutN,mPutN0,iSetL_cons,iSetL_nil,va,vg,vs,vw,vk,simprocAttr]
 refine callR_ret (g2 _ _ ⟨rfl,rfl,rfl,rfl⟩ (by simp[AV.ids,AV.idsL,AV.idsM])) ?_
 simp -implicitDefEqProofs (maxSteps:=99999999) (disch:=first | omega | (simp only[vl];first | done | omega)) only[vu,c1,c2,ok,mPutN,mPutN0,iSetL_cons,iSetL_nil,va,vg,vs,vw,vk,simprocAttr]
 refine callR_ret (g1 _ _) ?_
 simp -implicitDefEqProofs (maxSteps:=99999999) (disch:=first | omega | (simp only[vl];first | done | omega)) only[vu,c1,c2,ok,mPutN,mPutN0,iSetL_cons,iSetL_nil,va,vg,vs,vw,vk,simprocAttr]
 refine callR_ret (g2 _ _ ⟨rfl,rfl,rfl,rfl⟩ (by simp[AV.ids,AV.idsL,AV.idsM])) ?_
 simp -implicitDefEqProofs (maxSteps:=99999999) (disch:=first | omega | (simp only[vl];first | done | omega)) only[vu,c1,c2,ok,mPutN,mPutN0,iSetL_cons,iSetL_nil,va,vg,vs,vw,vk,simprocAttr]
 refine callR_ret (g1 _ _) ?_
 simp -implicitDefEqProofs (maxSteps:=99999999) (disch:=first | omega | (simp only[vl];first | done | omega)) only[vu,c1,c2,ok,mPutN,mPutN0,iSetL_cons,iSetL_nil,va,vg,vs,vw,vk,simprocAttr]
 refine callR_ret (g2 _ _ ⟨rfl,rfl,rfl,rfl⟩ (by simp[AV.ids,AV.idsL,AV.idsM])) ?_
 simp -implicitDefEqProofs (maxSteps:=99999999) (disch:=first | omega | (simp only[vl];first | done | omega)) only[vu,c1,c2,ok,mPutN,mPutN0,iSetL_cons,iSetL_nil,va,vg,vs,vw,vk,simprocAttr]
 refine callR_ret (g2 _ _ ⟨rfl,rfl,rfl,rfl⟩ (by simp[AV.ids,AV.idsL,AV.idsM])) ?_
 simp -implicitDefEqProofs (maxSteps:=99999999) (disch:=first | omega | (simp only[vl];first | done | omega)) only[vu,c1,c2,ok,mPutN,mPutN0,iSetL_cons,iSetL_nil,va,vg,vs,vw,vk,simprocAttr]
 refine callR_ret (g2 _ _ ⟨rfl,rfl,rfl,rfl⟩ (by simp[AV.ids,AV.idsL,AV.idsM])) ?_
 simp -implicitDefEqProofs (maxSteps:=99999999) (disch:=first | omega | (simp only[vl];first | done | omega)) only[vu,c1,c2,ok,mPutN,mPutN0,iSetL_cons,iSetL_nil,va,vg,vs,vw,vk,simprocAttr]
 refine callR_ret (g2 _ _ ⟨rfl,rfl,rfl,rfl⟩ (by simp[AV.ids,AV.idsL,AV.idsM])) ?_
 simp -implicitDefEqProofs (maxSteps:=99999999) (disch:=first | omega | (simp only[vl];first | done | omega)) only[vu,c1,c2,ok,mPutN,mPutN0,iSetL_cons,iSetL_nil,va,vg,vs,vw,vk,simprocAttr]
 refine callR_ret (g2 _ _ ⟨rfl,rfl,rfl,rfl⟩ (by simp[AV.ids,AV.idsL,AV.idsM])) ?_
 simp -implicitDefEqProofs (maxSteps:=99999999) (disch:=first | omega | (simp only[vl];first | done | omega)) only[vu,c1,c2,ok,mPutN,mPutN0,iSetL_cons,iSetL_nil,va,vg,vs,vw,vk,simprocAttr]
 refine callR_ret (g2 _ _ ⟨rfl,rfl,rfl,rfl⟩ (by simp[AV.ids,AV.idsL,AV.idsM])) ?_
 simp -implicitDefEqProofs (maxSteps:=99999999) (disch:=first | omega | (simp only[vl];first | done | omega)) only[vu,c1,c2,ok,mPutN,mPutN0,iSetL_cons,iSetL_nil,va,vg,vs,vw,vk,simprocAttr]
 refine callR_ret (g2 _ _ ⟨rfl,rfl,rfl,rfl⟩ (by simp[AV.ids,AV.idsL,AV.idsM])) ?_
 simp -implicitDefEqProofs (maxSteps:=99999999) (disch:=first | omega | (simp only[vl];first | done | omega)) only[vu,c1,c2,ok,mPutN,mPutN0,iSetL_cons,iSetL_nil,va,vg,vs,vw,vk,simprocAttr]
 refine callR_ret (g2 _ _ ⟨rfl,rfl,rfl,rfl⟩ (by simp[AV.ids,AV.idsL,AV.idsM])) ?_
 simp -implicitDefEqProofs (maxSteps:=99999999) (disch:=first | omega | (simp only[vl];first | done | omega)) only[vu,c1,c2,ok,mPutN,mPutN0,iSetL_cons,iSetL_nil,va,vg,vs,vw,vk,simprocAttr]
 refine callR_ret (g2 _ _ ⟨rfl,rfl,rfl,rfl⟩ (by simp[AV.ids,AV.idsL,AV.idsM])) ?_
 simp -implicitDefEqProofs (maxSteps:=99999999) (disch:=first | omega | (simp only[vl];first | done | omega)) only[vu,c1,c2,ok,mPutN,mPutN0,iSetL_cons,iSetL_nil,va,vg,vs,vw,vk,simprocAttr]
 refine callR_ret (g2 _ _ ⟨rfl,rfl,rfl,rfl⟩ (by simp[AV.ids,AV.idsL,AV.idsM])) ?_
 simp -implicitDefEqProofs (maxSteps:=99999999) (disch:=first | omega | (simp only[vl];first | done | omega)) only[vu,c1,c2,ok,mPutN,mPutN0,iSetL_cons,iSetL_nil,va,vg,vs,vw,vk,simprocAttr]
 refine callR_ret (g2 _ _ ⟨rfl,rfl,rfl,rfl⟩ (by simp[AV.ids,AV.idsL,AV.idsM])) ?_
 simp -implicitDefEqProofs (maxSteps:=99999999) (disch:=first | omega | (simp only[vl];first | done | omega)) only[vu,c1,c2,ok,mPutN,mPutN0,iSetL_cons,iSetL_nil,va,vg,vs,vw,vk,simprocAttr]
 refine callR_ret (g2 _ _ ⟨rfl,rfl,rfl,rfl⟩ (by simp[AV.ids,AV.idsL,AV.idsM])) ?_
 simp -implicitDefEqProofs (maxSteps:=99999999) (disch:=first | omega | (simp only[vl];first | done | omega)) only[vu,c1,c2,ok,mPutN,mPutN0,iSetL_cons,iSetL_nil,va,vg,vs,vw,vk,simprocAttr]
 refine callR_ret (g1 _ _) ?_
 simp -implicitDefEqProofs (maxSteps:=99999999) (disch:=first | omega | (simp only[vl];first | done | omega)) only[vu,c1,c2,ok,mPutN,mPutN0,iSetL_cons,iSetL_nil,va,vg,vs,vw,vk,simprocAttr]
 refine callR_ret (g2 _ _ ⟨rfl,rfl,rfl,rfl⟩ (by simp[AV.ids,AV.idsL,AV.idsM])) ?_
 simp -implicitDefEqProofs (maxSteps:=99999999) (disch:=first | omega | (simp only[vl];first | done | omega)) only[vu,c1,c2,ok,mPutN,mPutN0,iSetL_cons,iSetL_nil,va,vg,vs,vw,vk,simprocAttr]
 refine callR_ret (g2 _ _ ⟨rfl,rfl,rfl,rfl⟩ (by simp[AV.ids,AV.idsL,AV.idsM])) ?_
 simp -implicitDefEqProofs (maxSteps:=99999999) (disch:=first | omega | (simp only[vl];first | done | omega)) only[vu,c1,c2,ok,mPutN,mPutN0,iSetL_cons,iSetL_nil,va,vg,vs,vw,vk,simprocAttr]
 refine callR_ret (g2 _ _ ⟨rfl,rfl,rfl,rfl⟩ (by simp[AV.ids,AV.idsL,AV.idsM])) ?_
 simp -implicitDefEqProofs (maxSteps:=99999999) (disch:=first | omega | (simp only[vl];first | done | omega)) only[vu,c1,c2,ok,mPutN,mPutN0,iSetL_cons,iSetL_nil,va,vg,vs,vw,vk,simprocAttr]
 refine callR_ret (g2 _ _ ⟨rfl,rfl,rfl,rfl⟩ (by simp[AV.ids,AV.idsL,AV.idsM])) ?_
 have hget:=rows_get k
 have hsome:=(mHas_idN (q:=.u8) (k:=k) (M:=rowsA)).trans (rows_some k)
 rw[show rowsA.length=22 from rfl] at hsome
 obtain ⟨x,b,hR⟩ : ∃ x b,rwA (rowG k) = .agg [x,.sc (.bool b)]:=⟨_,_,rfl⟩
 have hx : x.ids (· < H.length) ∧ x.isAgg=false ∧ x.isTop=false ∧ x.ncells=1 ∧ x.cells=[x]:=by
  have e : x=klA (rowG k).1:=by unfold rwA at hR;cases hR;rfl
  rw[e]
  unfold klA
  split
  ·exact ⟨⟨trivial,trivial⟩,rfl,rfl,rfl,rfl⟩
  ·exact ⟨⟨AV.idsL_iff.2 (by intro y hy;obtain ⟨n,_,rfl⟩:=List.mem_map.1 hy;trivial),trivial⟩,rfl,rfl,rfl,rfl⟩
 rw[hR] at hget
 generalize (rowR k).isSome=s at *
 simp only[rowsA,rowsL,rwA,klA,List.map_cons,List.map_nil,reduceCtorEq,if_false,if_true] at hget hsome
 simp -implicitDefEqProofs (maxSteps:=99999999) (disch:=first | omega | (simp only[vl];first | done | omega)) only[vu,c1,c2,ok,mPutN,mPutN0,iSetL_cons,iSetL_nil,mVal_idN,mI_length,hget,hsome,hx.2.1,hx.2.2.1,hx.2.2.2.1,hx.2.2.2.2,va,vg,vs,vw,vk,simprocAttr]
 refine hL _ _ ?_
 clear hL
 simp -implicitDefEqProofs (maxSteps:=99999999) (disch:=first | omega | (simp only[vl];first | done | omega)) only[vu,hx.2.1,hx.2.2.1,hx.2.2.2.1,hx.2.2.2.2,va,vg,vs,vw,vk,simprocAttr]
 rw[hR]
 refine weak_over (.cons (.cons (.cons .refl))) (.same ?_)
 exact ⟨⟨hx.1,trivial,trivial⟩,trivial,trivial⟩
end Go.Proofs.YtfnahogjkgcklaaGreatDoor
