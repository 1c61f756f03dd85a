import Derived.Test.YtfnahogjkgcklaaGreatDoorV36
import Derived.Test.YtfnahogjkgcklaaGreatDoorTI
import Derived.Test.YtfnahogjkgcklaaGreatDoorIc5
namespace Go.Proofs.YtfnahogjkgcklaaGreatDoor
open Go.RowKit
set_option maxRecDepth 100000
set_option linter.unusedVariables false
set_option linter.unusedSimpArgs false
def shNd : Shape:=⟨4,25,true⟩
def mkNd (k i : Nat) : AV:=.agg [.sc (.int .u8 0),.sc (.string ⟨#[]⟩),.sc (.int .i64 (markI k i)),.lst 0 [] (some [])]
theorem mkNd_is {k i : Nat} : shNd.is (mkNd k i):=⟨rfl,rfl,rfl⟩
theorem mkNd_facts {k i : Nat} : (mkNd k i).isTop=false ∧ (mkNd k i).ncells=4 ∧ (mkNd k i).isAgg=true:=⟨rfl,rfl,rfl⟩
theorem markNode_e (k i : Int) (H : AHeap) : D Tryz.prog 20 [.sc (.int .i64 k),.sc (.int .i64 i)] H (.ret (.agg [.sc (.int .u8 0),.sc (.string ⟨#[]⟩),.sc (.int .i64 (markI k i)),.lst 0 [] (some [])])) H:=markNode_d k i H
theorem sameMark_e (k i : Int) (H : AHeap) : D Tryz.prog 11 [.agg [.sc (.int .u8 0),.sc (.string ⟨#[]⟩),.sc (.int .i64 (markI k i)),.lst 0 [] (some [])],.agg [.sc (.int .u8 0),.sc (.string ⟨#[]⟩),.sc (.int .i64 (markI k i)),.lst 0 [] (some [])]] H (.ret (.sc (.bool true))) H:=sameMark_d k i H
set_option maxHeartbeats 0 in
theorem flatNodes_e (H : AHeap) (rs : List FRow) (lid : Nat) (exl : Bool) (lty : TypeId) (cl : Option Nat) (hls : AHeap.find H lid=some ⟨1,rowsV 4 rs,exl,lty⟩) (ok : RowsOK shNd H rs) (hlid : lid ∉ rowIds rs) (hN : rs.length ≤ 1000000) :
  D Tryz.prog 54 [.vec 1 lid 0 rs.length cl] H (.ret (.sc (.bool true))) (killIds (rowIds rs) H):=by
 refine D_of_DK (by rw[killIds_length];exact Nat.le_refl _) (dk54 (E_of_ES ?_))
 simp only[ic54,ux]
 have hlt:=AHeap.find_lt hls
 have hrl : (rowsV 4 rs).length=rs.length:=rowsV_length
 have hsm:=ok.small
 have keepl : ∀ {F : AHeap},Beside H F rs→AHeap.find F lid=some ⟨1,rowsV 4 rs,exl,lty⟩:=fun h=>(h lid hlt hlid).trans hls
 refine ES_seq_gen fun L hL=>?_
 simp -implicitDefEqProofs (maxSteps:=99999999) (disch:=first | omega | (simp only[AHeap.set_length,killO_length,List.length_cons,List.length_nil];first | done | omega)) only[va,vg,vs,vw,Nat.reduceMul,ite_true,ite_false,eq_self,forall_const,implies_true,Nat.reduceAdd,Nat.reduceSub,Nat.reduceLT,Nat.reduceLeDiff,↓reduceIte,reduceCtorEq,Int.reduceEq,Int.reduceLT,Int.reduceLE,Int.reduceGT,Int.reduceGE,Int.reduceAdd,Int.reduceSub,Int.reduceNeg,Int.reduceToNat,Nat.reduceBEq,Nat.reduceEqDiff]
 refine hL _ _ ?_
 clear hL
 refine ES_seq_gen fun L hL=>?_
 simp -implicitDefEqProofs (maxSteps:=99999999) (disch:=first | omega | (simp only[AHeap.set_length,killO_length,List.length_cons,List.length_nil];first | done | omega)) only[va,vg,vs,vw,Nat.reduceMul,ite_true,ite_false,eq_self,forall_const,implies_true,Nat.reduceAdd,Nat.reduceSub,Nat.reduceLT,Nat.reduceLeDiff,↓reduceIte,reduceCtorEq,Int.reduceEq,Int.reduceLT,Int.reduceLE,Int.reduceGT,Int.reduceGE,Int.reduceAdd,Int.reduceSub,Int.reduceNeg,Int.reduceToNat,Nat.reduceBEq,Nat.reduceEqDiff]
 refine ES_loopL (fun ts F=>∃ K : Nat,(K ≤ rs.length ∧ F.length=H.length ∧ Beside H F rs ∧ RowsM shNd mkNd F rs (fun k=>if k < K then (nthR rs k).n else 0)) ∧ Fr [some (.vec 1 lid 0 rs.length cl),none,some (.sc (.bool false)),some (.sc (.int .i64 K)),none,none,none,none,none,none,none,none,none,none,none,none,none,none,none,none,none,none,none,none,none,none,none,none,none,none,none,none,none,none,none,none,none,none,none,none,none,none,none,none,none,none,none,none,none,none,none,none,none,none,none,none,none,none,none,none,none,none,none,none,none,none,none,none,none,none,none,none,none,none,none,none,none,none,none,none,none,none,none,none,none,none,none,none,none,none,none,none,none,none,none,none,none,none,none,none,none,none,none,none,none,none,none,none,none,none,none,none,none,none,none,none,none,none,none,none,none,none,none,none,none,none,none,none,none,none,none,none,none,none,none,none,none,none,none,none,none,none,none,none,none,none,none,none,none,none,none,none,none,none,none,none,none,none,none,none,none,none,none,none,none,none,none,none,none,none,none,none,none,none,none,none,none,none,none,none,none,none,none,none,none,none,none,none,none,none,none,none,none] ts) (fun ts _=>rs.length - (intV (ts.getD 3 .top)).toNat) ⟨0,⟨Nat.zero_le _,rfl,.refl,ok.start.less (fun k _=>by simp)⟩,by simp[Fr]⟩ ?_
 rintro ts F ⟨K,⟨hK,hFl,hb,hr⟩,hfr⟩ L2 hL2
 obtain ⟨js,rfl⟩:=hfr.opened
 clear hfr
 have hl1:=keepl hb
 simp -implicitDefEqProofs (maxSteps:=99999999) (disch:=first | omega | (simp only[AHeap.set_length,killO_length,List.length_cons,List.length_nil];first | done | omega)) only[mk,va,vg,vs,vw,Nat.reduceMul,ite_true,ite_false,eq_self,forall_const,implies_true,Nat.reduceAdd,Nat.reduceSub,Nat.reduceLT,Nat.reduceLeDiff,↓reduceIte,reduceCtorEq,Int.reduceEq,Int.reduceLT,Int.reduceLE,Int.reduceGT,Int.reduceGE,Int.reduceAdd,Int.reduceSub,Int.reduceNeg,Int.reduceToNat,Nat.reduceBEq,Nat.reduceEqDiff]
 refine condR_if (fun h=>?_) (fun h=>?_)
 ·have h1 : K < rs.length:=by omega
  simp -implicitDefEqProofs (maxSteps:=99999999) (disch:=first | omega | (simp only[AHeap.set_length,killO_length,List.length_cons,List.length_nil];first | done | omega)) only[va,vg,vs,vw,Nat.reduceMul,ite_true,ite_false,eq_self,forall_const,implies_true,Nat.reduceAdd,Nat.reduceSub,Nat.reduceLT,Nat.reduceLeDiff,↓reduceIte,reduceCtorEq,Int.reduceEq,Int.reduceLT,Int.reduceLE,Int.reduceGT,Int.reduceGE,Int.reduceAdd,Int.reduceSub,Int.reduceNeg,Int.reduceToNat,Nat.reduceBEq,Nat.reduceEqDiff]
  refine ES_loopL (fun ts F=>∃ j : Nat,(j ≤ (nthR rs K).n ∧ F.length=H.length ∧ Beside H F rs ∧ RowsM shNd mkNd F rs (fun k=>if k < K then (nthR rs k).n else if k=K then j else 0)) ∧ Fr [some (.vec 1 lid 0 rs.length cl),none,some (.sc (.bool false)),some (.sc (.int .i64 K)),some (.sc (.int .i64 j)),none,none,none,none,none,none,none,none,none,none,none,none,none,none,none,none,none,none,none,none,none,none,none,none,none,none,none,none,none,none,none,none,none,none,none,none,none,none,none,none,none,none,none,none,none,none,none,none,none,none,none,none,none,none,none,none,none,none,none,none,none,none,none,none,none,none,none,none,none,none,none,none,none,none,none,none,none,none,none,none,none,none,none,none,none,none,none,none,none,none,none,none,none,none,none,none,none,none,none,none,none,none,none,none,none,none,none,none,none,none,none,none,none,none,none,none,none,none,none,none,none,none,none,none,none,none,none,none,none,none,none,none,none,none,none,none,none,none,none,none,none,none,none,none,none,none,none,none,none,none,none,none,none,none,none,none,none,none,none,none,none,none,none,none,none,none,none,none,none,none,none,none,none,none,none,none,none,none,none,none,none,none,none,none,none,none,none,none] ts) (fun ts _=>(nthR rs K).n - (intV (ts.getD 4 .top)).toNat) ⟨0,⟨Nat.zero_le _,hFl,hb,hr.less (fun k _=>mk_zero (n:=fun k=>(nthR rs k).n) k)⟩,by simp[Fr]⟩ ?_
  clear hb hr hl1 hFl
  rintro ts F ⟨j,⟨hj,hFl,hb,hr⟩,hfr⟩ L3 hL3
  obtain ⟨js,rfl⟩:=hfr.opened
  clear hfr
  have hl1:=keepl hb
  have hg:=rowsV_get (k:=4) h1
  have k0 : (0 : Int) ≤ (K : Int):=by omega
  have k1 : (K : Int) < rs.length:=by omega
  cases hn : (nthR rs K).nil with
  | true =>
   rw[FRow.av_nil hn] at hg
   have hz:=ok.nil K h1 hn
   have hj0 : j=0:=by omega
   subst hj0
   simp -implicitDefEqProofs (maxSteps:=99999999) (disch:=first | omega | (simp only[AHeap.set_length,killO_length,List.length_cons,List.length_nil];first | done | omega)) only[mk,hl1,hrl,hg,h1,k0,k1,va,vg,vs,vw,Nat.reduceMul,ite_true,ite_false,eq_self,forall_const,implies_true,Nat.reduceAdd,Nat.reduceSub,Nat.reduceLT,Nat.reduceLeDiff,↓reduceIte,reduceCtorEq,Int.reduceEq,Int.reduceLT,Int.reduceLE,Int.reduceGT,Int.reduceGE,Int.reduceAdd,Int.reduceSub,Int.reduceNeg,Int.reduceToNat,Nat.reduceBEq,Nat.reduceEqDiff]
   exact hL2 _ _ ⟨K+1,⟨by omega,hFl,hb,hr.less (fun k _=>mk_next (n:=fun k=>(nthR rs k).n) (by omega) k)⟩,by simp[Fr]⟩ (by simp[intV,mk];omega)
  | false =>
   rw[FRow.av_vec hn] at hg
   have hn0:=hsm K h1
   obtain ⟨es,ex,hf,hc,hsh,hm⟩:=hr K h1 hn
   have hf' : AHeap.find F (nthR rs K).id=some ⟨4,es,ex,25⟩:=hf
   have hce:=capOK_le hc
   simp -implicitDefEqProofs (maxSteps:=99999999) (disch:=first | omega | (simp only[AHeap.set_length,killO_length,List.length_cons,List.length_nil];first | done | omega)) only[mk,hl1,hrl,hg,h1,k0,k1,va,vg,vs,vw,Nat.reduceMul,ite_true,ite_false,eq_self,forall_const,implies_true,Nat.reduceAdd,Nat.reduceSub,Nat.reduceLT,Nat.reduceLeDiff,↓reduceIte,reduceCtorEq,Int.reduceEq,Int.reduceLT,Int.reduceLE,Int.reduceGT,Int.reduceGE,Int.reduceAdd,Int.reduceSub,Int.reduceNeg,Int.reduceToNat,Nat.reduceBEq,Nat.reduceEqDiff]
   refine condR_if (fun h=>?_) (fun h=>?_)
   ·have h2 : j < (nthR rs K).n:=by omega
    have j0 : (0 : Int) ≤ (j : Int):=by omega
    have j1 : (j : Int) < (nthR rs K).n:=by omega
    have j2 : j < es.length:=by omega
    simp -implicitDefEqProofs (maxSteps:=99999999) (disch:=first | omega | (simp only[AHeap.set_length,killO_length,List.length_cons,List.length_nil];first | done | omega)) only[mk,hl1,hrl,hg,h1,k0,k1,va,vg,vs,vw,Nat.reduceMul,ite_true,ite_false,eq_self,forall_const,implies_true,Nat.reduceAdd,Nat.reduceSub,Nat.reduceLT,Nat.reduceLeDiff,↓reduceIte,reduceCtorEq,Int.reduceEq,Int.reduceLT,Int.reduceLE,Int.reduceGT,Int.reduceGE,Int.reduceAdd,Int.reduceSub,Int.reduceNeg,Int.reduceToNat,Nat.reduceBEq,Nat.reduceEqDiff]
    refine callD_same (markNode_e _ _ _) ?_
    have hsx:=hsh _ (List.getElem_mem j2)
    have hgx : es.getD j .top=es[j]:=by simp[List.getD,j2]
    have x1 : (es.getD j .top).ncells=4:=by rw[hgx];exact hsx.2.1
    have x2 : (es.getD j .top).isAgg=true:=by rw[hgx];exact hsx.2.2
    have x3 : ∀ c,AV.upd (es.getD j .top) 0 (.agg [.sc (.int .u8 0),.sc (.string ⟨#[]⟩),c,.lst 0 [] (some [])]) = .agg [.sc (.int .u8 0),.sc (.string ⟨#[]⟩),c,.lst 0 [] (some [])]:=fun c=>upd_full x1 rfl rfl
    simp -implicitDefEqProofs (maxSteps:=99999999) (disch:=first | omega | (simp only[AHeap.set_length,killO_length,List.length_cons,List.length_nil];first | done | omega)) only[mk,hl1,hrl,hg,h1,k0,k1,hf',j0,j1,j2,x1,x2,x3,va,vg,vs,vw,Nat.reduceMul,ite_true,ite_false,eq_self,forall_const,implies_true,Nat.reduceAdd,Nat.reduceSub,Nat.reduceLT,Nat.reduceLeDiff,↓reduceIte,reduceCtorEq,Int.reduceEq,Int.reduceLT,Int.reduceLE,Int.reduceGT,Int.reduceGE,Int.reduceAdd,Int.reduceSub,Int.reduceNeg,Int.reduceToNat,Nat.reduceBEq,Nat.reduceEqDiff]
    refine hL3 _ _ ⟨j+1,⟨by omega,by rw[AHeap.set_length];exact hFl,hb.set h1 hn,?_⟩,by simp[Fr]⟩ (by simp[intV,mk];omega)
    refine hr.put ok h1 hn ?_ (fun k e=>mk_up (n:=fun k=>(nthR rs k).n) k e)
    have:=RowR.store (m:=j) (mk:=mkNd K) hf hc hsh (fun i hi=>hm i (by simpa using hi)) h2 mkNd_is
    show RowR _ _ _ _ _ _ (if K < K then _ else if K=K then _ else _)
    rw[if_neg (Nat.lt_irrefl _),if_pos rfl]
    exact this
   ·have hj0 : j=(nthR rs K).n:=by omega
    subst hj0
    clear hf hf' hc hsh hm
    simp -implicitDefEqProofs (maxSteps:=99999999) (disch:=first | omega | (simp only[AHeap.set_length,killO_length,List.length_cons,List.length_nil];first | done | omega)) only[va,vg,vs,vw,Nat.reduceMul,ite_true,ite_false,eq_self,forall_const,implies_true,Nat.reduceAdd,Nat.reduceSub,Nat.reduceLT,Nat.reduceLeDiff,↓reduceIte,reduceCtorEq,Int.reduceEq,Int.reduceLT,Int.reduceLE,Int.reduceGT,Int.reduceGE,Int.reduceAdd,Int.reduceSub,Int.reduceNeg,Int.reduceToNat,Nat.reduceBEq,Nat.reduceEqDiff]
    exact hL2 _ _ ⟨K+1,⟨by omega,hFl,hb,hr.less (fun k _=>mk_next (n:=fun k=>(nthR rs k).n) (by omega) k)⟩,by simp[Fr]⟩ (by simp[intV,mk];omega)
 ·have hKN : K=rs.length:=by omega
  subst hKN
  refine hL _ _ ?_
  clear hL hL2
  have hr : RowsM shNd mkNd F rs (fun k=>(nthR rs k).n):=hr.less (fun k hk=>by rw[if_pos hk];exact Nat.le_refl _)
  refine ES_seq_gen fun L hL=>?_
  simp -implicitDefEqProofs (maxSteps:=99999999) (disch:=first | omega | (simp only[AHeap.set_length,killO_length,List.length_cons,List.length_nil];first | done | omega)) only[va,vg,vs,vw,Nat.reduceMul,ite_true,ite_false,eq_self,forall_const,implies_true,Nat.reduceAdd,Nat.reduceSub,Nat.reduceLT,Nat.reduceLeDiff,↓reduceIte,reduceCtorEq,Int.reduceEq,Int.reduceLT,Int.reduceLE,Int.reduceGT,Int.reduceGE,Int.reduceAdd,Int.reduceSub,Int.reduceNeg,Int.reduceToNat,Nat.reduceBEq,Nat.reduceEqDiff]
  refine ⟨by omega,?_⟩
  simp only[hFl]
  refine hL _ _ ?_
  clear hL
  refine ES_seq_gen fun L hL=>?_
  simp -implicitDefEqProofs (maxSteps:=99999999) (disch:=first | omega | (simp only[AHeap.set_length,killO_length,List.length_cons,List.length_nil];first | done | omega)) only[va,vg,vs,vw,Nat.reduceMul,ite_true,ite_false,eq_self,forall_const,implies_true,Nat.reduceAdd,Nat.reduceSub,Nat.reduceLT,Nat.reduceLeDiff,↓reduceIte,reduceCtorEq,Int.reduceEq,Int.reduceLT,Int.reduceLE,Int.reduceGT,Int.reduceGE,Int.reduceAdd,Int.reduceSub,Int.reduceNeg,Int.reduceToNat,Nat.reduceBEq,Nat.reduceEqDiff]
  refine ES_loopL (fun ts F=>∃ (K : Nat) (gvs : List AV),(K ≤ rs.length ∧ H.length < F.length ∧ Beside H F rs ∧ RowsM shNd mkNd F rs (fun k=>(nthR rs k).n) ∧ AHeap.find F H.length=some ⟨1,gvs,true,23⟩ ∧ (gvs.length=rs.length ∧ Ones gvs) ∧ Seconds 4 mkNd F rs H.length F.length gvs K (fun k=>(nthR rs k).n+64)) ∧ Fr [some (.vec 1 lid 0 rs.length cl),none,some (.sc (.bool false)),none,none,some (.vec 1 H.length 0 rs.length (some rs.length)),some (.sc (.int .i64 K)),none,none,none,none,none,none,none,none,none,none,none,none,none,none,none,none,none,none,none,none,none,none,none,none,none,none,none,none,none,none,none,none,none,none,none,none,none,none,none,none,none,none,none,none,none,none,none,none,none,none,none,none,none,none,none,none,none,none,none,none,none,none,none,none,none,none,none,none,none,none,none,none,none,none,none,none,none,none,none,none,none,none,none,none,none,none,none,none,none,none,none,none,none,none,none,none,none,none,none,none,none,none,none,none,none,none,none,none,none,none,none,none,none,none,none,none,none,none,none,none,none,none,none,none,none,none,none,none,none,none,none,none,none,none,none,none,none,none,none,none,none,none,none,none,none,none,none,none,none,none,none,none,none,none,none,none,none,none,none,none,none,none,none,none,none,none,none,none,none,none,none,none,none,none,none,none,none,none,none,none,none,none,none,none,none,none] ts) (fun ts _=>rs.length - (intV (ts.getD 6 .top)).toNat) ?_ ?_
  ·exact ⟨0,_,⟨Nat.zero_le _,by simp;omega,hb.cons (by omega),hr.cons,find_top (by omega),⟨by simp,.rep ⟨rfl,rfl⟩⟩,Seconds.zero⟩,by simp[Fr]⟩
  clear hb hr hl1 hFl
  rintro ts F ⟨K,gvs,⟨hK,hFl,hb,hr,hgs,⟨hgl,hone⟩,hsec⟩,hfr⟩ L2 hL2
  obtain ⟨js,rfl⟩:=hfr.opened
  clear hfr
  have hl1:=keepl hb
  simp -implicitDefEqProofs (maxSteps:=99999999) (disch:=first | omega | (simp only[AHeap.set_length,killO_length,List.length_cons,List.length_nil];first | done | omega)) only[mk,va,vg,vs,vw,Nat.reduceMul,ite_true,ite_false,eq_self,forall_const,implies_true,Nat.reduceAdd,Nat.reduceSub,Nat.reduceLT,Nat.reduceLeDiff,↓reduceIte,reduceCtorEq,Int.reduceEq,Int.reduceLT,Int.reduceLE,Int.reduceGT,Int.reduceGE,Int.reduceAdd,Int.reduceSub,Int.reduceNeg,Int.reduceToNat,Nat.reduceBEq,Nat.reduceEqDiff]
  refine condR_if (fun h=>?_) (fun h=>?_)
  ·have h1 : K < rs.length:=by omega
   have hg:=rowsV_get (k:=4) h1
   have k0 : (0 : Int) ≤ (K : Int):=by omega
   have k1 : (K : Int) < rs.length:=by omega
   have hn0:=hsm K h1
   have hln:=FRow.av_lenN (k:=4) (ok.nil K h1)
   obtain ⟨a1,a2,a3,a4,a5⟩ : _ ∧ _ ∧ _ ∧ _ ∧ _:=⟨FRow.av_top (k:=4) (r:=nthR rs K),FRow.av_ncells (k:=4) (r:=nthR rs K),FRow.av_isAgg (k:=4) (r:=nthR rs K),FRow.av_cells (k:=4) (r:=nthR rs K),FRow.av_lenOk (k:=4) (r:=nthR rs K)⟩
   simp -implicitDefEqProofs (maxSteps:=99999999) (disch:=first | omega | (simp only[AHeap.set_length,killO_length,List.length_cons,List.length_nil];first | done | omega)) only[hl1,hrl,hg,h1,k0,k1,a1,a2,a3,a4,a5,hln,va,vg,vs,vw,Nat.reduceMul,ite_true,ite_false,eq_self,forall_const,implies_true,Nat.reduceAdd,Nat.reduceSub,Nat.reduceLT,Nat.reduceLeDiff,↓reduceIte,reduceCtorEq,Int.reduceEq,Int.reduceLT,Int.reduceLE,Int.reduceGT,Int.reduceGE,Int.reduceAdd,Int.reduceSub,Int.reduceNeg,Int.reduceToNat,Nat.reduceBEq,Nat.reduceEqDiff]
   obtain ⟨B,hB⟩ : ∃ B,B=F.length:=⟨_,rfl⟩
   rw[← hB] at hsec
   refine ES_loopL (fun ts F=>∃ (j : Nat) (g : AV),(j ≤ 64 ∧ B ≤ F.length ∧ Beside H F rs ∧ RowsM shNd mkNd F rs (fun k=>(nthR rs k).n) ∧ AHeap.find F H.length=some ⟨1,gvs,true,23⟩ ∧ Seconds 4 mkNd F rs H.length B gvs K (fun k=>(nthR rs k).n+64) ∧ Grow shNd (mkNd K) F (nthR rs K) B j g) ∧ Fr [some (.vec 1 lid 0 rs.length cl),none,some (.sc (.bool false)),none,none,some (.vec 1 H.length 0 rs.length (some rs.length)),some (.sc (.int .i64 K)),some (g),some (.sc (.int .i64 j)),none,none,none,none,none,none,none,none,none,none,none,none,none,none,none,none,none,none,none,none,none,none,none,none,none,none,none,none,none,none,none,none,none,none,none,none,none,none,none,none,none,none,none,none,none,none,none,none,none,none,none,none,none,none,none,none,none,none,none,none,none,none,none,none,none,none,none,none,none,none,none,none,none,none,none,none,none,none,none,none,none,none,none,none,none,none,none,none,none,none,none,none,none,none,none,none,none,none,none,none,none,none,none,none,none,none,none,none,none,none,none,none,none,none,none,none,none,none,none,none,none,none,none,none,none,none,none,none,none,none,none,none,none,none,none,none,none,none,none,none,none,none,none,none,none,none,none,none,none,none,none,none,none,none,none,none,none,none,none,none,none,none,none,none,none,none,none,none,none,none,none,none,none,none,none,none,none,none,none,none,none,none,none,none] ts) (fun ts _=>64 - (intV (ts.getD 8 .top)).toNat) ?_ ?_
   ·refine ⟨0,_,⟨by omega,by omega,hb,hr,hgs,hsec,?_⟩,by simp[Fr];rfl⟩
    cases hn : (nthR rs K).nil with
    | true=>rw[FRow.av_nil hn];exact .nil hn rfl
    | false=>rw[FRow.av_vec hn];exact .room hn (hr K h1 hn)
   rw[← hB] at hFl
   have hBg : H.length < B:=by omega
   clear hb hr hgs hl1 hFl hsec hB
   rintro ts F ⟨j,g,⟨hj,hBF,hb,hr,hgs,hsec,hgr⟩,hfr⟩ L3 hL3
   obtain ⟨js,rfl⟩:=hfr.opened
   clear hfr
   have hl1:=keepl hb
   simp -implicitDefEqProofs (maxSteps:=99999999) (disch:=first | omega | (simp only[AHeap.set_length,killO_length,List.length_cons,List.length_nil];first | done | omega)) only[mk,va,vg,vs,vw,Nat.reduceMul,ite_true,ite_false,eq_self,forall_const,implies_true,Nat.reduceAdd,Nat.reduceSub,Nat.reduceLT,Nat.reduceLeDiff,↓reduceIte,reduceCtorEq,Int.reduceEq,Int.reduceLT,Int.reduceLE,Int.reduceGT,Int.reduceGE,Int.reduceAdd,Int.reduceSub,Int.reduceNeg,Int.reduceToNat,Nat.reduceBEq,Nat.reduceEqDiff]
   refine condR_if (fun h=>?_) (fun h=>?_)
   ·have h2 : j < 64:=by omega
    simp -implicitDefEqProofs (maxSteps:=99999999) (disch:=first | omega | (simp only[AHeap.set_length,killO_length,List.length_cons,List.length_nil];first | done | omega)) only[hl1,hrl,hg,h1,k0,k1,a1,a2,a3,a4,a5,hln,va,vg,vs,vw,Nat.reduceMul,ite_true,ite_false,eq_self,forall_const,implies_true,Nat.reduceAdd,Nat.reduceSub,Nat.reduceLT,Nat.reduceLeDiff,↓reduceIte,reduceCtorEq,Int.reduceEq,Int.reduceLT,Int.reduceLE,Int.reduceGT,Int.reduceGE,Int.reduceAdd,Int.reduceSub,Int.reduceNeg,Int.reduceToNat,Nat.reduceBEq,Nat.reduceEqDiff]
    refine callR_ret (markNode_e _ _ _) ?_
    have hmk : AV.agg [.sc (.int .u8 0),.sc (.string ⟨#[]⟩),.sc (.int .i64 (markI K ((nthR rs K).n+j))),.lst 0 [] (some [])]=mkNd K ((nthR rs K).n+j):=by unfold mkNd;rw[Int.natCast_add]
    have hn0:=hsm K h1
    have hid0 : ∀ k,k < rs.length→(nthR rs k).nil=false→(nthR rs k).id < H.length:=fun k hk hn=>by
     obtain ⟨es,ex,e1,_⟩:=ok.blk k hk hn
     exact AHeap.find_lt e1
    cases hgr with
    | nil hn hj0 =>
     subst hj0
     have hz:=ok.nil K h1 hn
     rw[hz] at hmk
     simp only[hz,Int.natCast_zero,Int.add_zero,Nat.add_zero] at hmk
     simp -implicitDefEqProofs (maxSteps:=99999999) (disch:=first | omega | (simp only[AHeap.set_length,killO_length,List.length_cons,List.length_nil];first | done | omega)) only[hl1,hrl,hg,h1,k0,k1,hz,hmk,mkNd_facts,va,vg,vs,vw,Nat.reduceMul,ite_true,ite_false,eq_self,forall_const,implies_true,Nat.reduceAdd,Nat.reduceSub,Nat.reduceLT,Nat.reduceLeDiff,↓reduceIte,reduceCtorEq,Int.reduceEq,Int.reduceLT,Int.reduceLE,Int.reduceGT,Int.reduceGE,Int.reduceAdd,Int.reduceSub,Int.reduceNeg,Int.reduceToNat,Nat.reduceBEq,Nat.reduceEqDiff]
     refine hL3 _ _ ⟨1,_,⟨by omega,by simp;omega,hb.cons (by omega),hr.cons,by rw[AHeap.find_cons (by omega)];exact hgs,hsec.keep (fun id e1 e2=>AHeap.find_cons (by omega)) (fun k hk hn=>AHeap.find_cons (by have:=hid0 k (by omega) hn;omega)),.new (gid:=F.length) hBF (by simp) ?_⟩,by simp[Fr,hz];rfl⟩ (by simp[intV,mk])
     rw[AHeap.find_new,hz]
     rfl
    | room hn hrow =>
     obtain ⟨es,ex,hf,hc,hsh,hm⟩:=hrow
     have hf' : AHeap.find F (nthR rs K).id=some ⟨4,es,ex,25⟩:=hf
     have hce:=capOK_le hc
     have hid:=hid0 K h1 hn
     have hsk : shNd.k=4:=rfl
     have hc':=hc
     unfold capOK at hc'
     have hlim : (nthR rs K).n+(j+1) ≤ 100000000:=by omega
     by_cases hroom : (nthR rs K).n+(j+1) ≤ (nthR rs K).c
     ·have happ : RowR shNd (mkNd K) (AHeap.set F (nthR rs K).id (some ⟨4,es.take ((nthR rs K).n+j) ++ mkNd K ((nthR rs K).n+j) :: es.drop ((nthR rs K).n+(j+1)),ex,25⟩)) (nthR rs K).id ((nthR rs K).n+(j+1)) (nthR rs K).c ((nthR rs K).n+(j+1)):=by
       have:=RowR.app (ys:=[mkNd K ((nthR rs K).n+j)]) hf hc hsh hm hroom (fun x hx=>by rw[List.mem_singleton.1 hx];exact mkNd_is) (fun i hi=>by
        have : i=0:=by simpa using hi
        subst this
        rfl)
       rw[List.append_assoc] at this
       exact this
      simp -implicitDefEqProofs (maxSteps:=99999999) (disch:=first | omega | (simp only[AHeap.set_length,killO_length,List.length_cons,List.length_nil];first | done | omega)) only[hl1,hrl,hg,h1,k0,k1,hmk,hf',hroom,mkNd_facts,hsk,hc',hlim,va,vg,vs,vw,Nat.reduceMul,ite_true,ite_false,eq_self,forall_const,implies_true,Nat.reduceAdd,Nat.reduceSub,Nat.reduceLT,Nat.reduceLeDiff,↓reduceIte,reduceCtorEq,Int.reduceEq,Int.reduceLT,Int.reduceLE,Int.reduceGT,Int.reduceGE,Int.reduceAdd,Int.reduceSub,Int.reduceNeg,Int.reduceToNat,Nat.reduceBEq,Nat.reduceEqDiff]
      refine hL3 _ _ ⟨j+1,_,⟨by omega,by rw[AHeap.set_length];exact hBF,hb.set h1 hn,hr.put ok h1 hn ?_ (fun k e=>Nat.le_refl _),by rw[AHeap.find_set_ne (by omega)];exact hgs,hsec.keep (fun id e1 e2=>AHeap.find_set_ne (by omega)) (fun k hk hn2=>AHeap.find_set_ne (fun e=>by have:=ok.apart k K (by omega) h1 hn2 hn e;omega)),.room hn ?_⟩,by simp[Fr];rfl⟩ (by simp[intV,mk];omega)
      ·exact (happ.shrink (by omega)).less (by first | omega | (simp only;omega))
      ·exact happ
     ·simp -implicitDefEqProofs (maxSteps:=99999999) (disch:=first | omega | (simp only[AHeap.set_length,killO_length,List.length_cons,List.length_nil];first | done | omega)) only[hl1,hrl,hg,h1,k0,k1,hmk,hf',hroom,mkNd_facts,hsk,hc',hlim,va,vg,vs,vw,Nat.reduceMul,ite_true,ite_false,eq_self,forall_const,implies_true,Nat.reduceAdd,Nat.reduceSub,Nat.reduceLT,Nat.reduceLeDiff,↓reduceIte,reduceCtorEq,Int.reduceEq,Int.reduceLT,Int.reduceLE,Int.reduceGT,Int.reduceGE,Int.reduceAdd,Int.reduceSub,Int.reduceNeg,Int.reduceToNat,Nat.reduceBEq,Nat.reduceEqDiff]
      refine hL3 _ _ ⟨j+1,_,⟨by omega,by simp;omega,hb.cons (by omega),hr.cons,by rw[AHeap.find_cons (by omega)];exact hgs,hsec.keep (fun id e1 e2=>AHeap.find_cons (by omega)) (fun k hk hn=>AHeap.find_cons (by have:=hid0 k (by omega) hn;omega)),.new (gid:=F.length) hBF (by simp) ?_⟩,by simp[Fr];rfl⟩ (by simp[intV,mk];omega)
      rw[AHeap.find_new,take_marks hce hm,marks_succ]
      rfl
    | new hgid1 hgid2 hf =>
     rename_i gid
     have hf' : AHeap.find F gid=some ⟨4,(List.range ((nthR rs K).n+j)).map (mkNd K),false,25⟩:=hf
     have hsk : shNd.k=4:=rfl
     have hml:=marks_len (mk:=mkNd K) (n:=(nthR rs K).n+j)
     have hlim : (nthR rs K).n+(j+1) ≤ 100000000:=by omega
     simp -implicitDefEqProofs (maxSteps:=99999999) (disch:=first | omega | (simp only[AHeap.set_length,killO_length,List.length_cons,List.length_nil];first | done | omega)) only[hl1,hrl,hg,h1,k0,k1,hmk,hf',mkNd_facts,hsk,hml,hlim,va,vg,vs,vw,Nat.reduceMul,ite_true,ite_false,eq_self,forall_const,implies_true,Nat.reduceAdd,Nat.reduceSub,Nat.reduceLT,Nat.reduceLeDiff,↓reduceIte,reduceCtorEq,Int.reduceEq,Int.reduceLT,Int.reduceLE,Int.reduceGT,Int.reduceGE,Int.reduceAdd,Int.reduceSub,Int.reduceNeg,Int.reduceToNat,Nat.reduceBEq,Nat.reduceEqDiff]
     refine hL3 _ _ ⟨j+1,_,⟨by omega,by simp[AHeap.set_length];omega,(hb.set2 (by omega)).cons (by rw[AHeap.set_length];omega),(hr.far ok (by omega)).cons,by rw[AHeap.find_cons (by rw[AHeap.set_length];omega),AHeap.find_set_ne (by omega)];exact hgs,hsec.keep (fun id e1 e2=>by rw[AHeap.find_cons (by rw[AHeap.set_length];omega),AHeap.find_set_ne (by omega)]) (fun k hk hn=>by have:=hid0 k (by omega) hn;rw[AHeap.find_cons (by rw[AHeap.set_length];omega),AHeap.find_set_ne (by omega)]),.new (gid:=F.length) hBF (by simp[AHeap.set_length]) ?_⟩,by simp[Fr];rfl⟩ (by simp[intV,mk];omega)
     rw[find_top (by rw[AHeap.set_length]),marks_succ]
     rfl
   ·have hj64 : j=64:=by omega
    subst hj64
    obtain ⟨gid,gc,rfl,g1,g2,g3⟩ : ∃ gid gc,g = .vec 4 gid 0 ((nthR rs K).n+64) gc ∧ Reads 4 (mkNd K) F gid ((nthR rs K).n+64) ∧ ((gid=(nthR rs K).id ∧ (nthR rs K).nil=false) ∨ H.length < gid) ∧ gid < F.length:=by
     cases hgr with
     | nil _ h=>omega
     | room hn hrow =>
      obtain ⟨es,ex,e1,_⟩:=ok.blk K h1 hn
      have:=AHeap.find_lt e1
      exact ⟨_,_,rfl,hrow.reads (Nat.le_refl _),.inl ⟨rfl,hn⟩,by omega⟩
     | new e1 e2 e3=>exact ⟨_,_,rfl,.marks e3,.inr (by omega),e2⟩
    clear hgr
    obtain ⟨x1,x3⟩:=hone.get (i:=K) (by omega)
    simp -implicitDefEqProofs (maxSteps:=99999999) (disch:=first | omega | (simp only[AHeap.set_length,killO_length,List.length_cons,List.length_nil];first | done | omega)) only[hl1,hrl,hg,h1,k0,k1,hgs,hgl,x1,x3,va,vg,vs,vw,Nat.reduceMul,ite_true,ite_false,eq_self,forall_const,implies_true,Nat.reduceAdd,Nat.reduceSub,Nat.reduceLT,Nat.reduceLeDiff,↓reduceIte,reduceCtorEq,Int.reduceEq,Int.reduceLT,Int.reduceLE,Int.reduceGT,Int.reduceGE,Int.reduceAdd,Int.reduceSub,Int.reduceNeg,Int.reduceToNat,Nat.reduceBEq,Nat.reduceEqDiff]
    refine hL2 _ _ ⟨K+1,_,⟨by omega,by rw[AHeap.set_length];omega,hb.set2 (Nat.le_refl _),hr.far ok (Nat.le_refl _),AHeap.find_set_same (by omega),⟨by simp[hgl],hone.set ⟨rfl,rfl⟩⟩,?_⟩,by simp[Fr]⟩ (by simp[intV,mk];omega)
    have hid0 : ∀ k,k < rs.length→(nthR rs k).nil=false→(nthR rs k).id < H.length:=fun k hk hn=>by
     obtain ⟨es,ex,e1,_⟩:=ok.blk k hk hn
     exact AHeap.find_lt e1
    refine Seconds.next (B:=B) (hsec.keep (fun id e1 e2=>AHeap.find_set_ne (by omega)) (fun k hk hn=>AHeap.find_set_ne (by have:=hid0 k (by omega) hn;omega))) (by rw[AHeap.set_length];omega) (by omega) (g1.keep (AHeap.find_set_ne ?_)) g2 (by rw[AHeap.set_length];exact g3)
    rcases g2 with ⟨e,hn⟩ | e
    ·have:=hid0 K h1 hn;omega
    ·omega
  ·have hKN : K=rs.length:=by omega
   subst hKN
   refine hL _ _ ?_
   clear hL hL2
   refine ES_seq_gen fun L hL=>?_
   simp -implicitDefEqProofs (maxSteps:=99999999) (disch:=first | omega | (simp only[AHeap.set_length,killO_length,List.length_cons,List.length_nil];first | done | omega)) only[va,vg,vs,vw,Nat.reduceMul,ite_true,ite_false,eq_self,forall_const,implies_true,Nat.reduceAdd,Nat.reduceSub,Nat.reduceLT,Nat.reduceLeDiff,↓reduceIte,reduceCtorEq,Int.reduceEq,Int.reduceLT,Int.reduceLE,Int.reduceGT,Int.reduceGE,Int.reduceAdd,Int.reduceSub,Int.reduceNeg,Int.reduceToNat,Nat.reduceBEq,Nat.reduceEqDiff]
   have hl1:=keepl hb
   refine ES_loopL (fun ts F'=>∃ (K : Nat),(K ≤ rs.length ∧ F'=F) ∧ Fr [some (.vec 1 lid 0 rs.length cl),none,some (.sc (.bool false)),none,none,some (.vec 1 H.length 0 rs.length (some rs.length)),none,none,none,some (.sc (.int .i64 K)),none,none,none,none,none,none,none,none,none,none,none,none,none,none,none,none,none,none,none,none,none,none,none,none,none,none,none,none,none,none,none,none,none,none,none,none,none,none,none,none,none,none,none,none,none,none,none,none,none,none,none,none,none,none,none,none,none,none,none,none,none,none,none,none,none,none,none,none,none,none,none,none,none,none,none,none,none,none,none,none,none,none,none,none,none,none,none,none,none,none,none,none,none,none,none,none,none,none,none,none,none,none,none,none,none,none,none,none,none,none,none,none,none,none,none,none,none,none,none,none,none,none,none,none,none,none,none,none,none,none,none,none,none,none,none,none,none,none,none,none,none,none,none,none,none,none,none,none,none,none,none,none,none,none,none,none,none,none,none,none,none,none,none,none,none,none,none,none,none,none,none,none,none,none,none,none,none,none,none,none,none,none,none] ts) (fun ts _=>rs.length - (intV (ts.getD 9 .top)).toNat) ⟨0,⟨Nat.zero_le _,rfl⟩,by simp[Fr]⟩ ?_
   rintro ts F ⟨K,⟨hK,rfl⟩,hfr⟩ L2 hL2
   obtain ⟨js,rfl⟩:=hfr.opened
   clear hfr
   simp -implicitDefEqProofs (maxSteps:=99999999) (disch:=first | omega | (simp only[AHeap.set_length,killO_length,List.length_cons,List.length_nil];first | done | omega)) only[mk,va,vg,vs,vw,Nat.reduceMul,ite_true,ite_false,eq_self,forall_const,implies_true,Nat.reduceAdd,Nat.reduceSub,Nat.reduceLT,Nat.reduceLeDiff,↓reduceIte,reduceCtorEq,Int.reduceEq,Int.reduceLT,Int.reduceLE,Int.reduceGT,Int.reduceGE,Int.reduceAdd,Int.reduceSub,Int.reduceNeg,Int.reduceToNat,Nat.reduceBEq,Nat.reduceEqDiff]
   refine condR_if (fun h=>?_) (fun h=>?_)
   ·have h1 : K < rs.length:=by omega
    have hg:=rowsV_get (k:=4) h1
    have k0 : (0 : Int) ≤ (K : Int):=by omega
    have k1 : (K : Int) < rs.length:=by omega
    have hn0:=hsm K h1
    have hln:=FRow.av_lenN (k:=4) (ok.nil K h1)
    obtain ⟨a1,a2,a3,a4,a5⟩ : _ ∧ _ ∧ _ ∧ _ ∧ _:=⟨FRow.av_top (k:=4) (r:=nthR rs K),FRow.av_ncells (k:=4) (r:=nthR rs K),FRow.av_isAgg (k:=4) (r:=nthR rs K),FRow.av_cells (k:=4) (r:=nthR rs K),FRow.av_lenOk (k:=4) (r:=nthR rs K)⟩
    obtain ⟨gid,gc,q1,⟨⟨gk,ges,gex,gty⟩,q2,q3,q4,q5⟩,_,_⟩:=hsec K h1
    simp only at q3 q4 q5
    subst q3
    simp -implicitDefEqProofs (maxSteps:=99999999) (disch:=first | omega | (simp only[AHeap.set_length,killO_length,List.length_cons,List.length_nil];first | done | omega)) only[va,vg,vs,vw,Nat.reduceMul,ite_true,ite_false,eq_self,forall_const,implies_true,Nat.reduceAdd,Nat.reduceSub,Nat.reduceLT,Nat.reduceLeDiff,↓reduceIte,reduceCtorEq,Int.reduceEq,Int.reduceLT,Int.reduceLE,Int.reduceGT,Int.reduceGE,Int.reduceAdd,Int.reduceSub,Int.reduceNeg,Int.reduceToNat,Nat.reduceBEq,Nat.reduceEqDiff]
    refine ES_loopL (fun ts F'=>∃ (j : Nat),(j ≤ (nthR rs K).n+64 ∧ F'=F) ∧ Fr [some (.vec 1 lid 0 rs.length cl),none,some (.sc (.bool false)),none,none,some (.vec 1 H.length 0 rs.length (some rs.length)),none,none,none,some (.sc (.int .i64 K)),some (.sc (.int .i64 j)),none,none,none,none,none,none,none,none,none,none,none,none,none,none,none,none,none,none,none,none,none,none,none,none,none,none,none,none,none,none,none,none,none,none,none,none,none,none,none,none,none,none,none,none,none,none,none,none,none,none,none,none,none,none,none,none,none,none,none,none,none,none,none,none,none,none,none,none,none,none,none,none,none,none,none,none,none,none,none,none,none,none,none,none,none,none,none,none,none,none,none,none,none,none,none,none,none,none,none,none,none,none,none,none,none,none,none,none,none,none,none,none,none,none,none,none,none,none,none,none,none,none,none,none,none,none,none,none,none,none,none,none,none,none,none,none,none,none,none,none,none,none,none,none,none,none,none,none,none,none,none,none,none,none,none,none,none,none,none,none,none,none,none,none,none,none,none,none,none,none,none,none,none,none,none,none,none,none,none,none,none,none] ts) (fun ts _=>(nthR rs K).n+64 - (intV (ts.getD 10 .top)).toNat) ⟨0,⟨Nat.zero_le _,rfl⟩,by simp[Fr]⟩ ?_
    rintro ts F ⟨j,⟨hj,rfl⟩,hfr⟩ L3 hL3
    obtain ⟨js,rfl⟩:=hfr.opened
    clear hfr
    simp -implicitDefEqProofs (maxSteps:=99999999) (disch:=first | omega | (simp only[AHeap.set_length,killO_length,List.length_cons,List.length_nil];first | done | omega)) only[mk,hgs,hgl,k0,k1,h1,q1,va,vg,vs,vw,Nat.reduceMul,ite_true,ite_false,eq_self,forall_const,implies_true,Nat.reduceAdd,Nat.reduceSub,Nat.reduceLT,Nat.reduceLeDiff,↓reduceIte,reduceCtorEq,Int.reduceEq,Int.reduceLT,Int.reduceLE,Int.reduceGT,Int.reduceGE,Int.reduceAdd,Int.reduceSub,Int.reduceNeg,Int.reduceToNat,Nat.reduceBEq,Nat.reduceEqDiff]
    refine condR_if (fun h=>?_) (fun h=>?_)
    ·have h2 : j < (nthR rs K).n+64:=by omega
     have j0 : (0 : Int) ≤ (j : Int):=by omega
     have j1 : (j : Int) < ((nthR rs K).n+64 : Nat):=by omega
     have j2 : j < ges.length:=by omega
     have hmj : ges.getD j .top = .agg [.sc (.int .u8 0),.sc (.string ⟨#[]⟩),.sc (.int .i64 (markI K j)),.lst 0 [] (some [])]:=q5 j h2
     simp -implicitDefEqProofs (maxSteps:=99999999) (disch:=first | omega | (simp only[AHeap.set_length,killO_length,List.length_cons,List.length_nil];first | done | omega)) only[hgs,hgl,k0,k1,h1,q1,q2,j0,j1,j2,hmj,va,vg,vs,vw,Nat.reduceMul,ite_true,ite_false,eq_self,forall_const,implies_true,Nat.reduceAdd,Nat.reduceSub,Nat.reduceLT,Nat.reduceLeDiff,↓reduceIte,reduceCtorEq,Int.reduceEq,Int.reduceLT,Int.reduceLE,Int.reduceGT,Int.reduceGE,Int.reduceAdd,Int.reduceSub,Int.reduceNeg,Int.reduceToNat,Nat.reduceBEq,Nat.reduceEqDiff]
     refine callD_same (markNode_e _ _ _) ?_
     simp -implicitDefEqProofs (maxSteps:=99999999) (disch:=first | omega | (simp only[AHeap.set_length,killO_length,List.length_cons,List.length_nil];first | done | omega)) only[hgs,hgl,k0,k1,h1,q1,q2,j0,j1,j2,hmj,va,vg,vs,vw,Nat.reduceMul,ite_true,ite_false,eq_self,forall_const,implies_true,Nat.reduceAdd,Nat.reduceSub,Nat.reduceLT,Nat.reduceLeDiff,↓reduceIte,reduceCtorEq,Int.reduceEq,Int.reduceLT,Int.reduceLE,Int.reduceGT,Int.reduceGE,Int.reduceAdd,Int.reduceSub,Int.reduceNeg,Int.reduceToNat,Nat.reduceBEq,Nat.reduceEqDiff]
     refine callD_same (sameMark_e _ _ _) ?_
     by_cases h3 : j < (nthR rs K).n
     ·have j3 : (j : Int) < ((nthR rs K).n : Nat):=by omega
      have hn : (nthR rs K).nil=false:=by
       cases e : (nthR rs K).nil with
       | false=>rfl
       | true=>have:=ok.nil K h1 e;omega
      obtain ⟨es,ex,hf,hc,hsh,hm⟩:=hr K h1 hn
      have hf' : AHeap.find F (nthR rs K).id=some ⟨4,es,ex,25⟩:=hf
      have hce:=capOK_le hc
      have j4 : j < es.length:=by omega
      have hmk : es.getD j .top = .agg [.sc (.int .u8 0),.sc (.string ⟨#[]⟩),.sc (.int .i64 (markI K j)),.lst 0 [] (some [])]:=getD_of_some (hm j h3)
      rw[FRow.av_vec hn] at hg
      simp -implicitDefEqProofs (maxSteps:=99999999) (disch:=first | omega | (simp only[AHeap.set_length,killO_length,List.length_cons,List.length_nil];first | done | omega)) only[hl1,hrl,hg,hgs,hgl,k0,k1,h1,q1,q2,j0,j1,j2,j3,j4,hmj,hf',hmk,va,vg,vs,vw,Nat.reduceMul,ite_true,ite_false,eq_self,forall_const,implies_true,Nat.reduceAdd,Nat.reduceSub,Nat.reduceLT,Nat.reduceLeDiff,↓reduceIte,reduceCtorEq,Int.reduceEq,Int.reduceLT,Int.reduceLE,Int.reduceGT,Int.reduceGE,Int.reduceAdd,Int.reduceSub,Int.reduceNeg,Int.reduceToNat,Nat.reduceBEq,Nat.reduceEqDiff]
      refine callD_same (markNode_e _ _ _) ?_
      simp -implicitDefEqProofs (maxSteps:=99999999) (disch:=first | omega | (simp only[AHeap.set_length,killO_length,List.length_cons,List.length_nil];first | done | omega)) only[hl1,hrl,hg,hgs,hgl,k0,k1,h1,q1,q2,j0,j1,j2,j3,j4,hmj,hf',hmk,va,vg,vs,vw,Nat.reduceMul,ite_true,ite_false,eq_self,forall_const,implies_true,Nat.reduceAdd,Nat.reduceSub,Nat.reduceLT,Nat.reduceLeDiff,↓reduceIte,reduceCtorEq,Int.reduceEq,Int.reduceLT,Int.reduceLE,Int.reduceGT,Int.reduceGE,Int.reduceAdd,Int.reduceSub,Int.reduceNeg,Int.reduceToNat,Nat.reduceBEq,Nat.reduceEqDiff]
      refine callD_same (sameMark_e _ _ _) ?_
      simp -implicitDefEqProofs (maxSteps:=99999999) (disch:=first | omega | (simp only[AHeap.set_length,killO_length,List.length_cons,List.length_nil];first | done | omega)) only[hl1,hrl,hg,hgs,hgl,k0,k1,h1,q1,q2,j0,j1,j2,j3,j4,hmj,hf',hmk,va,vg,vs,vw,Nat.reduceMul,ite_true,ite_false,eq_self,forall_const,implies_true,Nat.reduceAdd,Nat.reduceSub,Nat.reduceLT,Nat.reduceLeDiff,↓reduceIte,reduceCtorEq,Int.reduceEq,Int.reduceLT,Int.reduceLE,Int.reduceGT,Int.reduceGE,Int.reduceAdd,Int.reduceSub,Int.reduceNeg,Int.reduceToNat,Nat.reduceBEq,Nat.reduceEqDiff]
      exact hL3 _ _ ⟨j+1,⟨by omega,rfl⟩,by simp[Fr]⟩ (by simp[intV,mk];omega)
     ·have j3 : ¬ (j : Int) < ((nthR rs K).n : Nat):=by omega
      simp -implicitDefEqProofs (maxSteps:=99999999) (disch:=first | omega | (simp only[AHeap.set_length,killO_length,List.length_cons,List.length_nil];first | done | omega)) only[hl1,hrl,hg,hgs,hgl,k0,k1,h1,q1,q2,j0,j1,j2,j3,hmj,a1,a2,a3,a4,a5,hln,va,vg,vs,vw,Nat.reduceMul,ite_true,ite_false,eq_self,forall_const,implies_true,Nat.reduceAdd,Nat.reduceSub,Nat.reduceLT,Nat.reduceLeDiff,↓reduceIte,reduceCtorEq,Int.reduceEq,Int.reduceLT,Int.reduceLE,Int.reduceGT,Int.reduceGE,Int.reduceAdd,Int.reduceSub,Int.reduceNeg,Int.reduceToNat,Nat.reduceBEq,Nat.reduceEqDiff]
      exact hL3 _ _ ⟨j+1,⟨by omega,rfl⟩,by simp[Fr]⟩ (by simp[intV,mk];omega)
    ·simp -implicitDefEqProofs (maxSteps:=99999999) (disch:=first | omega | (simp only[AHeap.set_length,killO_length,List.length_cons,List.length_nil];first | done | omega)) only[va,vg,vs,vw,Nat.reduceMul,ite_true,ite_false,eq_self,forall_const,implies_true,Nat.reduceAdd,Nat.reduceSub,Nat.reduceLT,Nat.reduceLeDiff,↓reduceIte,reduceCtorEq,Int.reduceEq,Int.reduceLT,Int.reduceLE,Int.reduceGT,Int.reduceGE,Int.reduceAdd,Int.reduceSub,Int.reduceNeg,Int.reduceToNat,Nat.reduceBEq,Nat.reduceEqDiff]
     exact hL2 _ _ ⟨K+1,⟨by omega,rfl⟩,by simp[Fr]⟩ (by simp[intV,mk];omega)
   ·have hKN : K=rs.length:=by omega
    subst hKN
    refine hL _ _ ?_
    clear hL hL2
    refine ES_seq_gen fun L hL=>?_
    simp -implicitDefEqProofs (maxSteps:=99999999) (disch:=first | omega | (simp only[AHeap.set_length,killO_length,List.length_cons,List.length_nil];first | done | omega)) only[va,vg,vs,vw,Nat.reduceMul,ite_true,ite_false,eq_self,forall_const,implies_true,Nat.reduceAdd,Nat.reduceSub,Nat.reduceLT,Nat.reduceLeDiff,↓reduceIte,reduceCtorEq,Int.reduceEq,Int.reduceLT,Int.reduceLE,Int.reduceGT,Int.reduceGE,Int.reduceAdd,Int.reduceSub,Int.reduceNeg,Int.reduceToNat,Nat.reduceBEq,Nat.reduceEqDiff]
    have hsec0 : Seconds 4 mkNd F rs H.length F.length gvs 0 (fun k=>(nthR rs k).n):=Seconds.zero
    refine ES_loopL (fun ts F=>∃ (K : Nat) (gvs : List AV),(K ≤ rs.length ∧ H.length < F.length ∧ Beside H F rs ∧ RowsM shNd mkNd F rs (fun k=>(nthR rs k).n) ∧ AHeap.find F H.length=some ⟨1,gvs,true,23⟩ ∧ (gvs.length=rs.length ∧ Ones gvs) ∧ Seconds 4 mkNd F rs H.length F.length gvs K (fun k=>(nthR rs k).n)) ∧ Fr [some (.vec 1 lid 0 rs.length cl),none,some (.sc (.bool false)),none,none,some (.vec 1 H.length 0 rs.length (some rs.length)),none,none,none,none,none,some (.sc (.int .i64 K)),none,none,none,none,none,none,none,none,none,none,none,none,none,none,none,none,none,none,none,none,none,none,none,none,none,none,none,none,none,none,none,none,none,none,none,none,none,none,none,none,none,none,none,none,none,none,none,none,none,none,none,none,none,none,none,none,none,none,none,none,none,none,none,none,none,none,none,none,none,none,none,none,none,none,none,none,none,none,none,none,none,none,none,none,none,none,none,none,none,none,none,none,none,none,none,none,none,none,none,none,none,none,none,none,none,none,none,none,none,none,none,none,none,none,none,none,none,none,none,none,none,none,none,none,none,none,none,none,none,none,none,none,none,none,none,none,none,none,none,none,none,none,none,none,none,none,none,none,none,none,none,none,none,none,none,none,none,none,none,none,none,none,none,none,none,none,none,none,none,none,none,none,none,none,none,none,none,none,none,none,none] ts) (fun ts _=>rs.length - (intV (ts.getD 11 .top)).toNat) ⟨0,gvs,⟨Nat.zero_le _,hFl,hb,hr,hgs,⟨hgl,hone⟩,hsec0⟩,by simp[Fr]⟩ ?_
    clear hb hr hl1 hFl hsec hsec0 hgs hgl hone
    rintro ts F ⟨K,gvs,⟨hK,hFl,hb,hr,hgs,⟨hgl,hone⟩,hsec⟩,hfr⟩ L2 hL2
    obtain ⟨js,rfl⟩:=hfr.opened
    clear hfr
    have hl1:=keepl hb
    simp -implicitDefEqProofs (maxSteps:=99999999) (disch:=first | omega | (simp only[AHeap.set_length,killO_length,List.length_cons,List.length_nil];first | done | omega)) only[mk,va,vg,vs,vw,Nat.reduceMul,ite_true,ite_false,eq_self,forall_const,implies_true,Nat.reduceAdd,Nat.reduceSub,Nat.reduceLT,Nat.reduceLeDiff,↓reduceIte,reduceCtorEq,Int.reduceEq,Int.reduceLT,Int.reduceLE,Int.reduceGT,Int.reduceGE,Int.reduceAdd,Int.reduceSub,Int.reduceNeg,Int.reduceToNat,Nat.reduceBEq,Nat.reduceEqDiff]
    refine condR_if (fun h=>?_) (fun h=>?_)
    ·have h1 : K < rs.length:=by omega
     have hg:=rowsV_get (k:=4) h1
     have k0 : (0 : Int) ≤ (K : Int):=by omega
     have k1 : (K : Int) < rs.length:=by omega
     have hn0:=hsm K h1
     have hid0 : ∀ k,k < rs.length→(nthR rs k).nil=false→(nthR rs k).id < H.length:=fun k hk hn=>by
      obtain ⟨es,ex,e1,_⟩:=ok.blk k hk hn
      exact AHeap.find_lt e1
     simp -implicitDefEqProofs (maxSteps:=99999999) (disch:=first | omega | (simp only[AHeap.set_length,killO_length,List.length_cons,List.length_nil];first | done | omega)) only[hl1,hrl,hg,h1,k0,k1,va,vg,vs,vw,Nat.reduceMul,ite_true,ite_false,eq_self,forall_const,implies_true,Nat.reduceAdd,Nat.reduceSub,Nat.reduceLT,Nat.reduceLeDiff,↓reduceIte,reduceCtorEq,Int.reduceEq,Int.reduceLT,Int.reduceLE,Int.reduceGT,Int.reduceGE,Int.reduceAdd,Int.reduceSub,Int.reduceNeg,Int.reduceToNat,Nat.reduceBEq,Nat.reduceEqDiff]
     refine ES_loopL (fun ts F'=>∃ (j : Nat) (ms : List AV),(j ≤ 64 ∧ F'=some ⟨4,ms,true,25⟩ :: F ∧ ms.length=64 ∧ ∀ x ∈ ms,shNd.is x) ∧ Fr [some (.vec 1 lid 0 rs.length cl),none,some (.sc (.bool false)),none,none,some (.vec 1 H.length 0 rs.length (some rs.length)),none,none,none,none,none,some (.sc (.int .i64 K)),some (.vec 4 F.length 0 64 (some 64)),some (.sc (.int .i64 j)),none,none,none,none,none,none,none,none,none,none,none,none,none,none,none,none,none,none,none,none,none,none,none,none,none,none,none,none,none,none,none,none,none,none,none,none,none,none,none,none,none,none,none,none,none,none,none,none,none,none,none,none,none,none,none,none,none,none,none,none,none,none,none,none,none,none,none,none,none,none,none,none,none,none,none,none,none,none,none,none,none,none,none,none,none,none,none,none,none,none,none,none,none,none,none,none,none,none,none,none,none,none,none,none,none,none,none,none,none,none,none,none,none,none,none,none,none,none,none,none,none,none,none,none,none,none,none,none,none,none,none,none,none,none,none,none,none,none,none,none,none,none,none,none,none,none,none,none,none,none,none,none,none,none,none,none,none,none,none,none,none,none,none,none,none,none,none,none,none,none,none,none,none,none,none,none,none,none,none] ts) (fun ts _=>64 - (intV (ts.getD 13 .top)).toNat) ⟨0,_,⟨by omega,rfl,by rfl,fun x hx=>by
      have : x = .agg [.sc (.int .u8 0),.sc (.string ⟨#[]⟩),.sc (.int .i64 0),.lst 0 [] (some [])]:=by simpa using hx
      rw[this]
      exact ⟨rfl,rfl,rfl⟩⟩,by simp[Fr]⟩ ?_
     rintro ts _ ⟨j,ms,⟨hj,rfl,hms,hmsh⟩,hfr⟩ L3 hL3
     obtain ⟨js,rfl⟩:=hfr.opened
     clear hfr
     simp -implicitDefEqProofs (maxSteps:=99999999) (disch:=first | omega | (simp only[AHeap.set_length,killO_length,List.length_cons,List.length_nil];first | done | omega)) only[mk,va,vg,vs,vw,Nat.reduceMul,ite_true,ite_false,eq_self,forall_const,implies_true,Nat.reduceAdd,Nat.reduceSub,Nat.reduceLT,Nat.reduceLeDiff,↓reduceIte,reduceCtorEq,Int.reduceEq,Int.reduceLT,Int.reduceLE,Int.reduceGT,Int.reduceGE,Int.reduceAdd,Int.reduceSub,Int.reduceNeg,Int.reduceToNat,Nat.reduceBEq,Nat.reduceEqDiff]
     refine condR_if (fun h=>?_) (fun h=>?_)
     ·have h2 : j < 64:=by omega
      have j0 : (0 : Int) ≤ (j : Int):=by omega
      have j1 : (j : Int) < ((64 : Nat) : Int):=by omega
      simp -implicitDefEqProofs (maxSteps:=99999999) (disch:=first | omega | (simp only[AHeap.set_length,killO_length,List.length_cons,List.length_nil];first | done | omega)) only[va,vg,vs,vw,Nat.reduceMul,ite_true,ite_false,eq_self,forall_const,implies_true,Nat.reduceAdd,Nat.reduceSub,Nat.reduceLT,Nat.reduceLeDiff,↓reduceIte,reduceCtorEq,Int.reduceEq,Int.reduceLT,Int.reduceLE,Int.reduceGT,Int.reduceGE,Int.reduceAdd,Int.reduceSub,Int.reduceNeg,Int.reduceToNat,Nat.reduceBEq,Nat.reduceEqDiff]
      refine callR_ret (markNode_e _ _ _) ?_
      have j2 : j < ms.length:=by omega
      have hsx:=hmsh _ (List.getElem_mem j2)
      have hgx : ms.getD j .top=ms[j]:=by simp[List.getD,j2]
      have x1 : (ms.getD j .top).ncells=4:=by rw[hgx];exact hsx.2.1
      have x3 : ∀ c,AV.upd (ms.getD j .top) 0 (.agg [.sc (.int .u8 0),.sc (.string ⟨#[]⟩),c,.lst 0 [] (some [])]) = .agg [.sc (.int .u8 0),.sc (.string ⟨#[]⟩),c,.lst 0 [] (some [])]:=fun c=>upd_full x1 rfl rfl
      have x2 : (ms.getD j .top).isAgg=true:=by rw[hgx];exact hsx.2.2
      simp -implicitDefEqProofs (maxSteps:=99999999) (disch:=first | omega | (simp only[AHeap.set_length,killO_length,List.length_cons,List.length_nil];first | done | omega)) only[j0,j1,j2,hms,h2,x1,x2,x3,va,vg,vs,vw,Nat.reduceMul,ite_true,ite_false,eq_self,forall_const,implies_true,Nat.reduceAdd,Nat.reduceSub,Nat.reduceLT,Nat.reduceLeDiff,↓reduceIte,reduceCtorEq,Int.reduceEq,Int.reduceLT,Int.reduceLE,Int.reduceGT,Int.reduceGE,Int.reduceAdd,Int.reduceSub,Int.reduceNeg,Int.reduceToNat,Nat.reduceBEq,Nat.reduceEqDiff]
      refine hL3 _ _ ⟨j+1,_,⟨by omega,rfl,by simp[hms],fun x hx=>?_⟩,by simp[Fr]⟩ (by simp[intV,mk];omega)
      rcases List.mem_or_eq_of_mem_set hx with hx | rfl
      ·exact hmsh x hx
      ·exact ⟨rfl,rfl,rfl⟩
     ·clear hL3
      have htk : List.take 64 ms=ms:=List.take_of_length_le (by omega)
      obtain ⟨x1,x3⟩:=hone.get (i:=K) (by omega)
      cases hn : (nthR rs K).nil with
      | true =>
       rw[FRow.av_nil hn] at hg
       have hz:=ok.nil K h1 hn
       cases ms with
       | nil=>simp at hms
       | cons m0 mr =>
        have hmr : mr.length=63:=by simpa using hms
        simp -implicitDefEqProofs (maxSteps:=99999999) (disch:=first | omega | (simp only[AHeap.set_length,killO_length,List.length_cons,List.length_nil];first | done | omega)) only[hl1,hrl,hg,h1,k0,k1,hgs,hgl,hmr,htk,x1,x3,va,vg,vs,vw,Nat.reduceMul,ite_true,ite_false,eq_self,forall_const,implies_true,Nat.reduceAdd,Nat.reduceSub,Nat.reduceLT,Nat.reduceLeDiff,↓reduceIte,reduceCtorEq,Int.reduceEq,Int.reduceLT,Int.reduceLE,Int.reduceGT,Int.reduceGE,Int.reduceAdd,Int.reduceSub,Int.reduceNeg,Int.reduceToNat,Nat.reduceBEq,Nat.reduceEqDiff]
        have far : ∀ (b c d : Option ABlk) (id : Nat),id < F.length→id ≠ H.length→AHeap.find (b :: c :: AHeap.set F H.length d) id=AHeap.find F id:=fun b c d id e1 e2=>by
         rw[AHeap.find_cons (by simp[AHeap.set_length];omega),AHeap.find_cons (by rw[AHeap.set_length];exact e1),AHeap.find_set_ne e2]
        refine hL2 _ _ ⟨K+1,gvs.set K (.vec 4 (F.length+1) 0 64 none),⟨by omega,by simp[AHeap.set_length];omega,((hb.set2 (Nat.le_refl _)).cons (by rw[AHeap.set_length];omega)).cons (by simp[AHeap.set_length];omega),(hr.far ok (Nat.le_refl _)).cons.cons,?_,⟨by simp[hgl],hone.set ⟨rfl,rfl⟩⟩,?_⟩,by simp[Fr]⟩ (by simp[intV,mk];omega)
        ·simp -implicitDefEqProofs (maxSteps:=99999999) (disch:=first | omega | (simp only[AHeap.set_length,killO_length,List.length_cons,List.length_nil];first | done | omega)) only[va,vg,vs,vw,Nat.reduceMul,ite_true,ite_false,eq_self,forall_const,implies_true,Nat.reduceAdd,Nat.reduceSub,Nat.reduceLT,Nat.reduceLeDiff,↓reduceIte,reduceCtorEq,Int.reduceEq,Int.reduceLT,Int.reduceLE,Int.reduceGT,Int.reduceGE,Int.reduceAdd,Int.reduceSub,Int.reduceNeg,Int.reduceToNat,Nat.reduceBEq,Nat.reduceEqDiff]
        ·have:=Seconds.next (gid:=F.length+1) (gc:=none) (hsec.keep (fun id e1 e2=>far (some ⟨4,m0 :: mr,false,25⟩) (some ⟨4,m0 :: mr,true,25⟩) (some ⟨1,gvs.set K (.vec 4 (F.length+1) 0 64 none),true,23⟩) id e2 (by omega)) (fun k hk hn=>far _ _ _ _ (by have:=hid0 k (by omega) hn;omega) (by have:=hid0 k (by omega) hn;omega))) (Nat.le_trans (Nat.le_succ _) (Nat.le_succ _)) (by omega) ⟨_,by rw[find_top (by simp[AHeap.set_length])],rfl,by simp only[hz];exact Nat.zero_le _,fun i hi=>by simp only[hz] at hi;omega⟩ (.inr (by omega)) (by omega)
         simp only[hz,Nat.zero_add] at this
         simp only[List.length_cons,AHeap.set_length]
         exact this
      | false =>
       rw[FRow.av_vec hn] at hg
       obtain ⟨es,ex,hf,hc,hsh,hm⟩:=hr K h1 hn
       have hf' : AHeap.find F (nthR rs K).id=some ⟨4,es,ex,25⟩:=hf
       have hce:=capOK_le hc
       have hid:=hid0 K h1 hn
       have hsk : shNd.k=4:=rfl
       have hc':=hc
       unfold capOK at hc'
       have hlim : (nthR rs K).n+64 ≤ 100000000:=by omega
       by_cases hroom : (nthR rs K).n+64 ≤ (nthR rs K).c
       ·have happ:=RowR.app2 (ys:=ms) hf hc hsh (fun i hi=>hm i hi) (by rw[hms];exact hroom) hmsh
        rw[List.append_assoc,hms] at happ
        have far : ∀ (b c d : Option ABlk) (id : Nat),id < F.length→id ≠ H.length→id ≠ (nthR rs K).id→AHeap.find (b :: AHeap.set (AHeap.set F (nthR rs K).id c) H.length d) id=AHeap.find F id:=fun b c d id e1 e2 e3=>by
         rw[AHeap.find_cons (by simp[AHeap.set_length];omega),AHeap.find_set_ne e2,AHeap.find_set_ne e3]
        have hrow : ∀ (b d : Option ABlk),RowR shNd (mkNd K) (b :: AHeap.set (AHeap.set F (nthR rs K).id (some ⟨4,es.take (nthR rs K).n ++ (ms ++ es.drop ((nthR rs K).n+64)),ex,25⟩)) H.length d) (nthR rs K).id (nthR rs K).n (nthR rs K).c (nthR rs K).n:=fun b d =>
         RowR.keep happ (by rw[AHeap.find_cons (by simp[AHeap.set_length];omega),AHeap.find_set_ne (by omega)];rfl)
        simp -implicitDefEqProofs (maxSteps:=99999999) (disch:=first | omega | (simp only[AHeap.set_length,killO_length,List.length_cons,List.length_nil];first | done | omega)) only[hl1,hrl,hg,h1,k0,k1,hgs,hgl,hms,htk,x1,x3,hf',hroom,hsk,hc',hlim,va,vg,vs,vw,Nat.reduceMul,ite_true,ite_false,eq_self,forall_const,implies_true,Nat.reduceAdd,Nat.reduceSub,Nat.reduceLT,Nat.reduceLeDiff,↓reduceIte,reduceCtorEq,Int.reduceEq,Int.reduceLT,Int.reduceLE,Int.reduceGT,Int.reduceGE,Int.reduceAdd,Int.reduceSub,Int.reduceNeg,Int.reduceToNat,Nat.reduceBEq,Nat.reduceEqDiff]
        refine hL2 _ _ ⟨K+1,gvs.set K (.vec 4 (nthR rs K).id 0 ((nthR rs K).n+64) (some (nthR rs K).c)),⟨by omega,by simp[AHeap.set_length];omega,((hb.set h1 hn).set2 (Nat.le_refl _)).cons (by simp[AHeap.set_length];omega),RowsM.cons (RowsM.far (hr.put ok h1 hn happ (fun k e=>Nat.le_refl _)) ok (Nat.le_refl _)),?_,⟨by simp[hgl],hone.set ⟨rfl,rfl⟩⟩,?_⟩,by simp[Fr]⟩ (by simp[intV,mk];omega)
        ·simp -implicitDefEqProofs (maxSteps:=99999999) (disch:=first | omega | (simp only[AHeap.set_length,killO_length,List.length_cons,List.length_nil];first | done | omega)) only[va,vg,vs,vw,Nat.reduceMul,ite_true,ite_false,eq_self,forall_const,implies_true,Nat.reduceAdd,Nat.reduceSub,Nat.reduceLT,Nat.reduceLeDiff,↓reduceIte,reduceCtorEq,Int.reduceEq,Int.reduceLT,Int.reduceLE,Int.reduceGT,Int.reduceGE,Int.reduceAdd,Int.reduceSub,Int.reduceNeg,Int.reduceToNat,Nat.reduceBEq,Nat.reduceEqDiff]
        ·have:=Seconds.next (gid:=(nthR rs K).id) (gc:=some (nthR rs K).c) (hsec.keep (fun id e1 e2=>far (some ⟨4,ms,true,25⟩) (some ⟨4,es.take (nthR rs K).n ++ (ms ++ es.drop ((nthR rs K).n+64)),ex,25⟩) (some ⟨1,gvs.set K (.vec 4 (nthR rs K).id 0 ((nthR rs K).n+64) (some (nthR rs K).c)),true,23⟩) id e2 (by omega) (by omega)) (fun k hk hn2=>far _ _ _ _ (by have:=hid0 k (by omega) hn2;omega) (by have:=hid0 k (by omega) hn2;omega) (fun e=>by have:=ok.apart k K (by omega) h1 hn2 hn e;omega))) (Nat.le_succ _) (by omega) ((hrow _ _).reads (Nat.le_refl _)) (.inl ⟨rfl,hn⟩) (by omega)
         simp only[List.length_cons,AHeap.set_length]
         exact this
       ·have far : ∀ (b c d : Option ABlk) (id : Nat),id < F.length→id ≠ H.length→AHeap.find (b :: c :: AHeap.set F H.length d) id=AHeap.find F id:=fun b c d id e1 e2=>by
         rw[AHeap.find_cons (by simp[AHeap.set_length];omega),AHeap.find_cons (by rw[AHeap.set_length];exact e1),AHeap.find_set_ne e2]
        simp -implicitDefEqProofs (maxSteps:=99999999) (disch:=first | omega | (simp only[AHeap.set_length,killO_length,List.length_cons,List.length_nil];first | done | omega)) only[hl1,hrl,hg,h1,k0,k1,hgs,hgl,hms,htk,x1,x3,hf',hroom,hsk,hc',hlim,va,vg,vs,vw,Nat.reduceMul,ite_true,ite_false,eq_self,forall_const,implies_true,Nat.reduceAdd,Nat.reduceSub,Nat.reduceLT,Nat.reduceLeDiff,↓reduceIte,reduceCtorEq,Int.reduceEq,Int.reduceLT,Int.reduceLE,Int.reduceGT,Int.reduceGE,Int.reduceAdd,Int.reduceSub,Int.reduceNeg,Int.reduceToNat,Nat.reduceBEq,Nat.reduceEqDiff]
        refine hL2 _ _ ⟨K+1,gvs.set K (.vec 4 (F.length+1) 0 ((nthR rs K).n+64) none),⟨by omega,by simp[AHeap.set_length];omega,((hb.set2 (Nat.le_refl _)).cons (by rw[AHeap.set_length];omega)).cons (by simp[AHeap.set_length];omega),(hr.far ok (Nat.le_refl _)).cons.cons,?_,⟨by simp[hgl],hone.set ⟨rfl,rfl⟩⟩,?_⟩,by simp[Fr]⟩ (by simp[intV,mk];omega)
        ·simp -implicitDefEqProofs (maxSteps:=99999999) (disch:=first | omega | (simp only[AHeap.set_length,killO_length,List.length_cons,List.length_nil];first | done | omega)) only[va,vg,vs,vw,Nat.reduceMul,ite_true,ite_false,eq_self,forall_const,implies_true,Nat.reduceAdd,Nat.reduceSub,Nat.reduceLT,Nat.reduceLeDiff,↓reduceIte,reduceCtorEq,Int.reduceEq,Int.reduceLT,Int.reduceLE,Int.reduceGT,Int.reduceGE,Int.reduceAdd,Int.reduceSub,Int.reduceNeg,Int.reduceToNat,Nat.reduceBEq,Nat.reduceEqDiff]
        ·have:=Seconds.next (gid:=F.length+1) (gc:=none) (hsec.keep (fun id e1 e2=>far (some ⟨4,es.take (nthR rs K).n ++ ms,false,25⟩) (some ⟨4,ms,true,25⟩) (some ⟨1,gvs.set K (.vec 4 (F.length+1) 0 ((nthR rs K).n+64) none),true,23⟩) id e2 (by omega)) (fun k hk hn=>far _ _ _ _ (by have:=hid0 k (by omega) hn;omega) (by have:=hid0 k (by omega) hn;omega))) (Nat.le_trans (Nat.le_succ _) (Nat.le_succ _)) (by omega) ⟨_,by rw[find_top (by simp[AHeap.set_length])],rfl,by simp;omega,fun i hi=>by
          simp only
          rw[List.getD_eq_getElem?_getD,List.getElem?_append_left (by simp;omega),List.getElem?_take_of_lt hi,hm i hi]
          rfl⟩ (.inr (by omega)) (by omega)
         simp only[List.length_cons,AHeap.set_length]
         exact this
    ·have hKN : K=rs.length:=by omega
     subst hKN
     refine hL _ _ ?_
     clear hL hL2
     have hl1:=keepl hb
     simp -implicitDefEqProofs (maxSteps:=99999999) (disch:=first | omega | (simp only[AHeap.set_length,killO_length,List.length_cons,List.length_nil];first | done | omega)) only[va,vg,vs,vw,Nat.reduceMul,ite_true,ite_false,eq_self,forall_const,implies_true,Nat.reduceAdd,Nat.reduceSub,Nat.reduceLT,Nat.reduceLeDiff,↓reduceIte,reduceCtorEq,Int.reduceEq,Int.reduceLT,Int.reduceLE,Int.reduceGT,Int.reduceGE,Int.reduceAdd,Int.reduceSub,Int.reduceNeg,Int.reduceToNat,Nat.reduceBEq,Nat.reduceEqDiff]
     refine ES_loopL (fun ts F'=>∃ (K : Nat),(K ≤ rs.length ∧ F'=F) ∧ Fr [some (.vec 1 lid 0 rs.length cl),none,some (.sc (.bool false)),none,none,some (.vec 1 H.length 0 rs.length (some rs.length)),none,none,none,none,none,none,none,none,some (.sc (.int .i64 K)),none,none,none,none,none,none,none,none,none,none,none,none,none,none,none,none,none,none,none,none,none,none,none,none,none,none,none,none,none,none,none,none,none,none,none,none,none,none,none,none,none,none,none,none,none,none,none,none,none,none,none,none,none,none,none,none,none,none,none,none,none,none,none,none,none,none,none,none,none,none,none,none,none,none,none,none,none,none,none,none,none,none,none,none,none,none,none,none,none,none,none,none,none,none,none,none,none,none,none,none,none,none,none,none,none,none,none,none,none,none,none,none,none,none,none,none,none,none,none,none,none,none,none,none,none,none,none,none,none,none,none,none,none,none,none,none,none,none,none,none,none,none,none,none,none,none,none,none,none,none,none,none,none,none,none,none,none,none,none,none,none,none,none,none,none,none,none,none,none,none,none,none,none,none,none,none,none,none] ts) (fun ts _=>rs.length - (intV (ts.getD 14 .top)).toNat) ⟨0,⟨Nat.zero_le _,rfl⟩,by simp[Fr]⟩ ?_
     rintro ts F ⟨K,⟨hK,rfl⟩,hfr⟩ L2 hL2
     obtain ⟨js,rfl⟩:=hfr.opened
     clear hfr
     simp -implicitDefEqProofs (maxSteps:=99999999) (disch:=first | omega | (simp only[AHeap.set_length,killO_length,List.length_cons,List.length_nil];first | done | omega)) only[mk,va,vg,vs,vw,Nat.reduceMul,ite_true,ite_false,eq_self,forall_const,implies_true,Nat.reduceAdd,Nat.reduceSub,Nat.reduceLT,Nat.reduceLeDiff,↓reduceIte,reduceCtorEq,Int.reduceEq,Int.reduceLT,Int.reduceLE,Int.reduceGT,Int.reduceGE,Int.reduceAdd,Int.reduceSub,Int.reduceNeg,Int.reduceToNat,Nat.reduceBEq,Nat.reduceEqDiff]
     refine condR_if (fun h=>?_) (fun h=>?_)
     ·have h1 : K < rs.length:=by omega
      have hg:=rowsV_get (k:=4) h1
      have k0 : (0 : Int) ≤ (K : Int):=by omega
      have k1 : (K : Int) < rs.length:=by omega
      have hn0:=hsm K h1
      have hln:=FRow.av_lenN (k:=4) (ok.nil K h1)
      obtain ⟨a1,a2,a3,a4,a5⟩ : _ ∧ _ ∧ _ ∧ _ ∧ _:=⟨FRow.av_top (k:=4) (r:=nthR rs K),FRow.av_ncells (k:=4) (r:=nthR rs K),FRow.av_isAgg (k:=4) (r:=nthR rs K),FRow.av_cells (k:=4) (r:=nthR rs K),FRow.av_lenOk (k:=4) (r:=nthR rs K)⟩
      obtain ⟨gid,gc,q1,⟨⟨gk,ges,gex,gty⟩,q2,q3,q4,q5⟩,_,_⟩:=hsec K h1
      simp only at q3 q4 q5
      subst q3
      simp -implicitDefEqProofs (maxSteps:=99999999) (disch:=first | omega | (simp only[AHeap.set_length,killO_length,List.length_cons,List.length_nil];first | done | omega)) only[va,vg,vs,vw,Nat.reduceMul,ite_true,ite_false,eq_self,forall_const,implies_true,Nat.reduceAdd,Nat.reduceSub,Nat.reduceLT,Nat.reduceLeDiff,↓reduceIte,reduceCtorEq,Int.reduceEq,Int.reduceLT,Int.reduceLE,Int.reduceGT,Int.reduceGE,Int.reduceAdd,Int.reduceSub,Int.reduceNeg,Int.reduceToNat,Nat.reduceBEq,Nat.reduceEqDiff]
      refine ES_loopL (fun ts F'=>∃ (j : Nat),(j ≤ (nthR rs K).n ∧ F'=F) ∧ Fr [some (.vec 1 lid 0 rs.length cl),none,some (.sc (.bool false)),none,none,some (.vec 1 H.length 0 rs.length (some rs.length)),none,none,none,none,none,none,none,none,some (.sc (.int .i64 K)),some (.sc (.int .i64 j)),none,none,none,none,none,none,none,none,none,none,none,none,none,none,none,none,none,none,none,none,none,none,none,none,none,none,none,none,none,none,none,none,none,none,none,none,none,none,none,none,none,none,none,none,none,none,none,none,none,none,none,none,none,none,none,none,none,none,none,none,none,none,none,none,none,none,none,none,none,none,none,none,none,none,none,none,none,none,none,none,none,none,none,none,none,none,none,none,none,none,none,none,none,none,none,none,none,none,none,none,none,none,none,none,none,none,none,none,none,none,none,none,none,none,none,none,none,none,none,none,none,none,none,none,none,none,none,none,none,none,none,none,none,none,none,none,none,none,none,none,none,none,none,none,none,none,none,none,none,none,none,none,none,none,none,none,none,none,none,none,none,none,none,none,none,none,none,none,none,none,none,none,none,none,none,none,none] ts) (fun ts _=>(nthR rs K).n - (intV (ts.getD 15 .top)).toNat) ⟨0,⟨Nat.zero_le _,rfl⟩,by simp[Fr]⟩ ?_
      rintro ts F ⟨j,⟨hj,rfl⟩,hfr⟩ L3 hL3
      obtain ⟨js,rfl⟩:=hfr.opened
      clear hfr
      simp -implicitDefEqProofs (maxSteps:=99999999) (disch:=first | omega | (simp only[AHeap.set_length,killO_length,List.length_cons,List.length_nil];first | done | omega)) only[mk,hl1,hrl,hg,k0,k1,h1,a1,a2,a3,a4,a5,hln,va,vg,vs,vw,Nat.reduceMul,ite_true,ite_false,eq_self,forall_const,implies_true,Nat.reduceAdd,Nat.reduceSub,Nat.reduceLT,Nat.reduceLeDiff,↓reduceIte,reduceCtorEq,Int.reduceEq,Int.reduceLT,Int.reduceLE,Int.reduceGT,Int.reduceGE,Int.reduceAdd,Int.reduceSub,Int.reduceNeg,Int.reduceToNat,Nat.reduceBEq,Nat.reduceEqDiff]
      refine condR_if (fun h=>?_) (fun h=>?_)
      ·have h2 : j < (nthR rs K).n:=by omega
       have hn : (nthR rs K).nil=false:=by
        cases e : (nthR rs K).nil with
        | false=>rfl
        | true=>have:=ok.nil K h1 e;omega
       obtain ⟨es,ex,hf,hc,hsh,hm⟩:=hr K h1 hn
       have hf' : AHeap.find F (nthR rs K).id=some ⟨4,es,ex,25⟩:=hf
       have hce:=capOK_le hc
       have j0 : (0 : Int) ≤ (j : Int):=by omega
       have j1 : (j : Int) < ((nthR rs K).n+64 : Nat):=by omega
       have j3 : (j : Int) < ((nthR rs K).n : Nat):=by omega
       have j2 : j < ges.length:=by omega
       have j4 : j < es.length:=by omega
       have hmj : ges.getD j .top = .agg [.sc (.int .u8 0),.sc (.string ⟨#[]⟩),.sc (.int .i64 (markI K j)),.lst 0 [] (some [])]:=q5 j h2
       have hmk : es.getD j .top = .agg [.sc (.int .u8 0),.sc (.string ⟨#[]⟩),.sc (.int .i64 (markI K j)),.lst 0 [] (some [])]:=getD_of_some (hm j h2)
       rw[FRow.av_vec hn] at hg
       simp -implicitDefEqProofs (maxSteps:=99999999) (disch:=first | omega | (simp only[AHeap.set_length,killO_length,List.length_cons,List.length_nil];first | done | omega)) only[hl1,hrl,hg,hgs,hgl,k0,k1,h1,q1,q2,j0,j1,j2,j3,j4,hmj,hf',hmk,va,vg,vs,vw,Nat.reduceMul,ite_true,ite_false,eq_self,forall_const,implies_true,Nat.reduceAdd,Nat.reduceSub,Nat.reduceLT,Nat.reduceLeDiff,↓reduceIte,reduceCtorEq,Int.reduceEq,Int.reduceLT,Int.reduceLE,Int.reduceGT,Int.reduceGE,Int.reduceAdd,Int.reduceSub,Int.reduceNeg,Int.reduceToNat,Nat.reduceBEq,Nat.reduceEqDiff]
       refine callD_same (markNode_e _ _ _) ?_
       simp -implicitDefEqProofs (maxSteps:=99999999) (disch:=first | omega | (simp only[AHeap.set_length,killO_length,List.length_cons,List.length_nil];first | done | omega)) only[hl1,hrl,hg,hgs,hgl,k0,k1,h1,q1,q2,j0,j1,j2,j3,j4,hmj,hf',hmk,va,vg,vs,vw,Nat.reduceMul,ite_true,ite_false,eq_self,forall_const,implies_true,Nat.reduceAdd,Nat.reduceSub,Nat.reduceLT,Nat.reduceLeDiff,↓reduceIte,reduceCtorEq,Int.reduceEq,Int.reduceLT,Int.reduceLE,Int.reduceGT,Int.reduceGE,Int.reduceAdd,Int.reduceSub,Int.reduceNeg,Int.reduceToNat,Nat.reduceBEq,Nat.reduceEqDiff]
       refine callD_same (sameMark_e _ _ _) ?_
       simp -implicitDefEqProofs (maxSteps:=99999999) (disch:=first | omega | (simp only[AHeap.set_length,killO_length,List.length_cons,List.length_nil];first | done | omega)) only[hl1,hrl,hg,hgs,hgl,k0,k1,h1,q1,q2,j0,j1,j2,j3,j4,hmj,hf',hmk,va,vg,vs,vw,Nat.reduceMul,ite_true,ite_false,eq_self,forall_const,implies_true,Nat.reduceAdd,Nat.reduceSub,Nat.reduceLT,Nat.reduceLeDiff,↓reduceIte,reduceCtorEq,Int.reduceEq,Int.reduceLT,Int.reduceLE,Int.reduceGT,Int.reduceGE,Int.reduceAdd,Int.reduceSub,Int.reduceNeg,Int.reduceToNat,Nat.reduceBEq,Nat.reduceEqDiff]
       refine callD_same (markNode_e _ _ _) ?_
       simp -implicitDefEqProofs (maxSteps:=99999999) (disch:=first | omega | (simp only[AHeap.set_length,killO_length,List.length_cons,List.length_nil];first | done | omega)) only[hl1,hrl,hg,hgs,hgl,k0,k1,h1,q1,q2,j0,j1,j2,j3,j4,hmj,hf',hmk,va,vg,vs,vw,Nat.reduceMul,ite_true,ite_false,eq_self,forall_const,implies_true,Nat.reduceAdd,Nat.reduceSub,Nat.reduceLT,Nat.reduceLeDiff,↓reduceIte,reduceCtorEq,Int.reduceEq,Int.reduceLT,Int.reduceLE,Int.reduceGT,Int.reduceGE,Int.reduceAdd,Int.reduceSub,Int.reduceNeg,Int.reduceToNat,Nat.reduceBEq,Nat.reduceEqDiff]
       refine callD_same (sameMark_e _ _ _) ?_
       simp -implicitDefEqProofs (maxSteps:=99999999) (disch:=first | omega | (simp only[AHeap.set_length,killO_length,List.length_cons,List.length_nil];first | done | omega)) only[hl1,hrl,hg,hgs,hgl,k0,k1,h1,q1,q2,j0,j1,j2,j3,j4,hmj,hf',hmk,va,vg,vs,vw,Nat.reduceMul,ite_true,ite_false,eq_self,forall_const,implies_true,Nat.reduceAdd,Nat.reduceSub,Nat.reduceLT,Nat.reduceLeDiff,↓reduceIte,reduceCtorEq,Int.reduceEq,Int.reduceLT,Int.reduceLE,Int.reduceGT,Int.reduceGE,Int.reduceAdd,Int.reduceSub,Int.reduceNeg,Int.reduceToNat,Nat.reduceBEq,Nat.reduceEqDiff]
       exact hL3 _ _ ⟨j+1,⟨by omega,rfl⟩,by simp[Fr]⟩ (by simp[intV,mk];omega)
      ·simp -implicitDefEqProofs (maxSteps:=99999999) (disch:=first | omega | (simp only[AHeap.set_length,killO_length,List.length_cons,List.length_nil];first | done | omega)) only[va,vg,vs,vw,Nat.reduceMul,ite_true,ite_false,eq_self,forall_const,implies_true,Nat.reduceAdd,Nat.reduceSub,Nat.reduceLT,Nat.reduceLeDiff,↓reduceIte,reduceCtorEq,Int.reduceEq,Int.reduceLT,Int.reduceLE,Int.reduceGT,Int.reduceGE,Int.reduceAdd,Int.reduceSub,Int.reduceNeg,Int.reduceToNat,Nat.reduceBEq,Nat.reduceEqDiff]
       exact hL2 _ _ ⟨K+1,⟨by omega,rfl⟩,by simp[Fr]⟩ (by simp[intV,mk];omega)
     ·simp -implicitDefEqProofs (maxSteps:=99999999) (disch:=first | omega | (simp only[AHeap.set_length,killO_length,List.length_cons,List.length_nil];first | done | omega)) only[va,vg,vs,vw,Nat.reduceMul,ite_true,ite_false,eq_self,forall_const,implies_true,Nat.reduceAdd,Nat.reduceSub,Nat.reduceLT,Nat.reduceLeDiff,↓reduceIte,reduceCtorEq,Int.reduceEq,Int.reduceLT,Int.reduceLE,Int.reduceGT,Int.reduceGE,Int.reduceAdd,Int.reduceSub,Int.reduceNeg,Int.reduceToNat,Nat.reduceBEq,Nat.reduceEqDiff]
      exact weak_killIds hb
end Go.Proofs.YtfnahogjkgcklaaGreatDoor
