/- clerestoryref20.Put: what it makes. -/
import Derived.Test.YtljajanjjcdelaaGreatS102
import Derived.Test.YtljajanjjcdelaaGreatVE
namespace Go.Proofs.YtljajanjjcdelaaGreat
open Go.RowKit
set_option maxRecDepth 100000
set_option linter.unusedVariables false
set_option linter.unusedSimpArgs false
theorem opL_docs : ∀ {l : List Dc},AV.opL (docs l) = true
 | [] => rfl
 | x :: r => by rw [docs_cons]; simp only [AV.opL,AV.op,Bool.and_self,Bool.true_and,Bool.and_true]; exact opL_docs (l := r)
theorem upL_docs {n : Nat} : ∀ {l : List Dc},AV.upL n (docs l) = docs l
 | [] => rfl
 | x :: r => by
  show AV.up n _ :: AV.upL n (docs r) = _
  rw [upL_docs]; rfl
theorem up_DocB {n : Nat} {l : List Dc} : (DocB l).map (ABlk.up n) = DocB l := by
 cases l with
 | nil => rfl
 | cons x r => simp only [DocB,OwnB,docs_cons,Option.map_some,ABlk.up]; rw [← docs_cons,upL_docs]
theorem op_docs {l : List Dc} : AHeap.op [DocB l] := fun id b hb => by
 have hlt := AHeap.find_lt hb
 have : id = 0 := by simpa using hlt
 subst this
 simp only [AHeap.find,List.length_nil,if_true] at hb
 obtain ⟨_,rfl⟩ := OwnB_some hb
 exact opL_docs
theorem refput_v {H : AHeap} {x : AV} {l : List Dc} {d : Dc} (hx : View H x (.lst 2 (docs l) none)) (hl : l.length ≤ 10000000) : D Tryz.prog 36 [x,dcA d] H (.ret (DocV (rp d false l) H.length)) (DocB (rp d false l) :: H) := by
 have h := D_viewO (H := H) (.cons hx (.cons (.agg (.cons .sc (.cons .sc .nil))) .nil)) OwnV_op op_docs (refput_d l d none [] hl)
 simp only [OwnV_up,List.length_nil,Nat.add_zero,AHeap.up,List.map_cons,List.map_nil,up_DocB] at h
 exact h
theorem doc_view {H : AHeap} {l : List Dc} {i : Nat} (hf : l ≠ [] → AHeap.find H i = DocB l) : View H (DocV l i) (.lst 2 (docs l) none) := ViewL.own (fun h => hf fun e => h (by rw [e]; rfl)) docs_view
set_option maxHeartbeats 0 in
theorem refPut_d (s ds : List Dc) (ro rd : Option (List AV)) (H : AHeap) (hs : ShortD s) (hd : ShortD ds) (htot : s.length + ds.length ≤ 1000000) :
  D Tryz.prog 12 [.lst 2 (docs s) ro,.lst 2 (docs ds) rd] H (.ret (.tup [DocV (putR s ds).1 H.length,.sc (.int .i64 (putR s ds).2)])) (DocB (putR s ds).1 :: H) := by
 refine D_of_DK (by simp) (dk12 (E_of_ES ?_))
 simp only [ic12,ux]
 refine ES_seq_gen fun L hL => ?_
 simp -implicitDefEqProofs (maxSteps := 99999999) (disch := first | omega | (simp only [AHeap.set_length,killO_length,List.length_cons,List.length_nil]; first | done | omega)) only [va,vg,vs,vw,Nat.reduceMul,ite_true,ite_false,eq_self,forall_const,implies_true,Nat.reduceAdd,Nat.reduceSub,Nat.reduceLT,Nat.reduceLeDiff,↓reduceIte,reduceCtorEq,Int.reduceEq,Int.reduceLT,Int.reduceLE,Int.reduceGT,Int.reduceGE,Int.reduceAdd,Int.reduceSub,Int.reduceNeg,Int.reduceToNat,Nat.reduceBEq,Nat.reduceEqDiff]
 refine hL _ _ ?_
 clear hL
 refine ES_seq_gen fun L hL => ?_
 simp -implicitDefEqProofs (maxSteps := 99999999) (disch := first | omega | (simp only [AHeap.set_length,killO_length,List.length_cons,List.length_nil]; first | done | omega)) only [va,vg,vs,vw,Nat.reduceMul,ite_true,ite_false,eq_self,forall_const,implies_true,Nat.reduceAdd,Nat.reduceSub,Nat.reduceLT,Nat.reduceLeDiff,↓reduceIte,reduceCtorEq,Int.reduceEq,Int.reduceLT,Int.reduceLE,Int.reduceGT,Int.reduceGE,Int.reduceAdd,Int.reduceSub,Int.reduceNeg,Int.reduceToNat,Nat.reduceBEq,Nat.reduceEqDiff]
 refine callR_ret (refRight_d s _ _ hs) ?_
 cases c0 : rightS s with
 | false =>
  have hA : putR s ds = ([],4) := by unfold putR; rw [if_neg (by simp [c0])]
  rw [hA]
  simp -implicitDefEqProofs (maxSteps := 99999999) (disch := first | omega | (simp only [AHeap.set_length,killO_length,List.length_cons,List.length_nil]; first | done | omega)) only [va,vg,vs,vw,Nat.reduceMul,ite_true,ite_false,eq_self,forall_const,implies_true,Nat.reduceAdd,Nat.reduceSub,Nat.reduceLT,Nat.reduceLeDiff,↓reduceIte,reduceCtorEq,Int.reduceEq,Int.reduceLT,Int.reduceLE,Int.reduceGT,Int.reduceGE,Int.reduceAdd,Int.reduceSub,Int.reduceNeg,Int.reduceToNat,Nat.reduceBEq,Nat.reduceEqDiff]
  exact put_weak (out := []) (s := H.length) (Nat.le_refl _) (fun id hid => rfl) (fun h => (h rfl).elim)
 | true =>
  simp -implicitDefEqProofs (maxSteps := 99999999) (disch := first | omega | (simp only [AHeap.set_length,killO_length,List.length_cons,List.length_nil]; first | done | omega)) only [va,vg,vs,vw,Nat.reduceMul,ite_true,ite_false,eq_self,forall_const,implies_true,Nat.reduceAdd,Nat.reduceSub,Nat.reduceLT,Nat.reduceLeDiff,↓reduceIte,reduceCtorEq,Int.reduceEq,Int.reduceLT,Int.reduceLE,Int.reduceGT,Int.reduceGE,Int.reduceAdd,Int.reduceSub,Int.reduceNeg,Int.reduceToNat,Nat.reduceBEq,Nat.reduceEqDiff]
  refine hL _ _ ?_
  clear hL
  refine ES_seq_gen fun L hL => ?_
  simp -implicitDefEqProofs (maxSteps := 99999999) (disch := first | omega | (simp only [AHeap.set_length,killO_length,List.length_cons,List.length_nil]; first | done | omega)) only [docs_length,va,vg,vs,vw,Nat.reduceMul,ite_true,ite_false,eq_self,forall_const,implies_true,Nat.reduceAdd,Nat.reduceSub,Nat.reduceLT,Nat.reduceLeDiff,↓reduceIte,reduceCtorEq,Int.reduceEq,Int.reduceLT,Int.reduceLE,Int.reduceGT,Int.reduceGE,Int.reduceAdd,Int.reduceSub,Int.reduceNeg,Int.reduceToNat,Nat.reduceBEq,Nat.reduceEqDiff]
  refine ES_loopL (fun ts F => F = H ∧ ∃ k : Nat,(k ≤ ds.length ∧ ∀ j,j < k → badN (nthD ds j) = false) ∧ Fr [some (.lst 2 (docs s) ro),some (.lst 2 (docs ds) rd),none,none,none,none,some (.sc (.int .i64 k)),none,none,none,none,none,none,none,none,none,none,none,none,none,none,none,none,none,none,none,none,none,none,none,none,none,none,none,none,none,none,none,none,none,none] ts) (fun ts _ => ds.length - (intV (ts.getD 6 .top)).toNat) ⟨rfl,0,⟨Nat.zero_le _,fun j h => absurd h (Nat.not_lt_zero _)⟩,by simp [Fr]⟩ ?_
  rintro ts F ⟨hF,k,⟨hk,hp⟩,hfr⟩ L2 hL2
  obtain ⟨js,rfl⟩ := hfr.opened
  clear hfr
  rw [hF]
  clear hF F
  simp -implicitDefEqProofs (maxSteps := 99999999) (disch := first | omega | (simp only [AHeap.set_length,killO_length,List.length_cons,List.length_nil]; first | done | omega)) only [docs_length,mk,va,vg,vs,vw,Nat.reduceMul,ite_true,ite_false,eq_self,forall_const,implies_true,Nat.reduceAdd,Nat.reduceSub,Nat.reduceLT,Nat.reduceLeDiff,↓reduceIte,reduceCtorEq,Int.reduceEq,Int.reduceLT,Int.reduceLE,Int.reduceGT,Int.reduceGE,Int.reduceAdd,Int.reduceSub,Int.reduceNeg,Int.reduceToNat,Nat.reduceBEq,Nat.reduceEqDiff]
  refine condR_if (fun h => ?_) (fun h => ?_)
  ·have h1 : k < ds.length := by omega
   have hsz := hd.nth h1
   simp -implicitDefEqProofs (maxSteps := 99999999) (disch := first | omega | (simp only [AHeap.set_length,killO_length,List.length_cons,List.length_nil]; first | done | omega)) only [docs_length,docs_get h1,va,vg,vs,vw,Nat.reduceMul,ite_true,ite_false,eq_self,forall_const,implies_true,Nat.reduceAdd,Nat.reduceSub,Nat.reduceLT,Nat.reduceLeDiff,↓reduceIte,reduceCtorEq,Int.reduceEq,Int.reduceLT,Int.reduceLE,Int.reduceGT,Int.reduceGE,Int.reduceAdd,Int.reduceSub,Int.reduceNeg,Int.reduceToNat,Nat.reduceBEq,Nat.reduceEqDiff]
   refine ⟨by omega,callR_ret (refName_d _ _ hsz.1) ?_⟩
   cases hb : badN (nthD ds k) with
   | true =>
    have hn : nameB (nthD ds k).1 = false := by simpa [badN] using hb
    have c1 : ds.any badN = true := List.any_eq_true.2 ⟨_,List.getElem_mem h1,by rw [← nthD_eq h1]; exact hb⟩
    have hA : putR s ds = ([],2) := by unfold putR; rw [if_pos c0,if_pos c1]
    rw [hA]
    simp -implicitDefEqProofs (maxSteps := 99999999) (disch := first | omega | (simp only [AHeap.set_length,killO_length,List.length_cons,List.length_nil]; first | done | omega)) only [hn,va,vg,vs,vw,Nat.reduceMul,ite_true,ite_false,eq_self,forall_const,implies_true,Nat.reduceAdd,Nat.reduceSub,Nat.reduceLT,Nat.reduceLeDiff,↓reduceIte,reduceCtorEq,Int.reduceEq,Int.reduceLT,Int.reduceLE,Int.reduceGT,Int.reduceGE,Int.reduceAdd,Int.reduceSub,Int.reduceNeg,Int.reduceToNat,Nat.reduceBEq,Nat.reduceEqDiff]
    exact put_weak (out := []) (s := H.length) (Nat.le_refl _) (fun id hid => rfl) (fun h => (h rfl).elim)
   | false =>
    have hn : nameB (nthD ds k).1 = true := by simpa [badN] using hb
    simp -implicitDefEqProofs (maxSteps := 99999999) (disch := first | omega | (simp only [AHeap.set_length,killO_length,List.length_cons,List.length_nil]; first | done | omega)) only [hn,va,vg,vs,vw,Nat.reduceMul,ite_true,ite_false,eq_self,forall_const,implies_true,Nat.reduceAdd,Nat.reduceSub,Nat.reduceLT,Nat.reduceLeDiff,↓reduceIte,reduceCtorEq,Int.reduceEq,Int.reduceLT,Int.reduceLE,Int.reduceGT,Int.reduceGE,Int.reduceAdd,Int.reduceSub,Int.reduceNeg,Int.reduceToNat,Nat.reduceBEq,Nat.reduceEqDiff]
    refine hL2 _ _ ⟨rfl,k + 1,⟨by omega,fun j hj => ?_⟩,by simp [Fr]⟩ (by simp only [List.getD_cons_succ,List.getD_cons_zero,intV,mk]; omega)
    rcases Nat.lt_succ_iff_lt_or_eq.1 hj with h' | rfl
    ·exact hp j h'
    ·exact hb
  ·have c1 : ds.any badN = false := by
    rw [List.any_eq_false]
    intro x hx
    obtain ⟨j,hj,rfl⟩ := List.getElem_of_mem hx
    rw [← nthD_eq hj,hp j (by omega)]
    simp
   have hA : putR s ds = (putAll s ds,0) := by unfold putR; rw [if_pos c0,c1]; rfl
   rw [hA]
   clear hL2
   simp -implicitDefEqProofs (maxSteps := 99999999) (disch := first | omega | (simp only [AHeap.set_length,killO_length,List.length_cons,List.length_nil]; first | done | omega)) only [va,vg,vs,vw,Nat.reduceMul,ite_true,ite_false,eq_self,forall_const,implies_true,Nat.reduceAdd,Nat.reduceSub,Nat.reduceLT,Nat.reduceLeDiff,↓reduceIte,reduceCtorEq,Int.reduceEq,Int.reduceLT,Int.reduceLE,Int.reduceGT,Int.reduceGE,Int.reduceAdd,Int.reduceSub,Int.reduceNeg,Int.reduceToNat,Nat.reduceBEq,Nat.reduceEqDiff]
   refine hL _ _ ?_
   clear hL
   have hrise : Rise s := by
    simp only [rightS,Bool.and_eq_true] at c0
    exact rise_of_B c0.1
   have hlen0 := hs.1
   have fin : ∀ (x : AV) (F : AHeap) (oid : Nat),H.length ≤ oid → (∀ id,id < H.length → AHeap.find F id = AHeap.find H id) → (putAll s ds ≠ [] → AHeap.find F oid = DocB (putAll s ds)) → (x = DocV (putAll s ds) oid ∨ putAll s ds = [] ∧ x = .lst 2 [] (some [])) →
     Weak H (.ret (.tup [x,.sc (.int .i64 0)])) F (.ret (.tup [DocV (putAll s ds) H.length,.sc (.int .i64 0)])) (DocB (putAll s ds) :: H) := fun x F oid h1 h2 h3 h4 => by
    rcases h4 with rfl | ⟨e,rfl⟩
    ·exact put_weak h1 h2 h3
    ·rw [e]
     exact weak_rowD (xs := []) (s := oid) h1 h2 (fun h => (h rfl).elim) .nil (.tup (.cons .nil0 (.cons (.same trivial) .nil)))
   refine ES_seq_gen fun L hL => ?_
   have run : ∀ ts F,(∃ (x : AV) (oid : Nat),(H.length ≤ F.length ∧ H.length ≤ oid ∧ (s ≠ [] → AHeap.find F oid = DocB s)) ∧ (∀ id,id < H.length → AHeap.find F id = AHeap.find H id) ∧ (x = DocV s oid ∨ s = [] ∧ x = .lst 2 [] (some [])) ∧ Fr [none,some (.lst 2 (docs ds) rd),none,none,none,none,none,some (x),none,none,none,none,none,none,none,none,none,none,none,none,none,none,none,none,none,none,none,none,none,none,none,none,none,none,none,none,none,none,none,none,none] ts) → L ts F := by
    clear hp hk k js h
    rintro ts F ⟨x,oid,⟨f1,f2,f3⟩,g1,hx,hfr⟩
    obtain ⟨js,rfl⟩ := hfr.opened
    clear hfr
    refine hL _ _ ?_
    clear hL
    refine ES_seq_gen fun L hL => ?_
    simp -implicitDefEqProofs (maxSteps := 99999999) (disch := first | omega | (simp only [AHeap.set_length,killO_length,List.length_cons,List.length_nil]; first | done | omega)) only [docs_length,mk,va,vg,vs,vw,Nat.reduceMul,ite_true,ite_false,eq_self,forall_const,implies_true,Nat.reduceAdd,Nat.reduceSub,Nat.reduceLT,Nat.reduceLeDiff,↓reduceIte,reduceCtorEq,Int.reduceEq,Int.reduceLT,Int.reduceLE,Int.reduceGT,Int.reduceGE,Int.reduceAdd,Int.reduceSub,Int.reduceNeg,Int.reduceToNat,Nat.reduceBEq,Nat.reduceEqDiff]
    refine ES_loopL (fun ts F => ∃ (k : Nat) (x : AV) (oid : Nat),k ≤ ds.length ∧ (H.length ≤ F.length ∧ H.length ≤ oid ∧ (putAll s (ds.take k) ≠ [] → AHeap.find F oid = DocB (putAll s (ds.take k)))) ∧ (∀ id,id < H.length → AHeap.find F id = AHeap.find H id) ∧ (x = DocV (putAll s (ds.take k)) oid ∨ putAll s (ds.take k) = [] ∧ x = .lst 2 [] (some [])) ∧ Fr [none,some (.lst 2 (docs ds) rd),none,none,none,none,none,some (x),some (.sc (.int .i64 k)),none,none,none,none,none,none,none,none,none,none,none,none,none,none,none,none,none,none,none,none,none,none,none,none,none,none,none,none,none,none,none,none] ts) (fun ts _ => ds.length - (intV (ts.getD 8 .top)).toNat) ⟨0,x,oid,Nat.zero_le _,⟨f1,f2,f3⟩,g1,hx,by simp [Fr]⟩ ?_
    clear f1 f2 f3 g1 hx
    clear x oid js F
    rintro ts F ⟨k,x,oid,hk,⟨f1,f2,f3⟩,g1,hx,hfr⟩ L2 hL2
    obtain ⟨js,rfl⟩ := hfr.opened
    clear hfr
    simp -implicitDefEqProofs (maxSteps := 99999999) (disch := first | omega | (simp only [AHeap.set_length,killO_length,List.length_cons,List.length_nil]; first | done | omega)) only [docs_length,mk,va,vg,vs,vw,Nat.reduceMul,ite_true,ite_false,eq_self,forall_const,implies_true,Nat.reduceAdd,Nat.reduceSub,Nat.reduceLT,Nat.reduceLeDiff,↓reduceIte,reduceCtorEq,Int.reduceEq,Int.reduceLT,Int.reduceLE,Int.reduceGT,Int.reduceGE,Int.reduceAdd,Int.reduceSub,Int.reduceNeg,Int.reduceToNat,Nat.reduceBEq,Nat.reduceEqDiff]
    refine condR_if (fun h => ?_) (fun h => ?_)
    ·have h1 : k < ds.length := by omega
     have hlk := putAll_length (s := s) (ds.take k)
     rw [List.length_take] at hlk
     have hrk := rise_putAll hrise (ds.take k)
     have hst := putAll_step (s := s) h1
     have hgd := docs_get h1
     generalize putAll s (ds.take k) = l at hlk hrk hst f3 hx
     have hv : View F x (.lst 2 (docs l) none) := by
      rcases hx with rfl | ⟨rfl,rfl⟩
      ·exact doc_view f3
      ·exact .nil
     simp -implicitDefEqProofs (maxSteps := 99999999) (disch := first | omega | (simp only [AHeap.set_length,killO_length,List.length_cons,List.length_nil]; first | done | omega)) only [docs_length,hgd,va,vg,vs,vw,Nat.reduceMul,ite_true,ite_false,eq_self,forall_const,implies_true,Nat.reduceAdd,Nat.reduceSub,Nat.reduceLT,Nat.reduceLeDiff,↓reduceIte,reduceCtorEq,Int.reduceEq,Int.reduceLT,Int.reduceLE,Int.reduceGT,Int.reduceGE,Int.reduceAdd,Int.reduceSub,Int.reduceNeg,Int.reduceToNat,Nat.reduceBEq,Nat.reduceEqDiff]
     refine ⟨by omega,callR_ret (refput_v (d := nthD ds k) hv (by omega)) ?_⟩
     rw [rp_putL hrk,← hst]
     simp -implicitDefEqProofs (maxSteps := 99999999) (disch := first | omega | (simp only [AHeap.set_length,killO_length,List.length_cons,List.length_nil]; first | done | omega)) only [va,vg,vs,vw,Nat.reduceMul,ite_true,ite_false,eq_self,forall_const,implies_true,Nat.reduceAdd,Nat.reduceSub,Nat.reduceLT,Nat.reduceLeDiff,↓reduceIte,reduceCtorEq,Int.reduceEq,Int.reduceLT,Int.reduceLE,Int.reduceGT,Int.reduceGE,Int.reduceAdd,Int.reduceSub,Int.reduceNeg,Int.reduceToNat,Nat.reduceBEq,Nat.reduceEqDiff]
     refine hL2 _ _ ⟨k + 1,_,F.length,by omega,⟨by simp; omega,by omega,fun _ => find_top rfl⟩,fun i hi => ?_,.inl rfl,by simp [Fr]⟩ (by simp only [List.getD_cons_succ,List.getD_cons_zero,intV,mk]; omega)
     rw [find_past (by omega)]
     exact g1 i hi
    ·have hk' : k = ds.length := by omega
     subst hk'
     rw [List.take_length] at f3 hx
     clear hL2
     simp -implicitDefEqProofs (maxSteps := 99999999) (disch := first | omega | (simp only [AHeap.set_length,killO_length,List.length_cons,List.length_nil]; first | done | omega)) only [va,vg,vs,vw,Nat.reduceMul,ite_true,ite_false,eq_self,forall_const,implies_true,Nat.reduceAdd,Nat.reduceSub,Nat.reduceLT,Nat.reduceLeDiff,↓reduceIte,reduceCtorEq,Int.reduceEq,Int.reduceLT,Int.reduceLE,Int.reduceGT,Int.reduceGE,Int.reduceAdd,Int.reduceSub,Int.reduceNeg,Int.reduceToNat,Nat.reduceBEq,Nat.reduceEqDiff]
     refine hL _ _ ?_
     clear hL
     simp -implicitDefEqProofs (maxSteps := 99999999) (disch := first | omega | (simp only [AHeap.set_length,killO_length,List.length_cons,List.length_nil]; first | done | omega)) only [va,vg,vs,vw,Nat.reduceMul,ite_true,ite_false,eq_self,forall_const,implies_true,Nat.reduceAdd,Nat.reduceSub,Nat.reduceLT,Nat.reduceLeDiff,↓reduceIte,reduceCtorEq,Int.reduceEq,Int.reduceLT,Int.reduceLE,Int.reduceGT,Int.reduceGE,Int.reduceAdd,Int.reduceSub,Int.reduceNeg,Int.reduceToNat,Nat.reduceBEq,Nat.reduceEqDiff]
     rw [hA]
     exact fin x F oid f2 g1 f3 hx
   have hL2 := run
   clear hL run fin
   cases s with
   | nil =>
    simp -implicitDefEqProofs (maxSteps := 99999999) (disch := first | omega | (simp only [AHeap.set_length,killO_length,List.length_cons,List.length_nil]; first | done | omega)) only [docs_nil,va,vg,vs,vw,Nat.reduceMul,ite_true,ite_false,eq_self,forall_const,implies_true,Nat.reduceAdd,Nat.reduceSub,Nat.reduceLT,Nat.reduceLeDiff,↓reduceIte,reduceCtorEq,Int.reduceEq,Int.reduceLT,Int.reduceLE,Int.reduceGT,Int.reduceGE,Int.reduceAdd,Int.reduceSub,Int.reduceNeg,Int.reduceToNat,Nat.reduceBEq,Nat.reduceEqDiff]
    exact hL2 _ _ ⟨_,H.length,⟨Nat.le_refl _,Nat.le_refl _,fun h => (h rfl).elim⟩,fun _ _ => rfl,.inr ⟨rfl,rfl⟩,by simp [Fr]⟩
   | cons y r =>
    simp only [List.length_cons] at hlen0
    simp -implicitDefEqProofs (maxSteps := 99999999) (disch := first | omega | (simp only [AHeap.set_length,killO_length,List.length_cons,List.length_nil]; first | done | omega)) only [docs_length,docs_cons,va,vg,vs,vw,Nat.reduceMul,ite_true,ite_false,eq_self,forall_const,implies_true,Nat.reduceAdd,Nat.reduceSub,Nat.reduceLT,Nat.reduceLeDiff,↓reduceIte,reduceCtorEq,Int.reduceEq,Int.reduceLT,Int.reduceLE,Int.reduceGT,Int.reduceGE,Int.reduceAdd,Int.reduceSub,Int.reduceNeg,Int.reduceToNat,Nat.reduceBEq,Nat.reduceEqDiff]
    refine ⟨by omega,?_⟩
    have eV : AV.vec 2 H.length 0 (r.length + 1) none = DocV (y :: r) H.length := by rw [DocV_ne (by simp)]; rfl
    rw [eV]
    refine hL2 _ _ ⟨DocV (y :: r) H.length,H.length,⟨?_,?_,?_⟩,?_,.inl rfl,?_⟩
    ·simp
    ·exact Nat.le_refl _
    ·intro _; exact find_top rfl
    ·intro id hid; exact find_past hid
    ·simp [Fr]
end Go.Proofs.YtljajanjjcdelaaGreat
