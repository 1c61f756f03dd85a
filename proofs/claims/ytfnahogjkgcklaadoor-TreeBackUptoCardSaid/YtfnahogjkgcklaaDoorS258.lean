/- tree.find at an own tree. -/
import Derived.Test.YtfnahogjkgcklaaDoorS257
namespace Go.Proofs.YtfnahogjkgcklaaDoor
open Go.RowKit
set_option maxRecDepth 100000
set_option linter.unusedVariables false
set_option linter.unusedSimpArgs false
/-- Where a path leads in an own tree: the block and the place in it. -/
def posO : Nd → Nat → Nat → Nat → List Int → Option (Nat × Nat)
 | _,id,j,_,[] => some (id,j)
 | t,id,j,a,k :: r => if 0 ≤ k ∧ k < t.kids.length then posO (nthN t.kids k.toNat) a k.toNat (a + 1 + Nd.sizeL (t.kids.take k.toNat)) r else none
theorem posO_drop {t : Nd} {id j a : Nat} {p : List Int} {k : Nat} (h : k < p.length) : posO t id j a (p.drop k) = if 0 ≤ p.getD k 0 ∧ p.getD k 0 < t.kids.length then posO (nthN t.kids (p.getD k 0).toNat) a (p.getD k 0).toNat (a + 1 + Nd.sizeL (t.kids.take (p.getD k 0).toNat)) (p.drop (k + 1)) else none := by
 rw [List.drop_eq_getElem_cons h]
 simp [posO,List.getD,h]
def posV : Option (Nat × Nat) → AV
 | some x => .ptr 4 x.1 x.2 0
 | none => .sc (.pointer none)
theorem LiesL.at_ {F : AHeap} : ∀ {l : List Nd} {a k : Nat},LiesL F l a → k < l.length → LiesO F (nthN l k) (a + Nd.sizeL (l.take k))
 | [],_,_,_,h => by simp at h
 | t :: r,a,0,hl,_ => by simpa [nthN,Nd.sizeL] using hl.first
 | t :: r,a,k + 1,hl,h => by
  have := hl.rest.at_ (k := k) (by simpa using h)
  simp only [List.take_succ_cons,Nd.sizeL]
  rw [show a + (t.size + Nd.sizeL (r.take k)) = a + t.size + Nd.sizeL (r.take k) by omega]
  simpa [nthN] using this
theorem cpL_getD {l : List Nd} {k a : Nat} (h : k < l.length) : (cpL l a).getD k .top = cpV (nthN l k) (a + Nd.sizeL (l.take k)) := by
 rw [List.getD_eq_getElem?_getD,cpV_idx l k a h]
 rfl
set_option maxHeartbeats 0 in
theorem findO_d (t : Nd) (p : List Int) (hp : p.length ≤ 1000000) (rp : Option (List AV)) (id j a : Nat) (es : List AV) (ex : Bool) (H : AHeap) (hf : AHeap.find H id = some ⟨4,es,ex,25⟩) (hj : j < es.length) (he : es.getD j .top = cpV t a) (hl : LiesO H t a) : D Tryd.prog 49 [.ptr 4 id j 0,.lst 1 (pthA p) rp] H (.ret (posV (posO t id j a p))) H := by
 refine D_of_DK (Nat.le_refl _) (dk49 (E_of_ES ?_))
 simp only [ic49,ux]
 refine ES_seq_gen fun L hL => ?_
 simp -implicitDefEqProofs (maxSteps := 99999999) (disch := first | omega | (simp only [AHeap.set_length,killO_length,List.length_cons,List.length_nil]; first | done | omega)) only [vu,va,vg,vs,vw,Nat.reduceMul,ite_true,ite_false,eq_self,forall_const,implies_true,Nat.reduceAdd,Nat.reduceSub,Nat.reduceLT,Nat.reduceLeDiff,↓reduceIte,reduceCtorEq,Int.reduceEq,Int.reduceLT,Int.reduceLE,Int.reduceGT,Int.reduceGE,Int.reduceAdd,Int.reduceSub,Int.reduceNeg,Int.reduceToNat,Nat.reduceBEq,Nat.reduceEqDiff]
 refine hL _ _ ?_
 clear hL
 refine ES_seq_gen fun L hL => ?_
 simp -implicitDefEqProofs (maxSteps := 99999999) (disch := first | omega | (simp only [AHeap.set_length,killO_length,List.length_cons,List.length_nil]; first | done | omega)) only [vu,pthA_length,va,vg,vs,vw,Nat.reduceMul,ite_true,ite_false,eq_self,forall_const,implies_true,Nat.reduceAdd,Nat.reduceSub,Nat.reduceLT,Nat.reduceLeDiff,↓reduceIte,reduceCtorEq,Int.reduceEq,Int.reduceLT,Int.reduceLE,Int.reduceGT,Int.reduceGE,Int.reduceAdd,Int.reduceSub,Int.reduceNeg,Int.reduceToNat,Nat.reduceBEq,Nat.reduceEqDiff]
 refine ES_loopL (fun ts F => ∃ (k : Nat) (u : Nd) (id' j' a' : Nat) (es' : List AV) (ex' : Bool),(k ≤ p.length ∧ posO u id' j' a' (p.drop k) = posO t id j a p ∧ AHeap.find H id' = some ⟨4,es',ex',25⟩ ∧ j' < es'.length ∧ es'.getD j' .top = cpV u a' ∧ LiesO H u a') ∧ F = H ∧ Fr [some (.ptr 4 id' j' 0),none,none,none,none,none,none,some (.lst 1 (pthA p) rp),some (.sc (.int .i64 p.length)),some (.sc (.int .i64 k)),none,none,none,none,none,none,none,none,none,none,none,none,none,none,none,none,none,none,none,none,none,none] ts) (fun ts _ => p.length - (intV (ts.getD 9 .top)).toNat) ?_ ?_
 ·exact ⟨0,t,id,j,a,es,ex,⟨Nat.zero_le _,rfl,hf,hj,he,hl⟩,rfl,by simp [Fr]⟩
 clear hf hj he hl
 rintro ts F ⟨k,u,id',j',a',es',ex',⟨hk,hg,hf,hj,he,hl⟩,rfl,hfr⟩ L2 hL2
 obtain ⟨js,rfl⟩ := hfr.opened
 clear hfr
 by_cases hd : k < p.length
 ·have d1 : (k : Int) < p.length := by omega
  have hpg := pthA_get hd
  rw [posO_drop hd] at hg
  generalize p.getD k 0 = q at *
  by_cases c1 : q < 0
  ·rw [if_neg (by omega)] at hg
   rw [← hg] at hL
   simp -implicitDefEqProofs (maxSteps := 99999999) (disch := first | omega | (simp only [AHeap.set_length,killO_length,List.length_cons,List.length_nil]; first | done | omega)) only [mk,d1,hpg,pthA_length,c1,va,vg,vs,vw,Nat.reduceMul,ite_true,ite_false,eq_self,forall_const,implies_true,Nat.reduceAdd,Nat.reduceSub,Nat.reduceLT,Nat.reduceLeDiff,↓reduceIte,reduceCtorEq,Int.reduceEq,Int.reduceLT,Int.reduceLE,Int.reduceGT,Int.reduceGE,Int.reduceAdd,Int.reduceSub,Int.reduceNeg,Int.reduceToNat,Nat.reduceBEq,Nat.reduceEqDiff]
   rw [← hg]
   exact ⟨by omega,weak_sc .refl⟩
  rw [cpV_eq] at he
  obtain ⟨kv,hkv⟩ : ∃ kv,OwnV 4 (cpL u.kids (a' + 1)) a' = kv := ⟨_,rfl⟩
  have q1 : lenN kv = u.kids.length := by rw [← hkv,OwnV_lenN,cpL_length]
  have q2 : lenOk kv := by rw [← hkv,OwnV_lenOk]; trivial
  have q3 : kv.isTop = false ∧ kv.isAgg = false ∧ kv.ncells = 1 := by rw [← hkv]; exact ⟨OwnV_top,OwnV_isAgg,OwnV_ncells⟩
  rw [hkv] at he
  by_cases c2 : q ≥ u.kids.length
  ·rw [if_neg (by omega)] at hg
   simp -implicitDefEqProofs (maxSteps := 99999999) (disch := first | omega | (simp only [AHeap.set_length,killO_length,List.length_cons,List.length_nil]; first | done | omega)) only [mk,d1,hpg,pthA_length,c1,c2,hf,he,q1,q2,q3.1,q3.2.1,q3.2.2,va,vg,vs,vw,Nat.reduceMul,ite_true,ite_false,eq_self,forall_const,implies_true,Nat.reduceAdd,Nat.reduceSub,Nat.reduceLT,Nat.reduceLeDiff,↓reduceIte,reduceCtorEq,Int.reduceEq,Int.reduceLT,Int.reduceLE,Int.reduceGT,Int.reduceGE,Int.reduceAdd,Int.reduceSub,Int.reduceNeg,Int.reduceToNat,Nat.reduceBEq,Nat.reduceEqDiff]
   refine ⟨by omega,hj,?_⟩
   rw [← hg]
   exact weak_sc .refl
  ·rw [if_pos (by omega)] at hg
   have hq : q.toNat < u.kids.length := by omega
   have hne : cpL u.kids (a' + 1) ≠ [] := fun e => by have := cpL_length u.kids (a' + 1); rw [e] at this; simp at this; omega
   have hkv2 : kv = .vec 4 a' 0 u.kids.length none := by rw [← hkv,OwnV_ne hne,cpL_length]
   rw [hkv2] at he
   simp -implicitDefEqProofs (maxSteps := 99999999) (disch := first | omega | (simp only [AHeap.set_length,killO_length,List.length_cons,List.length_nil]; first | done | omega)) only [mk,d1,hpg,pthA_length,c1,c2,hf,he,va,vg,vs,vw,Nat.reduceMul,ite_true,ite_false,eq_self,forall_const,implies_true,Nat.reduceAdd,Nat.reduceSub,Nat.reduceLT,Nat.reduceLeDiff,↓reduceIte,reduceCtorEq,Int.reduceEq,Int.reduceLT,Int.reduceLE,Int.reduceGT,Int.reduceGE,Int.reduceAdd,Int.reduceSub,Int.reduceNeg,Int.reduceToNat,Nat.reduceBEq,Nat.reduceEqDiff]
   refine ⟨by omega,hj,hj,⟨by omega,by omega⟩,hL2 _ _ ⟨k + 1,nthN u.kids q.toNat,a',q.toNat,_,cpL u.kids (a' + 1),false,⟨by omega,hg,?_,by rw [cpL_length]; exact hq,cpL_getD hq,?_⟩,rfl,by simp [Fr]⟩ (by simp [intV,mk]; omega)⟩
   ·rw [hl.head,OwnB_ne hne]
   ·exact hl.kids.at_ hq
 ·have d1 : ¬ (k : Int) < p.length := by omega
  have hdr : p.drop k = [] := List.drop_of_length_le (by omega)
  rw [hdr] at hg
  simp only [posO] at hg
  rw [← hg] at hL
  simp -implicitDefEqProofs (maxSteps := 99999999) (disch := first | omega | (simp only [AHeap.set_length,killO_length,List.length_cons,List.length_nil]; first | done | omega)) only [mk,d1,va,vg,vs,vw,Nat.reduceMul,ite_true,ite_false,eq_self,forall_const,implies_true,Nat.reduceAdd,Nat.reduceSub,Nat.reduceLT,Nat.reduceLeDiff,↓reduceIte,reduceCtorEq,Int.reduceEq,Int.reduceLT,Int.reduceLE,Int.reduceGT,Int.reduceGE,Int.reduceAdd,Int.reduceSub,Int.reduceNeg,Int.reduceToNat,Nat.reduceBEq,Nat.reduceEqDiff]
  refine hL _ _ ?_
  clear hL
  simp -implicitDefEqProofs (maxSteps := 99999999) (disch := first | omega | (simp only [AHeap.set_length,killO_length,List.length_cons,List.length_nil]; first | done | omega)) only [vu,va,vg,vs,vw,Nat.reduceMul,ite_true,ite_false,eq_self,forall_const,implies_true,Nat.reduceAdd,Nat.reduceSub,Nat.reduceLT,Nat.reduceLeDiff,↓reduceIte,reduceCtorEq,Int.reduceEq,Int.reduceLT,Int.reduceLE,Int.reduceGT,Int.reduceGE,Int.reduceAdd,Int.reduceSub,Int.reduceNeg,Int.reduceToNat,Nat.reduceBEq,Nat.reduceEqDiff]
  exact Weak.refl _ _ _
end Go.Proofs.YtfnahogjkgcklaaDoor
