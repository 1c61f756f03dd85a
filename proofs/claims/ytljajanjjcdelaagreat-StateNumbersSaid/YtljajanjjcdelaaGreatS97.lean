/- A file is put into a row of its own. -/
import Derived.Test.YtljajanjjcdelaaGreatS96
import Derived.Test.YtljajanjjcdelaaGreatVE
namespace Go.Proofs.YtljajanjjcdelaaGreat
open Go.RowKit
set_option maxRecDepth 100000
set_option linter.unusedVariables false
set_option linter.unusedSimpArgs false
/-- An own row is told as a new one. -/
theorem weak_move {H H1 : AHeap} {k id n c : Nat} {blk : ABlk} (hl : H1.length = H.length) (hf : AHeap.find H1 id = some blk) :
  Weak H (.ret (.vec k id 0 n (some c))) H1 (.ret (.vec k H.length 0 n none)) (some blk :: AHeap.set H1 id none) := by
 intro φ w φ1 w1 en hR hE h2 h3
 cases en with
 | returned v =>
  have hv : VR φ1 (Own φ1 H1) w1 (.vec k id 0 n (some c)) v := hE
  obtain ⟨b,c',cur,e,fr,v1,rfl,v3,v4,v5,v6,v7⟩ := VR_vec hv
  obtain ⟨m1,m2⟩ := h2.move v1 hf
  refine ⟨_,?_,m1,h3.trans m2⟩
  rw [← hl]
  show VR _ _ _ _ _
  rw [Nat.zero_mul]
  exact vr_vec_of (by simp [Phi.add]) v3 v4 (fun m h => by simp at h) v6 (by rw [v7,Nat.zero_add])
 | _ => exact hE.elim
/-- An old row is dropped. -/
theorem weak_drop {H : AHeap} {x : AV} {b : Option ABlk} {id : Nat} (hid : id < H.length) : Weak H (.ret x) (b :: H) (.ret x) (b :: AHeap.set H id none) := by
 intro φ w φ1 w1 en hR hE h2 h3
 cases en with
 | returned v =>
  have hv : VR φ1 (Own φ1 (b :: H)) w1 x v := hE
  obtain ⟨m1,m2⟩ := h2.kill id
  rw [set_cons hid] at m1 m2
  exact ⟨_,m2.vr hv,m1,h3.trans m2⟩
 | _ => exact hE.elim
theorem docs_take {l : List Dc} {k : Nat} : docs (l.take k) = (docs l).take k := by simp [docs,List.map_take]
theorem docs_drop {l : List Dc} {k : Nat} : docs (l.drop k) = (docs l).drop k := by simp [docs,List.map_drop]
def insL (l : List Dc) (i : Nat) (d : Dc) : List Dc := l.take i ++ d :: l.drop i
theorem docs_ins {l : List Dc} {i : Nat} {d : Dc} : docs (insL l i d) = (docs l).take i ++ dcA d :: (docs l).drop i := by
 rw [insL,docs_append,docs_cons,docs_take,docs_drop]
theorem grow_eq {D R E0 E1 : List AV} {x : AV} {p n : Nat} (hn : D.length = n) (hp : p < n) (h0 : E0 = D.take p ++ R) (h1 : E1 = E0.take p ++ x :: E0.drop (p + 1)) (hl : E1.length = n + 1) :
  E1.take (p + 1) ++ (List.take (n - p) (D.drop p) ++ E1.drop (p + (1 + (n - p)))) = D.take p ++ x :: D.drop p := by
 have ha : (D.take p).length = p := by simp; omega
 have e0 : E0.take p = D.take p := by rw [h0,List.take_append_of_le_length (by omega),List.take_of_length_le (by omega)]
 rw [List.drop_of_length_le (l := E1) (i := p + (1 + (n - p))) (by omega),List.append_nil,List.take_of_length_le (i := n - p) (by simp; omega),h1,e0,List.take_append]
 simp [ha,List.take_of_length_le]
theorem room_eq {D E : List AV} {x : AV} {p n : Nat} (hn : D.length = n) (hp : p < n) (hE : E = D.take (p + 1) ++ (List.take (n - p) (D.drop p) ++ D.drop (p + (1 + (n - p))))) :
  E.take p ++ x :: E.drop (p + 1) = D.take p ++ x :: D.drop p := by
 have ha : (D.take (p + 1)).length = p + 1 := by simp; omega
 rw [List.drop_of_length_le (l := D) (i := p + (1 + (n - p))) (by omega),List.append_nil,List.take_of_length_le (i := n - p) (by simp; omega)] at hE
 rw [hE,List.take_append_of_le_length (by omega),List.take_take,Nat.min_eq_left (by omega),List.drop_append,List.drop_of_length_le (by omega),ha]
 simp
theorem insert_d (l : List Dc) (d : Dc) (pos id : Nat) (H : AHeap) (hp : pos ≤ l.length) (hl : l.length ≤ 10000000) (hf : AHeap.find H id = some ⟨2,docs l,false,40⟩) :
  D Tryz.prog 53 [.vec 2 id 0 l.length none,.sc (.int .i64 pos),.lst 2 [dcA d] (some [])] H (.ret (.vec 2 H.length 0 (l.length + 1) none)) (some ⟨2,docs (insL l pos d),false,40⟩ :: AHeap.set H id none) := by
 have hid := AHeap.find_lt hf
 refine D_openArg (a := []) (b := [.sc (.int .i64 pos),.lst 2 [dcA d] (some [])]) (by simp [AHeap.set_length]) fun c hc => ?_
 refine D_of_DK (by simp [AHeap.set_length]) (dk53 (E_of_ES ?_))
 simp only [ic53,ux]
 have hmove : ∀ es : List AV,es = docs (insL l pos d) → l.length + 1 ≤ c → Weak H (.ret (.vec 2 id 0 (l.length + 1) (some c))) (AHeap.set H id (some ⟨2,es,false,40⟩)) (.ret (.vec 2 H.length 0 (l.length + 1) none)) (some ⟨2,docs (insL l pos d),false,40⟩ :: AHeap.set H id none) := fun es e _ => by
  subst e
  have := weak_move (H := H) (k := 2) (id := id) (n := l.length + 1) (c := c) (AHeap.set_length (H := H) (i := id) (x := some ⟨2,docs (insL l pos d),false,40⟩)) (AHeap.find_set_same hid)
  rwa [set_set] at this
 have hdrop : ∀ es : List AV,es = docs (insL l pos d) → Weak H (.ret (.vec 2 H.length 0 (l.length + 1) none)) (some ⟨2,es,false,40⟩ :: H) (.ret (.vec 2 H.length 0 (l.length + 1) none)) (some ⟨2,docs (insL l pos d),false,40⟩ :: AHeap.set H id none) := fun es e => by
  subst e
  exact weak_drop hid
 refine ES_seq_gen fun L hL => ?_
 simp -implicitDefEqProofs (maxSteps := 99999999) (disch := omega) only [va,vg,vs,vh,Nat.reduceMul,ite_true,ite_false,eq_self,forall_const,implies_true,Nat.reduceAdd,Nat.reduceSub,Nat.reduceLT,Nat.reduceLeDiff,↓reduceIte,reduceCtorEq,Int.reduceEq,Int.reduceLT,Int.reduceLE,Int.reduceGT,Int.reduceGE,Int.reduceAdd,Int.reduceSub,Int.reduceNeg,Int.reduceToNat,Nat.reduceBEq,Nat.reduceEqDiff]
 refine hL _ _ ?_
 clear hL
 refine ES_seq_gen fun L hL => ?_
 simp -implicitDefEqProofs (maxSteps := 99999999) (disch := omega) only [va,vg,vs,vh,Nat.reduceMul,ite_true,ite_false,eq_self,forall_const,implies_true,Nat.reduceAdd,Nat.reduceSub,Nat.reduceLT,Nat.reduceLeDiff,↓reduceIte,reduceCtorEq,Int.reduceEq,Int.reduceLT,Int.reduceLE,Int.reduceGT,Int.reduceGE,Int.reduceAdd,Int.reduceSub,Int.reduceNeg,Int.reduceToNat,Nat.reduceBEq,Nat.reduceEqDiff]
 refine ⟨⟨by omega,rfl,by omega,by omega⟩,?_⟩
 refine hL _ _ ?_
 clear hL
 refine ES_seq_gen fun L hL => ?_
 simp -implicitDefEqProofs (maxSteps := 99999999) (disch := omega) only [va,vg,vs,vh,Nat.reduceMul,ite_true,ite_false,eq_self,forall_const,implies_true,Nat.reduceAdd,Nat.reduceSub,Nat.reduceLT,Nat.reduceLeDiff,↓reduceIte,reduceCtorEq,Int.reduceEq,Int.reduceLT,Int.reduceLE,Int.reduceGT,Int.reduceGE,Int.reduceAdd,Int.reduceSub,Int.reduceNeg,Int.reduceToNat,Nat.reduceBEq,Nat.reduceEqDiff]
 refine hL _ _ ?_
 clear hL
 refine ES_seq_gen fun L hL => ?_
 simp -implicitDefEqProofs (maxSteps := 99999999) (disch := omega) only [va,vg,vs,vh,Nat.reduceMul,ite_true,ite_false,eq_self,forall_const,implies_true,Nat.reduceAdd,Nat.reduceSub,Nat.reduceLT,Nat.reduceLeDiff,↓reduceIte,reduceCtorEq,Int.reduceEq,Int.reduceLT,Int.reduceLE,Int.reduceGT,Int.reduceGE,Int.reduceAdd,Int.reduceSub,Int.reduceNeg,Int.reduceToNat,Nat.reduceBEq,Nat.reduceEqDiff]
 refine hL _ _ ?_
 clear hL
 refine ES_seq_gen fun L hL => ?_
 simp -implicitDefEqProofs (maxSteps := 99999999) (disch := omega) only [va,vg,vs,vh,Nat.reduceMul,ite_true,ite_false,eq_self,forall_const,implies_true,Nat.reduceAdd,Nat.reduceSub,Nat.reduceLT,Nat.reduceLeDiff,↓reduceIte,reduceCtorEq,Int.reduceEq,Int.reduceLT,Int.reduceLE,Int.reduceGT,Int.reduceGE,Int.reduceAdd,Int.reduceSub,Int.reduceNeg,Int.reduceToNat,Nat.reduceBEq,Nat.reduceEqDiff]
 refine hL _ _ ?_
 clear hL
 refine ES_seq_gen fun L hL => ?_
 simp -implicitDefEqProofs (maxSteps := 99999999) (disch := omega) only [va,vg,vs,vh,Nat.reduceMul,ite_true,ite_false,eq_self,forall_const,implies_true,Nat.reduceAdd,Nat.reduceSub,Nat.reduceLT,Nat.reduceLeDiff,↓reduceIte,reduceCtorEq,Int.reduceEq,Int.reduceLT,Int.reduceLE,Int.reduceGT,Int.reduceGE,Int.reduceAdd,Int.reduceSub,Int.reduceNeg,Int.reduceToNat,Nat.reduceBEq,Nat.reduceEqDiff]
 refine condR_if (fun h => ?_) (fun h => ?_)
 ·have hpn : pos = l.length := by omega
  clear hL
  have hes : docs l ++ [dcA d] = docs (insL l pos d) := by rw [hpn,insL]; simp [docs]
  by_cases hroom : l.length + 1 ≤ c
  ·simp -implicitDefEqProofs (maxSteps := 99999999) (disch := first | omega | (simp only [AHeap.set_length,killO_length,List.length_cons,List.length_nil]; first | done | omega)) only [hf,docs_length,hroom,hes,va,vg,vs,vw,Nat.reduceMul,ite_true,ite_false,eq_self,forall_const,implies_true,Nat.reduceAdd,Nat.reduceSub,Nat.reduceLT,Nat.reduceLeDiff,↓reduceIte,reduceCtorEq,Int.reduceEq,Int.reduceLT,Int.reduceLE,Int.reduceGT,Int.reduceGE,Int.reduceAdd,Int.reduceSub,Int.reduceNeg,Int.reduceToNat,Nat.reduceBEq,Nat.reduceEqDiff]
   exact ⟨⟨by omega,Nat.le_refl _⟩,hmove _ (by rw [← hes,← docs_length l,List.take_length,List.drop_of_length_le (by omega)]) hroom⟩
  ·simp -implicitDefEqProofs (maxSteps := 99999999) (disch := first | omega | (simp only [AHeap.set_length,killO_length,List.length_cons,List.length_nil]; first | done | omega)) only [hf,docs_length,hroom,hes,va,vg,vs,vw,Nat.reduceMul,ite_true,ite_false,eq_self,forall_const,implies_true,Nat.reduceAdd,Nat.reduceSub,Nat.reduceLT,Nat.reduceLeDiff,↓reduceIte,reduceCtorEq,Int.reduceEq,Int.reduceLT,Int.reduceLE,Int.reduceGT,Int.reduceGE,Int.reduceAdd,Int.reduceSub,Int.reduceNeg,Int.reduceToNat,Nat.reduceBEq,Nat.reduceEqDiff]
   exact ⟨⟨by omega,Nat.le_refl _⟩,hdrop _ (by rw [← hes,← docs_length l,List.take_length])⟩
 ·have hpn : pos < l.length := by omega
  refine hL _ _ ?_
  clear hL
  have c0 : 0 < c := by omega
  have c1 : pos < c := by omega
  refine ES_seq_gen fun L hL => ?_
  simp -implicitDefEqProofs (maxSteps := 99999999) (disch := first | omega | (simp only [AHeap.set_length,killO_length,List.length_cons,List.length_nil]; first | done | omega)) only [hf,va,vg,vs,vw,Nat.reduceMul,ite_true,ite_false,eq_self,forall_const,implies_true,Nat.reduceAdd,Nat.reduceSub,Nat.reduceLT,Nat.reduceLeDiff,↓reduceIte,reduceCtorEq,Int.reduceEq,Int.reduceLT,Int.reduceLE,Int.reduceGT,Int.reduceGE,Int.reduceAdd,Int.reduceSub,Int.reduceNeg,Int.reduceToNat,Nat.reduceBEq,Nat.reduceEqDiff]
  refine condR_if (fun h => ?_) (fun h => ?_)
  ·have hroom : ¬ l.length + 1 ≤ c := by omega
   obtain ⟨z,hz⟩ : ∃ z,z + pos = l.length + 1 := ⟨l.length + 1 - pos,by omega⟩
   have ez : (l.length : Int) + 1 - pos = (z : Int) := by omega
   have pz : pos + z = l.length + 1 := by omega
   clear hmove
   refine ES_seq_gen fun L hL => ?_
   simp -implicitDefEqProofs (maxSteps := 99999999) (disch := first | omega | (simp only [AHeap.set_length,killO_length,List.length_cons,List.length_nil]; first | done | omega)) only [hf,docs_length,c0,c1,Nat.sub_zero,ez,pz,va,vg,vs,vw,Nat.reduceMul,ite_true,ite_false,eq_self,forall_const,implies_true,Nat.reduceAdd,Nat.reduceSub,Nat.reduceLT,Nat.reduceLeDiff,↓reduceIte,reduceCtorEq,Int.reduceEq,Int.reduceLT,Int.reduceLE,Int.reduceGT,Int.reduceGE,Int.reduceAdd,Int.reduceSub,Int.reduceNeg,Int.reduceToNat,Nat.reduceBEq,Nat.reduceEqDiff]
   refine ⟨⟨by omega,rfl,by omega,by omega⟩,⟨by omega,by omega,by omega,by omega⟩,?_⟩
   obtain ⟨E0,hE0⟩ : ∃ E0,E0 = List.take pos (docs l) ++ List.replicate z (AV.agg [AV.sc (Value.string ⟨#[]⟩),AV.sc (Value.string ⟨#[]⟩)]) := ⟨_,rfl⟩
   have hl0 : E0.length = l.length + 1 := by rw [hE0]; simp [docs_length]; omega
   rw [← hE0]
   have c2 : pos < l.length + 1 := by omega
   have m1 : min 1 (l.length + 1 - pos) = 1 := by omega
   have c3 : pos + 1 < l.length + 1 := by omega
   have ep : ((pos : Int) + 1).toNat = pos + 1 := by omega
   have m2 : min (l.length - pos) (l.length + 1 - (pos + 1)) = l.length - pos := by omega
   refine hL _ _ ?_
   clear hL
   refine ES_seq_gen fun L hL => ?_
   simp -implicitDefEqProofs (maxSteps := 99999999) (disch := first | omega | (simp only [AHeap.set_length,killO_length,List.length_cons,List.length_nil]; first | done | omega)) only [hf,docs_length,c0,c1,hl0,c2,m1,va,vg,vs,vw,Nat.reduceMul,ite_true,ite_false,eq_self,forall_const,implies_true,Nat.reduceAdd,Nat.reduceSub,Nat.reduceLT,Nat.reduceLeDiff,↓reduceIte,reduceCtorEq,Int.reduceEq,Int.reduceLT,Int.reduceLE,Int.reduceGT,Int.reduceGE,Int.reduceAdd,Int.reduceSub,Int.reduceNeg,Int.reduceToNat,Nat.reduceBEq,Nat.reduceEqDiff]
   refine ⟨⟨by omega,rfl,by omega,by omega⟩,by omega,?_⟩
   obtain ⟨E1,hE1⟩ : ∃ E1,E1 = List.take pos E0 ++ dcA d :: List.drop (pos + 1) E0 := ⟨_,rfl⟩
   have hl1 : E1.length = l.length + 1 := by rw [hE1]; simp; omega
   try rw [← hE1]
   refine hL _ _ ?_
   clear hL
   refine ES_seq_gen fun L hL => ?_
   simp -implicitDefEqProofs (maxSteps := 99999999) (disch := first | omega | (simp only [AHeap.set_length,killO_length,List.length_cons,List.length_nil]; first | done | omega)) only [hf,docs_length,c0,c1,hl1,c2,c3,ep,m2,va,vg,vs,vw,Nat.reduceMul,ite_true,ite_false,eq_self,forall_const,implies_true,Nat.reduceAdd,Nat.reduceSub,Nat.reduceLT,Nat.reduceLeDiff,↓reduceIte,reduceCtorEq,Int.reduceEq,Int.reduceLT,Int.reduceLE,Int.reduceGT,Int.reduceGE,Int.reduceAdd,Int.reduceSub,Int.reduceNeg,Int.reduceToNat,Nat.reduceBEq,Nat.reduceEqDiff]
   refine ⟨⟨by omega,rfl,by omega,by omega⟩,⟨by omega,rfl,by omega,by omega⟩,⟨by omega,by omega,by omega⟩,?_⟩
   refine hL _ _ ?_
   clear hL
   simp -implicitDefEqProofs (maxSteps := 99999999) (disch := first | omega | (simp only [AHeap.set_length,killO_length,List.length_cons,List.length_nil]; first | done | omega)) only [va,vg,vs,vw,Nat.reduceMul,ite_true,ite_false,eq_self,forall_const,implies_true,Nat.reduceAdd,Nat.reduceSub,Nat.reduceLT,Nat.reduceLeDiff,↓reduceIte,reduceCtorEq,Int.reduceEq,Int.reduceLT,Int.reduceLE,Int.reduceGT,Int.reduceGE,Int.reduceAdd,Int.reduceSub,Int.reduceNeg,Int.reduceToNat,Nat.reduceBEq,Nat.reduceEqDiff]
   exact hdrop _ (by rw [docs_ins]; exact grow_eq (docs_length l) hpn hE0 hE1 hl1)
  ·have hroom : l.length + 1 ≤ c := by omega
   have en : ((l.length : Int) + 1).toNat = l.length + 1 := by omega
   have ep : ((pos : Int) + 1).toNat = pos + 1 := by omega
   have c3 : pos + 1 < c := by omega
   have m1 : min 1 (l.length + 1 - pos) = 1 := by omega
   have m2 : min (l.length + 1 - pos) (l.length + 1 - (pos + 1)) = l.length - pos := by omega
   refine hL _ _ ?_
   clear hL hdrop
   refine ES_seq_gen fun L hL => ?_
   simp -implicitDefEqProofs (maxSteps := 99999999) (disch := first | omega | (simp only [AHeap.set_length,killO_length,List.length_cons,List.length_nil]; first | done | omega)) only [hf,docs_length,c0,c1,en,Nat.sub_zero,va,vg,vs,vw,Nat.reduceMul,ite_true,ite_false,eq_self,forall_const,implies_true,Nat.reduceAdd,Nat.reduceSub,Nat.reduceLT,Nat.reduceLeDiff,↓reduceIte,reduceCtorEq,Int.reduceEq,Int.reduceLT,Int.reduceLE,Int.reduceGT,Int.reduceGE,Int.reduceAdd,Int.reduceSub,Int.reduceNeg,Int.reduceToNat,Nat.reduceBEq,Nat.reduceEqDiff]
   refine ⟨⟨by omega,rfl,by omega⟩,?_⟩
   refine hL _ _ ?_
   clear hL
   refine ES_seq_gen fun L hL => ?_
   simp -implicitDefEqProofs (maxSteps := 99999999) (disch := first | omega | (simp only [AHeap.set_length,killO_length,List.length_cons,List.length_nil]; first | done | omega)) only [hf,docs_length,c0,c1,c3,ep,Nat.sub_zero,m1,m2,set_set,va,vg,vs,vw,Nat.reduceMul,ite_true,ite_false,eq_self,forall_const,implies_true,Nat.reduceAdd,Nat.reduceSub,Nat.reduceLT,Nat.reduceLeDiff,↓reduceIte,reduceCtorEq,Int.reduceEq,Int.reduceLT,Int.reduceLE,Int.reduceGT,Int.reduceGE,Int.reduceAdd,Int.reduceSub,Int.reduceNeg,Int.reduceToNat,Nat.reduceBEq,Nat.reduceEqDiff]
   refine ⟨⟨by omega,rfl,by omega,by omega⟩,⟨by omega,rfl,by omega,by omega⟩,⟨by omega,rfl,by omega,by omega⟩,⟨by omega,by omega,by omega⟩,⟨by omega,rfl,by omega,by omega⟩,?_,?_⟩
   ·simp [docs_length]; omega
   ·exact hmove _ (by rw [docs_ins]; exact room_eq (docs_length l) hpn rfl) hroom
end Go.Proofs.YtljajanjjcdelaaGreat
