/- tree.Put. -/
import Derived.Test.YtfnahogjkgcklaaDoorS259
import Derived.Test.YtfnahogjkgcklaaDoorS244
namespace Go.Proofs.YtfnahogjkgcklaaDoor
open Go.RowKit
set_option maxRecDepth 100000
set_option linter.unusedVariables false
set_option linter.unusedSimpArgs false
def putV (t kid : Nd) (p : List Int) : AV := match getN t p with
 | none => .tup [ndA Nd.none,.sc (.int .i64 6)]
 | some _ => if rightN (withN t kid p) 40 then .tup [ndA (withN t kid p),.sc (.int .i64 0)] else .tup [ndA Nd.none,.sc (.int .i64 4)]
theorem posO_none {t : Nd} {id j a : Nat} {p : List Int} : (posO t id j a p).isSome = (getN t p).isSome := by
 induction p generalizing t id j a with
 | nil => rfl
 | cons k r ih =>
  simp only [posO,getN]
  split
  ·exact ih
  ·rfl
theorem posO_blk {F : AHeap} {p : List Int} : ∀ {t : Nd} {id j a i m : Nat} {es : List AV} {ex : Bool},posO t id j a p = some (i,m) → AHeap.find F id = some ⟨4,es,ex,25⟩ → j < es.length → es.getD j .top = cpV t a → LiesO F t a → ∃ (es' : List AV) (ex' : Bool) (u : Nd) (a' : Nat),AHeap.find F i = some ⟨4,es',ex',25⟩ ∧ m < es'.length ∧ es'.getD m .top = cpV u a' ∧ (p ≠ [] → ex' = false) := by
 induction p with
 | nil =>
  intro t id j a i m es ex h hf hj he hl
  simp only [posO,Option.some.injEq,Prod.mk.injEq] at h
  obtain ⟨rfl,rfl⟩ := h
  exact ⟨es,ex,t,a,hf,hj,he,fun h => (h rfl).elim⟩
 | cons q r ih =>
  intro t id j a i m es ex h hf hj he hl
  rw [posO] at h
  split at h
  case isFalse => cases h
  rename_i hq
  have hqn : q.toNat < t.kids.length := by omega
  have hne : cpL t.kids (a + 1) ≠ [] := fun e => by have := cpL_length t.kids (a + 1); rw [e] at this; simp at this; omega
  obtain ⟨es',ex',u,a',h1,h2,h3,h4⟩ := ih h (by rw [hl.head,OwnB_ne hne]) (by rw [cpL_length]; exact hqn) (cpL_getD hqn) (hl.kids.at_ hqn)
  refine ⟨es',ex',u,a',h1,h2,h3,fun _ => ?_⟩
  by_cases e : r = []
  ·subst e
   simp only [posO,Option.some.injEq,Prod.mk.injEq] at h
   obtain ⟨rfl,rfl⟩ := h
   rw [hl.head,OwnB_ne hne] at h1
   cases h1
   rfl
  ·exact h4 e
theorem gz_none {F : AHeap} {n0 : Nat} : Gz F n0 [] (.agg [.sc (.int .u8 0),.sc (.string ⟨#[]⟩),.sc (.int .i64 0),.lst 0 [] (some [])]) (ndA Nd.none) := by
 rw [ndA_eq]
 exact .agg (.cons (.same trivial) (.cons (.same trivial) (.cons (.same trivial) (.cons .nil .nil))))
set_option maxHeartbeats 0 in
theorem put_d (t kid : Nd) (hz : t.size ≤ 1000000) (hk : kid.size ≤ 1000000) (p : List Int) (hw : (withN t kid p).size ≤ 1000000) (hp : p.length ≤ 1000000) (rp : Option (List AV)) (H : AHeap) : D Tryd.prog 25 [ndR t none,ndR kid none,.lst 1 (pthA p) rp] H (.ret (putV t kid p)) H := by
 refine D_of_DK (Nat.le_refl _) (dk25 (E_of_ES ?_))
 simp only [ic25,ux]
 have hc1 := fun H => copied_d t hz none H
 have hc2 := fun H => copied_d kid hk none H
 rw [ndR_eq] at hc1 hc2
 rw [ndR_eq,ndR_eq]
 obtain ⟨cv,hcv⟩ : ∃ cv,cpV t (H.length + 3) = cv := ⟨_,rfl⟩
 have hcv2 := cpV_eq t (H.length + 3)
 rw [hcv] at hcv2
 have c1 : cv.isTop = false := by rw [hcv2]; rfl
 have c2 : cv.isAgg = true := by rw [hcv2]; rfl
 have c3 : cv.ncells = 4 := by rw [hcv2]; rfl
 have c4 : 4 ≤ cv.cells.length := by rw [hcv2]; exact Nat.le_refl _
 have c5 : AV.agg (cv.cells.take 4) = cv := by rw [hcv2]; rfl
 have c6 : AV.agg cv.cells = cv := by rw [hcv2]; rfl
 refine ES_seq_gen fun L hL => ?_
 simp -implicitDefEqProofs (maxSteps := 99999999) (disch := first | omega | (simp only [AHeap.set_length,killO_length,List.length_cons,List.length_nil]; first | done | omega)) only [vu,va,vg,vs,vw,Nat.reduceMul,ite_true,ite_false,eq_self,forall_const,implies_true,Nat.reduceAdd,Nat.reduceSub,Nat.reduceLT,Nat.reduceLeDiff,↓reduceIte,reduceCtorEq,Int.reduceEq,Int.reduceLT,Int.reduceLE,Int.reduceGT,Int.reduceGE,Int.reduceAdd,Int.reduceSub,Int.reduceNeg,Int.reduceToNat,Nat.reduceBEq,Nat.reduceEqDiff]
 refine hL _ _ ?_
 clear hL
 refine ES_seq_gen fun L hL => ?_
 simp -implicitDefEqProofs (maxSteps := 99999999) (disch := first | omega | (simp only [AHeap.set_length,killO_length,List.length_cons,List.length_nil]; first | done | omega)) only [vu,va,vg,vs,vw,Nat.reduceMul,ite_true,ite_false,eq_self,forall_const,implies_true,Nat.reduceAdd,Nat.reduceSub,Nat.reduceLT,Nat.reduceLeDiff,↓reduceIte,reduceCtorEq,Int.reduceEq,Int.reduceLT,Int.reduceLE,Int.reduceGT,Int.reduceGE,Int.reduceAdd,Int.reduceSub,Int.reduceNeg,Int.reduceToNat,Nat.reduceBEq,Nat.reduceEqDiff]
 refine callR_ret (hc1 _) ?_
 obtain ⟨b1,hb1⟩ : ∃ b,b = (⟨4,[.agg [.sc (.int .u8 t.kind),.sc (.string t.text),.sc (.int .i64 t.num),.lst 4 (ndL t.kids) none]],true,25⟩ : ABlk) := ⟨_,rfl⟩
 obtain ⟨b2,hb2⟩ : ∃ b,b = (⟨4,[.agg [.sc (.int .u8 kid.kind),.sc (.string kid.text),.sc (.int .i64 kid.num),.lst 4 (ndL kid.kids) none]],true,25⟩ : ABlk) := ⟨_,rfl⟩
 obtain ⟨b3,hb3⟩ : ∃ b,b = (⟨4,[AV.agg [.sc (.int .u8 0),.sc (.string ⟨#[]⟩),.sc (.int .i64 0),.lst 0 [] (some [])]],true,25⟩ : ABlk) := ⟨_,rfl⟩
 rw [← hb1,← hb2,← hb3]
 have hl1 := liesO_lays (t := t) (H := some b3 :: some b2 :: some b1 :: H)
 have hG0 : ∀ i,i < H.length + 3 → AHeap.find (cpB t (some b3 :: some b2 :: some b1 :: H).length ++ some b3 :: some b2 :: some b1 :: H) i = AHeap.find (some b3 :: some b2 :: some b1 :: H) i := fun i hi => AHeap.find_append (by simp only [List.length_cons]; omega)
 have hGn : (cpB t (some b3 :: some b2 :: some b1 :: H).length ++ some b3 :: some b2 :: some b1 :: H).length = t.size + (H.length + 3) := by rw [List.length_append,cpB_length]; simp
 generalize cpB t (some b3 :: some b2 :: some b1 :: H).length ++ some b3 :: some b2 :: some b1 :: H = G at *
 simp only [List.length_cons,Nat.add_assoc,Nat.reduceAdd,hcv] at hl1 ⊢
 have g1 : AHeap.find G H.length = some b1 := by rw [hG0 _ (by omega),find_past (by simp; omega),find_past (by simp),find_top rfl]
 have g2 : AHeap.find G (H.length + 1) = some b2 := by rw [hG0 _ (by omega),find_past (by simp),find_top (by simp)]
 have g3 : AHeap.find G (H.length + 2) = some b3 := by rw [hG0 _ (by omega),find_top (by simp)]
 have gH : ∀ i,i < H.length → AHeap.find G i = AHeap.find H i := fun i hi => by rw [hG0 _ (by omega),find_past (by simp; omega),find_past (by simp; omega),find_past hi]
 rw [hb1] at g1
 rw [hb2] at g2
 rw [hb3] at g3
 simp -implicitDefEqProofs (maxSteps := 99999999) (disch := first | omega | (simp only [AHeap.set_length,killO_length,List.length_cons,List.length_nil]; first | done | omega)) only [vu,g1,c1,c2,c3,va,vg,vs,vw,Nat.reduceMul,ite_true,ite_false,eq_self,forall_const,implies_true,Nat.reduceAdd,Nat.reduceSub,Nat.reduceLT,Nat.reduceLeDiff,↓reduceIte,reduceCtorEq,Int.reduceEq,Int.reduceLT,Int.reduceLE,Int.reduceGT,Int.reduceGE,Int.reduceAdd,Int.reduceSub,Int.reduceNeg,Int.reduceToNat,Nat.reduceBEq,Nat.reduceEqDiff]
 rw [c6]
 have hgl : H.length < G.length := by omega
 have f1 : AHeap.find (AHeap.set G H.length (some ⟨4,[cv],true,25⟩)) H.length = some ⟨4,[cv],true,25⟩ := AHeap.find_set_same hgl
 have fo : ∀ i,i ≠ H.length → AHeap.find (AHeap.set G H.length (some ⟨4,[cv],true,25⟩)) i = AHeap.find G i := fun i hi => AHeap.find_set_ne hi
 have fl : (AHeap.set G H.length (some ⟨4,[cv],true,25⟩)).length = t.size + (H.length + 3) := by rw [AHeap.set_length]; exact hGn
 have hl2 : LiesO (AHeap.set G H.length (some ⟨4,[cv],true,25⟩)) t (H.length + 3) := hl1.of fun i h1 h2 => fo i (by omega)
 generalize AHeap.set G H.length (some ⟨4,[cv],true,25⟩) = F at *
 have f2 : AHeap.find F (H.length + 1) = some ⟨4,[.agg [.sc (.int .u8 kid.kind),.sc (.string kid.text),.sc (.int .i64 kid.num),.lst 4 (ndL kid.kids) none]],true,25⟩ := by rw [fo _ (by omega),g2]
 have f3 : AHeap.find F (H.length + 2) = some ⟨4,[AV.agg [.sc (.int .u8 0),.sc (.string ⟨#[]⟩),.sc (.int .i64 0),.lst 0 [] (some [])]],true,25⟩ := by rw [fo _ (by omega),g3]
 have fH : ∀ i,i < H.length → AHeap.find F i = AHeap.find H i := fun i hi => by rw [fo _ (by omega),gH i hi]
 clear fo g1 g2 g3 gH hGn hG0 hl1 hgl
 refine hL _ _ ?_
 clear hL
 refine ES_seq_gen fun L hL => ?_
 simp -implicitDefEqProofs (maxSteps := 99999999) (disch := first | omega | (simp only [AHeap.set_length,killO_length,List.length_cons,List.length_nil]; first | done | omega)) only [vu,va,vg,vs,vw,Nat.reduceMul,ite_true,ite_false,eq_self,forall_const,implies_true,Nat.reduceAdd,Nat.reduceSub,Nat.reduceLT,Nat.reduceLeDiff,↓reduceIte,reduceCtorEq,Int.reduceEq,Int.reduceLT,Int.reduceLE,Int.reduceGT,Int.reduceGE,Int.reduceAdd,Int.reduceSub,Int.reduceNeg,Int.reduceToNat,Nat.reduceBEq,Nat.reduceEqDiff]
 refine callR_ret (findO_d t p hp rp H.length 0 (H.length + 3) [cv] true F f1 (by simp) (by rw [hcv]; rfl) hl2) ?_
 cases hpo : posO t H.length 0 (H.length + 3) p with
 | none =>
  have hg : getN t p = none := by have := posO_none (t := t) (id := H.length) (j := 0) (a := H.length + 3) (p := p); rw [hpo] at this; cases e : getN t p with | none => rfl | some u => rw [e] at this; cases this
  have hv : putV t kid p = .tup [ndA Nd.none,.sc (.int .i64 6)] := by unfold putV; rw [hg]
  simp only [posV]
  simp -implicitDefEqProofs (maxSteps := 99999999) (disch := first | omega | (simp only [AHeap.set_length,killO_length,List.length_cons,List.length_nil]; first | done | omega)) only [vu,va,vg,vs,vw,Nat.reduceMul,ite_true,ite_false,eq_self,forall_const,implies_true,Nat.reduceAdd,Nat.reduceSub,Nat.reduceLT,Nat.reduceLeDiff,↓reduceIte,reduceCtorEq,Int.reduceEq,Int.reduceLT,Int.reduceLE,Int.reduceGT,Int.reduceGE,Int.reduceAdd,Int.reduceSub,Int.reduceNeg,Int.reduceToNat,Nat.reduceBEq,Nat.reduceEqDiff]
  refine hL _ _ ?_
  clear hL
  refine ES_seq_gen fun L hL => ?_
  simp -implicitDefEqProofs (maxSteps := 99999999) (disch := first | omega | (simp only [AHeap.set_length,killO_length,List.length_cons,List.length_nil]; first | done | omega)) only [vu,f3,va,vg,vs,vw,Nat.reduceMul,ite_true,ite_false,eq_self,forall_const,implies_true,Nat.reduceAdd,Nat.reduceSub,Nat.reduceLT,Nat.reduceLeDiff,↓reduceIte,reduceCtorEq,Int.reduceEq,Int.reduceLT,Int.reduceLE,Int.reduceGT,Int.reduceGE,Int.reduceAdd,Int.reduceSub,Int.reduceNeg,Int.reduceToNat,Nat.reduceBEq,Nat.reduceEqDiff]
  rw [hv]
  refine weak_frz (fun i hi => ?_) (.tup (.cons gz_none (.cons (.same trivial) .nil)))
  first
   | exact fH i hi
   | rw [AHeap.find_set_ne (by omega),fH i hi]
 | some x =>
  simp only [posV]
  simp -implicitDefEqProofs (maxSteps := 99999999) (disch := first | omega | (simp only [AHeap.set_length,killO_length,List.length_cons,List.length_nil]; first | done | omega)) only [vu,va,vg,vs,vw,Nat.reduceMul,ite_true,ite_false,eq_self,forall_const,implies_true,Nat.reduceAdd,Nat.reduceSub,Nat.reduceLT,Nat.reduceLeDiff,↓reduceIte,reduceCtorEq,Int.reduceEq,Int.reduceLT,Int.reduceLE,Int.reduceGT,Int.reduceGE,Int.reduceAdd,Int.reduceSub,Int.reduceNeg,Int.reduceToNat,Nat.reduceBEq,Nat.reduceEqDiff]
  refine hL _ _ ?_
  clear hL
  refine ES_seq_gen fun L hL => ?_
  simp -implicitDefEqProofs (maxSteps := 99999999) (disch := first | omega | (simp only [AHeap.set_length,killO_length,List.length_cons,List.length_nil]; first | done | omega)) only [vu,va,vg,vs,vw,Nat.reduceMul,ite_true,ite_false,eq_self,forall_const,implies_true,Nat.reduceAdd,Nat.reduceSub,Nat.reduceLT,Nat.reduceLeDiff,↓reduceIte,reduceCtorEq,Int.reduceEq,Int.reduceLT,Int.reduceLE,Int.reduceGT,Int.reduceGE,Int.reduceAdd,Int.reduceSub,Int.reduceNeg,Int.reduceToNat,Nat.reduceBEq,Nat.reduceEqDiff]
  obtain ⟨i,m⟩ := x
  obtain ⟨es,ex,u,a',e1,e2,e3,e4⟩ := posO_blk hpo f1 (by simp) (show [cv].getD 0 .top = cpV t (H.length + 3) by rw [hcv]; rfl) hl2
  obtain ⟨kv,hkv⟩ : ∃ kv,cpV kid F.length = kv := ⟨_,rfl⟩
  have hkv2 := cpV_eq kid F.length
  rw [hkv] at hkv2
  have d1 : kv.isTop = false := by rw [hkv2]; rfl
  have d2 : kv.isAgg = true := by rw [hkv2]; rfl
  have d3 : kv.ncells = 4 := by rw [hkv2]; rfl
  have d6 : AV.agg kv.cells = kv := by rw [hkv2]; rfl
  have hup : (es.getD m AV.top).upd 0 kv = kv := by rw [e3,cpV_eq,hkv2]; rfl
  have hel : 4 ≤ (es.getD m AV.top).ncells ∧ (es.getD m AV.top).isAgg = true := by rw [e3,cpV_eq]; exact ⟨Nat.le_refl _,rfl⟩
  refine hL _ _ ?_
  clear hL
  refine ES_seq_gen fun L hL => ?_
  simp -implicitDefEqProofs (maxSteps := 99999999) (disch := first | omega | (simp only [AHeap.set_length,killO_length,List.length_cons,List.length_nil]; first | done | omega)) only [vu,f2,va,vg,vs,vw,Nat.reduceMul,ite_true,ite_false,eq_self,forall_const,implies_true,Nat.reduceAdd,Nat.reduceSub,Nat.reduceLT,Nat.reduceLeDiff,↓reduceIte,reduceCtorEq,Int.reduceEq,Int.reduceLT,Int.reduceLE,Int.reduceGT,Int.reduceGE,Int.reduceAdd,Int.reduceSub,Int.reduceNeg,Int.reduceToNat,Nat.reduceBEq,Nat.reduceEqDiff]
  refine callR_ret (hc2 _) ?_
  rw [hkv]
  have hlk := liesO_lays (t := kid) (H := F)
  have hK0 : ∀ x,x < F.length → AHeap.find (cpB kid F.length ++ F) x = AHeap.find F x := fun x hx => AHeap.find_append hx
  have hKn : (cpB kid F.length ++ F).length = kid.size + F.length := by rw [List.length_append,cpB_length]
  generalize cpB kid F.length ++ F = K at *
  have k1 : AHeap.find K i = some ⟨4,es,ex,25⟩ := by rw [hK0 _ (AHeap.find_lt e1),e1]
  simp -implicitDefEqProofs (maxSteps := 99999999) (disch := first | omega | (simp only [AHeap.set_length,killO_length,List.length_cons,List.length_nil]; first | done | omega)) only [vu,k1,d1,d2,d3,hup,va,vg,vs,vw,Nat.reduceMul,ite_true,ite_false,eq_self,forall_const,implies_true,Nat.reduceAdd,Nat.reduceSub,Nat.reduceLT,Nat.reduceLeDiff,↓reduceIte,reduceCtorEq,Int.reduceEq,Int.reduceLT,Int.reduceLE,Int.reduceGT,Int.reduceGE,Int.reduceAdd,Int.reduceSub,Int.reduceNeg,Int.reduceToNat,Nat.reduceBEq,Nat.reduceEqDiff]
  refine ⟨⟨e2,hel⟩,?_⟩
  have hil := AHeap.find_lt e1
  have hKl : F.length ≤ K.length := by omega
  have fl' : H.length + 3 ≤ F.length := by omega
  have hiK : i < K.length := by omega
  have m1 : AHeap.find (AHeap.set K i (some ⟨4,es.set m kv,ex,25⟩)) i = some ⟨4,es.set m kv,ex,25⟩ := AHeap.find_set_same hiK
  have mo : ∀ x,x ≠ i → AHeap.find (AHeap.set K i (some ⟨4,es.set m kv,ex,25⟩)) x = AHeap.find K x := fun x hx => AHeap.find_set_ne hx
  generalize AHeap.set K i (some ⟨4,es.set m kv,ex,25⟩) = M at *
  have hall : ∃ nv,AHeap.find M H.length = some ⟨4,[nv],true,25⟩ ∧ (∃ b,nv = cpV t (H.length + 3) ∨ nv = cpV kid b) ∧ (i = H.length ∨ H.length + 3 ≤ i) ∧ ∀ (R : AV → AV → Prop) (N : AHeap),RelT N (H.length + 3) R → (∀ x,H.length + 3 ≤ x → AHeap.find N x = AHeap.find M x) → R nv (ndA (withN t kid p)) := by
   cases p with
   | nil =>
    simp only [posO,Option.some.injEq,Prod.mk.injEq] at hpo
    obtain ⟨rfl,rfl⟩ := hpo
    rw [f1] at e1
    cases e1
    refine ⟨kv,m1,⟨F.length,.inr hkv.symm⟩,.inl rfl,fun R N hR hN => ?_⟩
    rw [← hkv]
    exact hR.same fl' (hlk.of fun x h1 h2 => by rw [hN x (by omega),mo x (by omega)])
   | cons q r =>
    have hin := posO_in hpo
    have hex := e4 (by simp)
    subst hex
    refine ⟨cv,by rw [mo _ (by omega),hK0 _ (by omega),f1],⟨0,.inl hcv.symm⟩,.inr hin.1,fun R N hR hN => ?_⟩
    rw [← hcv]
    refine changed (F := F) (b := F.length) hR ?_ r (Nat.le_refl _) hl2 hpo e1 (by rw [hN i hin.1,m1,hkv]) (fun x h1 h2 h3 => by rw [hN x h1,mo x h3,hK0 x (by omega)])
    exact hR.same fl' (hlk.of fun x h1 h2 => by rw [hN x (by omega),mo x (by omega)])
  obtain ⟨nv,n1,⟨nb,nc⟩,ni,nR⟩ := hall
  have nsh : nv.isTop = false ∧ nv.isAgg = true ∧ nv.ncells = 4 ∧ 4 ≤ nv.cells.length ∧ AV.agg (nv.cells.take 4) = nv ∧ AV.agg nv.cells = nv := by
   rcases nc with rfl | rfl <;> rw [cpV_eq] <;> exact ⟨rfl,rfl,rfl,Nat.le_refl _,rfl,rfl⟩
  obtain ⟨s1,s2,s3,s4,s5,s6⟩ := nsh
  have n3 : AHeap.find M (H.length + 2) = some ⟨4,[AV.agg [.sc (.int .u8 0),.sc (.string ⟨#[]⟩),.sc (.int .i64 0),.lst 0 [] (some [])]],true,25⟩ := by rw [mo _ (by omega),hK0 _ (by omega),f3]
  have nH : ∀ x,x < H.length → AHeap.find M x = AHeap.find H x := fun x hx => by rw [mo _ (by omega),hK0 _ (by omega),fH x hx]
  have hview := nR (View M) M ⟨fun _ h => relT_view.same (Nat.zero_le _) h,fun _ => relT_view.node (Nat.zero_le _)⟩ (fun _ _ => rfl)
  have hrt := D_view (.cons hview .nil) (.sc) (by have := tright_d (withN t kid p) none hw []; rwa [ndR_none] at this)
  refine hL _ _ ?_
  clear hL
  refine ES_seq_gen fun L hL => ?_
  simp -implicitDefEqProofs (maxSteps := 99999999) (disch := first | omega | (simp only [AHeap.set_length,killO_length,List.length_cons,List.length_nil]; first | done | omega)) only [vu,n1,s1,s2,s3,va,vg,vs,vw,Nat.reduceMul,ite_true,ite_false,eq_self,forall_const,implies_true,Nat.reduceAdd,Nat.reduceSub,Nat.reduceLT,Nat.reduceLeDiff,↓reduceIte,reduceCtorEq,Int.reduceEq,Int.reduceLT,Int.reduceLE,Int.reduceGT,Int.reduceGE,Int.reduceAdd,Int.reduceSub,Int.reduceNeg,Int.reduceToNat,Nat.reduceBEq,Nat.reduceEqDiff]
  refine ⟨s4,?_⟩
  rw [s5]
  refine callR_ret hrt ?_
  obtain ⟨u0,hgu⟩ : ∃ u0,getN t p = some u0 := by
   have := posO_none (t := t) (id := H.length) (j := 0) (a := H.length + 3) (p := p)
   rw [hpo] at this
   cases e : getN t p with
   | none => rw [e] at this; cases this
   | some u0 => exact ⟨u0,rfl⟩
  have hup3 : (AV.agg [.sc (.int .u8 0),.sc (.string ⟨#[]⟩),.sc (.int .i64 0),.lst 0 [] (some [])]).upd 0 nv = nv := by
   rcases nc with rfl | rfl <;> rw [cpV_eq] <;> rfl
  have m3 := AHeap.find_lt n3
  cases hr : rightN (withN t kid p) 40
  ·have hv : putV t kid p = .tup [ndA Nd.none,.sc (.int .i64 4)] := by unfold putV; rw [hgu,hr]; rfl
   simp -implicitDefEqProofs (maxSteps := 99999999) (disch := first | omega | (simp only [AHeap.set_length,killO_length,List.length_cons,List.length_nil]; first | done | omega)) only [vu,n3,va,vg,vs,vw,Nat.reduceMul,ite_true,ite_false,eq_self,forall_const,implies_true,Nat.reduceAdd,Nat.reduceSub,Nat.reduceLT,Nat.reduceLeDiff,↓reduceIte,reduceCtorEq,Int.reduceEq,Int.reduceLT,Int.reduceLE,Int.reduceGT,Int.reduceGE,Int.reduceAdd,Int.reduceSub,Int.reduceNeg,Int.reduceToNat,Nat.reduceBEq,Nat.reduceEqDiff]
   rw [hv]
   refine weak_frz (fun x hx => ?_) (.tup (.cons gz_none (.cons (.same trivial) .nil)))
   first
    | exact nH x hx
    | rw [AHeap.find_set_ne (by omega),nH x hx]
  ·have hv : putV t kid p = .tup [ndA (withN t kid p),.sc (.int .i64 0)] := by unfold putV; rw [hgu,hr]; rfl
   simp -implicitDefEqProofs (maxSteps := 99999999) (disch := first | omega | (simp only [AHeap.set_length,killO_length,List.length_cons,List.length_nil]; first | done | omega)) only [vu,va,vg,vs,vw,Nat.reduceMul,ite_true,ite_false,eq_self,forall_const,implies_true,Nat.reduceAdd,Nat.reduceSub,Nat.reduceLT,Nat.reduceLeDiff,↓reduceIte,reduceCtorEq,Int.reduceEq,Int.reduceLT,Int.reduceLE,Int.reduceGT,Int.reduceGE,Int.reduceAdd,Int.reduceSub,Int.reduceNeg,Int.reduceToNat,Nat.reduceBEq,Nat.reduceEqDiff]
   refine hL _ _ ?_
   clear hL
   simp -implicitDefEqProofs (maxSteps := 99999999) (disch := first | omega | (simp only [AHeap.set_length,killO_length,List.length_cons,List.length_nil]; first | done | omega)) only [vu,n1,n3,s1,s2,s3,va,vg,vs,vw,Nat.reduceMul,ite_true,ite_false,eq_self,forall_const,implies_true,Nat.reduceAdd,Nat.reduceSub,Nat.reduceLT,Nat.reduceLeDiff,↓reduceIte,reduceCtorEq,Int.reduceEq,Int.reduceLT,Int.reduceLE,Int.reduceGT,Int.reduceGE,Int.reduceAdd,Int.reduceSub,Int.reduceNeg,Int.reduceToNat,Nat.reduceBEq,Nat.reduceEqDiff]
   have hl4 : nv.cells.length = 4 := by rcases nc with rfl | rfl <;> rw [cpV_eq] <;> rfl
   have ht : nv.cells.take 4 = nv.cells := List.take_of_length_le (by omega)
   have hdr : ([AV.sc (.int .u8 0),AV.sc (.string ⟨#[]⟩),AV.sc (.int .i64 0),.lst 0 [] (some [])] : List AV).drop 4 = [] := rfl
   rw [ht,hl4,hdr,List.append_nil,ht,s6,hv,hl4]
   refine ⟨Nat.le_refl _,rfl,Nat.le_refl _,?_⟩
   refine weak_frz (fun x hx => by rw [AHeap.find_set_ne (by omega),nH x hx]) (.tup (.cons ?_ (.cons (.same trivial) .nil)))
   refine nR (Gz (AHeap.set M (H.length + 2) (some ⟨4,[nv],true,25⟩)) H.length []) _ ⟨fun hn h => relT_gz.same (by omega) h,fun hn => relT_gz.node (by omega)⟩ (fun x hx => AHeap.find_set_ne (by omega))
end Go.Proofs.YtfnahogjkgcklaaDoor
