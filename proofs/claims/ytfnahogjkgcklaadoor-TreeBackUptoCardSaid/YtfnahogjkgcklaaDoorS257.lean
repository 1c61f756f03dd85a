/- tree.Get; an own tree given up, or looked at. -/
import Derived.Test.YtfnahogjkgcklaaDoorS256
namespace Go.Proofs.YtfnahogjkgcklaaDoor
open Go.RowKit
set_option maxRecDepth 100000
set_option linter.unusedVariables false
set_option linter.unusedSimpArgs false
/-- The blocks of an own tree lie there. -/
def LiesO (F : AHeap) (t : Nd) (a : Nat) : Prop := ∀ (i : Nat) (xs : List AV),(cpO t a)[i]? = some xs → AHeap.find F (a + i) = OwnB 4 25 xs
def LiesL (F : AHeap) (l : List Nd) (a : Nat) : Prop := ∀ (i : Nat) (xs : List AV),(cpOL l a)[i]? = some xs → AHeap.find F (a + i) = OwnB 4 25 xs
theorem LiesO.head {F : AHeap} {t : Nd} {a : Nat} (h : LiesO F t a) : AHeap.find F a = OwnB 4 25 (cpL t.kids (a + 1)) := h 0 _ (by rw [cpO_eq]; rfl)
theorem LiesO.kids {F : AHeap} {t : Nd} {a : Nat} (h : LiesO F t a) : LiesL F t.kids (a + 1) := fun i xs hx => by
 rw [show a + 1 + i = a + (i + 1) by omega]
 exact h (i + 1) xs (by rw [cpO_eq,List.getElem?_cons_succ]; exact hx)
theorem LiesL.first {F : AHeap} {t : Nd} {r : List Nd} {a : Nat} (h : LiesL F (t :: r) a) : LiesO F t a := fun i xs hx => by
 refine h i xs ?_
 simp only [cpOL]
 rw [List.getElem?_append_left (List.getElem?_eq_some_iff.1 hx).1]
 exact hx
theorem LiesL.rest {F : AHeap} {t : Nd} {r : List Nd} {a : Nat} (h : LiesL F (t :: r) a) : LiesL F r (a + t.size) := fun i xs hx => by
 rw [show a + t.size + i = a + (t.size + i) by omega]
 refine h (t.size + i) xs ?_
 simp only [cpOL]
 rw [List.getElem?_append_right (by rw [cpO_length]; omega),cpO_length,Nat.add_sub_cancel_left]
 exact hx
theorem liesO_lays {t : Nd} {H : AHeap} : LiesO (cpB t H.length ++ H) t H.length := fun i xs hx => by
 rw [cpB_lays]
 exact lays_new (by simp [obs,hx])
theorem LiesO.of {F G : AHeap} {t : Nd} {a : Nat} (h : LiesO F t a) (hs : ∀ i,a ≤ i → i < a + t.size → AHeap.find G i = AHeap.find F i) : LiesO G t a := fun i xs hx => by
 have hi := (List.getElem?_eq_some_iff.1 hx).1
 rw [cpO_length] at hi
 rw [hs _ (by omega) (by omega)]
 exact h i xs hx
theorem cpV_frz {F : AHeap} {n0 : Nat} (t : Nd) : ∀ {a : Nat},n0 ≤ a → LiesO F t a → Gz F n0 [] (cpV t a) (ndA t) := by
 induction t using Nd.ind with
 | _ t ih =>
  intro a ha h
  have key : ∀ (l : List Nd),(∀ k ∈ l,∀ {a : Nat},n0 ≤ a → LiesO F k a → Gz F n0 [] (cpV k a) (ndA k)) → ∀ a,n0 ≤ a → LiesL F l a → GzL F n0 [] (cpL l a) (ndL l) := by
   intro l
   induction l with
   | nil => intro _ a _ _; exact .nil
   | cons x r ihr =>
    intro hx a ha hl
    exact .cons (hx x (by simp) ha hl.first) (ihr (fun k hk => hx k (by simp [hk])) _ (by omega) hl.rest)
  rw [cpV_eq,ndA_eq]
  exact .agg (.cons (.same trivial) (.cons (.same trivial) (.cons (.same trivial) (.cons (OwnV_fz (fun _ => by unfold newId; rw [if_neg (by omega)]; rfl) (fun _ => h.head) (key _ ih _ (by omega) h.kids)) .nil))))
theorem cpV_view {F : AHeap} (t : Nd) : ∀ {a : Nat},LiesO F t a → View F (cpV t a) (ndA t) := by
 induction t using Nd.ind with
 | _ t ih =>
  intro a h
  have key : ∀ (l : List Nd),(∀ k ∈ l,∀ {a : Nat},LiesO F k a → View F (cpV k a) (ndA k)) → ∀ a,LiesL F l a → ViewL F (cpL l a) (ndL l) := by
   intro l
   induction l with
   | nil => intro _ a _; exact .nil
   | cons x r ihr =>
    intro hx a hl
    exact .cons (hx x (by simp) hl.first) (ihr (fun k hk => hx k (by simp [hk])) _ hl.rest)
  rw [cpV_eq,ndA_eq]
  exact .agg (.cons .sc (.cons .sc (.cons .sc (.cons (ViewL.own (fun _ => h.head) (key _ ih _ h.kids)) .nil))))
def getV (t : Nd) (p : List Int) : AV := match getN t p with
 | some u => .tup [ndA u,.sc (.bool true)]
 | none => .tup [ndA Nd.none,.sc (.bool false)]
theorem getN_size {t u : Nd} {p : List Int} (h : getN t p = some u) : u.size ≤ t.size := by
 induction p generalizing t with
 | nil => simp only [getN,Option.some.injEq] at h; subst h; exact Nat.le_refl _
 | cons k r ih =>
  simp only [getN] at h
  split at h
  ·rename_i hk
   have := ih h
   have := Nd.kid_lt (nthN_mem (l := t.kids) (k := k.toNat) (by omega))
   omega
  ·cases h
set_option maxHeartbeats 0 in
theorem get_d (t : Nd) (hz : t.size ≤ 1000000) (p : List Int) (hp : p.length ≤ 1000000) (rp : Option (List AV)) (H : AHeap) : D Tryd.prog 24 [ndR t none,.lst 1 (pthA p) rp] H (.ret (getV t p)) H := by
 have hfd := find_d t none p hp rp H.length
 refine D_of_DK (Nat.le_refl _) (dk24 (E_of_ES ?_))
 simp only [ic24,ux]
 rw [ndR_eq] at *
 refine ES_seq_gen fun L hL => ?_
 simp -implicitDefEqProofs (maxSteps := 99999999) (disch := first | omega | (simp only [AHeap.set_length,killO_length,List.length_cons,List.length_nil]; first | done | omega)) only [vu,va,vg,vs,vw,Nat.reduceMul,ite_true,ite_false,eq_self,forall_const,implies_true,Nat.reduceAdd,Nat.reduceSub,Nat.reduceLT,Nat.reduceLeDiff,↓reduceIte,reduceCtorEq,Int.reduceEq,Int.reduceLT,Int.reduceLE,Int.reduceGT,Int.reduceGE,Int.reduceAdd,Int.reduceSub,Int.reduceNeg,Int.reduceToNat,Nat.reduceBEq,Nat.reduceEqDiff]
 refine hL _ _ ?_
 clear hL
 refine ES_seq_gen fun L hL => ?_
 simp -implicitDefEqProofs (maxSteps := 99999999) (disch := first | omega | (simp only [AHeap.set_length,killO_length,List.length_cons,List.length_nil]; first | done | omega)) only [vu,va,vg,vs,vw,Nat.reduceMul,ite_true,ite_false,eq_self,forall_const,implies_true,Nat.reduceAdd,Nat.reduceSub,Nat.reduceLT,Nat.reduceLeDiff,↓reduceIte,reduceCtorEq,Int.reduceEq,Int.reduceLT,Int.reduceLE,Int.reduceGT,Int.reduceGE,Int.reduceAdd,Int.reduceSub,Int.reduceNeg,Int.reduceToNat,Nat.reduceBEq,Nat.reduceEqDiff]
 refine callR_ret (hfd _ (by rw [find_past (by simp),find_top rfl])) ?_
 have hgv : getV t p = match getN t p with
  | some u => .tup [ndA u,.sc (.bool true)]
  | none => .tup [ndA Nd.none,.sc (.bool false)] := rfl
 cases hg : getN t p with
 | none =>
  have hpn : p ≠ [] := fun e => by rw [e] at hg; simp [getN] at hg
  have hv : fndV t H.length p = .sc (.pointer none) := by unfold fndV; rw [if_neg hpn,hg]
  rw [hg] at hgv
  rw [hv]
  simp -implicitDefEqProofs (maxSteps := 99999999) (disch := first | omega | (simp only [AHeap.set_length,killO_length,List.length_cons,List.length_nil]; first | done | omega)) only [vu,va,vg,vs,vw,Nat.reduceMul,ite_true,ite_false,eq_self,forall_const,implies_true,Nat.reduceAdd,Nat.reduceSub,Nat.reduceLT,Nat.reduceLeDiff,↓reduceIte,reduceCtorEq,Int.reduceEq,Int.reduceLT,Int.reduceLE,Int.reduceGT,Int.reduceGE,Int.reduceAdd,Int.reduceSub,Int.reduceNeg,Int.reduceToNat,Nat.reduceBEq,Nat.reduceEqDiff]
  refine hL _ _ ?_
  clear hL
  refine ES_seq_gen fun L hL => ?_
  simp -implicitDefEqProofs (maxSteps := 99999999) (disch := first | omega | (simp only [AHeap.set_length,killO_length,List.length_cons,List.length_nil]; first | done | omega)) only [vu,va,vg,vs,vw,Nat.reduceMul,ite_true,ite_false,eq_self,forall_const,implies_true,Nat.reduceAdd,Nat.reduceSub,Nat.reduceLT,Nat.reduceLeDiff,↓reduceIte,reduceCtorEq,Int.reduceEq,Int.reduceLT,Int.reduceLE,Int.reduceGT,Int.reduceGE,Int.reduceAdd,Int.reduceSub,Int.reduceNeg,Int.reduceToNat,Nat.reduceBEq,Nat.reduceEqDiff]
  rw [hgv]
  refine weak_frz (fun i hi => by rw [find_past (by simp; omega),find_past hi]) (.tup (.cons ?_ (.cons (.same trivial) .nil)))
  rw [ndA_eq]
  exact .agg (.cons (.same trivial) (.cons (.same trivial) (.cons (.same trivial) (.cons .nil .nil))))
 | some u =>
  rw [hg] at hgv
  have hus : u.size ≤ 1000000 := Nat.le_trans (getN_size hg) hz
  by_cases hpn : p = []
  ·have hut : u = t := by rw [hpn] at hg; simp only [getN,Option.some.injEq] at hg; exact hg.symm
   subst hut
   have hv : fndV u H.length p = .ptr 4 H.length 0 0 := by unfold fndV; rw [if_pos hpn]
   rw [hv]
   have hcp := fun H => copied_d u hus none H
   rw [ndR_eq] at hcp
   obtain ⟨cv,hcv⟩ : ∃ cv,cpV u (H.length + 2) = cv := ⟨_,rfl⟩
   have hcv2 := cpV_eq u (H.length + 2)
   rw [hcv] at hcv2
   have c1 : cv.isTop = false := by rw [hcv2]; rfl
   have c2 : cv.isAgg = true := by rw [hcv2]; rfl
   have c3 : cv.ncells = 4 := by rw [hcv2]; rfl
   have hc4 : 4 ≤ cv.cells.length := by rw [hcv2]; exact Nat.le_refl _
   have hcc : AV.agg (cv.cells.take 4) = cv := by rw [hcv2]; rfl
   simp -implicitDefEqProofs (maxSteps := 99999999) (disch := first | omega | (simp only [AHeap.set_length,killO_length,List.length_cons,List.length_nil]; first | done | omega)) only [vu,va,vg,vs,vw,Nat.reduceMul,ite_true,ite_false,eq_self,forall_const,implies_true,Nat.reduceAdd,Nat.reduceSub,Nat.reduceLT,Nat.reduceLeDiff,↓reduceIte,reduceCtorEq,Int.reduceEq,Int.reduceLT,Int.reduceLE,Int.reduceGT,Int.reduceGE,Int.reduceAdd,Int.reduceSub,Int.reduceNeg,Int.reduceToNat,Nat.reduceBEq,Nat.reduceEqDiff]
   refine hL _ _ ?_
   clear hL
   refine ES_seq_gen fun L hL => ?_
   simp -implicitDefEqProofs (maxSteps := 99999999) (disch := first | omega | (simp only [AHeap.set_length,killO_length,List.length_cons,List.length_nil]; first | done | omega)) only [vu,va,vg,vs,vw,Nat.reduceMul,ite_true,ite_false,eq_self,forall_const,implies_true,Nat.reduceAdd,Nat.reduceSub,Nat.reduceLT,Nat.reduceLeDiff,↓reduceIte,reduceCtorEq,Int.reduceEq,Int.reduceLT,Int.reduceLE,Int.reduceGT,Int.reduceGE,Int.reduceAdd,Int.reduceSub,Int.reduceNeg,Int.reduceToNat,Nat.reduceBEq,Nat.reduceEqDiff]
   refine hL _ _ ?_
   clear hL
   refine ES_seq_gen fun L hL => ?_
   simp -implicitDefEqProofs (maxSteps := 99999999) (disch := first | omega | (simp only [AHeap.set_length,killO_length,List.length_cons,List.length_nil]; first | done | omega)) only [vu,va,vg,vs,vw,Nat.reduceMul,ite_true,ite_false,eq_self,forall_const,implies_true,Nat.reduceAdd,Nat.reduceSub,Nat.reduceLT,Nat.reduceLeDiff,↓reduceIte,reduceCtorEq,Int.reduceEq,Int.reduceLT,Int.reduceLE,Int.reduceGT,Int.reduceGE,Int.reduceAdd,Int.reduceSub,Int.reduceNeg,Int.reduceToNat,Nat.reduceBEq,Nat.reduceEqDiff]
   refine callR_ret (hcp _) ?_
   simp only [List.length_cons,Nat.add_assoc,Nat.reduceAdd,hcv]
   have hli := liesO_lays (t := u) (H := some (⟨4,[.agg [.sc (.int .u8 0),.sc (.string ⟨#[]⟩),.sc (.int .i64 0),.lst 0 [] (some [])]],true,25⟩ : ABlk) :: some ⟨4,[.agg [.sc (.int .u8 u.kind),.sc (.string u.text),.sc (.int .i64 u.num),.lst 4 (ndL u.kids) none]],true,25⟩ :: H)
   simp only [List.length_cons,Nat.add_assoc,Nat.reduceAdd] at hli
   have hG0 : ∀ i,i < H.length + 2 → AHeap.find (cpB u (H.length + 2) ++ some (⟨4,[.agg [.sc (.int .u8 0),.sc (.string ⟨#[]⟩),.sc (.int .i64 0),.lst 0 [] (some [])]],true,25⟩ : ABlk) :: some ⟨4,[.agg [.sc (.int .u8 u.kind),.sc (.string u.text),.sc (.int .i64 u.num),.lst 4 (ndL u.kids) none]],true,25⟩ :: H) i = AHeap.find (some (⟨4,[.agg [.sc (.int .u8 0),.sc (.string ⟨#[]⟩),.sc (.int .i64 0),.lst 0 [] (some [])]],true,25⟩ : ABlk) :: some ⟨4,[.agg [.sc (.int .u8 u.kind),.sc (.string u.text),.sc (.int .i64 u.num),.lst 4 (ndL u.kids) none]],true,25⟩ :: H) i := fun i hi => AHeap.find_append (by simp only [List.length_cons]; omega)
   have hGl : ∀ i,i < H.length → AHeap.find (cpB u (H.length + 2) ++ some (⟨4,[.agg [.sc (.int .u8 0),.sc (.string ⟨#[]⟩),.sc (.int .i64 0),.lst 0 [] (some [])]],true,25⟩ : ABlk) :: some ⟨4,[.agg [.sc (.int .u8 u.kind),.sc (.string u.text),.sc (.int .i64 u.num),.lst 4 (ndL u.kids) none]],true,25⟩ :: H) i = AHeap.find H i := fun i hi => by rw [hG0 i (by omega),find_past (by simp only [List.length_cons]; omega),find_past hi]
   generalize cpB u (H.length + 2) ++ some (⟨4,[.agg [.sc (.int .u8 0),.sc (.string ⟨#[]⟩),.sc (.int .i64 0),.lst 0 [] (some [])]],true,25⟩ : ABlk) :: some ⟨4,[.agg [.sc (.int .u8 u.kind),.sc (.string u.text),.sc (.int .i64 u.num),.lst 4 (ndL u.kids) none]],true,25⟩ :: H = G at *
   have g1 : AHeap.find G (H.length + 1) = some ⟨4,[.agg [.sc (.int .u8 0),.sc (.string ⟨#[]⟩),.sc (.int .i64 0),.lst 0 [] (some [])]],true,25⟩ := by rw [hG0 _ (by omega),find_top (by simp)]
   have gl := AHeap.find_lt g1
   have hup : (AV.agg [.sc (.int .u8 0),.sc (.string ⟨#[]⟩),.sc (.int .i64 0),.lst 0 [] (some [])]).upd 0 cv = cv := by rw [hcv2]; rfl
   simp -implicitDefEqProofs (maxSteps := 99999999) (disch := first | omega | (simp only [AHeap.set_length,killO_length,List.length_cons,List.length_nil]; first | done | omega)) only [vu,g1,c1,c2,c3,va,vg,vs,vw,Nat.reduceMul,ite_true,ite_false,eq_self,forall_const,implies_true,Nat.reduceAdd,Nat.reduceSub,Nat.reduceLT,Nat.reduceLeDiff,↓reduceIte,reduceCtorEq,Int.reduceEq,Int.reduceLT,Int.reduceLE,Int.reduceGT,Int.reduceGE,Int.reduceAdd,Int.reduceSub,Int.reduceNeg,Int.reduceToNat,Nat.reduceBEq,Nat.reduceEqDiff]
   refine hL _ _ ?_
   clear hL
   simp -implicitDefEqProofs (maxSteps := 99999999) (disch := first | omega | (simp only [AHeap.set_length,killO_length,List.length_cons,List.length_nil]; first | done | omega)) only [vu,g1,c1,c2,c3,va,vg,vs,vw,Nat.reduceMul,ite_true,ite_false,eq_self,forall_const,implies_true,Nat.reduceAdd,Nat.reduceSub,Nat.reduceLT,Nat.reduceLeDiff,↓reduceIte,reduceCtorEq,Int.reduceEq,Int.reduceLT,Int.reduceLE,Int.reduceGT,Int.reduceGE,Int.reduceAdd,Int.reduceSub,Int.reduceNeg,Int.reduceToNat,Nat.reduceBEq,Nat.reduceEqDiff]
   refine ⟨hc4,?_⟩
   rw [hcc,hgv]
   refine weak_frz (fun i hi => by rw [AHeap.find_set_ne (by omega),hGl i hi]) (.tup (.cons ?_ (.cons (.same trivial) .nil)))
   rw [← hcv]
   exact cpV_frz u (by omega) (hli.of fun i h1 h2 => AHeap.find_set_ne (by omega))
  ·have hv : fndV t H.length p = .lp (.agg [.sc (.int .u8 u.kind),.sc (.string u.text),.sc (.int .i64 u.num),.lst 4 (ndL u.kids) none]) 0 := by unfold fndV; rw [if_neg hpn,hg,← ndA_eq]
   rw [hv]
   have hcp := fun H => copied_d u hus none H
   rw [ndR_eq] at hcp
   obtain ⟨cv,hcv⟩ : ∃ cv,cpV u (H.length + 2) = cv := ⟨_,rfl⟩
   have hcv2 := cpV_eq u (H.length + 2)
   rw [hcv] at hcv2
   have c1 : cv.isTop = false := by rw [hcv2]; rfl
   have c2 : cv.isAgg = true := by rw [hcv2]; rfl
   have c3 : cv.ncells = 4 := by rw [hcv2]; rfl
   have hc4 : 4 ≤ cv.cells.length := by rw [hcv2]; exact Nat.le_refl _
   have hcc : AV.agg (cv.cells.take 4) = cv := by rw [hcv2]; rfl
   have hnp : isNilP (.lp (.agg [.sc (.int .u8 u.kind),.sc (.string u.text),.sc (.int .i64 u.num),.lst 4 (ndL u.kids) none]) 0) = false := rfl
   simp -implicitDefEqProofs (maxSteps := 99999999) (disch := first | omega | (simp only [AHeap.set_length,killO_length,List.length_cons,List.length_nil]; first | done | omega)) only [vu,va,vg,vs,vw,Nat.reduceMul,ite_true,ite_false,eq_self,forall_const,implies_true,Nat.reduceAdd,Nat.reduceSub,Nat.reduceLT,Nat.reduceLeDiff,↓reduceIte,reduceCtorEq,Int.reduceEq,Int.reduceLT,Int.reduceLE,Int.reduceGT,Int.reduceGE,Int.reduceAdd,Int.reduceSub,Int.reduceNeg,Int.reduceToNat,Nat.reduceBEq,Nat.reduceEqDiff]
   refine hL _ _ ?_
   clear hL
   refine ES_seq_gen fun L hL => ?_
   simp -implicitDefEqProofs (maxSteps := 99999999) (disch := first | omega | (simp only [AHeap.set_length,killO_length,List.length_cons,List.length_nil]; first | done | omega)) only [vu,hnp,va,vg,vs,vw,Nat.reduceMul,ite_true,ite_false,eq_self,forall_const,implies_true,Nat.reduceAdd,Nat.reduceSub,Nat.reduceLT,Nat.reduceLeDiff,↓reduceIte,reduceCtorEq,Int.reduceEq,Int.reduceLT,Int.reduceLE,Int.reduceGT,Int.reduceGE,Int.reduceAdd,Int.reduceSub,Int.reduceNeg,Int.reduceToNat,Nat.reduceBEq,Nat.reduceEqDiff]
   refine ⟨trivial,?_⟩
   refine hL _ _ ?_
   clear hL
   simp -implicitDefEqProofs (maxSteps := 99999999) (disch := first | omega | (simp only [AHeap.set_length,killO_length,List.length_cons,List.length_nil]; first | done | omega)) only [vu,va,vg,vs,vw,Nat.reduceMul,ite_true,ite_false,eq_self,forall_const,implies_true,Nat.reduceAdd,Nat.reduceSub,Nat.reduceLT,Nat.reduceLeDiff,↓reduceIte,reduceCtorEq,Int.reduceEq,Int.reduceLT,Int.reduceLE,Int.reduceGT,Int.reduceGE,Int.reduceAdd,Int.reduceSub,Int.reduceNeg,Int.reduceToNat,Nat.reduceBEq,Nat.reduceEqDiff]
   refine callR_ret (hcp _) ?_
   simp only [List.length_cons,Nat.add_assoc,Nat.reduceAdd,hcv]
   have hli := liesO_lays (t := u) (H := some (⟨4,[.agg [.sc (.int .u8 0),.sc (.string ⟨#[]⟩),.sc (.int .i64 0),.lst 0 [] (some [])]],true,25⟩ : ABlk) :: some ⟨4,[.agg [.sc (.int .u8 t.kind),.sc (.string t.text),.sc (.int .i64 t.num),.lst 4 (ndL t.kids) none]],true,25⟩ :: H)
   simp only [List.length_cons,Nat.add_assoc,Nat.reduceAdd] at hli
   have hG0 : ∀ i,i < H.length + 2 → AHeap.find (cpB u (H.length + 2) ++ some (⟨4,[.agg [.sc (.int .u8 0),.sc (.string ⟨#[]⟩),.sc (.int .i64 0),.lst 0 [] (some [])]],true,25⟩ : ABlk) :: some ⟨4,[.agg [.sc (.int .u8 t.kind),.sc (.string t.text),.sc (.int .i64 t.num),.lst 4 (ndL t.kids) none]],true,25⟩ :: H) i = AHeap.find (some (⟨4,[.agg [.sc (.int .u8 0),.sc (.string ⟨#[]⟩),.sc (.int .i64 0),.lst 0 [] (some [])]],true,25⟩ : ABlk) :: some ⟨4,[.agg [.sc (.int .u8 t.kind),.sc (.string t.text),.sc (.int .i64 t.num),.lst 4 (ndL t.kids) none]],true,25⟩ :: H) i := fun i hi => AHeap.find_append (by simp only [List.length_cons]; omega)
   have hGl : ∀ i,i < H.length → AHeap.find (cpB u (H.length + 2) ++ some (⟨4,[.agg [.sc (.int .u8 0),.sc (.string ⟨#[]⟩),.sc (.int .i64 0),.lst 0 [] (some [])]],true,25⟩ : ABlk) :: some ⟨4,[.agg [.sc (.int .u8 t.kind),.sc (.string t.text),.sc (.int .i64 t.num),.lst 4 (ndL t.kids) none]],true,25⟩ :: H) i = AHeap.find H i := fun i hi => by rw [hG0 i (by omega),find_past (by simp only [List.length_cons]; omega),find_past hi]
   generalize cpB u (H.length + 2) ++ some (⟨4,[.agg [.sc (.int .u8 0),.sc (.string ⟨#[]⟩),.sc (.int .i64 0),.lst 0 [] (some [])]],true,25⟩ : ABlk) :: some ⟨4,[.agg [.sc (.int .u8 t.kind),.sc (.string t.text),.sc (.int .i64 t.num),.lst 4 (ndL t.kids) none]],true,25⟩ :: H = G at *
   have g1 : AHeap.find G (H.length + 1) = some ⟨4,[.agg [.sc (.int .u8 0),.sc (.string ⟨#[]⟩),.sc (.int .i64 0),.lst 0 [] (some [])]],true,25⟩ := by rw [hG0 _ (by omega),find_top (by simp)]
   have gl := AHeap.find_lt g1
   have hup : (AV.agg [.sc (.int .u8 0),.sc (.string ⟨#[]⟩),.sc (.int .i64 0),.lst 0 [] (some [])]).upd 0 cv = cv := by rw [hcv2]; rfl
   simp -implicitDefEqProofs (maxSteps := 99999999) (disch := first | omega | (simp only [AHeap.set_length,killO_length,List.length_cons,List.length_nil]; first | done | omega)) only [vu,g1,c1,c2,c3,va,vg,vs,vw,Nat.reduceMul,ite_true,ite_false,eq_self,forall_const,implies_true,Nat.reduceAdd,Nat.reduceSub,Nat.reduceLT,Nat.reduceLeDiff,↓reduceIte,reduceCtorEq,Int.reduceEq,Int.reduceLT,Int.reduceLE,Int.reduceGT,Int.reduceGE,Int.reduceAdd,Int.reduceSub,Int.reduceNeg,Int.reduceToNat,Nat.reduceBEq,Nat.reduceEqDiff]
   refine ⟨hc4,?_⟩
   rw [hcc,hgv]
   refine weak_frz (fun i hi => by rw [AHeap.find_set_ne (by omega),hGl i hi]) (.tup (.cons ?_ (.cons (.same trivial) .nil)))
   rw [← hcv]
   exact cpV_frz u (by omega) (hli.of fun i h1 h2 => AHeap.find_set_ne (by omega))
end Go.Proofs.YtfnahogjkgcklaaDoor
