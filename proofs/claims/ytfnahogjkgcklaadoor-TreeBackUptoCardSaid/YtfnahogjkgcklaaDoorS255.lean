/- tree.copied. -/
import Derived.Test.YtfnahogjkgcklaaDoorS254
namespace Go.Proofs.YtfnahogjkgcklaaDoor
open Go.RowKit
set_option maxRecDepth 100000
set_option linter.unusedVariables false
set_option linter.unusedSimpArgs false
theorem cpV_idx (l : List Nd) : ∀ (j a : Nat),j < l.length → (cpL l a)[j]? = some (cpV (nthN l j) (a + Nd.sizeL (l.take j))) := by
 induction l with
 | nil => intro j a h; simp at h
 | cons x r ih =>
  intro j a h
  cases j with
  | zero => simp [cpL,nthN,Nd.sizeL]
  | succ j =>
   simp only [cpL,List.getElem?_cons_succ,List.take_succ_cons,Nd.sizeL]
   rw [ih j (a + x.size) (by simpa using h)]
   simp [nthN,Nat.add_assoc]
/-- The kids of a copy under way: those that are copied, those that are not. -/
def midL (l : List Nd) (k a : Nat) : List AV := cpL (l.take k) a ++ ndL (l.drop k)
theorem midL_length (l : List Nd) (k a : Nat) : (midL l k a).length = l.length := by
 simp only [midL,List.length_append,cpL_length,ndL_length,List.length_take,List.length_drop]
 omega
theorem midL_get {l : List Nd} {k : Nat} (h : k < l.length) (a : Nat) : (midL l k a).getD k .top = .agg [.sc (.int .u8 (nthN l k).kind),.sc (.string (nthN l k).text),.sc (.int .i64 (nthN l k).num),.lst 4 (ndL (nthN l k).kids) none] := by
 have hk : (cpL (l.take k) a).length = k := by rw [cpL_length,List.length_take]; omega
 unfold midL
 rw [List.getD_eq_getElem?_getD,List.getElem?_append_right (by omega),hk,Nat.sub_self,ndL_map,List.drop_eq_getElem_cons h]
 simp [nthN_eq h,ndA_eq,h]
theorem midL_set {l : List Nd} {k : Nat} (h : k < l.length) (a : Nat) : (midL l k a).set k (cpV (nthN l k) (a + Nd.sizeL (l.take k))) = midL l (k + 1) a := by
 have hk : (cpL (l.take k) a).length = k := by rw [cpL_length,List.length_take]; omega
 unfold midL
 rw [List.set_append,if_neg (by omega),hk,Nat.sub_self,List.drop_eq_getElem_cons h,ndL_cons,List.set_cons_zero,List.take_succ_eq_append_getElem h,cpL_append,List.append_assoc,nthN_eq h]
 simp [cpL]
theorem midL_zero (l : List Nd) (a : Nat) : midL l 0 a = ndL l := by simp [midL,cpL]
theorem midL_all {l : List Nd} {k : Nat} (h : ¬ k < l.length) (a : Nat) : midL l k a = cpL l a := by
 unfold midL
 rw [List.take_of_length_le (by omega),List.drop_of_length_le (by omega)]
 simp [ndL]
theorem set_appendT {A B : AHeap} {i : Nat} {x : Option ABlk} (h : i < B.length) : AHeap.set (A ++ B) i x = A ++ AHeap.set B i x := by
 induction A with
 | nil => rfl
 | cons y r ih => rw [List.cons_append,set_past (by simp; omega),ih]; rfl
mutual
/-- The blocks of a copy, the oldest first. -/
def cpO : Nd → Nat → List (List AV)
 | ⟨_,_,_,l⟩,a => cpL l (a + 1) :: cpOL l (a + 1)
def cpOL : List Nd → Nat → List (List AV)
 | [],_ => []
 | t :: r,a => cpO t a ++ cpOL r (a + t.size)
end
theorem cpO_eq (t : Nd) (a : Nat) : cpO t a = cpL t.kids (a + 1) :: cpOL t.kids (a + 1) := by cases t; simp [cpO,Nd.kids]
theorem lays_app : ∀ (p q : List (Option ABlk)) (H : AHeap),lays (p ++ q) H = lays q (lays p H)
 | [],_,_ => rfl
 | x :: r,q,H => by simp only [List.cons_append,lays,lays_app r q]
def obs (l : List (List AV)) : List (Option ABlk) := l.map (OwnB 4 25)
theorem cpB_lays (t : Nd) : ∀ (a : Nat) (H : AHeap),cpB t a ++ H = lays (obs (cpO t a)) H := by
 induction t using Nd.ind with
 | _ t ih =>
  intro a H
  have key : ∀ (l : List Nd),(∀ k ∈ l,∀ (a : Nat) (H : AHeap),cpB k a ++ H = lays (obs (cpO k a)) H) → ∀ (a : Nat) (H : AHeap),cpBL l a ++ H = lays (obs (cpOL l a)) H := by
   intro l
   induction l with
   | nil => intro _ a H; rfl
   | cons x r ihr =>
    intro h a H
    simp only [cpBL,cpOL,obs,List.map_append,lays_app,List.append_assoc]
    have h1 := h x (by simp) a H
    have h2 := ihr (fun k hk => h k (by simp [hk])) (a + x.size) (lays (obs (cpO x a)) H)
    rw [h1,h2]
    rfl
  rw [cpB_eq,cpO_eq,List.append_assoc]
  have := key t.kids ih (a + 1) (OwnB 4 25 (cpL t.kids (a + 1)) :: H)
  rw [List.singleton_append,this]
  rfl
theorem cpBL_lays (l : List Nd) : ∀ (a : Nat) (H : AHeap),cpBL l a ++ H = lays (obs (cpOL l a)) H := by
 induction l with
 | nil => intro a H; rfl
 | cons x r ih =>
  intro a H
  simp only [cpBL,cpOL,obs,List.map_append,lays_app,List.append_assoc]
  rw [cpB_lays,ih]
  rfl
theorem OwnV_len {k id : Nat} {xs ys : List AV} (h : xs.length = ys.length) : OwnV k xs id = OwnV k ys id := by
 cases xs <;> cases ys <;> simp_all [OwnV]
theorem cpV_gz {F : AHeap} {n0 s0 m : Nat} {src : List Nat} (hN : ∀ j,j < m → newId n0 src (s0 + j) = some (n0 + j)) (t : Nd) : ∀ j,j + t.size ≤ m → Gz F n0 src (cpV t (s0 + j)) (cpV t (n0 + j)) := by
 induction t using Nd.ind with
 | _ t ih =>
  intro j hj
  have := t.size_pos
  rw [cpV_eq,cpV_eq]
  refine .agg (.cons (.same trivial) (.cons (.same trivial) (.cons (.same trivial) (.cons ?_ .nil))))
  rw [OwnV_len (show (cpL t.kids (n0 + j + 1)).length = (cpL t.kids (s0 + j + 1)).length by rw [cpL_length,cpL_length])]
  exact OwnV_gz fun _ => hN j (by omega)
theorem cpL_gz {F : AHeap} {n0 s0 m : Nat} {src : List Nat} (hN : ∀ j,j < m → newId n0 src (s0 + j) = some (n0 + j)) (l : List Nd) : ∀ j,j + Nd.sizeL l ≤ m → GzL F n0 src (cpL l (s0 + j)) (cpL l (n0 + j)) := by
 induction l with
 | nil => intro j _; exact .nil
 | cons x r ih =>
  intro j hj
  simp only [Nd.sizeL] at hj
  simp only [cpL]
  have := ih (j + x.size) (by omega)
  rw [← Nat.add_assoc,← Nat.add_assoc] at this
  exact .cons (cpV_gz hN x j (by omega)) this
theorem cpOL_gz {F : AHeap} {n0 s0 m : Nat} {src : List Nat} (l : List Nd) (ih : ∀ t ∈ l,∀ j,j + t.size ≤ m → ∀ (i : Nat) (ys : List AV),(cpO t (n0 + j))[i]? = some ys → ∃ xs,(cpO t (s0 + j))[i]? = some xs ∧ GzL F n0 src xs ys) (hlen : ∀ (t : Nd) (a b : Nat),(cpO t a).length = (cpO t b).length) : ∀ j,j + Nd.sizeL l ≤ m → ∀ (i : Nat) (ys : List AV),(cpOL l (n0 + j))[i]? = some ys → ∃ xs,(cpOL l (s0 + j))[i]? = some xs ∧ GzL F n0 src xs ys := by
 induction l with
 | nil => intro j _ i ys h; simp [cpOL] at h
 | cons x r ihr =>
  intro j hj i ys h
  simp only [Nd.sizeL] at hj
  simp only [cpOL] at h ⊢
  have hx := hlen x (n0 + j) (s0 + j)
  by_cases c : i < (cpO x (n0 + j)).length
  ·rw [List.getElem?_append_left c] at h
   rw [List.getElem?_append_left (by omega)]
   exact ih x (by simp) j (by omega) i ys h
  ·rw [List.getElem?_append_right (by omega)] at h
   rw [List.getElem?_append_right (by omega),← hx]
   have := ihr (fun t ht => ih t (by simp [ht])) (j + x.size) (by omega) (i - (cpO x (n0 + j)).length) ys
   rw [← Nat.add_assoc,← Nat.add_assoc] at this
   exact this h
theorem cpO_length (t : Nd) : ∀ a,(cpO t a).length = t.size := by
 induction t using Nd.ind with
 | _ t ih =>
  intro a
  have key : ∀ (l : List Nd),(∀ k ∈ l,∀ a,(cpO k a).length = k.size) → ∀ a,(cpOL l a).length = Nd.sizeL l := by
   intro l
   induction l with
   | nil => intro _ a; rfl
   | cons x r ihr =>
    intro h a
    simp only [cpOL,List.length_append,Nd.sizeL,ihr fun k hk => h k (by simp [hk]),h x (by simp)]
  rw [cpO_eq,List.length_cons,key _ ih,Nd.size_eq]
  omega
theorem cpO_gz {F : AHeap} {n0 s0 m : Nat} {src : List Nat} (hN : ∀ j,j < m → newId n0 src (s0 + j) = some (n0 + j)) (t : Nd) : ∀ j,j + t.size ≤ m → ∀ (i : Nat) (ys : List AV),(cpO t (n0 + j))[i]? = some ys → ∃ xs,(cpO t (s0 + j))[i]? = some xs ∧ GzL F n0 src xs ys := by
 induction t using Nd.ind with
 | _ t ih =>
  intro j hj i ys h
  rw [Nd.size_eq] at hj
  rw [cpO_eq] at h ⊢
  cases i with
  | zero =>
   simp only [List.getElem?_cons_zero,Option.some.injEq] at h
   refine ⟨_,List.getElem?_cons_zero,?_⟩
   rw [← h]
   have := cpL_gz (F := F) hN t.kids (j + 1) (by omega)
   rw [← Nat.add_assoc,← Nat.add_assoc] at this
   exact this
  | succ i =>
   rw [List.getElem?_cons_succ] at h
   rw [List.getElem?_cons_succ]
   have := cpOL_gz (F := F) t.kids ih (fun t a b => by rw [cpO_length,cpO_length]) (j + 1) (by omega) i ys
   rw [← Nat.add_assoc,← Nat.add_assoc] at this
   exact this h
theorem newId_atT {n0 : Nat} {src : List Nat} (hn : src.Nodup) {i s : Nat} (h : src[i]? = some s) (hs : n0 ≤ s) : newId n0 src s = some (n0 + i) := by
 unfold newId
 rw [if_neg (by omega),get_idxOf? hn h]
 rfl
set_option maxHeartbeats 0 in
theorem copied_d (t : Nd) : ∀ (hz : t.size ≤ 1000000) (ro : Option (List AV)) (H : AHeap),D Tryd.prog 50 [ndR t ro] H (.ret (cpV t H.length)) (cpB t H.length ++ H) := by
 induction t using Nd.ind with
 | _ t ih =>
  intro hz ro H
  have hkl := Nd.kids_le t
  have hcl := fun H => cloneN_d t.kids (by omega) ro H
  rw [ndR_eq]
  refine D_of_DK (by simp) (dk50 (E_of_ES ?_))
  simp only [ic50,ux]
  refine ES_seq_gen fun L hL => ?_
  simp -implicitDefEqProofs (maxSteps := 99999999) (disch := first | omega | (simp only [AHeap.set_length,killO_length,List.length_cons,List.length_nil]; first | done | omega)) only [vu,va,vg,vs,vw,Nat.reduceMul,ite_true,ite_false,eq_self,forall_const,implies_true,Nat.reduceAdd,Nat.reduceSub,Nat.reduceLT,Nat.reduceLeDiff,↓reduceIte,reduceCtorEq,Int.reduceEq,Int.reduceLT,Int.reduceLE,Int.reduceGT,Int.reduceGE,Int.reduceAdd,Int.reduceSub,Int.reduceNeg,Int.reduceToNat,Nat.reduceBEq,Nat.reduceEqDiff]
  refine hL _ _ ?_
  clear hL
  refine ES_seq_gen fun L hL => ?_
  simp -implicitDefEqProofs (maxSteps := 99999999) (disch := first | omega | (simp only [AHeap.set_length,killO_length,List.length_cons,List.length_nil]; first | done | omega)) only [vu,va,vg,vs,vw,Nat.reduceMul,ite_true,ite_false,eq_self,forall_const,implies_true,Nat.reduceAdd,Nat.reduceSub,Nat.reduceLT,Nat.reduceLeDiff,↓reduceIte,reduceCtorEq,Int.reduceEq,Int.reduceLT,Int.reduceLE,Int.reduceGT,Int.reduceGE,Int.reduceAdd,Int.reduceSub,Int.reduceNeg,Int.reduceToNat,Nat.reduceBEq,Nat.reduceEqDiff]
  refine callR_ret (hcl _) ?_
  obtain ⟨kv,hkv⟩ : ∃ kv,OwnV 4 (ndL t.kids) (H.length + 2) = kv := ⟨_,rfl⟩
  have k1 : kv.isTop = false ∧ kv.isAgg = false ∧ kv.ncells = 1 ∧ kv.cells = [kv] ∧ lenN kv = t.kids.length ∧ lenOk kv := by
   rw [← hkv]
   refine ⟨OwnV_top,OwnV_isAgg,OwnV_ncells,OwnV_cells,?_,?_⟩
   ·rw [OwnV_lenN,ndL_length]
   ·rw [OwnV_lenOk]; trivial
  obtain ⟨q1,q2,q3,q4,q5,q6⟩ := k1
  simp only [List.length_cons,hkv,Nat.add_assoc,Nat.reduceAdd]
  simp -implicitDefEqProofs (maxSteps := 99999999) (disch := first | omega | (simp only [AHeap.set_length,killO_length,List.length_cons,List.length_nil]; first | done | omega)) only [vu,hkv,q1,q2,q3,q4,va,vg,vs,vw,Nat.reduceMul,ite_true,ite_false,eq_self,forall_const,implies_true,Nat.reduceAdd,Nat.reduceSub,Nat.reduceLT,Nat.reduceLeDiff,↓reduceIte,reduceCtorEq,Int.reduceEq,Int.reduceLT,Int.reduceLE,Int.reduceGT,Int.reduceGE,Int.reduceAdd,Int.reduceSub,Int.reduceNeg,Int.reduceToNat,Nat.reduceBEq,Nat.reduceEqDiff]
  refine hL _ _ ?_
  clear hL
  refine ES_seq_gen fun L hL => ?_
  simp -implicitDefEqProofs (maxSteps := 99999999) (disch := first | omega | (simp only [AHeap.set_length,killO_length,List.length_cons,List.length_nil]; first | done | omega)) only [vu,q5,q6,q1,q2,q3,q4,va,vg,vs,vw,Nat.reduceMul,ite_true,ite_false,eq_self,forall_const,implies_true,Nat.reduceAdd,Nat.reduceSub,Nat.reduceLT,Nat.reduceLeDiff,↓reduceIte,reduceCtorEq,Int.reduceEq,Int.reduceLT,Int.reduceLE,Int.reduceGT,Int.reduceGE,Int.reduceAdd,Int.reduceSub,Int.reduceNeg,Int.reduceToNat,Nat.reduceBEq,Nat.reduceEqDiff]
  obtain ⟨bx1,hbx1⟩ : ∃ b,b = (⟨4,[.agg [.sc (.int .u8 t.kind),.sc (.string t.text),.sc (.int .i64 t.num),kv]],true,25⟩ : ABlk) := ⟨_,rfl⟩
  obtain ⟨bx2,hbx2⟩ : ∃ b,b = (⟨4,[AV.agg [.sc (.int .u8 0),.sc (.string ⟨#[]⟩),.sc (.int .i64 0),.lst 0 [] (some [])]],true,25⟩ : ABlk) := ⟨_,rfl⟩
  rw [← hbx1,← hbx2]
  refine ES_loopL (fun ts F => ∃ k : Nat,k ≤ t.kids.length ∧ F = cpBL (t.kids.take k) (H.length + 3) ++ (OwnB 4 25 (midL t.kids k (H.length + 3)) :: some bx2 :: some bx1 :: H) ∧ Fr [none,some (.ptr 4 H.length 0 0),some (.ptr 4 (H.length + 1) 0 0),none,none,none,none,none,none,none,some (.sc (.int .i64 t.kids.length)),some (.sc (.int .i64 k)),none,none,none,none,none,none,none,none,none,none,none,none,none,none] ts) (fun ts _ => t.kids.length - (intV (ts.getD 11 .top)).toNat) ?_ ?_
  ·exact ⟨0,Nat.zero_le _,by rw [midL_zero]; rfl,by simp [Fr]⟩
  rintro ts F ⟨k,hk,hFe,hfr⟩ L2 hL2
  obtain ⟨js,rfl⟩ := hfr.opened
  clear hfr
  have f0 : F.length = Nd.sizeL (t.kids.take k) + (H.length + 3) := by rw [hFe,List.length_append,cpBL_length]; simp
  have f1 : AHeap.find F H.length = some bx1 := by
   rw [hFe,AHeap.find_append (by simp; omega),find_past (by simp; omega),find_past (by simp),find_top rfl]
  have f3 : AHeap.find F (H.length + 1) = some bx2 := by
   rw [hFe,AHeap.find_append (by simp),find_past (by simp),find_top (by simp)]
  rw [hbx1] at f1
  by_cases hd : k < t.kids.length
  ·have d1 : (k : Int) < t.kids.length := by omega
   have hne : ndL t.kids ≠ [] := fun e => by have := ndL_length t.kids; rw [e] at this; simp at this; omega
   have hmid : midL t.kids k (H.length + 3) ≠ [] := fun e => by have := midL_length t.kids k (H.length + 3); rw [e] at this; simp at this; omega
   have f2 : AHeap.find F (H.length + 2) = some ⟨4,midL t.kids k (H.length + 3),false,25⟩ := by
    rw [hFe,AHeap.find_append (by simp),find_top (by simp),OwnB_ne hmid]
   have hkv2 : kv = .vec 4 (H.length + 2) 0 t.kids.length none := by rw [← hkv,OwnV_ne hne,ndL_length]
   rw [hkv2] at f1
   have hg := midL_get hd (H.length + 3)
   have hml := midL_length t.kids k (H.length + 3)
   have hmem := nthN_mem hd
   have hi := ih _ hmem (by have := Nd.kid_lt hmem; omega) none F
   rw [ndR_eq] at hi
   obtain ⟨G,hG⟩ : ∃ G,cpB (nthN t.kids k) F.length ++ F = G := ⟨_,rfl⟩
   have g2 : AHeap.find G (H.length + 2) = some ⟨4,midL t.kids k (H.length + 3),false,25⟩ := by
    rw [← hG,AHeap.find_append (by omega),f2]
   have hcv := cpV_eq (nthN t.kids k) F.length
   simp -implicitDefEqProofs (maxSteps := 99999999) (disch := first | omega | (simp only [AHeap.set_length,killO_length,List.length_cons,List.length_nil]; first | done | omega)) only [mk,d1,f1,f2,hg,hml,va,vg,vs,vw,Nat.reduceMul,ite_true,ite_false,eq_self,forall_const,implies_true,Nat.reduceAdd,Nat.reduceSub,Nat.reduceLT,Nat.reduceLeDiff,↓reduceIte,reduceCtorEq,Int.reduceEq,Int.reduceLT,Int.reduceLE,Int.reduceGT,Int.reduceGE,Int.reduceAdd,Int.reduceSub,Int.reduceNeg,Int.reduceToNat,Nat.reduceBEq,Nat.reduceEqDiff]
   refine ⟨by omega,by omega,callD_ret hi (chS_grow (by simp; omega)) ?_⟩
   rw [hG]
   obtain ⟨cv,hcv2⟩ : ∃ cv,cpV (nthN t.kids k) F.length = cv := ⟨_,rfl⟩
   rw [hcv2] at hcv ⊢
   have c1 : cv.isTop = false := by rw [hcv]; rfl
   have c2 : cv.isAgg = true := by rw [hcv]; rfl
   have c3 : cv.ncells = 4 := by rw [hcv]; rfl
   have hms := midL_set hd (H.length + 3)
   have hfl : F.length = H.length + 3 + Nd.sizeL (t.kids.take k) := by omega
   rw [← hfl,hcv2] at hms
   have hup : ((midL t.kids k (H.length + 3)).getD k AV.top).upd 0 cv = cv := by rw [hg,hcv]; rfl
   have hel : 4 ≤ ((midL t.kids k (H.length + 3)).getD k AV.top).ncells ∧ ((midL t.kids k (H.length + 3)).getD k AV.top).isAgg = true := by rw [hg]; exact ⟨Nat.le_refl _,rfl⟩
   simp -implicitDefEqProofs (maxSteps := 99999999) (disch := first | omega | (simp only [AHeap.set_length,killO_length,List.length_cons,List.length_nil]; first | done | omega)) only [mk,d1,g2,hml,c1,c2,c3,hup,hms,va,vg,vs,vw,Nat.reduceMul,ite_true,ite_false,eq_self,forall_const,implies_true,Nat.reduceAdd,Nat.reduceSub,Nat.reduceLT,Nat.reduceLeDiff,↓reduceIte,reduceCtorEq,Int.reduceEq,Int.reduceLT,Int.reduceLE,Int.reduceGT,Int.reduceGE,Int.reduceAdd,Int.reduceSub,Int.reduceNeg,Int.reduceToNat,Nat.reduceBEq,Nat.reduceEqDiff]
   refine ⟨by omega,⟨hd,hel⟩,hL2 _ _ ⟨k + 1,by omega,?_,by simp [Fr]⟩ (by simp [intV,mk]; omega)⟩
   have hm1 : midL t.kids (k + 1) (H.length + 3) ≠ [] := fun e => by have := midL_length t.kids (k + 1) (H.length + 3); rw [e] at this; simp at this; omega
   rw [← hG,set_appendT (by omega),List.take_succ_eq_append_getElem hd,cpBL_append,OwnB_ne hm1,← nthN_eq hd]
   simp only [cpBL,List.nil_append,List.append_assoc]
   rw [← hfl]
   congr 1
   rw [hFe,set_appendT (by simp),set_top (by simp)]
  ·have d1 : ¬ (k : Int) < t.kids.length := by omega
   have ht : t.kids.take k = t.kids := List.take_of_length_le (by omega)
   rw [ht,midL_all hd] at hFe
   rw [ht] at f0
   rw [hbx2] at f3
   simp -implicitDefEqProofs (maxSteps := 99999999) (disch := first | omega | (simp only [AHeap.set_length,killO_length,List.length_cons,List.length_nil]; first | done | omega)) only [mk,d1,va,vg,vs,vw,Nat.reduceMul,ite_true,ite_false,eq_self,forall_const,implies_true,Nat.reduceAdd,Nat.reduceSub,Nat.reduceLT,Nat.reduceLeDiff,↓reduceIte,reduceCtorEq,Int.reduceEq,Int.reduceLT,Int.reduceLE,Int.reduceGT,Int.reduceGE,Int.reduceAdd,Int.reduceSub,Int.reduceNeg,Int.reduceToNat,Nat.reduceBEq,Nat.reduceEqDiff]
   refine hL _ _ ?_
   clear hL
   simp -implicitDefEqProofs (maxSteps := 99999999) (disch := first | omega | (simp only [AHeap.set_length,killO_length,List.length_cons,List.length_nil]; first | done | omega)) only [vu,f1,f3,q1,q2,q3,q4,va,vg,vs,vw,Nat.reduceMul,ite_true,ite_false,eq_self,forall_const,implies_true,Nat.reduceAdd,Nat.reduceSub,Nat.reduceLT,Nat.reduceLeDiff,↓reduceIte,reduceCtorEq,Int.reduceEq,Int.reduceLT,Int.reduceLE,Int.reduceGT,Int.reduceGE,Int.reduceAdd,Int.reduceSub,Int.reduceNeg,Int.reduceToNat,Nat.reduceBEq,Nat.reduceEqDiff]
   rw [cpV_eq]
   have hkv3 : kv = OwnV 4 (cpL t.kids (H.length + 2 + 1)) (H.length + 2) := by
    rw [← hkv]
    exact OwnV_len (by rw [ndL_length,cpL_length])
   have hFl : F = lays (obs (cpO t (H.length + 2))) (some bx2 :: some bx1 :: H) := by
    rw [hFe,cpBL_lays,cpO_eq]
    rfl
   have hse := Nd.size_eq t
   have hsl : ((List.range t.size).map (· + (H.length + 2))).length = t.size := by simp
   have hsn : ((List.range t.size).map (· + (H.length + 2))).Nodup := nodup_map (fun i j h => by omega)
   have hsi : ∀ i,i < t.size → ((List.range t.size).map (· + (H.length + 2)))[i]? = some (H.length + 2 + i) := fun i hi => by simp [hi]; omega
   have hN : ∀ j,j < t.size → newId H.length ((List.range t.size).map (· + (H.length + 2))) (H.length + 2 + j) = some (H.length + j) := fun j hj => newId_atT hsn (hsi j hj) (by omega)
   refine weak_gen ((List.range t.size).map (· + (H.length + 2))) (by rw [List.length_append,cpB_length,hsl]; omega) hsn (fun s hs => ?_) (fun id b hid hb => ?_) (fun i s b hs hb => ?_) ?_
   ·obtain ⟨i,_,rfl⟩ := List.mem_map.1 hs
    omega
   ·rw [AHeap.find_append hid] at hb
    refine .inl ⟨hb,?_⟩
    rw [AHeap.find_set_ne (by omega),hFl,lays_old (by simp; omega),find_past (by simp; omega),find_past hid,hb]
   ·have hi : i < t.size := by
     have := (List.getElem?_eq_some_iff.1 hs).1
     rwa [hsl] at this
    rw [hsi i hi] at hs
    cases hs
    obtain ⟨ys,hy⟩ : ∃ ys,(cpO t H.length)[i]? = some ys := ⟨_,List.getElem?_eq_getElem (by rw [cpO_length]; exact hi)⟩
    rw [cpB_lays,lays_new (b := OwnB 4 25 ys) (by simp [obs,hy])] at hb
    obtain ⟨hn,rfl⟩ := OwnB_some hb
    obtain ⟨xs,hx,hg⟩ := cpO_gz (F := AHeap.set F (H.length + 1) (some ⟨4,[.agg [.sc (.int .u8 t.kind),.sc (.string t.text),.sc (.int .i64 t.num),kv]],true,25⟩)) (s0 := H.length + 2) (n0 := H.length) hN t 0 (by omega) i ys hy
    have hxn : xs ≠ [] := fun e => hn (by have := hg.len; rw [e] at this; exact List.length_eq_zero_iff.1 (by simpa using this))
    refine ⟨⟨4,xs,false,25⟩,?_,rfl,rfl,fun h => h,hg⟩
    have := lays_new (H := some bx2 :: some bx1 :: H) (b := OwnB 4 25 xs) (bs := obs (cpO t (H.length + 2))) (i := i) (by simpa [obs] using ⟨_,hx,rfl⟩)
    rw [AHeap.find_set_ne (by omega),hFl,← OwnB_ne hxn,← this]
    congr 1
   ·refine .agg (.cons (.same trivial) (.cons (.same trivial) (.cons (.same trivial) (.cons ?_ .nil))))
    rw [hkv3,OwnV_len (show (cpL t.kids (H.length + 1)).length = (cpL t.kids (H.length + 2 + 1)).length by rw [cpL_length,cpL_length])]
    exact OwnV_gz fun _ => hN 0 (by omega)
end Go.Proofs.YtfnahogjkgcklaaDoor
