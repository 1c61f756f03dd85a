/- Trees in memory of their own: the layout; slices.Clone. -/
import Derived.Test.YtfnahogjkgcklaaDoorS253
namespace Go.Proofs.YtfnahogjkgcklaaDoor
open Go.RowKit
set_option maxRecDepth 100000
set_option linter.unusedVariables false
set_option linter.unusedSimpArgs false
mutual
def cpV : Nd → Nat → AV
 | ⟨k,s,n,l⟩,a => .agg [.sc (.int .u8 k),.sc (.string s),.sc (.int .i64 n),OwnV 4 (cpL l (a + 1)) a]
def cpL : List Nd → Nat → List AV
 | [],_ => []
 | t :: r,a => cpV t a :: cpL r (a + t.size)
end
mutual
def cpB : Nd → Nat → AHeap
 | ⟨_,_,_,l⟩,a => cpBL l (a + 1) ++ [OwnB 4 25 (cpL l (a + 1))]
def cpBL : List Nd → Nat → AHeap
 | [],_ => []
 | t :: r,a => cpBL r (a + t.size) ++ cpB t a
end
theorem cpV_eq (t : Nd) (a : Nat) : cpV t a = .agg [.sc (.int .u8 t.kind),.sc (.string t.text),.sc (.int .i64 t.num),OwnV 4 (cpL t.kids (a + 1)) a] := by cases t; simp [cpV,Nd.kind,Nd.text,Nd.num,Nd.kids]
theorem cpB_eq (t : Nd) (a : Nat) : cpB t a = cpBL t.kids (a + 1) ++ [OwnB 4 25 (cpL t.kids (a + 1))] := by cases t; simp [cpB,Nd.kids]
theorem cpL_length (l : List Nd) : ∀ a,(cpL l a).length = l.length := by
 induction l with
 | nil => intro a; rfl
 | cons x r ih => intro a; simp [cpL,ih]
theorem cpB_length (t : Nd) : ∀ a,(cpB t a).length = t.size := by
 induction t using Nd.ind with
 | _ t ih =>
  intro a
  have key : ∀ (l : List Nd),(∀ k ∈ l,∀ a,(cpB k a).length = k.size) → ∀ a,(cpBL l a).length = Nd.sizeL l := by
   intro l
   induction l with
   | nil => intro _ a; rfl
   | cons x r ihr =>
    intro h a
    simp only [cpBL,List.length_append,Nd.sizeL,ihr fun k hk => h k (by simp [hk]),h x (by simp)]
    omega
  rw [cpB_eq,List.length_append,key _ ih,Nd.size_eq]
  simp
  omega
theorem cpBL_length (l : List Nd) : ∀ a,(cpBL l a).length = Nd.sizeL l := by
 induction l with
 | nil => intro a; rfl
 | cons x r ih =>
  intro a
  simp only [cpBL,List.length_append,Nd.sizeL,ih,cpB_length]
  omega
theorem cpL_append (p q : List Nd) : ∀ a,cpL (p ++ q) a = cpL p a ++ cpL q (a + Nd.sizeL p) := by
 induction p with
 | nil => intro a; simp [cpL,Nd.sizeL]
 | cons x r ih =>
  intro a
  simp only [List.cons_append,cpL,ih,Nd.sizeL]
  rw [show a + (x.size + Nd.sizeL r) = a + x.size + Nd.sizeL r by omega]
theorem cpBL_append (p q : List Nd) : ∀ a,cpBL (p ++ q) a = cpBL q (a + Nd.sizeL p) ++ cpBL p a := by
 induction p with
 | nil => intro a; simp [cpBL,Nd.sizeL]
 | cons x r ih =>
  intro a
  simp only [List.cons_append,cpBL,ih,Nd.sizeL,List.append_assoc]
  rw [show a + (x.size + Nd.sizeL r) = a + x.size + Nd.sizeL r by omega]
theorem weak_ownT {H F : AHeap} {k io : Nat} {ty : TypeId} {xs : List AV} (ho : ∀ id,id < H.length → AHeap.find F id = AHeap.find H id) (hf : xs ≠ [] → AHeap.find F io = OwnB k ty xs ∧ H.length ≤ io) (hz : ∀ s,GzL F H.length [s] xs xs) {x : AV} (hx : xs = [] → ∃ k',x = .lst k' [] (some [])) (hx2 : xs ≠ [] → x = OwnV k xs io) :
  Weak H (.ret x) F (.ret (OwnV k xs H.length)) (OwnB k ty xs :: H) := by
 by_cases e : xs = []
 ·subst e
  obtain ⟨k',rfl⟩ := hx rfl
  refine weak_gen [H.length] (by simp) (by simp) (by simp) (fun id k hid hk => .inl ?_) (fun i s k hs hk => ?_) .nil0
  ·rw [find_past (by omega)] at hk
   exact ⟨hk,by rw [ho id hid]; exact hk⟩
  ·rcases i with _ | i
   ·rw [Nat.add_zero,find_top rfl] at hk
    simp [OwnB] at hk
   ·simp at hs
 ·obtain ⟨h1,h2⟩ := hf e
  rw [hx2 e,OwnV_ne e,OwnV_ne e]
  rw [OwnB_ne e] at h1 ⊢
  refine weak_gen [io] (by simp) (by simp) (by simpa using h2) (fun id k hid hk => .inl ?_) (fun i s k hs hk => ?_) (.vecR (newId_one h2) (.inl rfl))
  ·rw [find_past (by omega)] at hk
   exact ⟨hk,by rw [ho id hid]; exact hk⟩
  ·rcases i with _ | i
   ·simp at hs
    subst hs
    rw [Nat.add_zero,find_top rfl] at hk
    cases hk
    exact ⟨_,h1,rfl,rfl,fun h => h,hz _⟩
   ·simp at hs
set_option maxHeartbeats 0 in
theorem cloneN_d (l : List Nd) (hl : l.length ≤ 90000000) (ro : Option (List AV)) (H : AHeap) : D Tryd.prog 64 [.lst 4 (ndL l) ro] H (.ret (OwnV 4 (ndL l) H.length)) (OwnB 4 25 (ndL l) :: H) := by
 refine D_of_DK (by simp) (dk64 (E_of_ES ?_))
 simp only [ic64,ux]
 cases l with
 | nil =>
  rw [ndL_nil]
  simp -implicitDefEqProofs (maxSteps := 99999999) (disch := first | omega | (simp only [AHeap.set_length,killO_length,List.length_cons,List.length_nil]; first | done | omega)) only [vu,va,vg,vs,vw,Nat.reduceMul,ite_true,ite_false,eq_self,forall_const,implies_true,Nat.reduceAdd,Nat.reduceSub,Nat.reduceLT,Nat.reduceLeDiff,↓reduceIte,reduceCtorEq,Int.reduceEq,Int.reduceLT,Int.reduceLE,Int.reduceGT,Int.reduceGE,Int.reduceAdd,Int.reduceSub,Int.reduceNeg,Int.reduceToNat,Nat.reduceBEq,Nat.reduceEqDiff]
  refine condR_u ?_ ?_
  ·simp -implicitDefEqProofs (maxSteps := 99999999) (disch := first | omega | (simp only [AHeap.set_length,killO_length,List.length_cons,List.length_nil]; first | done | omega)) only [vu,va,vg,vs,vw,Nat.reduceMul,ite_true,ite_false,eq_self,forall_const,implies_true,Nat.reduceAdd,Nat.reduceSub,Nat.reduceLT,Nat.reduceLeDiff,↓reduceIte,reduceCtorEq,Int.reduceEq,Int.reduceLT,Int.reduceLE,Int.reduceGT,Int.reduceGE,Int.reduceAdd,Int.reduceSub,Int.reduceNeg,Int.reduceToNat,Nat.reduceBEq,Nat.reduceEqDiff]
   exact weak_ownT (io := 0) (fun _ _ => rfl) (fun h => (h rfl).elim) (fun _ => .nil) (fun _ => ⟨_,rfl⟩) (fun h => (h rfl).elim)
  ·simp -implicitDefEqProofs (maxSteps := 99999999) (disch := first | omega | (simp only [AHeap.set_length,killO_length,List.length_cons,List.length_nil]; first | done | omega)) only [vu,va,vg,vs,vw,Nat.reduceMul,ite_true,ite_false,eq_self,forall_const,implies_true,Nat.reduceAdd,Nat.reduceSub,Nat.reduceLT,Nat.reduceLeDiff,↓reduceIte,reduceCtorEq,Int.reduceEq,Int.reduceLT,Int.reduceLE,Int.reduceGT,Int.reduceGE,Int.reduceAdd,Int.reduceSub,Int.reduceNeg,Int.reduceToNat,Nat.reduceBEq,Nat.reduceEqDiff]
   exact weak_ownT (io := 0) (fun _ _ => rfl) (fun h => (h rfl).elim) (fun _ => .nil) (fun _ => ⟨_,rfl⟩) (fun h => (h rfl).elim)
 | cons x r =>
  rw [ndL_cons]
  simp -implicitDefEqProofs (maxSteps := 99999999) (disch := first | omega | (simp only [AHeap.set_length,killO_length,List.length_cons,List.length_nil]; first | done | omega)) only [vu,va,vg,vs,vw,Nat.reduceMul,ite_true,ite_false,eq_self,forall_const,implies_true,Nat.reduceAdd,Nat.reduceSub,Nat.reduceLT,Nat.reduceLeDiff,↓reduceIte,reduceCtorEq,Int.reduceEq,Int.reduceLT,Int.reduceLE,Int.reduceGT,Int.reduceGE,Int.reduceAdd,Int.reduceSub,Int.reduceNeg,Int.reduceToNat,Nat.reduceBEq,Nat.reduceEqDiff]
  exact ⟨by rw [ndL_length]; simp at hl; omega,Weak.refl _ _ _⟩
end Go.Proofs.YtfnahogjkgcklaaDoor
