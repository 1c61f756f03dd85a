/- Values: of one kind; tried. -/
import Derived.Test.YtpnnpooeheiedaaDoorS181
namespace Go.Proofs.YtpnnpooeheiedaaDoor
open Go.RowKit
set_option maxRecDepth 100000
set_option linter.unusedVariables false
set_option linter.unusedSimpArgs false
/-- Any row's form: what a value's third cell is. -/
def vals (l : List (Vl × AV)) : List AV := l.map fun p => .agg [.sc (.int .u8 p.1.kind),.sc (.int .i64 p.1.num),p.2]
theorem vals_length (l : List (Vl × AV)) : (vals l).length = l.length := by simp [vals]
theorem vals_get {l : List (Vl × AV)} {k : Nat} (h : k < l.length) : (vals l).getD k .top = .agg [.sc (.int .u8 l[k].1.kind),.sc (.int .i64 l[k].1.num),l[k].2] := by simp [vals,List.getD,h]
theorem over_p {F H : AHeap} (h : Over H F) {e : Int} : Weak H (.pan (errA e)) F (.pan (errA e)) H := by
 obtain ⟨A,rfl⟩ := h.split
 exact weak_gen [] (by simp) (by simp) (by simp) (fun id k hid hk => .inl ⟨hk,by rw [AHeap.find_append hid]; exact hk⟩) (fun i s k hs => by simp at hs) (.same (by simp [errA,AV.ids]))
theorem over_u {F H : AHeap} (h : Over H F) : Weak H (.ret (.tup [])) F (.ret (.tup [])) H := weak_over h (.same (by simp [AV.ids,AV.idsL]))
set_option maxHeartbeats 4000000 in
theorem kind_d (k : Int) (l : List (Vl × AV)) (ro : Option (List AV)) (hl : l.length ≤ 1000000) (h1 : ∀ p ∈ l,p.2.isAgg = false ∧ p.2.isTop = false) (H : AHeap) : D Tryd.prog 35 [.sc (.int .u8 k),.lst 3 (vals l) ro] H (if ∀ p ∈ l,p.1.kind = k then .ret (.tup []) else .pan (errA 200)) H := by
 obtain ⟨R,hR⟩ : ∃ R : AEnd,R = (if ∀ p ∈ l,p.1.kind = k then .ret (.tup []) else .pan (errA 200)) := ⟨_,rfl⟩
 rw [← hR]
 have hR1 : (∀ p ∈ l,p.1.kind = k) → R = .ret (.tup []) := fun h => by rw [hR,if_pos h]
 have hR2 : (¬ ∀ p ∈ l,p.1.kind = k) → R = .pan (errA 200) := fun h => by rw [hR,if_neg h]
 clear hR
 refine D_of_DK (Nat.le_refl _) (dk35 (E_of_ES ?_))
 simp only [ic35,ux]
 refine ES_seq_gen fun L hL => ?_
 simp -implicitDefEqProofs (maxSteps := 99999999) (disch := first | omega | (simp only [AHeap.set_length,killO_length,List.length_cons,List.length_nil]; first | done | omega)) only [vals_length,va,vg,vs,vw,Nat.reduceMul,ite_true,ite_false,eq_self,forall_const,implies_true,Nat.reduceAdd,Nat.reduceSub,Nat.reduceLT,Nat.reduceLeDiff,↓reduceIte,reduceCtorEq,Int.reduceEq,Int.reduceLT,Int.reduceLE,Int.reduceGT,Int.reduceGE,Int.reduceAdd,Int.reduceSub,Int.reduceNeg,Int.reduceToNat,Nat.reduceBEq,Nat.reduceEqDiff]
 refine hL _ _ ?_
 clear hL
 refine ES_loopL (fun ts F => ∃ i : Nat,(i ≤ l.length ∧ (∀ j (h : j < l.length),j < i → l[j].1.kind = k)) ∧ Over H F ∧ Fr [some (.sc (.int .u8 k)),none,none,none,none,none,some (.lst 3 (vals l) ro),some (.sc (.int .i64 l.length)),some (.sc (.int .i64 i)),none,none,none,none,none,none,none,none,none] ts) (fun ts _ => l.length - (intV (ts.getD 8 .top)).toNat) ?_ ?_
 ·exact ⟨0,⟨Nat.zero_le _,fun j h hj => by omega⟩,.refl,by simp [Fr]⟩
 rintro ts F ⟨i,⟨hi,hp⟩,hov,hfr⟩ L2 hL2
 obtain ⟨js,rfl⟩ := hfr.opened
 clear hfr
 by_cases hd : i < l.length
 ·have c1 : (i : Int) < l.length := by omega
  obtain ⟨e2,e3⟩ := h1 _ (List.getElem_mem hd)
  have hg := vals_get hd
  by_cases e1 : l[i].1.kind = k
  ·simp -implicitDefEqProofs (maxSteps := 99999999) (disch := first | omega | (simp only [AHeap.set_length,killO_length,List.length_cons,List.length_nil]; first | done | omega)) only [mk,c1,vals_length,hg,e1,e2,e3,va,vg,vs,vw,Nat.reduceMul,ite_true,ite_false,eq_self,forall_const,implies_true,Nat.reduceAdd,Nat.reduceSub,Nat.reduceLT,Nat.reduceLeDiff,↓reduceIte,reduceCtorEq,Int.reduceEq,Int.reduceLT,Int.reduceLE,Int.reduceGT,Int.reduceGE,Int.reduceAdd,Int.reduceSub,Int.reduceNeg,Int.reduceToNat,Nat.reduceBEq,Nat.reduceEqDiff]
   refine ⟨by omega,callR_ret (vmust_t _ _) ?_⟩
   simp -implicitDefEqProofs (maxSteps := 99999999) (disch := first | omega | (simp only [AHeap.set_length,killO_length,List.length_cons,List.length_nil]; first | done | omega)) only [va,vg,vs,vw,Nat.reduceMul,ite_true,ite_false,eq_self,forall_const,implies_true,Nat.reduceAdd,Nat.reduceSub,Nat.reduceLT,Nat.reduceLeDiff,↓reduceIte,reduceCtorEq,Int.reduceEq,Int.reduceLT,Int.reduceLE,Int.reduceGT,Int.reduceGE,Int.reduceAdd,Int.reduceSub,Int.reduceNeg,Int.reduceToNat,Nat.reduceBEq,Nat.reduceEqDiff]
   refine hL2 _ _ ⟨i + 1,⟨by omega,fun j h hj => ?_⟩,.cons hov,by simp [Fr]⟩ (by simp [intV,mk]; omega)
   rcases Nat.lt_succ_iff_lt_or_eq.1 hj with h' | rfl
   ·exact hp j h h'
   ·exact e1
  ·simp -implicitDefEqProofs (maxSteps := 99999999) (disch := first | omega | (simp only [AHeap.set_length,killO_length,List.length_cons,List.length_nil]; first | done | omega)) only [mk,c1,vals_length,hg,e1,e2,e3,va,vg,vs,vw,Nat.reduceMul,ite_true,ite_false,eq_self,forall_const,implies_true,Nat.reduceAdd,Nat.reduceSub,Nat.reduceLT,Nat.reduceLeDiff,↓reduceIte,reduceCtorEq,Int.reduceEq,Int.reduceLT,Int.reduceLE,Int.reduceGT,Int.reduceGE,Int.reduceAdd,Int.reduceSub,Int.reduceNeg,Int.reduceToNat,Nat.reduceBEq,Nat.reduceEqDiff]
   refine ⟨by omega,callR_pan (vmust_f _ _) ?_⟩
   rw [hR2 fun h => e1 (h _ (List.getElem_mem hd))]
   exact over_p (.cons hov)
 ·have c1 : ¬ (i : Int) < l.length := by omega
  simp -implicitDefEqProofs (maxSteps := 99999999) (disch := first | omega | (simp only [AHeap.set_length,killO_length,List.length_cons,List.length_nil]; first | done | omega)) only [mk,c1,va,vg,vs,vw,Nat.reduceMul,ite_true,ite_false,eq_self,forall_const,implies_true,Nat.reduceAdd,Nat.reduceSub,Nat.reduceLT,Nat.reduceLeDiff,↓reduceIte,reduceCtorEq,Int.reduceEq,Int.reduceLT,Int.reduceLE,Int.reduceGT,Int.reduceGE,Int.reduceAdd,Int.reduceSub,Int.reduceNeg,Int.reduceToNat,Nat.reduceBEq,Nat.reduceEqDiff]
  rw [hR1 fun p hpm => ?_]
  ·exact over_u hov
  ·obtain ⟨j,hj,rfl⟩ := List.getElem_of_mem hpm
   exact hp j hj (by omega)
/-- What is tried ends well. -/
theorem tried_t {g : FuncId} {caps : List AV} {H : AHeap} {k n : Int} (hg : callable Tryd.prog g = true) (h : ∀ G : AHeap,(∀ id,id < H.length → AHeap.find G id = AHeap.find H id) → H.length ≤ G.length → D Tryd.prog g caps G (.ret (nvA k n)) G) :
  D Tryd.prog 39 [.fn (.func g) [] caps] H (.ret (.tup [nvA k n,.sc (.int .i64 0)])) H := by
 refine D_of_DK (Nat.le_refl _) (dk39 ?_)
 simp -implicitDefEqProofs (maxSteps := 99999999) (disch := first | omega | (simp only [AHeap.set_length,killO_length,List.length_cons,List.length_nil]; first | done | omega)) only [vu,ic39,ic39b,ic56,ic56b,va,vg,vs,vw,Nat.reduceMul,ite_true,ite_false,eq_self,forall_const,implies_true,Nat.reduceAdd,Nat.reduceSub,Nat.reduceLT,Nat.reduceLeDiff,↓reduceIte,reduceCtorEq,Int.reduceEq,Int.reduceLT,Int.reduceLE,Int.reduceGT,Int.reduceGE,Int.reduceAdd,Int.reduceSub,Int.reduceNeg,Int.reduceToNat,Nat.reduceBEq,Nat.reduceEqDiff]
 refine ⟨hg,callR_ret (h _ (fun id hid => by simp -implicitDefEqProofs (maxSteps := 99999999) (disch := first | omega | (simp only [AHeap.set_length,killO_length,List.length_cons,List.length_nil]; first | done | omega)) only [va,vg,vs,vw,Nat.reduceMul,ite_true,ite_false,eq_self,forall_const,implies_true,Nat.reduceAdd,Nat.reduceSub,Nat.reduceLT,Nat.reduceLeDiff,↓reduceIte,reduceCtorEq,Int.reduceEq,Int.reduceLT,Int.reduceLE,Int.reduceGT,Int.reduceGE,Int.reduceAdd,Int.reduceSub,Int.reduceNeg,Int.reduceToNat,Nat.reduceBEq,Nat.reduceEqDiff]) (by simp; omega)) ?_⟩
 simp -implicitDefEqProofs (maxSteps := 99999999) (disch := first | omega | (simp only [AHeap.set_length,killO_length,List.length_cons,List.length_nil]; first | done | omega)) only [vu,nvA_eq,va,vg,vs,vw,Nat.reduceMul,ite_true,ite_false,eq_self,forall_const,implies_true,Nat.reduceAdd,Nat.reduceSub,Nat.reduceLT,Nat.reduceLeDiff,↓reduceIte,reduceCtorEq,Int.reduceEq,Int.reduceLT,Int.reduceLE,Int.reduceGT,Int.reduceGE,Int.reduceAdd,Int.reduceSub,Int.reduceNeg,Int.reduceToNat,Nat.reduceBEq,Nat.reduceEqDiff]
 exact weak_over (.cons (.cons .refl)) (.same (by simp [AV.ids,AV.idsL,AV.idsM]))
theorem tried_p {g : FuncId} {caps : List AV} {H : AHeap} {e : Int} (hg : callable Tryd.prog g = true) (h : ∀ G : AHeap,(∀ id,id < H.length → AHeap.find G id = AHeap.find H id) → H.length ≤ G.length → D Tryd.prog g caps G (.pan (errA e)) G) :
  D Tryd.prog 39 [.fn (.func g) [] caps] H (.ret (.tup [nvA 0 0,.sc (.int .i64 e)])) H := by
 refine D_of_DK (Nat.le_refl _) (dk39 ?_)
 simp -implicitDefEqProofs (maxSteps := 99999999) (disch := first | omega | (simp only [AHeap.set_length,killO_length,List.length_cons,List.length_nil]; first | done | omega)) only [vu,ic39,ic39b,ic56,ic56b,va,vg,vs,vw,Nat.reduceMul,ite_true,ite_false,eq_self,forall_const,implies_true,Nat.reduceAdd,Nat.reduceSub,Nat.reduceLT,Nat.reduceLeDiff,↓reduceIte,reduceCtorEq,Int.reduceEq,Int.reduceLT,Int.reduceLE,Int.reduceGT,Int.reduceGE,Int.reduceAdd,Int.reduceSub,Int.reduceNeg,Int.reduceToNat,Nat.reduceBEq,Nat.reduceEqDiff]
 refine ⟨hg,callR_pan (h _ (fun id hid => by simp -implicitDefEqProofs (maxSteps := 99999999) (disch := first | omega | (simp only [AHeap.set_length,killO_length,List.length_cons,List.length_nil]; first | done | omega)) only [va,vg,vs,vw,Nat.reduceMul,ite_true,ite_false,eq_self,forall_const,implies_true,Nat.reduceAdd,Nat.reduceSub,Nat.reduceLT,Nat.reduceLeDiff,↓reduceIte,reduceCtorEq,Int.reduceEq,Int.reduceLT,Int.reduceLE,Int.reduceGT,Int.reduceGE,Int.reduceAdd,Int.reduceSub,Int.reduceNeg,Int.reduceToNat,Nat.reduceBEq,Nat.reduceEqDiff]) (by simp; omega)) ?_⟩
 simp -implicitDefEqProofs (maxSteps := 99999999) (disch := first | omega | (simp only [AHeap.set_length,killO_length,List.length_cons,List.length_nil]; first | done | omega)) only [vu,nvA_eq,errA,va,vg,vs,vw,Nat.reduceMul,ite_true,ite_false,eq_self,forall_const,implies_true,Nat.reduceAdd,Nat.reduceSub,Nat.reduceLT,Nat.reduceLeDiff,↓reduceIte,reduceCtorEq,Int.reduceEq,Int.reduceLT,Int.reduceLE,Int.reduceGT,Int.reduceGE,Int.reduceAdd,Int.reduceSub,Int.reduceNeg,Int.reduceToNat,Nat.reduceBEq,Nat.reduceEqDiff]
 exact weak_over (.cons (.cons .refl)) (.same (by simp [AV.ids,AV.idsL,AV.idsM]))
/-- What an operator makes: a value, or an error. -/
abbrev Opr := (Int × Int) ⊕ Int
def opEnd : Opr → AEnd
 | .inl (k,n) => .ret (nvA k n)
 | .inr e => .pan (errA e)
def opTup : Opr → AV
 | .inl (k,n) => .tup [nvA k n,.sc (.int .i64 0)]
 | .inr e => .tup [nvA 0 0,.sc (.int .i64 e)]
theorem tried_d {g : FuncId} {caps : List AV} {H : AHeap} (r : Opr) (hg : callable Tryd.prog g = true) (h : ∀ G : AHeap,(∀ id,id < H.length → AHeap.find G id = AHeap.find H id) → H.length ≤ G.length → D Tryd.prog g caps G (opEnd r) G) :
  D Tryd.prog 39 [.fn (.func g) [] caps] H (.ret (opTup r)) H := by
 rcases r with ⟨k,n⟩ | e
 ·exact tried_t hg h
 ·exact tried_p hg h
/-- A value as a callee sees it. -/
def vl1 (v : Vl) (ro : Option (List AV)) : Vl × AV := (v,.lst 1 (lng v.row) ro)
theorem kind1 (k : Int) (v : Vl) (ro : Option (List AV)) (H : AHeap) : D Tryd.prog 35 [.sc (.int .u8 k),.lst 3 [vlA v ro] (some [])] H (if v.kind = k then .ret (.tup []) else .pan (errA 200)) H := by
 have h := kind_d k [vl1 v ro] (some []) (by simp) (by simp [vl1,AV.isAgg,AV.isTop]) H
 simpa [vl1,vals,vlA] using h
theorem kind2 (k : Int) (v w : Vl) (ro rp : Option (List AV)) (H : AHeap) : D Tryd.prog 35 [.sc (.int .u8 k),.lst 3 [vlA v ro,vlA w rp] (some [])] H (if v.kind = k ∧ w.kind = k then .ret (.tup []) else .pan (errA 200)) H := by
 have h := kind_d k [vl1 v ro,vl1 w rp] (some []) (by simp) (by simp [vl1,AV.isAgg,AV.isTop]) H
 simpa [vl1,vals,vlA] using h
def negR (v : Vl) : Opr := if v.kind = 1 then .inl (1,IntKind.i64.wrap (0 - v.num)) else .inr 200
def notR (v : Vl) : Opr := if v.kind = 2 then .inl (2,if v.num = 0 then 1 else 0) else .inr 200
theorem neg_d (v : Vl) (ro : Option (List AV)) (G : AHeap) (id : Nat) (hf : AHeap.find G id = some ⟨3,[vlA v ro],true,25⟩) : D Tryd.prog 34 [.ptr 3 id 0 0] G (opEnd (negR v)) G := by
 refine D_of_DK (by cases negR v <;> exact Nat.le_refl _) (dk34 (E_of_ES ?_))
 have hid := AHeap.find_lt hf
 have hk := kind1 1 v ro
 rw [vlA_eq] at hf hk
 by_cases c : v.kind = 1
 ·simp only [c,if_true] at hk
  rw [show negR v = .inl (1,IntKind.i64.wrap (0 - v.num)) from if_pos c]
  simp -implicitDefEqProofs (maxSteps := 99999999) (disch := first | omega | (simp only [AHeap.set_length,killO_length,List.length_cons,List.length_nil]; first | done | omega)) only [vu,ic34,hf,c,va,vg,vs,vw,Nat.reduceMul,ite_true,ite_false,eq_self,forall_const,implies_true,Nat.reduceAdd,Nat.reduceSub,Nat.reduceLT,Nat.reduceLeDiff,↓reduceIte,reduceCtorEq,Int.reduceEq,Int.reduceLT,Int.reduceLE,Int.reduceGT,Int.reduceGE,Int.reduceAdd,Int.reduceSub,Int.reduceNeg,Int.reduceToNat,Nat.reduceBEq,Nat.reduceEqDiff]
  refine callR_ret (hk _) ?_
  simp -implicitDefEqProofs (maxSteps := 99999999) (disch := first | omega | (simp only [AHeap.set_length,killO_length,List.length_cons,List.length_nil]; first | done | omega)) only [vu,hf,c,va,vg,vs,vw,Nat.reduceMul,ite_true,ite_false,eq_self,forall_const,implies_true,Nat.reduceAdd,Nat.reduceSub,Nat.reduceLT,Nat.reduceLeDiff,↓reduceIte,reduceCtorEq,Int.reduceEq,Int.reduceLT,Int.reduceLE,Int.reduceGT,Int.reduceGE,Int.reduceAdd,Int.reduceSub,Int.reduceNeg,Int.reduceToNat,Nat.reduceBEq,Nat.reduceEqDiff]
  refine callR_ret (vnumber_d _ _) ?_
  simp -implicitDefEqProofs (maxSteps := 99999999) (disch := first | omega | (simp only [AHeap.set_length,killO_length,List.length_cons,List.length_nil]; first | done | omega)) only [vu,nvA_eq,va,vg,vs,vw,Nat.reduceMul,ite_true,ite_false,eq_self,forall_const,implies_true,Nat.reduceAdd,Nat.reduceSub,Nat.reduceLT,Nat.reduceLeDiff,↓reduceIte,reduceCtorEq,Int.reduceEq,Int.reduceLT,Int.reduceLE,Int.reduceGT,Int.reduceGE,Int.reduceAdd,Int.reduceSub,Int.reduceNeg,Int.reduceToNat,Nat.reduceBEq,Nat.reduceEqDiff]
  exact over_n (.cons .refl)
 ·simp only [c,if_false] at hk
  rw [show negR v = .inr 200 from if_neg c]
  simp -implicitDefEqProofs (maxSteps := 99999999) (disch := first | omega | (simp only [AHeap.set_length,killO_length,List.length_cons,List.length_nil]; first | done | omega)) only [vu,ic34,hf,va,vg,vs,vw,Nat.reduceMul,ite_true,ite_false,eq_self,forall_const,implies_true,Nat.reduceAdd,Nat.reduceSub,Nat.reduceLT,Nat.reduceLeDiff,↓reduceIte,reduceCtorEq,Int.reduceEq,Int.reduceLT,Int.reduceLE,Int.reduceGT,Int.reduceGE,Int.reduceAdd,Int.reduceSub,Int.reduceNeg,Int.reduceToNat,Nat.reduceBEq,Nat.reduceEqDiff]
  refine callR_pan (hk _) ?_
  exact over_p (.cons .refl)
theorem not_d (v : Vl) (ro : Option (List AV)) (G : AHeap) (id : Nat) (hf : AHeap.find G id = some ⟨3,[vlA v ro],true,25⟩) : D Tryd.prog 37 [.ptr 3 id 0 0] G (opEnd (notR v)) G := by
 refine D_of_DK (by cases notR v <;> exact Nat.le_refl _) (dk37 (E_of_ES ?_))
 have hid := AHeap.find_lt hf
 have hk := kind1 2 v ro
 rw [vlA_eq] at hf hk
 by_cases c : v.kind = 2
 ·simp only [c,if_true] at hk
  rw [show notR v = .inl (2,if v.num = 0 then 1 else 0) from if_pos c]
  simp -implicitDefEqProofs (maxSteps := 99999999) (disch := first | omega | (simp only [AHeap.set_length,killO_length,List.length_cons,List.length_nil]; first | done | omega)) only [vu,ic37,hf,c,va,vg,vs,vw,Nat.reduceMul,ite_true,ite_false,eq_self,forall_const,implies_true,Nat.reduceAdd,Nat.reduceSub,Nat.reduceLT,Nat.reduceLeDiff,↓reduceIte,reduceCtorEq,Int.reduceEq,Int.reduceLT,Int.reduceLE,Int.reduceGT,Int.reduceGE,Int.reduceAdd,Int.reduceSub,Int.reduceNeg,Int.reduceToNat,Nat.reduceBEq,Nat.reduceEqDiff]
  refine callR_ret (hk _) ?_
  simp -implicitDefEqProofs (maxSteps := 99999999) (disch := first | omega | (simp only [AHeap.set_length,killO_length,List.length_cons,List.length_nil]; first | done | omega)) only [vu,hf,c,va,vg,vs,vw,Nat.reduceMul,ite_true,ite_false,eq_self,forall_const,implies_true,Nat.reduceAdd,Nat.reduceSub,Nat.reduceLT,Nat.reduceLeDiff,↓reduceIte,reduceCtorEq,Int.reduceEq,Int.reduceLT,Int.reduceLE,Int.reduceGT,Int.reduceGE,Int.reduceAdd,Int.reduceSub,Int.reduceNeg,Int.reduceToNat,Nat.reduceBEq,Nat.reduceEqDiff]
  refine callR_ret (vtruth_d _ _) ?_
  by_cases z : v.num = 0
  ·simp -implicitDefEqProofs (maxSteps := 99999999) (disch := first | omega | (simp only [AHeap.set_length,killO_length,List.length_cons,List.length_nil]; first | done | omega)) only [vu,nvA_eq,z,va,vg,vs,vw,Nat.reduceMul,ite_true,ite_false,eq_self,forall_const,implies_true,Nat.reduceAdd,Nat.reduceSub,Nat.reduceLT,Nat.reduceLeDiff,↓reduceIte,reduceCtorEq,Int.reduceEq,Int.reduceLT,Int.reduceLE,Int.reduceGT,Int.reduceGE,Int.reduceAdd,Int.reduceSub,Int.reduceNeg,Int.reduceToNat,Nat.reduceBEq,Nat.reduceEqDiff]
   exact over_n (.cons .refl)
  ·simp -implicitDefEqProofs (maxSteps := 99999999) (disch := first | omega | (simp only [AHeap.set_length,killO_length,List.length_cons,List.length_nil]; first | done | omega)) only [vu,nvA_eq,z,va,vg,vs,vw,Nat.reduceMul,ite_true,ite_false,eq_self,forall_const,implies_true,Nat.reduceAdd,Nat.reduceSub,Nat.reduceLT,Nat.reduceLeDiff,↓reduceIte,reduceCtorEq,Int.reduceEq,Int.reduceLT,Int.reduceLE,Int.reduceGT,Int.reduceGE,Int.reduceAdd,Int.reduceSub,Int.reduceNeg,Int.reduceToNat,Nat.reduceBEq,Nat.reduceEqDiff]
   exact over_n (.cons .refl)
 ·simp only [c,if_false] at hk
  rw [show notR v = .inr 200 from if_neg c]
  simp -implicitDefEqProofs (maxSteps := 99999999) (disch := first | omega | (simp only [AHeap.set_length,killO_length,List.length_cons,List.length_nil]; first | done | omega)) only [vu,ic37,hf,va,vg,vs,vw,Nat.reduceMul,ite_true,ite_false,eq_self,forall_const,implies_true,Nat.reduceAdd,Nat.reduceSub,Nat.reduceLT,Nat.reduceLeDiff,↓reduceIte,reduceCtorEq,Int.reduceEq,Int.reduceLT,Int.reduceLE,Int.reduceGT,Int.reduceGE,Int.reduceAdd,Int.reduceSub,Int.reduceNeg,Int.reduceToNat,Nat.reduceBEq,Nat.reduceEqDiff]
  refine callR_pan (hk _) ?_
  exact over_p (.cons .refl)
end Go.Proofs.YtpnnpooeheiedaaDoor
