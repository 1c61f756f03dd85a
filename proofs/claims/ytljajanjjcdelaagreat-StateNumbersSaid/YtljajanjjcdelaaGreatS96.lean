/- Where a file stands, or would. -/
import Derived.Test.YtljajanjjcdelaaGreatS95
namespace Go.Proofs.YtljajanjjcdelaaGreat
open Go.RowKit
set_option maxRecDepth 100000
set_option linter.unusedVariables false
set_option linter.unusedSimpArgs false
def cmpS (a b : ByteArray) : Int := if lt a b = true then -1 else if a = b then 0 else 1
theorem isNaN_d (a : ByteArray) (H : AHeap) : D Tryz.prog 112 [.sc (.string a)] H (.ret (.sc (.bool false))) H := by
 refine D_of_DK (Nat.le_refl _) (dk112 (E_of_ES ?_))
 simp -implicitDefEqProofs (maxSteps := 99999999) (disch := omega) only [ic112,va,vg,vs,vh,Nat.reduceMul,ite_true,ite_false,eq_self,forall_const,implies_true,Nat.reduceAdd,Nat.reduceSub,Nat.reduceLT,Nat.reduceLeDiff,↓reduceIte,reduceCtorEq,Int.reduceEq,Int.reduceLT,Int.reduceLE,Int.reduceGT,Int.reduceGE,Int.reduceAdd,Int.reduceSub,Int.reduceNeg,Int.reduceToNat,Nat.reduceBEq,Nat.reduceEqDiff]
 exact weak_sc .refl
theorem compare_d (a b : ByteArray) (H : AHeap) : D Tryz.prog 82 [.sc (.string a),.sc (.string b)] H (.ret (.sc (.int .i64 (cmpS a b)))) H := by
 refine D_of_DK (Nat.le_refl _) (dk82 (E_of_ES ?_))
 simp -implicitDefEqProofs (maxSteps := 99999999) (disch := omega) only [ic82,va,vg,vs,vh,Nat.reduceMul,ite_true,ite_false,eq_self,forall_const,implies_true,Nat.reduceAdd,Nat.reduceSub,Nat.reduceLT,Nat.reduceLeDiff,↓reduceIte,reduceCtorEq,Int.reduceEq,Int.reduceLT,Int.reduceLE,Int.reduceGT,Int.reduceGE,Int.reduceAdd,Int.reduceSub,Int.reduceNeg,Int.reduceToNat,Nat.reduceBEq,Nat.reduceEqDiff]
 refine callR_ret (isNaN_d a _) ?_
 simp -implicitDefEqProofs (maxSteps := 99999999) (disch := omega) only [va,vg,vs,vh,Nat.reduceMul,ite_true,ite_false,eq_self,forall_const,implies_true,Nat.reduceAdd,Nat.reduceSub,Nat.reduceLT,Nat.reduceLeDiff,↓reduceIte,reduceCtorEq,Int.reduceEq,Int.reduceLT,Int.reduceLE,Int.reduceGT,Int.reduceGE,Int.reduceAdd,Int.reduceSub,Int.reduceNeg,Int.reduceToNat,Nat.reduceBEq,Nat.reduceEqDiff]
 refine callR_ret (isNaN_d b _) ?_
 cases h1 : lt a b with
 | true =>
  have h1' : Op.bytesLess a.toList b.toList = true := h1
  have e : cmpS a b = -1 := by rw [cmpS,if_pos h1]
  simp -implicitDefEqProofs (maxSteps := 99999999) (disch := omega) only [h1',e,va,vg,vs,vh,Nat.reduceMul,ite_true,ite_false,eq_self,forall_const,implies_true,Nat.reduceAdd,Nat.reduceSub,Nat.reduceLT,Nat.reduceLeDiff,↓reduceIte,reduceCtorEq,Int.reduceEq,Int.reduceLT,Int.reduceLE,Int.reduceGT,Int.reduceGE,Int.reduceAdd,Int.reduceSub,Int.reduceNeg,Int.reduceToNat,Nat.reduceBEq,Nat.reduceEqDiff]
  exact weak_sc .refl
 | false =>
  have h1' : Op.bytesLess a.toList b.toList = false := h1
  by_cases h2 : a = b
  ·subst h2
   have e : cmpS a a = 0 := by rw [cmpS,h1,if_neg (by simp),if_pos rfl]
   simp -implicitDefEqProofs (maxSteps := 99999999) (disch := omega) only [h1',e,eq_self,va,vg,vs,vh,Nat.reduceMul,ite_true,ite_false,eq_self,forall_const,implies_true,Nat.reduceAdd,Nat.reduceSub,Nat.reduceLT,Nat.reduceLeDiff,↓reduceIte,reduceCtorEq,Int.reduceEq,Int.reduceLT,Int.reduceLE,Int.reduceGT,Int.reduceGE,Int.reduceAdd,Int.reduceSub,Int.reduceNeg,Int.reduceToNat,Nat.reduceBEq,Nat.reduceEqDiff]
   exact weak_sc .refl
  ·have e : cmpS a b = 1 := by rw [cmpS,h1,if_neg (by simp),if_neg h2]
   simp -implicitDefEqProofs (maxSteps := 99999999) (disch := omega) only [h1',h2,e,va,vg,vs,vh,Nat.reduceMul,ite_true,ite_false,eq_self,forall_const,implies_true,Nat.reduceAdd,Nat.reduceSub,Nat.reduceLT,Nat.reduceLeDiff,↓reduceIte,reduceCtorEq,Int.reduceEq,Int.reduceLT,Int.reduceLE,Int.reduceGT,Int.reduceGE,Int.reduceAdd,Int.reduceSub,Int.reduceNeg,Int.reduceToNat,Nat.reduceBEq,Nat.reduceEqDiff]
   exact weak_sc .refl
def posD (l : List Dc) (nm : ByteArray) : Nat := l.findIdx fun d => !lt d.1 nm
def hasD (l : List Dc) (nm : ByteArray) : Bool := decide (posD l nm < l.length) && decide ((nthD l (posD l nm)).1 = nm)
def Mono (l : List Dc) (nm : ByteArray) : Prop := ∀ a b,a < b → b < l.length → lt (nthD l b).1 nm = true → lt (nthD l a).1 nm = true
theorem posD_at {l : List Dc} {nm : ByteArray} {k : Nat} (hk : k ≤ l.length) (h1 : ∀ a,a < k → lt (nthD l a).1 nm = true) (h2 : ∀ a,k ≤ a → a < l.length → lt (nthD l a).1 nm = false) : posD l nm = k := by
 unfold posD
 rcases Nat.lt_or_ge k l.length with h | h
 ·rw [List.findIdx_eq h]
  refine ⟨by rw [← nthD_eq h,h2 k (Nat.le_refl _) h]; rfl,fun j hj => ?_⟩
  rw [← nthD_eq (by omega),h1 j hj]; rfl
 ·have : k = l.length := by omega
  subst this
  rw [List.findIdx_eq_length]
  intro x hx
  obtain ⟨j,hj,rfl⟩ := List.getElem_of_mem hx
  rw [← nthD_eq hj,h1 j hj]; rfl
theorem half_eq {i j : Nat} (h : i + j ≤ 1000000000) : IntKind.i64.wrap ((IntKind.u64.wrap ((i : Int) + (j : Int))).fdiv (2 ^ min 1 IntKind.u64.bits)) = (((i + j) / 2 : Nat) : Int) := by
 have h1 : IntKind.u64.wrap ((i : Int) + (j : Int)) = (i : Int) + j := by
  simp only [IntKind.wrap,IntKind.bits,IntKind.signed]
  simp
  omega
 have h2 : (2 : Int) ^ min 1 IntKind.u64.bits = 2 := rfl
 rw [h1,h2,Int.fdiv_eq_ediv_of_nonneg _ (by omega),wrap_i64] <;> omega
theorem search_d (l : List Dc) (room : Option (List AV)) (nm : ByteArray) (f : FuncId) (caps : List AV) (H : AHeap) (hc : callable Tryz.prog f = true) (hm : Mono l nm) (hf : ∀ d ∈ l,D Tryz.prog f (dcA d :: .sc (.string nm) :: caps) H (.ret (.sc (.int .i64 (cmpS d.1 nm)))) H) (hl : l.length ≤ 100000000) :
  D Tryz.prog 80 [.lst 2 (docs l) room,.sc (.string nm),.fn (.func f) [] caps] H (.ret (.tup [.sc (.int .i64 (posD l nm : Nat)),.sc (.bool (hasD l nm))])) H := by
 refine D_of_DK (Nat.le_refl _) (dk80 (E_of_ES ?_))
 simp only [ic80,ux]
 refine ES_seq_gen fun L hL => ?_
 simp -implicitDefEqProofs (maxSteps := 99999999) (disch := omega) only [docs_length,va,vg,vs,vh,Nat.reduceMul,ite_true,ite_false,eq_self,forall_const,implies_true,Nat.reduceAdd,Nat.reduceSub,Nat.reduceLT,Nat.reduceLeDiff,↓reduceIte,reduceCtorEq,Int.reduceEq,Int.reduceLT,Int.reduceLE,Int.reduceGT,Int.reduceGE,Int.reduceAdd,Int.reduceSub,Int.reduceNeg,Int.reduceToNat,Nat.reduceBEq,Nat.reduceEqDiff]
 refine hL _ _ ?_
 clear hL
 refine ES_seq_gen fun L hL => ?_
 simp -implicitDefEqProofs (maxSteps := 99999999) (disch := omega) only [docs_length,va,vg,vs,vh,Nat.reduceMul,ite_true,ite_false,eq_self,forall_const,implies_true,Nat.reduceAdd,Nat.reduceSub,Nat.reduceLT,Nat.reduceLeDiff,↓reduceIte,reduceCtorEq,Int.reduceEq,Int.reduceLT,Int.reduceLE,Int.reduceGT,Int.reduceGE,Int.reduceAdd,Int.reduceSub,Int.reduceNeg,Int.reduceToNat,Nat.reduceBEq,Nat.reduceEqDiff]
 refine hL _ _ ?_
 clear hL
 refine ES_seq_gen fun L hL => ?_
 simp -implicitDefEqProofs (maxSteps := 99999999) (disch := omega) only [docs_length,va,vg,vs,vh,Nat.reduceMul,ite_true,ite_false,eq_self,forall_const,implies_true,Nat.reduceAdd,Nat.reduceSub,Nat.reduceLT,Nat.reduceLeDiff,↓reduceIte,reduceCtorEq,Int.reduceEq,Int.reduceLT,Int.reduceLE,Int.reduceGT,Int.reduceGE,Int.reduceAdd,Int.reduceSub,Int.reduceNeg,Int.reduceToNat,Nat.reduceBEq,Nat.reduceEqDiff]
 refine hL _ _ ?_
 clear hL
 refine ES_seq_gen fun L hL => ?_
 simp -implicitDefEqProofs (maxSteps := 99999999) (disch := omega) only [va,vg,vs,vh,Nat.reduceMul,ite_true,ite_false,eq_self,forall_const,implies_true,Nat.reduceAdd,Nat.reduceSub,Nat.reduceLT,Nat.reduceLeDiff,↓reduceIte,reduceCtorEq,Int.reduceEq,Int.reduceLT,Int.reduceLE,Int.reduceGT,Int.reduceGE,Int.reduceAdd,Int.reduceSub,Int.reduceNeg,Int.reduceToNat,Nat.reduceBEq,Nat.reduceEqDiff]
 refine ES_loopL (fun ts H' => H' = H ∧ ∃ i j : Nat,(i ≤ j ∧ j ≤ l.length ∧ (∀ a,a < i → lt (nthD l a).1 nm = true) ∧ ∀ a,j ≤ a → a < l.length → lt (nthD l a).1 nm = false) ∧ Fr [some (.lst 2 (docs l) room),some (.sc (.string nm)),some (.fn (.func f) [] caps),none,none,none,none,none,some (.sc (.int .i64 l.length)),some (.sc (.int .i64 i)),some (.sc (.int .i64 j)),none,none,none,none,none,none,none,none,none,none,none,none,none,none,none,none,none,none,none,none,none,none,none,none,none,none,none,none,none,none,none,none,none,none,none,none,none,none] ts) (fun ts _ => (intV (ts.getD 10 .top)).toNat - (intV (ts.getD 9 .top)).toNat) ⟨rfl,0,l.length,⟨Nat.zero_le _,Nat.le_refl _,fun a h => absurd h (Nat.not_lt_zero _),fun a h1 h2 => absurd h1 (by omega)⟩,by simp [Fr]⟩ ?_
 rintro ts _ ⟨rfl,i,j,⟨h1,h2,h3,h4⟩,hfr⟩ L2 hL2
 obtain ⟨js,rfl⟩ := hfr.opened
 clear hfr
 simp -implicitDefEqProofs (maxSteps := 99999999) (disch := omega) only [docs_length,mk,va,vg,vs,vh,Nat.reduceMul,ite_true,ite_false,eq_self,forall_const,implies_true,Nat.reduceAdd,Nat.reduceSub,Nat.reduceLT,Nat.reduceLeDiff,↓reduceIte,reduceCtorEq,Int.reduceEq,Int.reduceLT,Int.reduceLE,Int.reduceGT,Int.reduceGE,Int.reduceAdd,Int.reduceSub,Int.reduceNeg,Int.reduceToNat,Nat.reduceBEq,Nat.reduceEqDiff]
 refine condR_if (fun h => ?_) (fun h => ?_)
 ·have hij : i < j := by omega
  obtain ⟨m,hm0⟩ : ∃ m,m = (i + j) / 2 := ⟨_,rfl⟩
  have hm1 : i ≤ m := by omega
  have hm2 : m < j := by omega
  have hml : m < l.length := by omega
  have e := half_eq (i := i) (j := j) (by omega)
  rw [← hm0] at e
  simp -implicitDefEqProofs (maxSteps := 99999999) (disch := omega) only [docs_length,e,docs_get hml,hc,va,vg,vs,vh,Nat.reduceMul,ite_true,ite_false,eq_self,forall_const,implies_true,Nat.reduceAdd,Nat.reduceSub,Nat.reduceLT,Nat.reduceLeDiff,↓reduceIte,reduceCtorEq,Int.reduceEq,Int.reduceLT,Int.reduceLE,Int.reduceGT,Int.reduceGE,Int.reduceAdd,Int.reduceSub,Int.reduceNeg,Int.reduceToNat,Nat.reduceBEq,Nat.reduceEqDiff]
  refine ⟨by omega,callR_ret (hf (nthD l m) (nthD_eq hml ▸ List.getElem_mem hml)) ?_⟩
  cases hlt : lt (nthD l m).1 nm with
  | true =>
   have e2 : cmpS (nthD l m).1 nm = -1 := by rw [cmpS,if_pos hlt]
   rw [e2]
   simp -implicitDefEqProofs (maxSteps := 99999999) (disch := omega) only [va,vg,vs,vh,Nat.reduceMul,ite_true,ite_false,eq_self,forall_const,implies_true,Nat.reduceAdd,Nat.reduceSub,Nat.reduceLT,Nat.reduceLeDiff,↓reduceIte,reduceCtorEq,Int.reduceEq,Int.reduceLT,Int.reduceLE,Int.reduceGT,Int.reduceGE,Int.reduceAdd,Int.reduceSub,Int.reduceNeg,Int.reduceToNat,Nat.reduceBEq,Nat.reduceEqDiff]
   refine hL2 _ _ ⟨rfl,m + 1,j,⟨by omega,h2,fun a ha => ?_,h4⟩,by simp [Fr]⟩ (by simp [intV,mk]; omega)
   rcases Nat.lt_succ_iff_lt_or_eq.1 ha with h' | rfl
   ·exact hm a m h' hml hlt
   ·exact hlt
  | false =>
   have e2 : ¬ cmpS (nthD l m).1 nm < 0 := by rw [cmpS,hlt]; simp; split <;> omega
   simp -implicitDefEqProofs (maxSteps := 99999999) (disch := omega) only [e2,va,vg,vs,vh,Nat.reduceMul,ite_true,ite_false,eq_self,forall_const,implies_true,Nat.reduceAdd,Nat.reduceSub,Nat.reduceLT,Nat.reduceLeDiff,↓reduceIte,reduceCtorEq,Int.reduceEq,Int.reduceLT,Int.reduceLE,Int.reduceGT,Int.reduceGE,Int.reduceAdd,Int.reduceSub,Int.reduceNeg,Int.reduceToNat,Nat.reduceBEq,Nat.reduceEqDiff]
   refine hL2 _ _ ⟨rfl,i,m,⟨by omega,by omega,h3,fun a ha hal => ?_⟩,by simp [Fr]⟩ (by simp [intV,mk]; omega)
   rcases Nat.lt_or_ge m a with h' | h'
   ·cases hx : lt (nthD l a).1 nm with
    | false => rfl
    | true => rw [hm m a h' hal hx] at hlt; simp at hlt
   ·have : a = m := by omega
    subst this; exact hlt
 ·have hij : i = j := by omega
  subst hij
  have hpos := posD_at h2 h3 h4
  refine hL _ _ ?_
  clear hL
  by_cases c1 : i < l.length
  ·have c1' : (i : Int) < l.length := by omega
   have e3 : hasD l nm = decide ((nthD l i).1 = nm) := by simp [hasD,hpos,c1]
   simp -implicitDefEqProofs (maxSteps := 99999999) (disch := omega) only [docs_length,c1',docs_get c1,hc,va,vg,vs,vh,Nat.reduceMul,ite_true,ite_false,eq_self,forall_const,implies_true,Nat.reduceAdd,Nat.reduceSub,Nat.reduceLT,Nat.reduceLeDiff,↓reduceIte,reduceCtorEq,Int.reduceEq,Int.reduceLT,Int.reduceLE,Int.reduceGT,Int.reduceGE,Int.reduceAdd,Int.reduceSub,Int.reduceNeg,Int.reduceToNat,Nat.reduceBEq,Nat.reduceEqDiff]
   refine ⟨by omega,callR_ret (hf (nthD l i) (nthD_eq c1 ▸ List.getElem_mem c1)) ?_⟩
   have e4 : (cmpS (nthD l i).1 nm = 0) = ((nthD l i).1 = nm) := by
    rw [cmpS,h4 i (Nat.le_refl _) c1]
    simp
   simp -implicitDefEqProofs (maxSteps := 99999999) (disch := omega) only [e4,va,vg,vs,vh,Nat.reduceMul,ite_true,ite_false,eq_self,forall_const,implies_true,Nat.reduceAdd,Nat.reduceSub,Nat.reduceLT,Nat.reduceLeDiff,↓reduceIte,reduceCtorEq,Int.reduceEq,Int.reduceLT,Int.reduceLE,Int.reduceGT,Int.reduceGE,Int.reduceAdd,Int.reduceSub,Int.reduceNeg,Int.reduceToNat,Nat.reduceBEq,Nat.reduceEqDiff]
   rw [hpos,e3]
   exact weak_over .refl (.tup (.cons (.same trivial) (.cons (.same trivial) .nil)))
  ·have c1' : ¬ (i : Int) < l.length := by omega
   have e3 : hasD l nm = false := by simp [hasD,hpos,c1]
   simp -implicitDefEqProofs (maxSteps := 99999999) (disch := omega) only [docs_length,c1',va,vg,vs,vh,Nat.reduceMul,ite_true,ite_false,eq_self,forall_const,implies_true,Nat.reduceAdd,Nat.reduceSub,Nat.reduceLT,Nat.reduceLeDiff,↓reduceIte,reduceCtorEq,Int.reduceEq,Int.reduceLT,Int.reduceLE,Int.reduceGT,Int.reduceGE,Int.reduceAdd,Int.reduceSub,Int.reduceNeg,Int.reduceToNat,Nat.reduceBEq,Nat.reduceEqDiff]
   rw [hpos,e3]
   exact weak_over .refl (.tup (.cons (.same trivial) (.cons (.same trivial) .nil)))
end Go.Proofs.YtljajanjjcdelaaGreat
