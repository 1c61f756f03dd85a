/- A round of diff.Hunks. -/
import Derived.Test.YtigmpablpmanpaaS144
import Derived.Test.YtigmpablpmanpaaS121
import Derived.Test.YtigmpablpmanpaaSB
import Derived.Test.YtigmpablpmanpaaIcY2
namespace Go.Proofs.Ytigmpablpmanpaa
open Go.RowKit
set_option maxRecDepth 100000
set_option linter.unusedVariables false
set_option linter.unusedSimpArgs false

theorem round_heapV {F : AHeap} {rid oid vid : Nat} {B R : ABlk} {X Y : Option ABlk} (hr : AHeap.find F rid = some R) (d : rid ≠ oid) (d2 : rid ≠ vid) : AHeap.set (AHeap.set (AHeap.set (AHeap.set F rid (some B)) vid Y) oid X) rid (some R) = AHeap.set (AHeap.set F vid Y) oid X := by
  have hl := AHeap.find_lt hr
  rw [set_comm d.symm, set_comm (H := AHeap.set F rid (some B)) d2.symm, set_set, set_self hr hl]
theorem set_past2 {F : AHeap} {T U X : Option ABlk} {i : Nat} (h : i < F.length) : AHeap.set (T :: U :: F) i X = T :: U :: AHeap.set F i X := by
  rw [set_past (by simp; omega), set_past h]
theorem round_heap0T {F : AHeap} {rid oid : Nat} {B R : ABlk} {X T U : Option ABlk} (hr : AHeap.find F rid = some R) (d : rid ≠ oid) : AHeap.set (T :: U :: AHeap.set (AHeap.set F rid (some B)) oid X) rid (some R) = T :: U :: AHeap.set F oid X := by
  rw [set_past2 (by simp [AHeap.set_length]; exact AHeap.find_lt hr), round_heap0 hr d]
theorem round_heapVT {F : AHeap} {rid oid vid : Nat} {B R : ABlk} {X Y T U : Option ABlk} (hr : AHeap.find F rid = some R) (d : rid ≠ oid) (d2 : rid ≠ vid) : AHeap.set (T :: U :: AHeap.set (AHeap.set (AHeap.set F rid (some B)) vid Y) oid X) rid (some R) = T :: U :: AHeap.set (AHeap.set F vid Y) oid X := by
  rw [set_past2 (by simp [AHeap.set_length]; exact AHeap.find_lt hr), round_heapV hr d d2]
/-- Own memory behind a round. -/
def hkF (F : AHeap) (xs : List Hk) (x : Hk) (oid vid : Nat) : AHeap := some ⟨3, hks (xs ++ [x]), false, 51⟩ :: AHeap.set (killO (hks xs) vid (some ⟨3, [hkr x none none], true, 51⟩ :: F)) oid (some ⟨1, [OwnV 3 (hks (xs ++ [x])) (F.length + 1)], true, 28⟩)
theorem hunk_dy {F : AHeap} {rid oid vid fn db : Nat} {ts0 : List AV} {js : Nat → AV} {xs : List Hk} {x : Hk} (hts : ts0 = mk [none, none, none, none, none, some (.ptr 1 oid 0 0), none, none, none, none, none, none, none, none, none, none] js)
    (hr : AHeap.find F rid = some (lpB (recB fn db #[10] (rcA Try.f12 0) (rcB Try.f12 0)) ts0)) (ho : AHeap.find F oid = some ⟨1, [OwnV 3 (hks xs) vid], true, 28⟩) (hv : xs ≠ [] → AHeap.find F vid = some ⟨3, hks xs, false, 51⟩)
    (d1 : rid ≠ oid) (d2 : xs ≠ [] → vid ≠ oid ∧ vid ≠ rid) (hl : xs.length + 1 ≤ 100000000) :
    DY Try.prog rid [hkr x none none] F (.ret (.sc (.bool true))) (hkF F xs x oid vid) := by
  have hrl := AHeap.find_lt hr
  have hol := AHeap.find_lt ho
  refine DY_of_DKY (by unfold hkF; simp [killO_length, AHeap.set_length]; omega) (DKY_of_ES rca12_0 rcb12_0 hr rfl rfl ?_)
  obtain ⟨tp, htp⟩ : ∃ tp, putPs [10] [hkr x none none] ts0 = tp := ⟨_, rfl⟩
  show ES _ _ _ (putPs [10] _ ts0) _
  rw [htp]
  rw [hts] at htp
  simp only [mk, putPs, List.set_cons_succ, List.set_cons_zero] at htp
  subst htp
  clear hts
  simp -implicitDefEqProofs (maxSteps := 99999999) (disch := first | omega | (simp only [AHeap.set_length, killO_length, List.length_cons, List.length_nil]; first | done | omega)) only [vu, ic12a0, asgS_n, va, vg, vs, vw, Nat.reduceMul, ite_true, ite_false, eq_self, forall_const, implies_true, Nat.reduceAdd, Nat.reduceSub, Nat.reduceLT, Nat.reduceLeDiff, ↓reduceIte, reduceCtorEq, Int.reduceEq, Int.reduceLT, Int.reduceLE, Int.reduceGT, Int.reduceGE, Int.reduceAdd, Int.reduceSub, Int.reduceNeg, Int.reduceToNat, Nat.reduceBEq, Nat.reduceEqDiff]
  refine ⟨hr, ?_⟩
  change ES _ _ _ _ (some ⟨3, [hkr x none none], true, 51⟩ :: AHeap.set F rid (some (lpB { recB fn db #[10] (rcA Try.f12 0) (rcB Try.f12 0) with state := .busy } ts0)))
  generalize hB : lpB { recB fn db #[10] (rcA Try.f12 0) (rcB Try.f12 0) with state := .busy } ts0 = B
  have hr1 : AHeap.find (AHeap.set F rid (some B)) rid = some B := AHeap.find_set_same hrl
  have ho1 : AHeap.find (AHeap.set F rid (some B)) oid = some ⟨1, [OwnV 3 (hks xs) vid], true, 28⟩ := by rw [find_set hrl, if_neg d1]; exact ho
  have hv1 : xs ≠ [] → AHeap.find (AHeap.set F rid (some B)) vid = some ⟨3, hks xs, false, 51⟩ := fun h => by rw [find_set hrl, if_neg (fun e => (d2 h).2 e.symm)]; exact hv h
  have hlen : (AHeap.set F rid (some B)).length = F.length := AHeap.set_length _ _ _
  obtain ⟨F1, hF1⟩ : ∃ F1, F1 = AHeap.set F rid (some B) := ⟨_, rfl⟩
  rw [← hF1] at hr1 ho1 hv1 hlen ⊢
  have hol1 : oid < F1.length := AHeap.find_lt ho1
  have hq : oid ≠ F.length := by omega
  have hq2 : ¬ F.length = oid := by omega
  have hrq : rid ≠ F.length := by omega
  unfold hkF
  cases xs with
  | nil =>
    simp only [show hks [] = [] from rfl, OwnV_nil] at ho1
    simp -implicitDefEqProofs (maxSteps := 99999999) (disch := first | omega | (simp only [AHeap.set_length, killO_length, List.length_cons, List.length_nil]; first | done | omega)) only [vu, ic12b0, ho1, hlen, hq2, show hks [] = [] from rfl, OwnV_nil, va, vg, vs, vw, Nat.reduceMul, ite_true, ite_false, eq_self, forall_const, implies_true, Nat.reduceAdd, Nat.reduceSub, Nat.reduceLT, Nat.reduceLeDiff, ↓reduceIte, reduceCtorEq, Int.reduceEq, Int.reduceLT, Int.reduceLE, Int.reduceGT, Int.reduceGE, Int.reduceAdd, Int.reduceSub, Int.reduceNeg, Int.reduceToNat, Nat.reduceBEq, Nat.reduceEqDiff]
    rw [rndK_n]
    refine ⟨_, ts0, by rw [find_past (by simp [AHeap.set_length, hlen]; omega), find_past (by rw [AHeap.set_length, hlen]; exact hrl), find_set_other d1, hr1, ← hB], ?_⟩
    have e3 : AHeap.set (killO [] vid (some ⟨3, [hkr x none none], true, 51⟩ :: F)) oid (some ⟨1, [OwnV 3 (hks [x]) (F.length + 1)], true, 28⟩) = some ⟨3, [hkr x none none], true, 51⟩ :: AHeap.set F oid (some ⟨1, [AV.vec 3 (F.length + 1) 0 1 none], true, 28⟩) := set_past hol
    rw [hF1, e3]
    exact (round_heap0T hr d1) ▸ Weak.refl _ _ _
  | cons y ys =>
    have hv2 := hv1 (by simp)
    have hvl := AHeap.find_lt hv2
    have hlc : (hks (y :: ys)).length = ys.length + 1 := by simp [hks_length]
    have hO : OwnV 3 (hks (y :: ys)) vid = .vec 3 vid 0 (ys.length + 1) none := by simp [OwnV, hks]
    rw [hO] at ho1
    have ho2 : AHeap.find (AHeap.set F1 vid none) oid = some ⟨1, [.vec 3 vid 0 (ys.length + 1) none], true, 28⟩ := by rw [find_set_other (d2 (by simp)).1.symm]; exact ho1
    simp -implicitDefEqProofs (maxSteps := 99999999) (disch := first | omega | (simp only [AHeap.set_length, killO_length, List.length_cons, List.length_nil]; first | done | omega)) only [vu, ic12b0, ho1, hv2, hlc, ho2, hlen, hq2, va, vg, vs, vw, Nat.reduceMul, ite_true, ite_false, eq_self, forall_const, implies_true, Nat.reduceAdd, Nat.reduceSub, Nat.reduceLT, Nat.reduceLeDiff, ↓reduceIte, reduceCtorEq, Int.reduceEq, Int.reduceLT, Int.reduceLE, Int.reduceGT, Int.reduceGE, Int.reduceAdd, Int.reduceSub, Int.reduceNeg, Int.reduceToNat, Nat.reduceBEq, Nat.reduceEqDiff]
    refine ⟨by simp at hl; omega, ?_⟩
    rw [rndK_n]
    refine ⟨_, ts0, by rw [find_past (by simp [AHeap.set_length, hlen]; omega), find_past (by rw [AHeap.set_length, AHeap.set_length, hlen]; exact hrl), find_set_other d1, find_set_other (d2 (by simp)).2.symm, hr1, ← hB], ?_⟩
    have e1 : hks (y :: ys) ++ [AV.agg [.sc (.int .i64 x.at_), .lst 1 (strs x.old) none, .lst 1 (strs x.new) none]] = hks (y :: (ys ++ [x])) := by simp [hks]
    have e2 : AV.vec 3 (F.length + 1) 0 (ys.length + 2) none = OwnV 3 (hks (y :: (ys ++ [x]))) (F.length + 1) := by simp [OwnV, hks]
    rw [e1, e2, hF1]
    exact (round_heapVT hr d1 (d2 (by simp)).2.symm) ▸ Weak.refl _ _ _
end Go.Proofs.Ytigmpablpmanpaa
