/- Blocks that a call lays and hands out, one behind the other. Nothing of the program is named here. -/
import Derived.Test.YtigmpablpmanpaaV33
namespace Go.Proofs.Ytigmpablpmanpaa
open Go.RowKit
set_option linter.unusedVariables false
set_option linter.unusedSimpArgs false

/-- Blocks, one laid after the other. -/
def lays : List (Option ABlk) → AHeap → AHeap
  | [], H => H
  | b :: r, H => lays r (b :: H)
theorem lays_length : ∀ {bs : List (Option ABlk)} {H : AHeap}, (lays bs H).length = H.length + bs.length
  | [], H => rfl
  | b :: r, H => by simp only [lays, lays_length (bs := r), List.length_cons]; omega
theorem lays_old : ∀ {bs : List (Option ABlk)} {H : AHeap} {i : Nat}, i < H.length → AHeap.find (lays bs H) i = AHeap.find H i
  | [], H, i, h => rfl
  | b :: r, H, i, h => by
    simp only [lays]
    rw [lays_old (by simp; omega), AHeap.find_cons h]
theorem lays_new : ∀ {bs : List (Option ABlk)} {H : AHeap} {i : Nat} {b : Option ABlk}, bs[i]? = some b → AHeap.find (lays bs H) (H.length + i) = b
  | [], H, i, b, h => by simp at h
  | x :: r, H, 0, b, h => by
    simp at h
    subst h
    simp only [lays]
    rw [Nat.add_zero, lays_old (by simp), AHeap.find_new]
  | x :: r, H, i + 1, b, h => by
    simp only [lays]
    have := lays_new (bs := r) (H := x :: H) (i := i) (by simpa using h)
    rw [List.length_cons, show H.length + 1 + i = H.length + (i + 1) from by omega] at this
    exact this
theorem lays_append : ∀ {a b : List (Option ABlk)} {H : AHeap}, lays (a ++ b) H = lays b (lays a H)
  | [], b, H => rfl
  | x :: r, b, H => by simp only [List.cons_append, lays, lays_append (a := r)]

theorem weak_lays {H F : AHeap} (bs : List (Option ABlk)) (src : List Nat) {x y : AV} (hl : src.length = bs.length) (hn : src.Nodup) (ha : ∀ s ∈ src, H.length ≤ s) (h1 : ∀ id, id < H.length → AHeap.find F id = AHeap.find H id)
    (h2 : ∀ (i : Nat) (k : ABlk) (s : Nat), bs[i]? = some (some k) → src[i]? = some s → ∃ k1, AHeap.find F s = some k1 ∧ BlkZ F H.length src k1 k) (hz : Gz F H.length src x y) : Weak H (.ret x) F (.ret y) (lays bs H) := by
  refine weak_gen src (by rw [lays_length, hl]) hn ha (fun id k hid hk => ?_) (fun i s k hs hk => ?_) hz
  · rw [lays_old hid] at hk
    exact .inl ⟨hk, by rw [h1 id hid]; exact hk⟩
  · have hi : i < bs.length := by
      have := (List.getElem?_eq_some_iff.1 hs).1
      omega
    have hr : bs[i]? = some bs[i] := by simp [hi]
    rw [lays_new hr] at hk
    exact h2 i k s (by rw [hr, hk]) hs
/-- A row of numbers that rises. -/
theorem nodup_map {n : Nat} {f : Nat → Nat} (h : ∀ i j, i < j → f i < f j) : ((List.range n).map f).Nodup := by
  rw [List.nodup_iff_pairwise_ne, List.pairwise_map]
  exact List.pairwise_lt_range.imp fun hab => Nat.ne_of_lt (h _ _ hab)
theorem GzL.append {H1 : AHeap} {n0 : Nat} {src : List Nat} : ∀ {a b c d : List AV}, GzL H1 n0 src a c → GzL H1 n0 src b d → GzL H1 n0 src (a ++ b) (c ++ d)
  | _, _, _, _, .nil, h => h
  | _, _, _, _, .cons hx hr, h => .cons hx (GzL.append hr h)
theorem GzL.map {H1 : AHeap} {n0 : Nat} {src : List Nat} {α : Type} {f g : α → AV} : ∀ {l : List α}, (∀ x ∈ l, Gz H1 n0 src (f x) (g x)) → GzL H1 n0 src (l.map f) (l.map g)
  | [], _ => .nil
  | x :: r, h => .cons (h x (by simp)) (GzL.map fun y hy => h y (by simp [hy]))
/-- An append to an own row, whatever it is. -/
theorem apAny {H : AHeap} {k : Nat} {ty : TypeId} {xs ys : List AV} {id : Nat} (hf : xs ≠ [] → AHeap.find H id = OwnB k ty xs) (hl : xs.length + ys.length ≤ 100000000) :
    ∃ (id' : Nat) (H' : AHeap), apOk H k ty ys (OwnV k xs id) ∧ apV H k ys (OwnV k xs id) = OwnV k (xs ++ ys) id' ∧ apH H k ty ys (OwnV k xs id) = H' ∧ (xs ++ ys ≠ [] → AHeap.find H' id' = OwnB k ty (xs ++ ys) ∧ id' = H.length) ∧ H.length ≤ H'.length ∧ (∀ i, i < H.length → (xs ≠ [] → i ≠ id) → AHeap.find H' i = AHeap.find H i) := by
  obtain ⟨h1, h2, h3⟩ := apOwn hf hl
  by_cases e : ys ≠ [] ∨ xs ≠ []
  · obtain ⟨g1, g2⟩ := h2 e
    refine ⟨_, _, h1, g1, g2, fun _ => ⟨?_, rfl⟩, by simp [killO_length], fun i hi hne => ?_⟩
    · have := AHeap.find_new (H := killO xs id H) (b := OwnB k ty (xs ++ ys))
      rwa [killO_length] at this
    · rw [AHeap.find_cons (by rw [killO_length]; exact hi), find_killO_other hne]
  · have e1 : ys = [] := Classical.byContradiction fun h => e (.inl h)
    have e2 : xs = [] := Classical.byContradiction fun h => e (.inr h)
    obtain ⟨g1, g2⟩ := h3 e1 e2
    refine ⟨0, H, h1, by rw [g1, e1, e2]; rfl, g2, fun h => by rw [e1, e2] at h; exact (h rfl).elim, Nat.le_refl _, fun _ _ _ => rfl⟩
theorem weak_frz {H F : AHeap} {x y : AV} (h : ∀ id, id < H.length → AHeap.find F id = AHeap.find H id) (hz : Gz F H.length [] x y) : Weak H (.ret x) F (.ret y) H :=
  weak_gen [] (by simp) (by simp) (by simp) (fun id k hid hk => .inl ⟨hk, by rw [h id hid]; exact hk⟩) (fun i s k hs => by simp at hs) hz
end Go.Proofs.Ytigmpablpmanpaa
