/- Pairs rise; the hunks between them. -/
import Derived.Test.YtigmpablpmanpaaS143
namespace Go.Proofs.Ytigmpablpmanpaa
open Go.RowKit
set_option linter.unusedVariables false
set_option linter.unusedSimpArgs false

/-- Pairs that rise, from two places on, below two ends. -/
def Rise (n m : Nat) : Nat → Nat → List (Nat × Nat) → Prop
  | i, j, [] => i ≤ n ∧ j ≤ m
  | i, j, (x, y) :: r => (i ≤ x ∧ j ≤ y) ∧ Rise n m (x + 1) (y + 1) r
theorem Rise.le {n m : Nat} : ∀ {l : List (Nat × Nat)} {i j : Nat}, Rise n m i j l → i ≤ n ∧ j ≤ m
  | [], _, _, h => h
  | (x, y) :: r, i, j, h => by
    have := h.2.le
    have := h.1
    omega
theorem Rise.mono {n m : Nat} : ∀ {l : List (Nat × Nat)} {i j i' j' : Nat}, Rise n m i j l → i' ≤ i → j' ≤ j → Rise n m i' j' l
  | [], _, _, _, _, h, h1, h2 => ⟨Nat.le_trans h1 h.1, Nat.le_trans h2 h.2⟩
  | (x, y) :: r, i, j, _, _, h, h1, h2 => ⟨⟨Nat.le_trans h1 h.1.1, Nat.le_trans h2 h.1.2⟩, h.2⟩
theorem cmn_rise (a b : List ByteArray) (i j : Nat) (hi : i ≤ a.length) (hj : j ≤ b.length) : Rise a.length b.length i j (cmn a b i j) := by
  by_cases h : i < a.length ∧ j < b.length
  · by_cases e : nthS a i = nthS b j
    · rw [cmn_eq h.1 h.2 e]
      exact ⟨⟨Nat.le_refl _, Nat.le_refl _⟩, cmn_rise a b (i + 1) (j + 1) (by omega) (by omega)⟩
    · by_cases g : lcd a b (i + 1) j ≥ lcd a b i (j + 1)
      · rw [cmn_i h.1 h.2 e g]
        exact (cmn_rise a b (i + 1) j (by omega) hj).mono (by omega) (Nat.le_refl _)
      · rw [cmn_j h.1 h.2 e g]
        exact (cmn_rise a b i (j + 1) hi (by omega)).mono (Nat.le_refl _) (by omega)
  · rw [cmn_end h]
    exact ⟨hi, hj⟩
termination_by (a.length - i) + (b.length - j)
theorem cmn_same (a b : List ByteArray) (i j : Nat) : ∀ p ∈ cmn a b i j, nthS a p.1 = nthS b p.2 ∧ p.1 < a.length ∧ p.2 < b.length := by
  by_cases h : i < a.length ∧ j < b.length
  · by_cases e : nthS a i = nthS b j
    · rw [cmn_eq h.1 h.2 e]
      intro p hp
      rcases List.mem_cons.1 hp with rfl | hp
      · exact ⟨e, h.1, h.2⟩
      · exact cmn_same a b (i + 1) (j + 1) p hp
    · by_cases g : lcd a b (i + 1) j ≥ lcd a b i (j + 1)
      · rw [cmn_i h.1 h.2 e g]
        exact cmn_same a b (i + 1) j
      · rw [cmn_j h.1 h.2 e g]
        exact cmn_same a b i (j + 1)
  · rw [cmn_end h]
    intro p hp
    simp at hp
termination_by (a.length - i) + (b.length - j)
/-- The hunks between pairs, from two places on. -/
def bet (a b : List ByteArray) : Nat → Nat → List (Nat × Nat) → List Hk
  | _, _, [] => []
  | i, j, (x, y) :: r => if (x - i) + (y - j) = 0 then bet a b (x + 1) (y + 1) r else ⟨i, (a.take x).drop i, (b.take y).drop j⟩ :: bet a b (x + 1) (y + 1) r
def difH (a b : List ByteArray) : List Hk := bet a b 0 0 (cmn a b 0 0 ++ [(a.length, b.length)])
end Go.Proofs.Ytigmpablpmanpaa
