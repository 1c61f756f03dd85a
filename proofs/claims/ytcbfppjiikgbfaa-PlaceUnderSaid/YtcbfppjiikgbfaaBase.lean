/- Words for slices in memory; nothing of the program is named here. -/
import Derived.WalkKit
import Derived.WalkSpells
import Derived.WalkLawsBesides
import Derived.Deep.QuietTactic
import Derived.BigQuiet
import Derived.Lib.Hide
namespace Go.Proofs.Ytcbfppjiikgbfaa
open Go.RowKit

theorem cell_lt {w : World} {a : Addr} {v : Value} (h : w.cell? a = some v) : a.block < w.heap.size := by
  unfold World.cell? at h
  cases hb : w.heap[a.block]? with
  | none => rw [hb] at h; simp at h
  | some o =>
    rcases Array.getElem?_eq_some_iff.1 hb with ⟨h1, _⟩
    exact h1

/-- The world has grown: what was there is as it was. -/
abbrev Ext (w w' : World) : Prop := Below w.heap.size w w'

theorem ext_trans {a b c : World} (h : Ext a b) (k : Ext b c) : Ext a c := h.trans (k.mono h.size)
theorem ext_refl (w : World) : Ext w w := Below.refl _ _
theorem below_drewN {B : Nat} {a w : World} (h : Below B a w) (n : Nat) : Below B a (w.drewN n) := ⟨h.os, h.tape, h.output, h.size, h.block⟩
theorem ext_drewN (w : World) (n : Nat) : Ext w (w.drewN n) := below_drewN (Below.refl _ _) n
theorem ext_alloc (w : World) (o : Obj) : Ext w (w.alloc o) := (Below.refl _ _).alloc (Nat.le_refl _) o
theorem ext_cell {w w' : World} (h : Ext w w') {p : Addr} {v : Value} (hc : w.cell? p = some v) : w'.cell? p = some v := by
  rw [h.cell (cell_lt hc)]; exact hc

/-- The value is a slice that reads as these values, one cell each. -/
def Reads (w : World) (v : Value) (us : List Value) : Prop :=
  ∃ (a : Option Addr) (cap : Nat), v = .slice a us.length cap ∧ us.length ≤ cap ∧ cap ≤ 9223372036854775807 ∧
    (us ≠ [] → ∃ b off, a = some ⟨b, off, none⟩ ∧ ∀ (i : Nat) (u : Value), us[i]? = some u → w.cell? ⟨b, off + i, none⟩ = some u)

theorem Reads.ext {w w' : World} {v : Value} {us : List Value} (h : Reads w v us) (hb : Ext w w') : Reads w' v us := by
  obtain ⟨a, cap, rfl, h1, h2, h3⟩ := h
  refine ⟨a, cap, rfl, h1, h2, fun hne => ?_⟩
  obtain ⟨b, off, rfl, hc⟩ := h3 hne
  exact ⟨b, off, rfl, fun i u hi => ext_cell hb (hc i u hi)⟩

theorem Reads.of_own {w : World} {B : Nat} {e : TypeId} {v : Value} {n : Nat} {us : List Value} (h : w.ownsRow B e 1 v n us) : Reads w v us := by
  obtain ⟨h1, h2⟩ := h
  have h1' : us.length = n := by omega
  rcases h2 with ⟨rfl, h3⟩ | ⟨g, cap, cur, hv, hg, hh, hn, hm, hs, ht⟩
  · have : us = [] := List.length_eq_zero_iff.1 (by omega)
    subst this
    exact ⟨none, 0, rfl, Nat.le_refl _, by omega, fun hne => (hne rfl).elim⟩
  · subst hv
    refine ⟨_, cap, by rw [h1'], by omega, by unfold maxLen at hm; omega, fun _ => ⟨g, 0, rfl, fun i u hi => ?_⟩⟩
    have hc := World.ownsRow.cells (w := w) (base := B) (e := e) (size := 1) (v := .slice (some ⟨g, 0, none⟩) n cap) (n := n) (xs := us) ⟨h1, .inr ⟨g, cap, cur, rfl, hg, hh, hn, hm, hs, ht⟩⟩ rfl i u hi
    rw [show (⟨g, 0 + i, none⟩ : Addr) = (⟨g, 0, none⟩ : Addr).add i from by unfold Addr.add; split <;> simp_all]
    exact hc

/-- The k-th number of a list, 0 behind its end: a word of our own, so that simp leaves it. -/
def nth (xs : List Int) (k : Nat) : Int := xs.getD k 0

theorem nth_eq {xs : List Int} {k : Nat} (h : k < xs.length) : nth xs k = xs[k] := by simp [nth, List.getD, h]

theorem nth_ext {xs ys : List Int} (hl : xs.length = ys.length) (h : ∀ i, i < xs.length → nth xs i = nth ys i) : xs = ys := by
  apply List.ext_getElem hl
  intro i h1 h2
  have := h i h1
  rwa [nth_eq h1, nth_eq h2] at this

def intV (n : Int) : Value := .int .i64 n

/-- A slice of int that reads as the numbers xs. -/
def Ints (w : World) (v : Value) (xs : List Int) : Prop := Reads w v (xs.map intV)

theorem Ints.ext {w w' : World} {v : Value} {xs : List Int} (h : Ints w v xs) (hb : Ext w w') : Ints w' v xs := Reads.ext h hb
theorem Ints.drewN {w : World} {v : Value} {xs : List Int} (h : Ints w v xs) (n : Nat) : Ints (w.drewN n) v xs := h.ext (ext_drewN _ _)

theorem Ints.opened {w : World} {v : Value} {xs : List Int} (h : Ints w v xs) : ∃ (a : Option Addr) (cap : Nat), v = .slice a xs.length cap ∧ xs.length ≤ cap ∧ cap ≤ 9223372036854775807 ∧
    (xs ≠ [] → ∃ b off, a = some ⟨b, off, none⟩ ∧ ∀ i, i < xs.length → w.cell? ⟨b, off + i, none⟩ = some (.int .i64 (nth xs i))) := by
  obtain ⟨a, cap, h1, h2, h3, h4⟩ := h
  rw [List.length_map] at h1 h2
  refine ⟨a, cap, h1, h2, h3, fun hne => ?_⟩
  obtain ⟨b, off, ha, hc⟩ := h4 (by simpa using hne)
  refine ⟨b, off, ha, fun i hi => hc i _ ?_⟩
  simp [hi, intV, nth_eq hi]

theorem Ints.mk {w : World} {a : Option Addr} {cap : Nat} {xs : List Int} (h1 : xs.length ≤ cap) (h2 : cap ≤ 9223372036854775807)
    (h : xs ≠ [] → ∃ b off, a = some ⟨b, off, none⟩ ∧ ∀ i, i < xs.length → w.cell? ⟨b, off + i, none⟩ = some (.int .i64 (nth xs i))) : Ints w (.slice a xs.length cap) xs := by
  refine ⟨a, cap, by rw [List.length_map], by rw [List.length_map]; exact h1, h2, fun hne => ?_⟩
  obtain ⟨b, off, ha, hc⟩ := h (by simpa using hne)
  refine ⟨b, off, ha, fun i u hi => ?_⟩
  rw [List.getElem?_map] at hi
  by_cases hil : i < xs.length
  · rw [hc i hil]
    simp [hil, intV] at hi
    rw [nth_eq hil, hi]
  · rw [List.getElem?_eq_none (by omega)] at hi
    simp at hi

end Go.Proofs.Ytcbfppjiikgbfaa
