/- What is read of rows of hunks. -/
import Derived.Test.YtddhdlfafaobhaaS14
import Derived.Test.YtddhdlfafaobhaaS24a
namespace Go.Proofs.Ytddhdlfafaobhaa
open Go.RowKit
set_option linter.unusedVariables false
set_option linter.unusedSimpArgs false

section
variable {Hh : Type} {enc : TypeId × Value → Hh} {w : World} {n : Nat}
theorem all2_mem {α β : Type} {p : α → β → Prop} {q : α → Prop} (h : ∀ a b, p a b → q a) {l : List α} {m : List β} (k : All2 p l m) : ∀ a ∈ l, q a := by
  induction k with
  | nil => simp
  | cons h1 _ ih =>
    intro a ha
    rcases List.mem_cons.1 ha with rfl | ha
    · exact h _ _ h1
    · exact ih a ha
theorem rd_hunks : Rdr enc Try.prog w n 23 (fun l : List Hk => .lst 3 (hks l) none) (fun l d => (∀ h ∈ l, inI64 h.at_) ∧ szHs l ≤ Rows.uptoBulk d) := by
  cases n with
  | zero => exact Rdr.zero
  | succ n =>
    refine (Rdr.slice Try.underlying23 (k := 3) (by kernel_rfl) (by decide) (fun _ => rfl) rd_hunk).map id fun a d h => ⟨rfl, ?_⟩
    rcases h with ⟨rfl, rfl⟩ | ⟨ds, r, rfl, h⟩
    · exact ⟨by simp, Nat.zero_le _⟩
    · have := all2_bulk (sz := szHs) (one := Hk.sz) rfl (fun _ _ => rfl) (fun _ _ h => h.2) h
      refine ⟨all2_mem (fun _ _ h => h.1) h, ?_⟩
      simp only [Rows.uptoBulk, id]
      omega
end
theorem sumL_sz : ∀ l : List Hk, sumL l ≤ szHs l
  | [] => Nat.le_refl _
  | h :: r => by
    have := sumL_sz r
    have h1 := (szS_mem (l := h.old)).1
    have h2 := (szS_mem (l := h.new)).1
    simp only [sumL, szHs, Hk.sz]
    omega
theorem allShort_sz {l : List Hk} (h : szHs l ≤ 2000000) : AllShort l := by
  have := szHs_mem (l := l)
  exact ⟨by omega, fun x hx => short_hk (by have := this.2 x hx; omega)⟩
end Go.Proofs.Ytddhdlfafaobhaa
