/- What is read of files, and how much that is. -/
import Derived.Test.YtnjcbphapcbofaaS14
import Derived.Test.YtnjcbphapcbofaaS91
namespace Go.Proofs.Ytnjcbphapcbofaa
open Go.RowKit
set_option linter.unusedVariables false
set_option linter.unusedSimpArgs false

def szD : List Dc → Nat
  | [] => 0
  | d :: r => (d.1.size + d.2.size + 1) + szD r
theorem szD_mem {l : List Dc} : l.length ≤ szD l ∧ ∀ d ∈ l, d.1.size ≤ szD l ∧ d.2.size ≤ szD l := by
  induction l with
  | nil => exact ⟨Nat.le_refl _, by simp⟩
  | cons x t ih =>
    simp only [szD, List.length_cons, List.mem_cons]
    refine ⟨by omega, fun s hs => ?_⟩
    rcases hs with rfl | hs
    · omega
    · have := ih.2 s hs; omega
theorem shortD_of_sz {l : List Dc} (h : szD l ≤ 2000000) : ShortD l :=
  ⟨by have := (szD_mem (l := l)).1; omega, fun s hs => by have := (szD_mem (l := l)).2 s hs; omega⟩
section
variable {Hh : Type} {enc : TypeId × Value → Hh} {w : World} {n : Nat}
theorem rd_doc : Rdr enc Try.prog w n 32 dcA (fun k d => k.1.size + k.2.size + 1 ≤ Rows.uptoBulk d) := by
  cases n with
  | zero => exact Rdr.zero
  | succ n =>
    refine (Rdr.struct Try.underlying32 (fun a => ?_) (FRdr.cons (k := 1) rfl (by kernel_rfl) (fun _ => rfl) rd_str (FRdr.cons (k := 1) rfl (by kernel_rfl) (fun _ => rfl) rd_str FRdr.nil))).map (fun p => (p.1, p.2.1)) fun a d h => ⟨rfl, ?_⟩
    · have : Try.prog.cellsOf 32 = 2 := by kernel_rfl
      rw [this]
      rfl
    · obtain ⟨_, rfl, d1, _, rfl, h1, d2, _, rfl, h2, rfl⟩ := h
      simp only [Rows.uptoBulk, Rows.uptoBulkAll]
      omega
theorem rd_docs : Rdr enc Try.prog w n 22 (fun l : List Dc => .lst 2 (docs l) none) (fun l d => szD l ≤ Rows.uptoBulk d) := by
  cases n with
  | zero => exact Rdr.zero
  | succ n =>
    refine (Rdr.slice Try.underlying22 (k := 2) (by kernel_rfl) (by decide) (fun _ => rfl) rd_doc).map id fun a d h => ⟨rfl, ?_⟩
    rcases h with ⟨rfl, rfl⟩ | ⟨ds, r, rfl, h⟩
    · exact Nat.zero_le _
    · have := all2_bulk (sz := szD) (one := fun s => s.1.size + s.2.size + 1) rfl (fun _ _ => rfl) (fun _ _ h => h) h
      simp only [Rows.uptoBulk, id]
      omega
end
end Go.Proofs.Ytnjcbphapcbofaa
