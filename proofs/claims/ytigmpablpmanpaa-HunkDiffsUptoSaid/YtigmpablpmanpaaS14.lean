/- What is read of texts and hunks, and how much that is. -/
import Derived.Test.YtigmpablpmanpaaSA
import Derived.Test.YtigmpablpmanpaaVC
import Derived.Test.YtigmpablpmanpaaRows
namespace Go.Proofs.Ytigmpablpmanpaa
open Go.RowKit
set_option linter.unusedVariables false
set_option linter.unusedSimpArgs false

def szS : List ByteArray → Nat
  | [] => 0
  | s :: r => s.size + 1 + szS r
theorem szS_mem {l : List ByteArray} : l.length ≤ szS l ∧ ∀ s ∈ l, s.size ≤ szS l := by
  induction l with
  | nil => exact ⟨Nat.le_refl _, by simp⟩
  | cons x t ih =>
    simp only [szS, List.length_cons, List.mem_cons]
    refine ⟨by omega, fun s hs => ?_⟩
    rcases hs with rfl | hs
    · omega
    · have := ih.2 s hs; omega
theorem short_of_sz {l : List ByteArray} (h : szS l ≤ 2000000) : Short l :=
  ⟨by have := (szS_mem (l := l)).1; omega, fun s hs => by have := (szS_mem (l := l)).2 s hs; omega⟩
def Hk.sz (h : Hk) : Nat := szS h.old + szS h.new + 1
def inI64 (n : Int) : Prop := -9223372036854775808 ≤ n ∧ n ≤ 9223372036854775807
theorem short_hk {h : Hk} (k : h.sz ≤ 2000000) : h.short := by
  simp only [Hk.sz] at k
  exact ⟨short_of_sz (by omega), short_of_sz (by omega)⟩
theorem wf_i64 {n : Int} (h : (Lit.int .i64 n).wf = true) : inI64 n := by
  simp [Lit.wf, IntKind.min, IntKind.max, IntKind.signed, IntKind.bits] at h
  exact ⟨by omega, by omega⟩
def szHs : List Hk → Nat
  | [] => 0
  | h :: r => h.sz + szHs r
theorem szHs_mem {l : List Hk} : l.length ≤ szHs l ∧ ∀ s ∈ l, s.sz ≤ szHs l := by
  induction l with
  | nil => exact ⟨Nat.le_refl _, by simp⟩
  | cons x t ih =>
    simp only [szHs, List.length_cons, List.mem_cons]
    refine ⟨by simp only [Hk.sz]; omega, fun s hs => ?_⟩
    rcases hs with rfl | hs
    · omega
    · have := ih.2 s hs; omega

section
variable {Hh : Type} {enc : TypeId × Value → Hh} {w : World} {n : Nat}
theorem all2_bulk {α : Type} {p : α → DataW Hh → Prop} {sz : List α → Nat} {one : α → Nat} (h0 : sz [] = 0) (h1 : ∀ a r, sz (a :: r) = one a + sz r) (hp : ∀ a d, p a d → one a ≤ Rows.uptoBulk d) {l : List α} {ds : List (DataW Hh)} (h : All2 p l ds) : sz l ≤ Rows.uptoBulkAll ds := by
  induction h with
  | nil => rw [h0]; exact Nat.zero_le _
  | cons k _ ih =>
    have := hp _ _ k
    rw [h1]
    simp only [Rows.uptoBulkAll]
    omega

theorem rd_str : Rdr enc Try.prog w n 9 (fun s : ByteArray => .sc (.string s)) (fun s d => s.size + 1 ≤ Rows.uptoBulk d) :=
  (Rdr.str Try.underlying9).map id fun a d h => ⟨rfl, by
    subst h
    simp only [Rows.uptoBulk, Array.length_toList]
    exact Nat.le_refl _⟩
theorem rd_int : Rdr enc Try.prog w n 3 (fun i : Int => .sc (.int .i64 i)) (fun i d => inI64 i) :=
  (Rdr.int Try.underlying3).map id fun a d h => ⟨rfl, wf_i64 h.2⟩
theorem rd_strs : Rdr enc Try.prog w n 22 (fun l : List ByteArray => .lst 1 (strs l) none) (fun l d => szS l ≤ Rows.uptoBulk d) := by
  cases n with
  | zero => exact Rdr.zero
  | succ n =>
    refine (Rdr.slice Try.underlying22 (k := 1) (by kernel_rfl) (by decide) (fun _ => rfl) rd_str).map id fun a d h => ⟨rfl, ?_⟩
    rcases h with ⟨rfl, rfl⟩ | ⟨ds, r, rfl, h⟩
    · exact Nat.zero_le _
    · have := all2_bulk (sz := szS) (one := fun s => s.size + 1) rfl (fun _ _ => rfl) (fun _ _ h => h) h
      simp only [Rows.uptoBulk, id]
      omega
theorem rd_hunk : Rdr enc Try.prog w n 51 hk (fun k d => inI64 k.at_ ∧ k.sz ≤ Rows.uptoBulk d) := by
  cases n with
  | zero => exact Rdr.zero
  | succ n =>
    refine (Rdr.struct Try.underlying51 (fun a => ?_) (FRdr.cons (k := 1) rfl (by kernel_rfl) (fun _ => rfl) rd_int (FRdr.cons (k := 1) rfl (by kernel_rfl) (fun _ => rfl) rd_strs (FRdr.cons (k := 1) rfl (by kernel_rfl) (fun _ => rfl) rd_strs FRdr.nil)))).map (fun p => ⟨p.1, p.2.1, p.2.2.1⟩) fun a d h => ⟨rfl, ?_⟩
    · have : Try.prog.cellsOf 51 = 3 := by kernel_rfl
      rw [this]
      rfl
    · obtain ⟨_, rfl, d1, _, rfl, h1, d2, _, rfl, h2, d3, _, rfl, h3, rfl⟩ := h
      simp only [Rows.uptoBulk, Rows.uptoBulkAll, Hk.sz]
      exact ⟨h1, by omega⟩
end
end Go.Proofs.Ytigmpablpmanpaa
