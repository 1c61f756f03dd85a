/- Values, as they come in: what is read of them, and how much that is. -/
import Derived.Test.YtpnnpooeheiedaaDoorS200
import Derived.Test.YtpnnpooeheiedaaDoorVC
import Derived.Test.YtpnnpooeheiedaaDoorRows
namespace Go.Proofs.YtpnnpooeheiedaaDoor
open Go.RowKit
set_option linter.unusedVariables false
set_option linter.unusedSimpArgs false
theorem wf_I64 {n : Int} (h : (Lit.int .i64 n).wf = true) : I64 n := by
 simp [Lit.wf,IntKind.min,IntKind.max,IntKind.signed,IntKind.bits] at h
 exact ⟨by omega,by omega⟩
/-- A value whose numbers are numbers of 64 bits. -/
def Vl.good (v : Vl) : Prop := I64 v.num ∧ (0 ≤ v.kind ∧ v.kind ≤ 255) ∧ ∀ n ∈ v.row,I64 n
def szV : List Vl → Nat
 | [] => 0
 | v :: r => v.row.length + 1 + szV r
theorem szV_mem {l : List Vl} : l.length ≤ szV l ∧ ∀ s ∈ l,s.row.length ≤ szV l := by
 induction l with
 | nil => exact ⟨Nat.le_refl _,by simp⟩
 | cons x t ih =>
  simp only [szV,List.length_cons,List.mem_cons]
  refine ⟨by omega,fun s hs => ?_⟩
  rcases hs with rfl | hs
  ·omega
  ·have := ih.2 s hs; omega
def vlCs (v : Vl) : List AV := [.sc (.int .u8 v.kind),.sc (.int .i64 v.num),.lst 1 (lng v.row) none]
section
variable {Hh : Type} {enc : TypeId × Value → Hh} {w : World} {n : Nat}
theorem rdv_str : Rdr enc Tryd.prog w n 9 (fun s : ByteArray => .sc (.string s)) (fun s d => s.size + 1 ≤ Rows.uptoBulk d) :=
 (Rdr.str Tryd.underlying9).map id fun a d h => ⟨rfl,by
  subst h
  simp only [Rows.uptoBulk,Array.length_toList]
  exact Nat.le_refl _⟩
theorem rdv_i64b : Rdr enc Tryd.prog w n 2 (fun i : Int => .sc (.int .i64 i)) (fun i d => I64 i ∧ 1 ≤ Rows.uptoBulk d) :=
 (Rdr.int Tryd.underlying2).map id fun a d h => ⟨rfl,wf_I64 h.2,by
  rw [h.1]
  simp only [Rows.uptoBulk]
  exact Nat.le_refl _⟩
theorem rdv_kind : Rdr enc Tryd.prog w n 22 (fun i : Int => .sc (.int .u8 i)) (fun i d => 0 ≤ i ∧ i ≤ 255) :=
 (Rdr.int Tryd.underlying22).map id fun a d h => ⟨rfl,by
  have h := h.2
  simp [Lit.wf,IntKind.min,IntKind.max,IntKind.signed,IntKind.bits] at h
  show 0 ≤ a ∧ a ≤ 255
  exact ⟨by omega,by omega⟩⟩
theorem all2_bulkV {α : Type} {p : α → DataW Hh → Prop} {sz : List α → Nat} {one : α → Nat} (h0 : sz [] = 0) (h1 : ∀ a r,sz (a :: r) = one a + sz r) (hp : ∀ a d,p a d → one a ≤ Rows.uptoBulk d) {l : List α} {ds : List (DataW Hh)} (h : All2 p l ds) : sz l ≤ Rows.uptoBulkAll ds := by
 induction h with
 | nil => rw [h0]; exact Nat.zero_le _
 | cons k _ ih =>
  have := hp _ _ k
  rw [h1]
  simp only [Rows.uptoBulkAll]
  omega
theorem all2_left {α β : Type} {p : α → β → Prop} {q : α → Prop} (hq : ∀ a b,p a b → q a) {l : List α} {ds : List β} (h : All2 p l ds) : ∀ a ∈ l,q a := by
 induction h with
 | nil => intro a ha; cases ha
 | cons k _ ih =>
  intro a ha
  rcases List.mem_cons.1 ha with rfl | ha
  ·exact hq _ _ k
  ·exact ih a ha
theorem rdv_row : Rdr enc Tryd.prog w n 23 (fun l : List Int => .lst 1 (lng l) none) (fun l d => (∀ x ∈ l,I64 x) ∧ l.length ≤ Rows.uptoBulk d) := by
 cases n with
 | zero => exact Rdr.zero
 | succ n =>
  refine (Rdr.slice Tryd.underlying23 (k := 1) (by kernel_rfl) (by decide) (fun _ => rfl) rdv_i64b).map id fun a d h => ⟨rfl,?_⟩
  rcases h with ⟨rfl,rfl⟩ | ⟨ds,r,rfl,h⟩
  ·exact ⟨fun x hx => (by cases hx),Nat.zero_le _⟩
  ·refine ⟨all2_left (fun _ _ h => h.1) h,?_⟩
   have := all2_bulkV (sz := fun l : List Int => l.length) (one := fun _ => 1) rfl (fun _ _ => by simp; omega) (fun _ _ h => h.2) h
   simp only [Rows.uptoBulk,id]
   omega
theorem rdv_val : Rdr enc Tryd.prog w n 25 (fun v : Vl => .agg (vlCs v)) (fun v d => v.good ∧ v.row.length + 1 ≤ Rows.uptoBulk d) := by
 cases n with
 | zero => exact Rdr.zero
 | succ n =>
  refine (Rdr.struct Tryd.underlying25 (fun a => ?_) (FRdr.cons (k := 1) rfl (by kernel_rfl) (fun _ => rfl) rdv_kind (FRdr.cons (k := 1) rfl (by kernel_rfl) (fun _ => rfl) rdv_i64b (FRdr.cons (k := 1) rfl (by kernel_rfl) (fun _ => rfl) rdv_row FRdr.nil)))).map (fun p => ⟨p.1,p.2.1,p.2.2.1⟩) fun a d h => ⟨rfl,?_⟩
  ·have : Tryd.prog.cellsOf 25 = 3 := by kernel_rfl
   rw [this]
   rfl
  ·obtain ⟨_,rfl,d1,_,rfl,h1,d2,_,rfl,h2,d3,_,rfl,h3,rfl⟩ := h
   simp only [Rows.uptoBulk,Rows.uptoBulkAll]
   exact ⟨⟨h2.1,h1,h3.1⟩,by have := h2.2; have := h3.2; omega⟩
end
end Go.Proofs.YtpnnpooeheiedaaDoor
