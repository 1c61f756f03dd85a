/- Trees and paths, as they come in: what is read of them, and how much that is. -/
import Derived.Test.YtfnahogjkgcklaaDoorTC
import Derived.Test.YtfnahogjkgcklaaDoorTF
import Derived.Test.YtfnahogjkgcklaaDoorVC
import Derived.Test.YtfnahogjkgcklaaDoorRows
namespace Go.Proofs.YtfnahogjkgcklaaDoor
open Go.RowKit
set_option linter.unusedVariables false
set_option linter.unusedSimpArgs false
def ndCs (t : Nd) : List AV := [.sc (.int .u8 t.kind),.sc (.string t.text),.sc (.int .i64 t.num),.lst 4 (ndL t.kids) none]
theorem ndCs_L (l : List Nd) : (l.map fun t => AV.agg (ndCs t)) = ndL l := by
 rw [ndL_map]
 congr 1
 funext t
 rw [ndA_eq]
 rfl
theorem all2_bulkN {Hh : Type} {l : List Nd} {ds : List (DataW Hh)} (h : All2 (fun (t : Nd) d => t.wt ≤ Rows.uptoBulk d) l ds) : Nd.wtL l ≤ Rows.uptoBulkAll ds := by
 induction h with
 | nil => simp [Nd.wtL]
 | cons k _ ih =>
  simp only [Nd.wtL,Rows.uptoBulkAll]
  omega
section
variable {Hh : Type} {enc : TypeId × Value → Hh} {w : World}
theorem rdt_str {n : Nat} : Rdr enc Tryd.prog w n 9 (fun s : ByteArray => .sc (.string s)) (fun s d => s.size + 1 ≤ Rows.uptoBulk d) :=
 (Rdr.str Tryd.underlying9).map id fun a d h => ⟨rfl,by
  subst h
  simp only [Rows.uptoBulk,Array.length_toList]
  exact Nat.le_refl _⟩
theorem rdt_i64 {n : Nat} : Rdr enc Tryd.prog w n 2 (fun i : Int => .sc (.int .i64 i)) (fun i d => 1 ≤ Rows.uptoBulk d) :=
 (Rdr.int Tryd.underlying2).map id fun a d h => ⟨rfl,by
  rw [h.1]
  simp only [Rows.uptoBulk]
  exact Nat.le_refl _⟩
theorem rdt_kind {n : Nat} : Rdr enc Tryd.prog w n 22 (fun i : Int => .sc (.int .u8 i)) (fun i d => 1 ≤ Rows.uptoBulk d) :=
 (Rdr.int Tryd.underlying22).map id fun a d h => ⟨rfl,by
  rw [h.1]
  simp only [Rows.uptoBulk]
  exact Nat.le_refl _⟩
theorem rd_node {n : Nat} : Rdr enc Tryd.prog w n 25 (fun t : Nd => .agg (ndCs t)) (fun t d => t.wt ≤ Rows.uptoBulk d) := by
 induction n using Nat.strongRecOn with
 | _ n ih =>
  cases n with
  | zero => exact Rdr.zero
  | succ n =>
   have hkids : Rdr enc Tryd.prog w n 23 (fun l : List Nd => .lst 4 (ndL l) none) (fun l d => Nd.wtL l ≤ Rows.uptoBulk d) := by
    cases n with
    | zero => exact Rdr.zero
    | succ n =>
     refine (Rdr.slice Tryd.underlying23 (k := 4) (by kernel_rfl) (by decide) (fun _ => rfl) (ih n (by omega))).map id fun a d h => ⟨by rw [ndCs_L]; rfl,?_⟩
     rcases h with ⟨rfl,rfl⟩ | ⟨ds,r,rfl,h⟩
     ·exact Nat.zero_le _
     ·have := all2_bulkN h
      simp only [Rows.uptoBulk,id]
      omega
   refine (Rdr.struct Tryd.underlying25 (fun a => ?_) (FRdr.cons (k := 1) rfl (by kernel_rfl) (fun _ => rfl) rdt_kind (FRdr.cons (k := 1) rfl (by kernel_rfl) (fun _ => rfl) rdt_str (FRdr.cons (k := 1) rfl (by kernel_rfl) (fun _ => rfl) rdt_i64 (FRdr.cons (k := 1) rfl (by kernel_rfl) (fun _ => rfl) hkids FRdr.nil))))).map (fun p => (⟨p.1,p.2.1,p.2.2.1,p.2.2.2.1⟩ : Nd)) fun a d h => ⟨rfl,?_⟩
   ·have : Tryd.prog.cellsOf 25 = 4 := by kernel_rfl
    rw [this]
    rfl
   ·obtain ⟨_,rfl,d1,_,rfl,h1,d2,_,rfl,h2,d3,_,rfl,h3,d4,_,rfl,h4,rfl⟩ := h
    simp only [Rows.uptoBulk,Rows.uptoBulkAll,Nd.wt]
    omega
end
end Go.Proofs.YtfnahogjkgcklaaDoor
