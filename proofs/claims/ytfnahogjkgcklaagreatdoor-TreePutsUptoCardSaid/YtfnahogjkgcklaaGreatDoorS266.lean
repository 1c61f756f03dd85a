import Derived.Test.YtfnahogjkgcklaaGreatDoorTC
import Derived.Test.YtfnahogjkgcklaaGreatDoorTF
import Derived.Test.YtfnahogjkgcklaaGreatDoorVC
import Derived.Test.YtfnahogjkgcklaaGreatDoorRows
namespace Go.Proofs.YtfnahogjkgcklaaGreatDoor
open Go.RowKit
set_option linter.unusedVariables false
set_option linter.unusedSimpArgs false
def ndCs (t : Nd) : List AV:=[.sc (.int .u8 t.kind),.sc (.string t.text),.sc (.int .i64 t.num),.lst 4 (ndL t.kids) none]
theorem ndCs_L (l : List Nd) : (l.map fun t=>AV.agg (ndCs t))=ndL l:=by
 rw[ndL_map]
 congr 1
 funext t
 rw[ndA_eq]
 rfl
theorem all2_bulkN {Hh : Type} {l : List Nd} {ds : List (DataW Hh)} (h : All2 (fun (t : Nd) d=>t.wt ≤ Rows.uptoBulk d) l ds) : Nd.wtL l ≤ Rows.uptoBulkAll ds:=by
 induction h with
 | nil=>simp[Nd.wtL]
 | cons k _ ih =>
  simp only[Nd.wtL,Rows.uptoBulkAll]
  omega
theorem all2_bulkI {Hh : Type} {l : List Int} {ds : List (DataW Hh)} (h : All2 (fun (_ : Int) d=>1 ≤ Rows.uptoBulk d) l ds) : l.length ≤ Rows.uptoBulkAll ds:=by
 induction h with
 | nil=>simp
 | cons k _ ih =>
  simp only[List.length_cons,Rows.uptoBulkAll]
  omega
section
variable {Hh : Type} {enc : TypeId × Value→Hh} {w : World}
theorem rdt_str {n : Nat} : Rdr enc Tryz.prog w n 9 (fun s : ByteArray=>.sc (.string s)) (fun s d=>s.size+1 ≤ Rows.uptoBulk d) :=
 (Rdr.str Tryz.underlying9).map id fun a d h=>⟨rfl,by
  subst h
  simp only[Rows.uptoBulk,Array.length_toList]
  exact Nat.le_refl _⟩
theorem rdt_i64 {n : Nat} : Rdr enc Tryz.prog w n 2 (fun i : Int=>.sc (.int .i64 i)) (fun i d=>1 ≤ Rows.uptoBulk d) :=
 (Rdr.int Tryz.underlying2).map id fun a d h=>⟨rfl,by
  rw[h.1]
  simp only[Rows.uptoBulk]
  exact Nat.le_refl _⟩
theorem rdt_kind {n : Nat} : Rdr enc Tryz.prog w n 22 (fun i : Int=>.sc (.int .u8 i)) (fun i d=>1 ≤ Rows.uptoBulk d) :=
 (Rdr.int Tryz.underlying22).map id fun a d h=>⟨rfl,by
  rw[h.1]
  simp only[Rows.uptoBulk]
  exact Nat.le_refl _⟩
theorem rdt_int {n : Nat} : Rdr enc Tryz.prog w n 3 (fun i : Int=>.sc (.int .i64 i)) (fun i d=>1 ≤ Rows.uptoBulk d) :=
 (Rdr.int Tryz.underlying3).map id fun a d h=>⟨rfl,by
  rw[h.1]
  simp only[Rows.uptoBulk]
  exact Nat.le_refl _⟩
theorem rd_path {n : Nat} : Rdr enc Tryz.prog w n 26 (fun l : List Int=>.lst 1 (pthA l) none) (fun l d=>l.length ≤ Rows.uptoBulk d):=by
 cases n with
 | zero=>exact Rdr.zero
 | succ n =>
  refine (Rdr.slice Tryz.underlying26 (k:=1) (by kernel_rfl) (by decide) (fun _=>rfl) rdt_int).map id fun a d h=>⟨rfl,?_⟩
  rcases h with ⟨rfl,rfl⟩ | ⟨ds,r,rfl,h⟩
  ·exact Nat.zero_le _
  ·have:=all2_bulkI h
   simp only[Rows.uptoBulk,id]
   omega
theorem rd_node {n : Nat} : Rdr enc Tryz.prog w n 25 (fun t : Nd=>.agg (ndCs t)) (fun t d=>t.wt ≤ Rows.uptoBulk d):=by
 induction n using Nat.strongRecOn with
 | _ n ih =>
  cases n with
  | zero=>exact Rdr.zero
  | succ n =>
   have hkids : Rdr enc Tryz.prog w n 23 (fun l : List Nd=>.lst 4 (ndL l) none) (fun l d=>Nd.wtL l ≤ Rows.uptoBulk d):=by
    cases n with
    | zero=>exact Rdr.zero
    | succ n =>
     refine (Rdr.slice Tryz.underlying23 (k:=4) (by kernel_rfl) (by decide) (fun _=>rfl) (ih n (by omega))).map id fun a d h=>⟨by rw[ndCs_L];rfl,?_⟩
     rcases h with ⟨rfl,rfl⟩ | ⟨ds,r,rfl,h⟩
     ·exact Nat.zero_le _
     ·have:=all2_bulkN h
      simp only[Rows.uptoBulk,id]
      omega
   refine (Rdr.struct Tryz.underlying25 (fun a=>?_) (FRdr.cons (k:=1) rfl (by kernel_rfl) (fun _=>rfl) rdt_kind (FRdr.cons (k:=1) rfl (by kernel_rfl) (fun _=>rfl) rdt_str (FRdr.cons (k:=1) rfl (by kernel_rfl) (fun _=>rfl) rdt_i64 (FRdr.cons (k:=1) rfl (by kernel_rfl) (fun _=>rfl) hkids FRdr.nil))))).map (fun p=>(⟨p.1,p.2.1,p.2.2.1,p.2.2.2.1⟩ : Nd)) fun a d h=>⟨rfl,?_⟩
   ·have : Tryz.prog.cellsOf 25=4:=by kernel_rfl
    rw[this]
    rfl
   ·obtain ⟨_,rfl,d1,_,rfl,h1,d2,_,rfl,h2,d3,_,rfl,h3,d4,_,rfl,h4,rfl⟩:=h
    simp only[Rows.uptoBulk,Rows.uptoBulkAll,Nd.wt]
    omega
end
end Go.Proofs.YtfnahogjkgcklaaGreatDoor
