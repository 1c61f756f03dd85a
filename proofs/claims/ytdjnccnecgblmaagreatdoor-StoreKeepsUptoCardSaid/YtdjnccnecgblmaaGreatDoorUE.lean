import Derived.Test.YtdjnccnecgblmaaGreatDoorSA
import Derived.Test.YtdjnccnecgblmaaGreatDoorVC
import Derived.Test.YtdjnccnecgblmaaGreatDoorRows
import Derived.Test.YtdjnccnecgblmaaGreatDoorTC
import Derived.Test.YtdjnccnecgblmaaGreatDoorTF
import Derived.Test.YtdjnccnecgblmaaGreatDoorS332
namespace Go.Proofs.YtdjnccnecgblmaaGreatDoor
open Go.RowKit
set_option linter.unusedVariables false
set_option linter.unusedSimpArgs false
def szS : List ByteArray→Nat
 | []=>0
 | s :: r=>s.size+1+szS r
theorem szS_mem {l : List ByteArray} : l.length ≤ szS l ∧ ∀ s ∈ l,s.size ≤ szS l:=by
 induction l with
 | nil=>exact ⟨Nat.le_refl _,by simp⟩
 | cons x t ih =>
  simp only[szS,List.length_cons,List.mem_cons]
  refine ⟨by omega,fun s hs=>?_⟩
  rcases hs with rfl | hs
  ·omega
  ·have:=ih.2 s hs;omega
theorem short_of_sz {l : List ByteArray} (h : szS l ≤ 2000000) : Short l :=
 ⟨by have:=(szS_mem (l:=l)).1;omega,fun s hs=>by have:=(szS_mem (l:=l)).2 s hs;omega⟩
def Hk.sz (h : Hk) : Nat:=szS h.old+szS h.new+1
def inI64 (n : Int) : Prop:=-9223372036854775808 ≤ n ∧ n ≤ 9223372036854775807
theorem short_hk {h : Hk} (k : h.sz ≤ 2000000) : h.short:=by
 simp only[Hk.sz] at k
 exact ⟨short_of_sz (by omega),short_of_sz (by omega)⟩
theorem wf_i64 {n : Int} (h : (Lit.int .i64 n).wf=true) : inI64 n:=by
 simp[Lit.wf,IntKind.min,IntKind.max,IntKind.signed,IntKind.bits] at h
 exact ⟨by omega,by omega⟩
section
variable {Hh : Type} {enc : TypeId × Value→Hh} {w : World} {n : Nat}
theorem all2_bulk {α : Type} {p : α→DataW Hh→Prop} {sz : List α→Nat} {one : α→Nat} (h0 : sz []=0) (h1 : ∀ a r,sz (a :: r)=one a+sz r) (hp : ∀ a d,p a d→one a ≤ Rows.uptoBulk d) {l : List α} {ds : List (DataW Hh)} (h : All2 p l ds) : sz l ≤ Rows.uptoBulkAll ds:=by
 induction h with
 | nil=>rw[h0];exact Nat.zero_le _
 | cons k _ ih =>
  have:=hp _ _ k
  rw[h1]
  simp only[Rows.uptoBulkAll]
  omega
theorem rd_str : Rdr enc Tryz.prog w n 9 (fun s : ByteArray=>.sc (.string s)) (fun s d=>s.size+1 ≤ Rows.uptoBulk d) :=
 (Rdr.str Tryz.underlying9).map id fun a d h=>⟨rfl,by
  subst h
  simp only[Rows.uptoBulk,Array.length_toList]
  exact Nat.le_refl _⟩
theorem rd_int : Rdr enc Tryz.prog w n 3 (fun i : Int=>.sc (.int .i64 i)) (fun i d=>inI64 i) :=
 (Rdr.int Tryz.underlying3).map id fun a d h=>⟨rfl,wf_i64 h.2⟩
theorem rd_strs : Rdr enc Tryz.prog w n 36 (fun l : List ByteArray=>.lst 1 (strs l) none) (fun l d=>szS l ≤ Rows.uptoBulk d):=by
 cases n with
 | zero=>exact Rdr.zero
 | succ n =>
  refine (Rdr.slice Tryz.underlying36 (k:=1) (by kernel_rfl) (by decide) (fun _=>rfl) rd_str).map id fun a d h=>⟨rfl,?_⟩
  rcases h with ⟨rfl,rfl⟩ | ⟨ds,r,rfl,h⟩
  ·exact Nat.zero_le _
  ·have:=all2_bulk (sz:=szS) (one:=fun s=>s.size+1) rfl (fun _ _=>rfl) (fun _ _ h=>h) h
   simp only[Rows.uptoBulk,id]
   omega
theorem rd_hunk : Rdr enc Tryz.prog w n 42 hk (fun k d=>inI64 k.at_ ∧ k.sz ≤ Rows.uptoBulk d):=by
 cases n with
 | zero=>exact Rdr.zero
 | succ n =>
  refine (Rdr.struct Tryz.underlying42 (fun a=>?_) (FRdr.cons (k:=1) rfl (by kernel_rfl) (fun _=>rfl) rd_int (FRdr.cons (k:=1) rfl (by kernel_rfl) (fun _=>rfl) rd_strs (FRdr.cons (k:=1) rfl (by kernel_rfl) (fun _=>rfl) rd_strs FRdr.nil)))).map (fun p=>⟨p.1,p.2.1,p.2.2.1⟩) fun a d h=>⟨rfl,?_⟩
  ·have : Tryz.prog.cellsOf 42=3:=by kernel_rfl
   rw[this]
   rfl
  ·obtain ⟨_,rfl,d1,_,rfl,h1,d2,_,rfl,h2,d3,_,rfl,h3,rfl⟩:=h
   simp only[Rows.uptoBulk,Rows.uptoBulkAll,Hk.sz]
   exact ⟨h1,by omega⟩
end
end Go.Proofs.YtdjnccnecgblmaaGreatDoor
namespace Go.Proofs.YtdjnccnecgblmaaGreatDoor
open Go.RowKit
set_option linter.unusedVariables false
set_option linter.unusedSimpArgs false
def ndCs (t : Nd) : List AV:=[.sc (.int .u8 t.kind),.sc (.string t.text),.sc (.int .i64 t.num),.lst 4 (ndL t.kids) none]
theorem ndCs_L (l : List Nd) : (l.map fun t=>AV.agg (ndCs t))=ndL l:=by
 rw[ndL_map]
 congr 1
 funext t
 rw[ndA_eq]
 rfl
theorem all2_bulkI {Hh : Type} {l : List Int} {ds : List (DataW Hh)} (h : All2 (fun (_ : Int) d=>1 ≤ Rows.uptoBulk d) l ds) : l.length ≤ Rows.uptoBulkAll ds:=by
 induction h with
 | nil=>simp
 | cons k _ ih =>
  simp only[List.length_cons,Rows.uptoBulkAll]
  omega
section
variable {Hh : Type} {enc : TypeId × Value→Hh} {w : World}
theorem rdt_str {n : Nat} : Rdr enc Tryz.prog w n 9 (fun s : ByteArray=>.sc (.string s)) (fun s d=>s.size+1 ≤ Rows.uptoBulk d) :=
 (Rdr.str Tryz.underlying9).map id fun a d h=>⟨rfl,by
  subst h
  simp only[Rows.uptoBulk,Array.length_toList]
  exact Nat.le_refl _⟩
theorem rdt_i64 {n : Nat} : Rdr enc Tryz.prog w n 2 (fun i : Int=>.sc (.int .i64 i)) (fun i d=>1 ≤ Rows.uptoBulk d) :=
 (Rdr.int Tryz.underlying2).map id fun a d h=>⟨rfl,by
  rw[h.1]
  simp only[Rows.uptoBulk]
  exact Nat.le_refl _⟩
theorem rdt_kind {n : Nat} : Rdr enc Tryz.prog w n 141 (fun i : Int=>.sc (.int .u8 i)) (fun i d=>1 ≤ Rows.uptoBulk d) :=
 (Rdr.int Tryz.underlying141).map id fun a d h=>⟨rfl,by
  rw[h.1]
  simp only[Rows.uptoBulk]
  exact Nat.le_refl _⟩
theorem rdt_int {n : Nat} : Rdr enc Tryz.prog w n 3 (fun i : Int=>.sc (.int .i64 i)) (fun i d=>1 ≤ Rows.uptoBulk d) :=
 (Rdr.int Tryz.underlying3).map id fun a d h=>⟨rfl,by
  rw[h.1]
  simp only[Rows.uptoBulk]
  exact Nat.le_refl _⟩
theorem rd_path {n : Nat} : Rdr enc Tryz.prog w n 44 (fun l : List Int=>.lst 1 (pthA l) none) (fun l d=>l.length ≤ Rows.uptoBulk d):=by
 cases n with
 | zero=>exact Rdr.zero
 | succ n =>
  refine (Rdr.slice Tryz.underlying44 (k:=1) (by kernel_rfl) (by decide) (fun _=>rfl) rdt_int).map id fun a d h=>⟨rfl,?_⟩
  rcases h with ⟨rfl,rfl⟩ | ⟨ds,r,rfl,h⟩
  ·exact Nat.zero_le _
  ·have:=all2_bulkI h
   simp only[Rows.uptoBulk,id]
   omega
end
end Go.Proofs.YtdjnccnecgblmaaGreatDoor
namespace Go.Proofs.YtdjnccnecgblmaaGreatDoor
open Go.RowKit
set_option maxRecDepth 100000
set_option linter.unusedVariables false
set_option linter.unusedSimpArgs false
def Ed.sz (e : Ed) : Nat:=e.path.length+e.fr.size+e.to_.size+(Nd.wtL e.old+Nd.sizeL e.old)+(Nd.wtL e.new+Nd.sizeL e.new)
def Pa.sz (p : Pa) : Nat:=p.file.size+p.text.size+p.h.sz+p.e.sz
def Nm.sz (x : Nm) : Nat:=x.1.size+x.2.sz+2
def szM (l : List Nm) : Nat:=(l.map Nm.sz).sum
def szMM (l : List (List Nm)) : Nat:=(l.map fun r=>szM r+1).sum
theorem Nd.size_wt (t : Nd) : t.size ≤ t.wt:=by
 induction t using Nd.ind with
 | _ t ih =>
  rw[Nd.size_eq,Nd.wt_eq]
  have key : ∀ l : List Nd,(∀ k ∈ l,k.size ≤ k.wt)→Nd.sizeL l ≤ Nd.wtL l:=by
   intro l
   induction l with
   | nil=>intro _;exact Nat.le_refl _
   | cons x r ihr =>
    intro h
    have h1:=h x (by simp)
    have h2:=ihr fun k hk=>h k (by simp[hk])
    simp only[Nd.sizeL,Nd.wtL]
    omega
  have:=key t.kids ih
  omega
theorem Nd.sizeL_wt (l : List Nd) : Nd.sizeL l ≤ Nd.wtL l:=by
 induction l with
 | nil=>exact Nat.le_refl _
 | cons x r ih=>have:=x.size_wt;simp only[Nd.sizeL,Nd.wtL];omega
theorem Ed.sm_of {e : Ed} (h : e.sz ≤ 1048576) : e.sm:=by
 have h1:=Nd.sizeL_wt e.old
 have h2:=Nd.sizeL_wt e.new
 simp only[Ed.sz] at h
 exact ⟨by omega,by omega,by omega,by omega,by omega,by omega,by omega⟩
theorem Pa.sm_of {p : Pa} (h : p.sz ≤ 1048576) : p.sm:=by
 simp only[Pa.sz] at h
 exact ⟨by omega,by omega,short_hk (by omega),Ed.sm_of (by omega)⟩
theorem Nm.sm_of {x : Nm} (h : Nm.sz x ≤ 1048576) : Nm.sm x:=by
 simp only[Nm.sz] at h
 exact ⟨by omega,Pa.sm_of (by omega)⟩
theorem szM_mem {l : List Nm} : 2 * l.length ≤ szM l ∧ ∀ x ∈ l,Nm.sz x ≤ szM l:=by
 induction l with
 | nil=>simp[szM]
 | cons x r ih =>
  have hs : szM (x :: r)=Nm.sz x+szM r:=by simp[szM]
  rw[hs]
  refine ⟨by simp only[List.length_cons,Nm.sz];omega,fun y hy=>?_⟩
  rcases List.mem_cons.1 hy with rfl | hy
  ·omega
  ·have:=ih.2 y hy;omega
theorem SmL_of {l : List Nm} (h : szM l ≤ 1048576) : SmL l:=⟨by have:=(szM_mem (l:=l)).1;omega,fun x hx=>Nm.sm_of (by have:=(szM_mem (l:=l)).2 x hx;omega)⟩
theorem szMM_mem {l : List (List Nm)} : l.length ≤ szMM l ∧ 2 * lenS l ≤ szMM l ∧ ∀ x ∈ l,szM x ≤ szMM l:=by
 induction l with
 | nil=>simp[szMM,lenS]
 | cons x r ih =>
  have hs : szMM (x :: r)=szM x+1+szMM r:=by simp[szMM]
  have hl : lenS (x :: r)=x.length+lenS r:=by simp[lenS]
  have hx:=(szM_mem (l:=x)).1
  rw[hs,hl]
  refine ⟨by simp only[List.length_cons];omega,by omega,fun y hy=>?_⟩
  rcases List.mem_cons.1 hy with rfl | hy
  ·omega
  ·have:=ih.2.2 y hy;omega
theorem SmLL_of {l : List (List Nm)} (h : szMM l ≤ 1048576) : SmLL l:=⟨by have:=(szMM_mem (l:=l)).1;omega,fun x hx=>SmL_of (by have:=(szMM_mem (l:=l)).2.2 x hx;omega)⟩
theorem all2_bulkN2 {Hh : Type} {l : List Nd} {ds : List (DataW Hh)} (h : All2 (fun (t : Nd) d=>t.wt+t.size ≤ Rows.uptoBulk d) l ds) : Nd.wtL l+Nd.sizeL l ≤ Rows.uptoBulkAll ds:=by
 induction h with
 | nil=>simp[Nd.wtL,Nd.sizeL]
 | cons k _ ih =>
  simp only[Nd.wtL,Nd.sizeL,Rows.uptoBulkAll]
  omega
section
variable {Hh : Type} {enc : TypeId × Value→Hh} {w : World}
theorem rd_node2 {n : Nat} : Rdr enc Tryz.prog w n 143 (fun t : Nd=>.agg (ndCs t)) (fun t d=>t.wt+t.size ≤ Rows.uptoBulk d):=by
 induction n using Nat.strongRecOn with
 | _ n ih =>
  cases n with
  | zero=>exact Rdr.zero
  | succ n =>
   have hkids : Rdr enc Tryz.prog w n 45 (fun l : List Nd=>.lst 4 (ndL l) none) (fun l d=>Nd.wtL l+Nd.sizeL l ≤ Rows.uptoBulk d):=by
    cases n with
    | zero=>exact Rdr.zero
    | succ n =>
     refine (Rdr.slice Tryz.underlying45 (k:=4) (by kernel_rfl) (by decide) (fun _=>rfl) (ih n (by omega))).map id fun a d h=>⟨by rw[ndCs_L];rfl,?_⟩
     rcases h with ⟨rfl,rfl⟩ | ⟨ds,r,rfl,h⟩
     ·exact Nat.zero_le _
     ·have:=all2_bulkN2 h
      simp only[Rows.uptoBulk,id]
      omega
   refine (Rdr.struct Tryz.underlying143 (fun a=>?_) (FRdr.cons (k:=1) rfl (by kernel_rfl) (fun _=>rfl) rdt_kind (FRdr.cons (k:=1) rfl (by kernel_rfl) (fun _=>rfl) rdt_str (FRdr.cons (k:=1) rfl (by kernel_rfl) (fun _=>rfl) rdt_i64 (FRdr.cons (k:=1) rfl (by kernel_rfl) (fun _=>rfl) hkids FRdr.nil))))).map (fun p=>(⟨p.1,p.2.1,p.2.2.1,p.2.2.2.1⟩ : Nd)) fun a d h=>⟨rfl,?_⟩
   ·have : Tryz.prog.cellsOf 143=4:=by kernel_rfl
    rw[this]
    rfl
   ·obtain ⟨_,rfl,d1,_,rfl,h1,d2,_,rfl,h2,d3,_,rfl,h3,d4,_,rfl,h4,rfl⟩:=h
    simp only[Rows.uptoBulk,Rows.uptoBulkAll,Nd.wt,Nd.size]
    omega
theorem rd_nodes {n : Nat} : Rdr enc Tryz.prog w n 45 (fun l : List Nd=>.lst 4 (ndL l) none) (fun l d=>Nd.wtL l+Nd.sizeL l ≤ Rows.uptoBulk d):=by
 cases n with
 | zero=>exact Rdr.zero
 | succ n =>
  refine (Rdr.slice Tryz.underlying45 (k:=4) (by kernel_rfl) (by decide) (fun _=>rfl) rd_node2).map id fun a d h=>⟨by rw[ndCs_L];rfl,?_⟩
  rcases h with ⟨rfl,rfl⟩ | ⟨ds,r,rfl,h⟩
  ·exact Nat.zero_le _
  ·have:=all2_bulkN2 h
   simp only[Rows.uptoBulk,id]
   omega
theorem rdt_ek {n : Nat} : Rdr enc Tryz.prog w n 43 (fun i : Int=>.sc (.int .u8 i)) (fun i d=>1 ≤ Rows.uptoBulk d) :=
 (Rdr.int Tryz.underlying43).map id fun a d h=>⟨rfl,by
  rw[h.1]
  simp only[Rows.uptoBulk]
  exact Nat.le_refl _⟩
theorem rdt_pk {n : Nat} : Rdr enc Tryz.prog w n 40 (fun i : Int=>.sc (.int .u8 i)) (fun i d=>1 ≤ Rows.uptoBulk d) :=
 (Rdr.int Tryz.underlying40).map id fun a d h=>⟨rfl,by
  rw[h.1]
  simp only[Rows.uptoBulk]
  exact Nat.le_refl _⟩
theorem rd_edit {n : Nat} : Rdr enc Tryz.prog w n 47 (fun e : Ed=>edV e) (fun e d=>e.sz ≤ Rows.uptoBulk d):=by
 cases n with
 | zero=>exact Rdr.zero
 | succ n =>
  refine (Rdr.struct Tryz.underlying47 (fun a=>?_) (FRdr.cons (k:=1) rfl (by kernel_rfl) (fun _=>rfl) rdt_ek (FRdr.cons (k:=1) rfl (by kernel_rfl) (fun _=>rfl) rd_path (FRdr.cons (k:=1) rfl (by kernel_rfl) (fun _=>rfl) rdt_int (FRdr.cons (k:=1) rfl (by kernel_rfl) (fun _=>rfl) rdt_int (FRdr.cons (k:=1) rfl (by kernel_rfl) (fun _=>rfl) rdt_str (FRdr.cons (k:=1) rfl (by kernel_rfl) (fun _=>rfl) rdt_str (FRdr.cons (k:=1) rfl (by kernel_rfl) (fun _=>rfl) rd_nodes (FRdr.cons (k:=1) rfl (by kernel_rfl) (fun _=>rfl) rd_nodes FRdr.nil))))))))).map (fun p=>(⟨p.1,p.2.1,p.2.2.1,p.2.2.2.1,p.2.2.2.2.1,p.2.2.2.2.2.1,p.2.2.2.2.2.2.1,p.2.2.2.2.2.2.2.1⟩ : Ed)) fun a d h=>⟨rfl,?_⟩
  ·have : Tryz.prog.cellsOf 47=8:=by kernel_rfl
   rw[this]
   rfl
  ·obtain ⟨_,rfl,d1,_,rfl,h1,d2,_,rfl,h2,d3,_,rfl,h3,d4,_,rfl,h4,d5,_,rfl,h5,d6,_,rfl,h6,d7,_,rfl,h7,d8,_,rfl,h8,rfl⟩:=h
   simp only[Rows.uptoBulk,Rows.uptoBulkAll,Ed.sz]
   omega
theorem rd_patch {n : Nat} : Rdr enc Tryz.prog w n 49 (fun p : Pa=>paV p) (fun p d=>p.sz ≤ Rows.uptoBulk d):=by
 cases n with
 | zero=>exact Rdr.zero
 | succ n =>
  refine (Rdr.struct Tryz.underlying49 (fun a=>?_) (FRdr.cons (k:=1) rfl (by kernel_rfl) (fun _=>rfl) rdt_pk (FRdr.cons (k:=1) rfl (by kernel_rfl) (fun _=>rfl) rdt_str (FRdr.cons (k:=1) rfl (by kernel_rfl) (fun _=>rfl) rdt_str (FRdr.cons (k:=3) rfl (by kernel_rfl) (fun _=>rfl) rd_hunk (FRdr.cons (k:=8) rfl (by kernel_rfl) (fun _=>rfl) rd_edit FRdr.nil)))))).map (fun p=>(⟨p.1,p.2.1,p.2.2.1,p.2.2.2.1,p.2.2.2.2.1⟩ : Pa)) fun a d h=>⟨rfl,?_⟩
  ·have : Tryz.prog.cellsOf 49=14:=by kernel_rfl
   rw[this]
   rfl
  ·obtain ⟨_,rfl,d1,_,rfl,h1,d2,_,rfl,h2,d3,_,rfl,h3,d4,_,rfl,h4,d5,_,rfl,h5,rfl⟩:=h
   have h4':=h4.2
   simp only[Rows.uptoBulk,Rows.uptoBulkAll,Pa.sz]
   omega
theorem rd_named {n : Nat} : Rdr enc Tryz.prog w n 60 (fun x : Nm=>nmV x) (fun x d=>Nm.sz x ≤ Rows.uptoBulk d):=by
 cases n with
 | zero=>exact Rdr.zero
 | succ n =>
  refine (Rdr.struct Tryz.underlying60 (fun a=>?_) (FRdr.cons (k:=1) rfl (by kernel_rfl) (fun _=>rfl) rdt_str (FRdr.cons (k:=14) rfl (by kernel_rfl) (fun _=>rfl) rd_patch FRdr.nil))).map (fun p=>((p.1,p.2.1) : Nm)) fun a d h=>⟨rfl,?_⟩
  ·have : Tryz.prog.cellsOf 60=15:=by kernel_rfl
   rw[this]
   rfl
  ·obtain ⟨_,rfl,d1,_,rfl,h1,d2,_,rfl,h2,rfl⟩:=h
   simp only[Rows.uptoBulk,Rows.uptoBulkAll,Nm.sz]
   omega
theorem rd_row {n : Nat} : Rdr enc Tryz.prog w n 29 (fun l : List Nm=>.lst 15 (pnR l) none) (fun l d=>szM l+1 ≤ Rows.uptoBulk d):=by
 cases n with
 | zero=>exact Rdr.zero
 | succ n =>
  refine (Rdr.slice Tryz.underlying29 (k:=15) (by kernel_rfl) (by decide) (fun _=>rfl) rd_named).map id fun a d h=>⟨rfl,?_⟩
  rcases h with ⟨rfl,rfl⟩ | ⟨ds,r,rfl,h⟩
  ·exact Nat.le_refl _
  ·have:=all2_bulk (sz:=szM) (one:=Nm.sz) rfl (fun _ _=>by simp[szM]) (fun _ _ h=>h) h
   simp only[Rows.uptoBulk,id]
   omega
theorem rd_rows {n : Nat} : Rdr enc Tryz.prog w n 22 (fun l : List (List Nm)=>.lst 1 (pnRR l) none) (fun l d=>szMM l ≤ Rows.uptoBulk d):=by
 cases n with
 | zero=>exact Rdr.zero
 | succ n =>
  refine (Rdr.slice Tryz.underlying22 (k:=1) (by kernel_rfl) (by decide) (fun _=>rfl) rd_row).map id fun a d h=>⟨rfl,?_⟩
  rcases h with ⟨rfl,rfl⟩ | ⟨ds,r,rfl,h⟩
  ·exact Nat.zero_le _
  ·have:=all2_bulk (sz:=szMM) (one:=fun r=>szM r+1) rfl (fun _ _=>by simp[szMM]) (fun _ _ h=>h) h
   simp only[Rows.uptoBulk,id]
   omega
end
end Go.Proofs.YtdjnccnecgblmaaGreatDoor
