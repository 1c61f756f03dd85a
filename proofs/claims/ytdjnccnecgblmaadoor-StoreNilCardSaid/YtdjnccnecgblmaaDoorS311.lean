/- A named patch as it comes in: fifteen cells. -/
import Derived.Test.YtdjnccnecgblmaaDoorS310
import Derived.Test.YtdjnccnecgblmaaDoorVC
import Derived.Test.YtdjnccnecgblmaaDoorRows
namespace Go.Proofs.YtdjnccnecgblmaaDoor
open Go.RowKit
set_option maxRecDepth 100000
set_option linter.unusedVariables false
set_option linter.unusedSimpArgs false
section
variable {Hh : Type} {enc : TypeId × Value → Hh} {w : World} {P : Program}
theorem Rdr.sliceTop {n : Nat} {t e : TypeId} (ht : P.underlying t = some (.slice e)) : Rdr enc P w n t (fun _ : Unit => AV.top) (fun _ _ => True) := by
 cases n with
 | zero => exact Rdr.zero
 | succ n =>
  intro cs d ps hd
  rcases DataW.trod_slice ht hd with ⟨rfl,h2⟩ | ⟨a,len,cap,elems,rest,m,hm,rfl,hx,_,hlc,hcm,hel,hnth,_,_⟩
  ·cases h2
   exact ⟨(),rfl,Rs_one rfl (u := .slice none 0 0) rfl rfl trivial,trivial⟩
  ·cases hx
   exact ⟨(),rfl,Rs_one rfl (u := .slice a len cap) rfl rfl trivial,trivial⟩
end
section
variable {Hh : Type} {enc : TypeId × Value → Hh} {w : World}
theorem rd_textT {n : Nat} : Rdr enc Tryd.prog w n 9 (fun s : ByteArray => .sc (.string s)) (fun _ _ => True) := (Rdr.str Tryd.underlying9).map id fun _ _ _ => ⟨rfl,trivial⟩
theorem rd_hunkT {n : Nat} : Rdr enc Tryd.prog w n 25 (fun a : Int => .agg [.sc (.int .i64 a),.top,.top]) (fun _ _ => True) := by
 cases n with
 | zero => exact Rdr.zero
 | succ n =>
  refine (Rdr.struct Tryd.underlying25 (fun a => ?_) (FRdr.cons (k := 1) rfl (by kernel_rfl) (fun _ => rfl) (Rdr.int Tryd.underlying3) (FRdr.cons (k := 1) rfl (by kernel_rfl) (fun _ => rfl) (Rdr.sliceTop Tryd.underlying23) (FRdr.cons (k := 1) rfl (by kernel_rfl) (fun _ => rfl) (Rdr.sliceTop Tryd.underlying23) FRdr.nil)))).map (fun p => p.1) fun a d h => ⟨rfl,trivial⟩
  have : Tryd.prog.cellsOf 25 = 3 := by kernel_rfl
  rw [this]
  rfl
theorem rd_editT {n : Nat} : Rdr enc Tryd.prog w n 30 (fun a : Int × Int × Int × ByteArray × ByteArray => .agg [.sc (.int .u8 a.1),.top,.sc (.int .i64 a.2.1),.sc (.int .i64 a.2.2.1),.sc (.string a.2.2.2.1),.sc (.string a.2.2.2.2),.top,.top]) (fun _ _ => True) := by
 cases n with
 | zero => exact Rdr.zero
 | succ n =>
  refine (Rdr.struct Tryd.underlying30 (fun a => ?_) (FRdr.cons (k := 1) rfl (by kernel_rfl) (fun _ => rfl) (Rdr.int Tryd.underlying26) (FRdr.cons (k := 1) rfl (by kernel_rfl) (fun _ => rfl) (Rdr.sliceTop Tryd.underlying27) (FRdr.cons (k := 1) rfl (by kernel_rfl) (fun _ => rfl) (Rdr.int Tryd.underlying3) (FRdr.cons (k := 1) rfl (by kernel_rfl) (fun _ => rfl) (Rdr.int Tryd.underlying3) (FRdr.cons (k := 1) rfl (by kernel_rfl) (fun _ => rfl) (Rdr.str Tryd.underlying9) (FRdr.cons (k := 1) rfl (by kernel_rfl) (fun _ => rfl) (Rdr.str Tryd.underlying9) (FRdr.cons (k := 1) rfl (by kernel_rfl) (fun _ => rfl) (Rdr.sliceTop Tryd.underlying28) (FRdr.cons (k := 1) rfl (by kernel_rfl) (fun _ => rfl) (Rdr.sliceTop Tryd.underlying28) FRdr.nil))))))))).map (fun p => (p.1,p.2.2.1,p.2.2.2.1,p.2.2.2.2.1,p.2.2.2.2.2.1)) fun a d h => ⟨rfl,trivial⟩
  have : Tryd.prog.cellsOf 30 = 8 := by kernel_rfl
  rw [this]
  rfl
theorem rd_patchT {n : Nat} : Rdr enc Tryd.prog w n 32 (fun a : Int × ByteArray × ByteArray × Int × (Int × Int × Int × ByteArray × ByteArray) => .agg [.sc (.int .u8 a.1),.sc (.string a.2.1),.sc (.string a.2.2.1),.sc (.int .i64 a.2.2.2.1),.top,.top,.sc (.int .u8 a.2.2.2.2.1),.top,.sc (.int .i64 a.2.2.2.2.2.1),.sc (.int .i64 a.2.2.2.2.2.2.1),.sc (.string a.2.2.2.2.2.2.2.1),.sc (.string a.2.2.2.2.2.2.2.2),.top,.top]) (fun _ _ => True) := by
 cases n with
 | zero => exact Rdr.zero
 | succ n =>
  refine (Rdr.struct Tryd.underlying32 (fun a => ?_) (FRdr.cons (k := 1) rfl (by kernel_rfl) (fun _ => rfl) (Rdr.int Tryd.underlying22) (FRdr.cons (k := 1) rfl (by kernel_rfl) (fun _ => rfl) (Rdr.str Tryd.underlying9) (FRdr.cons (k := 1) rfl (by kernel_rfl) (fun _ => rfl) (Rdr.str Tryd.underlying9) (FRdr.cons (k := 3) rfl (by kernel_rfl) (fun _ => rfl) rd_hunkT (FRdr.cons (k := 8) rfl (by kernel_rfl) (fun _ => rfl) rd_editT FRdr.nil)))))).map (fun p => (p.1,p.2.1,p.2.2.1,p.2.2.2.1,p.2.2.2.2.1)) fun a d h => ⟨rfl,trivial⟩
  have : Tryd.prog.cellsOf 32 = 14 := by kernel_rfl
  rw [this]
  rfl
theorem rd_named {n : Nat} : Rdr enc Tryd.prog w n 34 (fun a : ByteArray × (Int × ByteArray × ByteArray × Int × (Int × Int × Int × ByteArray × ByteArray)) => .agg [.sc (.string a.1),.sc (.int .u8 a.2.1),.sc (.string a.2.2.1),.sc (.string a.2.2.2.1),.sc (.int .i64 a.2.2.2.2.1),.top,.top,.sc (.int .u8 a.2.2.2.2.2.1),.top,.sc (.int .i64 a.2.2.2.2.2.2.1),.sc (.int .i64 a.2.2.2.2.2.2.2.1),.sc (.string a.2.2.2.2.2.2.2.2.1),.sc (.string a.2.2.2.2.2.2.2.2.2),.top,.top]) (fun _ _ => True) := by
 cases n with
 | zero => exact Rdr.zero
 | succ n =>
  refine (Rdr.struct Tryd.underlying34 (fun a => ?_) (FRdr.cons (k := 1) rfl (by kernel_rfl) (fun _ => rfl) (Rdr.str Tryd.underlying9) (FRdr.cons (k := 14) rfl (by kernel_rfl) (fun _ => rfl) rd_patchT FRdr.nil))).map (fun p => (p.1,p.2.1)) fun a d h => ⟨rfl,trivial⟩
  have : Tryd.prog.cellsOf 34 = 15 := by kernel_rfl
  rw [this]
  rfl
end
end Go.Proofs.YtdjnccnecgblmaaDoor
