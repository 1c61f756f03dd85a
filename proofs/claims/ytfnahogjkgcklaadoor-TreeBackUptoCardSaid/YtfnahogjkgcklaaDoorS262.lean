/- awake. -/
import Derived.Test.YtfnahogjkgcklaaDoorS261
namespace Go.Proofs.YtfnahogjkgcklaaDoor
open Go.RowKit
set_option maxRecDepth 100000
set_option linter.unusedVariables false
set_option linter.unusedSimpArgs false
def oneN : Nd := ⟨20,⟨#[]⟩,1,[]⟩
def retN : Nd := ⟨10,⟨#[]⟩,0,[oneN]⟩
def blkN : Nd := ⟨5,⟨#[]⟩,0,[retN]⟩
def blk0 : Nd := ⟨5,⟨#[]⟩,0,[]⟩
def aN : Nd := ⟨22,⟨#[97]⟩,0,[]⟩
def calN : Nd := ⟨25,⟨#[102]⟩,0,[aN,aN]⟩
def oneA : AV := .agg [.sc (.int .u8 20),.sc (.string ⟨#[]⟩),.sc (.int .i64 1),.lst 0 [] (some [])]
def retA : AV := .agg [.sc (.int .u8 10),.sc (.string ⟨#[]⟩),.sc (.int .i64 0),.lst 4 [oneA] (some [])]
def blkA : AV := .agg [.sc (.int .u8 5),.sc (.string ⟨#[]⟩),.sc (.int .i64 0),.lst 4 [retA] (some [])]
theorem one_le : Le oneA (ndR oneN none) := .agg (.cons .refl (.cons .refl (.cons .refl (.cons .nil .nil))))
theorem one_le' : Le oneA (ndA oneN) := by rw [← ndR_none]; exact one_le
theorem ret_le : Le retA (ndA retN) := by
 rw [ndA_eq]
 exact .agg (.cons .refl (.cons .refl (.cons .refl (.cons (.lst (.cons one_le' .nil)) .nil))))
theorem blk_le : Le blkA (ndR blkN none) := by
 rw [ndR_eq]
 exact .agg (.cons .refl (.cons .refl (.cons .refl (.cons (.lst (.cons ret_le .nil)) .nil))))
theorem get_a : getV blkN [0,0] = .tup [ndA oneN,.sc (.bool true)] := by
 have h : getN blkN [0,0] = some oneN := by rfl
 unfold getV
 rw [h]
theorem put_a : putV blkN blk0 [0] = .tup [ndA ⟨5,⟨#[]⟩,0,[blk0]⟩,.sc (.int .i64 0)] := by
 have h : getN blkN [0] = some retN := by rfl
 have h2 : withN blkN blk0 [0] = ⟨5,⟨#[]⟩,0,[blk0]⟩ := by rfl
 have h3 : rightN ⟨5,⟨#[]⟩,0,[blk0]⟩ 40 = true := by decide +kernel
 unfold putV
 rw [h,h2,h3]
 rfl
theorem put_b : putV blkN oneN [0] = .tup [ndA Nd.none,.sc (.int .i64 4)] := by
 have h : getN blkN [0] = some retN := by rfl
 have h2 : withN blkN oneN [0] = ⟨5,⟨#[]⟩,0,[oneN]⟩ := by rfl
 have h3 : rightN ⟨5,⟨#[]⟩,0,[oneN]⟩ 40 = false := by decide +kernel
 unfold putV
 rw [h,h2,h3]
 rfl
theorem put_c : putV blkN oneN [1] = .tup [ndA Nd.none,.sc (.int .i64 6)] := by
 have h : getN blkN [1] = none := by rfl
 unfold putV
 rw [h]
theorem right_a : rightN blkN 40 = true := by decide +kernel
theorem size_a : blkN.size = 3 := by decide +kernel
theorem srt_a : (toL (nmsL [calN])).mergeSort (fun x y => decide (x ≤ y)) = [[97],[97],[102]] := by
 have h : toL (nmsL [calN]) = [[102],[97],[97]] := by decide +kernel
 rw [h]
 have h1 : ¬ ([102] : List UInt8) ≤ [97] := by decide
 have h2 : ([97] : List UInt8) ≤ [97] := by decide
 have h3 : ¬ ([97] : List UInt8) > [97] := by decide
 simp [List.mergeSort,List.MergeSort.Internal.splitInTwo,List.merge,h1,h2]
theorem names_a : uniqT (nmsL [calN]) = [⟨#[97]⟩,⟨#[102]⟩] := by
 unfold uniqT srtL
 rw [srt_a]
 decide +kernel
end Go.Proofs.YtfnahogjkgcklaaDoor
