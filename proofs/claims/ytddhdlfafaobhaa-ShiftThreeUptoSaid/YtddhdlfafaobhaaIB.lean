/- strings.IndexByte. -/
import Derived.Test.YtddhdlfafaobhaaIc1
import Derived.Test.YtddhdlfafaobhaaS1
namespace Go.Proofs.Ytddhdlfafaobhaa
open Go.RowKit
set_option linter.unusedVariables false
set_option linter.unusedSimpArgs false

theorem run_indexStr (s : ByteArray) (c : Int) (w : World) : (callFunc 124 #[.string s, .int .u8 c]).run Try.prog w = .ok (.value (.int .i64 (Lib.indexByte s.data.toList c.toNat.toUInt8))) w := by
  have hf := Try.func124
  rw [run_callFunc_extern (e := Extern.BytealgIndexByte.indexByte) hf (by kernel_rfl) (by kernel_rfl) (by kernel_rfl) (by kernel_rfl), Lib.run_indexByteString (P := Try.prog) s c w]
  rfl

theorem indexByte_any (s : ByteArray) (w : World) : Calls Try.prog 68 #[.string s, .int .u8 10] w fun e w' => e = .returned (.int .i64 (Lib.indexByte s.data.toList 10)) ∧ w = w' := by
  have hr := fun w => run_indexStr s 10 w
  have hlit : (10 : Int).toNat.toUInt8 = 10 := rfl
  rw [hlit] at hr
  go_enter Try.func68, Try.ntmps68
  go_wp2
  go_ret
  exact ⟨rfl, rfl⟩

def nl (s : ByteArray) : Int := Lib.indexByte s.data.toList 10
theorem indexByte_d (s : ByteArray) (H : AHeap) : D Try.prog 68 [.sc (.string s), .sc (.int .u8 10)] H (.ret (.sc (.int .i64 (nl s)))) H := by
  refine D_of_calls (fun w vs φ O ha => ?_) rfl
  obtain ⟨v, r, h1, h2, h3⟩ := Rt_cons ha
  obtain ⟨u, h4, h5⟩ := Rt_one h3
  rw [h4] at h1
  rw [arr_of h1, VR_sc h2, VR_sc h5]
  exact indexByte_any s w
end Go.Proofs.Ytddhdlfafaobhaa
