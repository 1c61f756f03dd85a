/- strings.Repeat: the shelf's contract at this program, and in the walker's words. The tables of numbers were printed by the kit's laying tool. -/
import Derived.Shelf.Strings.Repeat
import Derived.Test.YtljajanjjcdelaaGreatVC
import Derived.Test.YtljajanjjcdelaaGreatProg
namespace Go.Proofs.YtljajanjjcdelaaGreat
open Go.RowKit Go.Shelf
set_option linter.unusedVariables false
def lays105_ren : Go.Shelf.Ren := ⟨fun | 105 => 7 | 212 => 23 | 99 => 24 | 165 => 25 | 166 => 26 | 170 => 27 | 169 => 28 | 263 => 42 | 264 => 43 | 206 => 44 | 240 => 45 | 241 => 46 | 276 => 75 | 277 => 76 | n => n,fun | 9 => 9 | 3 => 3 | 4 => 4 | 20 => 20 | 0 => 0 | 46 => 44 | 109 => 45 | 5 => 5 | 72 => 50 | 76 => 54 | 51 => 94 | 146 => 95 | 53 => 97 | 148 => 98 | 70 => 48 | 37 => 22 | 75 => 53 | 127 => 100 | 164 => 128 | 80 => 57 | n => n,fun | n => n⟩
theorem lays105 : Go.Proofs.Lays.n105 Tryz.prog lays105_ren := {
 mixed := by kernel_rfl
 f99 := Tryz.func24.trans (congrArg some (by kernel_rfl))
 f105 := Tryz.func7.trans (congrArg some (by kernel_rfl))
 f165 := Tryz.func25.trans (congrArg some (by kernel_rfl))
 f166 := Tryz.func26.trans (congrArg some (by kernel_rfl))
 f169 := Tryz.func28.trans (congrArg some (by kernel_rfl))
 f170 := Tryz.func27.trans (congrArg some (by kernel_rfl))
 f206 := Tryz.func44.trans (congrArg some (by kernel_rfl))
 f212 := Tryz.func23.trans (congrArg some (by kernel_rfl))
 f240 := Tryz.func45.trans (congrArg some (by kernel_rfl))
 f241 := Tryz.func46.trans (congrArg some (by kernel_rfl))
 f263 := Tryz.func42.trans (congrArg some (by kernel_rfl))
 f264 := Tryz.func43.trans (congrArg some (by kernel_rfl))
 f276 := Tryz.func75.trans (congrArg some (by kernel_rfl))
 f277 := Tryz.func76.trans (congrArg some (by kernel_rfl))
 t0 := Tryz.underlying0
 a0 := Tryz.isAgg0
 z0 := Tryz.sizeOf0
 v0 := Tryz.zeroValue0
 t3 := Tryz.underlying3
 a3 := Tryz.isAgg3
 z3 := Tryz.sizeOf3
 v3 := Tryz.zeroValue3
 t4 := Tryz.underlying4
 a4 := Tryz.isAgg4
 z4 := Tryz.sizeOf4
 v4 := Tryz.zeroValue4
 t5 := Tryz.underlying5
 a5 := Tryz.isAgg5
 z5 := Tryz.sizeOf5
 v5 := Tryz.zeroValue5
 t9 := Tryz.underlying9
 a9 := Tryz.isAgg9
 z9 := Tryz.sizeOf9
 v9 := Tryz.zeroValue9
 t20 := Tryz.underlying20
 a20 := Tryz.isAgg20
 z20 := Tryz.sizeOf20
 v20 := Tryz.zeroValue20
 t37 := Tryz.underlying22
 a37 := Tryz.isAgg22
 z37 := Tryz.sizeOf22
 v37 := Tryz.zeroValue22
 t46 := Tryz.underlying44
 a46 := Tryz.isAgg44
 z46 := Tryz.sizeOf44
 v46 := Tryz.zeroValue44
 t51 := Tryz.underlying94
 a51 := Tryz.isAgg94
 z51 := Tryz.sizeOf94
 v51 := Tryz.zeroValue94
 t53 := Tryz.underlying97
 a53 := Tryz.isAgg97
 z53 := Tryz.sizeOf97
 v53 := Tryz.zeroValue97
 t70 := Tryz.underlying48
 a70 := Tryz.isAgg48
 z70 := Tryz.sizeOf48
 v70 := Tryz.zeroValue48
 t72 := Tryz.underlying50
 a72 := Tryz.isAgg50
 z72 := Tryz.sizeOf50
 v72 := Tryz.zeroValue50
 t75 := Tryz.underlying53
 a75 := Tryz.isAgg53
 z75 := Tryz.sizeOf53
 v75 := Tryz.zeroValue53
 t76 := Tryz.underlying54
 a76 := Tryz.isAgg54
 z76 := Tryz.sizeOf54
 v76 := Tryz.zeroValue54
 t109 := Tryz.underlying45
 a109 := Tryz.isAgg45
 z109 := Tryz.sizeOf45
 v109 := Tryz.zeroValue45
 t127 := Tryz.underlying100
 a127 := Tryz.isAgg100
 z127 := Tryz.sizeOf100
 v127 := Tryz.zeroValue100
 t146 := Tryz.underlying95
 a146 := Tryz.isAgg95
 z146 := Tryz.sizeOf95
 v146 := Tryz.zeroValue95
 t148 := Tryz.underlying98
 a148 := Tryz.isAgg98
 z148 := Tryz.sizeOf98
 v148 := Tryz.zeroValue98
 t164 := Tryz.underlying128
 a164 := Tryz.isAgg128
 z164 := Tryz.sizeOf128
 v164 := Tryz.zeroValue128 }
theorem builder_Extra : Builder.Extra Tryz.prog lays105_ren := {
 sizeBuilder := by kernel_rfl
 liesBuilder := by kernel_rfl
 t5 := Tryz.underlying5
 a5 := Tryz.isAgg5
 z5 := Tryz.sizeOf5
 v5 := Tryz.zeroValue5
 infoByte := by kernel_rfl
 cellsByte := by kernel_rfl
 sizeByte := by kernel_rfl
 neB5 := by decide }
/-- n times a text. -/
def repT (s : ByteArray) (n : Nat) : ByteArray := ⟨(Lib.repeatL s.data.toList n).toArray⟩
theorem repT_size (s : ByteArray) (n : Nat) : (repT s n).size = n * s.size := by
 show (Lib.repeatL s.data.toList n).toArray.size = _
 rw [List.size_toArray,Lib.repeatL_length]
 rfl
/-- A contract of the kit's shelf, told of texts and numbers, as the walker takes it. -/
theorem D_of_below {f : FuncId} {x y : Value} {v : Value} {H : AHeap} (h : ∀ w,Calls Tryz.prog f #[x,y] w fun e w' => e = .returned v ∧ Below w.heap.size w w') (hv : v.oneCell' = true) : D Tryz.prog f [.sc x,.sc y] H (.ret (.sc v)) H := by
 refine ⟨Nat.le_refl _,fun φ w vs hR ha => ?_⟩
 obtain ⟨a,r,e1,a1,a2,b,r2,e2,b1,b2,e3⟩ := ha
 have ea : a = x := VR_sc ⟨a1,a2⟩
 have eb : b = y := VR_sc ⟨b1,b2⟩
 have e3' : r2 = [] := e3
 have hvs : vs = #[x,y] := by
  cases vs
  simp only at e1
  rw [e1,e2,ea,eb,e3']
 rw [hvs]
 refine (h w).mono fun en w' ⟨he,hb⟩ => ⟨φ,?_,hR.grow hb.size hb.block,grow_step hb.os hb.tape hb.output hb.size hb.block⟩
 rw [he]
 exact ⟨hv,cget_one hv⟩
theorem repeat_d (s : ByteArray) (n : Nat) (hs : s.size * n ≤ 100000000) (hn : n ≤ 100000000) (H : AHeap) : D Tryz.prog 7 [.sc (.string s),.sc (.int .i64 n)] H (.ret (.sc (.string (repT s n)))) H :=
 D_of_below (fun w => Any.strings_Repeat lays105 builder_Extra s n w (by omega) (by omega)) rfl
end Go.Proofs.YtljajanjjcdelaaGreat
