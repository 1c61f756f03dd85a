/- strconv.FormatInt (to 99), FormatBool, strings.Join: the shelf's contracts at this program, and in the walker's words. The tables of numbers were printed by the kit's laying tool. -/
import Derived.Shelf.Strings.OnBuilder
import Derived.Shelf.Strconv.Itoa4
import Derived.Shelf.Small.Wraps
import Derived.Test.YtpnnpooeheiedaaDoorSA
import Derived.Test.YtpnnpooeheiedaaDoorProg
namespace Go.Proofs.YtpnnpooeheiedaaDoor
open Go.RowKit Go.Shelf
set_option linter.unusedVariables false
def lays156_ren : Go.Shelf.Ren := ⟨fun | 156 => 32 | 165 => 52 | 166 => 53 | 169 => 54 | 240 => 71 | 241 => 72 | 276 => 77 | 277 => 78 | n => n,fun | 31 => 37 | 9 => 9 | 3 => 3 | 4 => 4 | 0 => 0 | 20 => 20 | 72 => 72 | 76 => 76 | 70 => 69 | 37 => 70 | 75 => 75 | 127 => 84 | 164 => 92 | 5 => 5 | 80 => 78 | n => n,fun | n => n⟩
theorem lays156 : Go.Proofs.Lays.n156 Tryd.prog lays156_ren := {
 mixed := by kernel_rfl
 f156 := Tryd.func32.trans (congrArg some (by kernel_rfl))
 f165 := Tryd.func52.trans (congrArg some (by kernel_rfl))
 f166 := Tryd.func53.trans (congrArg some (by kernel_rfl))
 f169 := Tryd.func54.trans (congrArg some (by kernel_rfl))
 f240 := Tryd.func71.trans (congrArg some (by kernel_rfl))
 f241 := Tryd.func72.trans (congrArg some (by kernel_rfl))
 f276 := Tryd.func77.trans (congrArg some (by kernel_rfl))
 f277 := Tryd.func78.trans (congrArg some (by kernel_rfl))
 t0 := Tryd.underlying0
 a0 := Tryd.isAgg0
 z0 := Tryd.sizeOf0
 v0 := Tryd.zeroValue0
 t3 := Tryd.underlying3
 a3 := Tryd.isAgg3
 z3 := Tryd.sizeOf3
 v3 := Tryd.zeroValue3
 t4 := Tryd.underlying4
 a4 := Tryd.isAgg4
 z4 := Tryd.sizeOf4
 v4 := Tryd.zeroValue4
 t9 := Tryd.underlying9
 a9 := Tryd.isAgg9
 z9 := Tryd.sizeOf9
 v9 := Tryd.zeroValue9
 t20 := Tryd.underlying20
 a20 := Tryd.isAgg20
 z20 := Tryd.sizeOf20
 v20 := Tryd.zeroValue20
 t31 := Tryd.underlying37
 a31 := Tryd.isAgg37
 z31 := Tryd.sizeOf37
 v31 := Tryd.zeroValue37
 t37 := Tryd.underlying70
 a37 := Tryd.isAgg70
 z37 := Tryd.sizeOf70
 v37 := Tryd.zeroValue70
 t70 := Tryd.underlying69
 a70 := Tryd.isAgg69
 z70 := Tryd.sizeOf69
 v70 := Tryd.zeroValue69
 t72 := Tryd.underlying72
 a72 := Tryd.isAgg72
 z72 := Tryd.sizeOf72
 v72 := Tryd.zeroValue72
 t75 := Tryd.underlying75
 a75 := Tryd.isAgg75
 z75 := Tryd.sizeOf75
 v75 := Tryd.zeroValue75
 t76 := Tryd.underlying76
 a76 := Tryd.isAgg76
 z76 := Tryd.sizeOf76
 v76 := Tryd.zeroValue76
 t127 := Tryd.underlying84
 a127 := Tryd.isAgg84
 z127 := Tryd.sizeOf84
 v127 := Tryd.zeroValue84
 t164 := Tryd.underlying92
 a164 := Tryd.isAgg92
 z164 := Tryd.sizeOf92
 v164 := Tryd.zeroValue92 }
def lays173_ren : Go.Shelf.Ren := ⟨fun | 173 => 51 | 246 => 70 | 283 => 73 | 284 => 74 | 285 => 75 | 286 => 76 | 129 => 80 | 317 => 79 | 318 => 81 | 319 => 82 | 320 => 83 | 337 => 84 | 338 => 85 | n => n,fun | 2 => 2 | 3 => 3 | 9 => 9 | 4 => 4 | 171 => 86 | 0 => 0 | 53 => 87 | 37 => 70 | 5 => 5 | 173 => 90 | 212 => 97 | 51 => 98 | 20 => 20 | 213 => 99 | 46 => 101 | 232 => 104 | 233 => 105 | n => n,fun | 17 => 0 | 18 => 2 | 19 => 3 | n => n⟩
theorem lays173 : Go.Proofs.Lays.n173 Tryd.prog lays173_ren := {
 mixed := by kernel_rfl
 f129 := Tryd.func80.trans (congrArg some (by kernel_rfl))
 f173 := Tryd.func51.trans (congrArg some (by kernel_rfl))
 f246 := Tryd.func70.trans (congrArg some (by kernel_rfl))
 f283 := Tryd.func73.trans (congrArg some (by kernel_rfl))
 f284 := Tryd.func74.trans (congrArg some (by kernel_rfl))
 f285 := Tryd.func75.trans (congrArg some (by kernel_rfl))
 f286 := Tryd.func76.trans (congrArg some (by kernel_rfl))
 f317 := Tryd.func79.trans (congrArg some (by kernel_rfl))
 f318 := Tryd.func81.trans (congrArg some (by kernel_rfl))
 f319 := Tryd.func82.trans (congrArg some (by kernel_rfl))
 f320 := Tryd.func83.trans (congrArg some (by kernel_rfl))
 f337 := Tryd.func84.trans (congrArg some (by kernel_rfl))
 f338 := Tryd.func85.trans (congrArg some (by kernel_rfl))
 t0 := Tryd.underlying0
 a0 := Tryd.isAgg0
 z0 := Tryd.sizeOf0
 v0 := Tryd.zeroValue0
 t2 := Tryd.underlying2
 a2 := Tryd.isAgg2
 z2 := Tryd.sizeOf2
 v2 := Tryd.zeroValue2
 t3 := Tryd.underlying3
 a3 := Tryd.isAgg3
 z3 := Tryd.sizeOf3
 v3 := Tryd.zeroValue3
 t4 := Tryd.underlying4
 a4 := Tryd.isAgg4
 z4 := Tryd.sizeOf4
 v4 := Tryd.zeroValue4
 t5 := Tryd.underlying5
 a5 := Tryd.isAgg5
 z5 := Tryd.sizeOf5
 v5 := Tryd.zeroValue5
 t9 := Tryd.underlying9
 a9 := Tryd.isAgg9
 z9 := Tryd.sizeOf9
 v9 := Tryd.zeroValue9
 t20 := Tryd.underlying20
 a20 := Tryd.isAgg20
 z20 := Tryd.sizeOf20
 v20 := Tryd.zeroValue20
 t37 := Tryd.underlying70
 a37 := Tryd.isAgg70
 z37 := Tryd.sizeOf70
 v37 := Tryd.zeroValue70
 t46 := Tryd.underlying101
 a46 := Tryd.isAgg101
 z46 := Tryd.sizeOf101
 v46 := Tryd.zeroValue101
 t51 := Tryd.underlying98
 a51 := Tryd.isAgg98
 z51 := Tryd.sizeOf98
 v51 := Tryd.zeroValue98
 t53 := Tryd.underlying87
 a53 := Tryd.isAgg87
 z53 := Tryd.sizeOf87
 v53 := Tryd.zeroValue87
 t171 := Tryd.underlying86
 a171 := Tryd.isAgg86
 z171 := Tryd.sizeOf86
 v171 := Tryd.zeroValue86
 t173 := Tryd.underlying90
 a173 := Tryd.isAgg90
 z173 := Tryd.sizeOf90
 v173 := Tryd.zeroValue90
 t212 := Tryd.underlying97
 a212 := Tryd.isAgg97
 z212 := Tryd.sizeOf97
 v212 := Tryd.zeroValue97
 t213 := Tryd.underlying99
 a213 := Tryd.isAgg99
 z213 := Tryd.sizeOf99
 t232 := Tryd.underlying104
 a232 := Tryd.isAgg104
 z232 := Tryd.sizeOf104
 v232 := Tryd.zeroValue104
 t233 := Tryd.underlying105
 a233 := Tryd.isAgg105
 z233 := Tryd.sizeOf105
 v233 := Tryd.zeroValue105
 g17 := by kernel_rfl
 g18 := by kernel_rfl
 g19 := by kernel_rfl }
def lays121_ren : Go.Shelf.Ren := ⟨fun | 121 => 50 | 214 => 69 | n => n,fun | 4 => 4 | 9 => 9 | n => n,fun | n => n⟩
theorem lays121 : Go.Proofs.Lays.n121 Tryd.prog lays121_ren := {
 mixed := by kernel_rfl
 f121 := Tryd.func50.trans (congrArg some (by kernel_rfl))
 f214 := Tryd.func69.trans (congrArg some (by kernel_rfl))
 t4 := Tryd.underlying4
 a4 := Tryd.isAgg4
 z4 := Tryd.sizeOf4
 v4 := Tryd.zeroValue4
 t9 := Tryd.underlying9
 a9 := Tryd.isAgg9
 z9 := Tryd.sizeOf9
 v9 := Tryd.zeroValue9 }
theorem builder_Extra : Builder.Extra Tryd.prog lays156_ren := {
 sizeBuilder := by kernel_rfl
 liesBuilder := by kernel_rfl
 t5 := Tryd.underlying5
 a5 := Tryd.isAgg5
 z5 := Tryd.sizeOf5
 v5 := Tryd.zeroValue5
 infoByte := by kernel_rfl
 cellsByte := by kernel_rfl
 sizeByte := by kernel_rfl
 neB5 := by decide }
/-- A contract of the kit's shelf, told of texts and numbers, as the walker takes it. -/
theorem D_of_below2 {f : FuncId} {x y v : Value} {H : AHeap} (h : ∀ w,Calls Tryd.prog f #[x,y] w fun e w' => e = .returned v ∧ Below w.heap.size w w') (hv : v.oneCell' = true) : D Tryd.prog f [.sc x,.sc y] H (.ret (.sc v)) H := by
 refine ⟨Nat.le_refl _,fun φ w vs hR ha => ?_⟩
 obtain ⟨a,r,e1,a1,a2,b,r2,e2,b1,b2,e3⟩ := ha
 have ea : a = x := VR_sc ⟨a1,a2⟩
 have eb : b = y := VR_sc ⟨b1,b2⟩
 have e3' : r2 = [] := e3
 have hvs : vs = #[x,y] := by
  cases vs
  simp only at e1
  rw [e1,e2,ea,eb,e3']
 rw [hvs]
 refine (h w).mono fun en w' ⟨he,hb⟩ => ⟨φ,?_,hR.grow hb.size hb.block,grow_step hb.os hb.tape hb.output hb.size hb.block⟩
 rw [he]
 exact ⟨hv,cget_one hv⟩
theorem D_of_below1 {f : FuncId} {x v : Value} {H : AHeap} (h : ∀ w,Calls Tryd.prog f #[x] w fun e w' => e = .returned v ∧ Below w.heap.size w w') (hv : v.oneCell' = true) : D Tryd.prog f [.sc x] H (.ret (.sc v)) H := by
 refine ⟨Nat.le_refl _,fun φ w vs hR ha => ?_⟩
 obtain ⟨a,r,e1,a1,a2,e3⟩ := ha
 have ea : a = x := VR_sc ⟨a1,a2⟩
 have e3' : r = [] := e3
 have hvs : vs = #[x] := by
  cases vs
  simp only at e1
  rw [e1,ea,e3']
 rw [hvs]
 refine (h w).mono fun en w' ⟨he,hb⟩ => ⟨φ,?_,hR.grow hb.size hb.block,grow_step hb.os hb.tape hb.output hb.size hb.block⟩
 rw [he]
 exact ⟨hv,cget_one hv⟩
theorem fmtBool_d (b : Bool) (H : AHeap) : D Tryd.prog 50 [.sc (.bool b)] H (.ret (.sc (.string ⟨(Lib.formatBool b).toArray⟩))) H :=
 D_of_below1 (fun w => (Any.strconv_FormatBool lays121 b w).mono fun e w' ⟨h1,h2⟩ => ⟨h1,h2 ▸ Below.refl _ _⟩) rfl
theorem fmtInt_d (i : Nat) (hi : i < 100) (H : AHeap) : D Tryd.prog 51 [.sc (.int .i64 i),.sc (.int .i64 10)] H (.ret (.sc (.string ⟨(Lib.decDigits i).toArray⟩))) H :=
 D_of_below2 (fun w => (Any.strconv_FormatInt_10_small lays173 i hi w).mono fun e w' ⟨h1,h2⟩ => ⟨h1,h2 ▸ Below.refl _ _⟩) rfl
def joinT (l : List ByteArray) (sep : ByteArray) : ByteArray := ⟨(Lib.join (l.map (·.data.toList)) sep.data.toList).toArray⟩
theorem joinT_d (l : List ByteArray) (sep : ByteArray) (hl : l.length ≤ 100000000) (hj : (joinT l sep).size ≤ 100000000) (H : AHeap) : D Tryd.prog 32 [.lst 1 (strs l) none,.sc (.string sep)] H (.ret (.sc (.string (joinT l sep)))) H := by
 refine ⟨Nat.le_refl _,fun φ w vs hR ha => ?_⟩
 obtain ⟨a,r,e1,a1,a2,b,r2,e2,b1,b2,e3⟩ := ha
 obtain ⟨ad,c,g1,g2,g3,g4,g5,g6⟩ := a2
 rw [strs_length] at g1 g2 g5
 have ea : a = .slice ad l.length c := Option.some.inj ((cget_one a1).symm.trans g1)
 have eb : b = .string sep := VR_sc ⟨b1,b2⟩
 have e3' : r2 = [] := e3
 have hvs : vs = #[.slice ad l.length c,.string sep] := by
  cases vs
  simp only at e1
  rw [e1,e2,ea,eb,e3']
 rw [hvs]
 have hlen : (Lib.join (l.map (·.data.toList)) sep.data.toList).length ≤ 100000000 := by
  have : (joinT l sep).size = (Lib.join (l.map (·.data.toList)) sep.data.toList).length := List.size_toArray
  omega
 have hC : Calls Tryd.prog 32 #[.slice ad l.length c,.string sep] w fun e w' => e = .returned (.string (joinT l sep)) ∧ Below w.heap.size w w' := by
  by_cases h0 : l.length = 0
  ·obtain rfl := List.eq_nil_of_length_eq_zero h0
   exact (Any.strings_Join_none lays156 builder_Extra ad c sep w).mono fun e w' ⟨h1,h2⟩ => ⟨h1,h2 ▸ Below.refl _ _⟩
  ·obtain ⟨bk,off,rfl,_,hbk,hRl⟩ := g5 (by omega)
   refine Any.strings_Join lays156 builder_Extra bk off c l sep w (fun j x hx => ?_) hbk (by omega) g2 (by omega)
   have hj2 : (strs l)[j]? = some (.sc (.string x)) := by simp [strs,hx]
   have h3 := (Rl_nth hRl hj2).2.2
   have h4 : memAt w bk (off + j * 1) 0 = some (.string x) := h3
   unfold memAt at h4
   rwa [Nat.mul_one,Nat.add_zero] at h4
 refine hC.mono fun en w' ⟨he,hb⟩ => ⟨φ,?_,hR.grow hb.size hb.block,grow_step hb.os hb.tape hb.output hb.size hb.block⟩
 rw [he]
 exact ⟨rfl,cget_one rfl⟩
end Go.Proofs.YtpnnpooeheiedaaDoor
