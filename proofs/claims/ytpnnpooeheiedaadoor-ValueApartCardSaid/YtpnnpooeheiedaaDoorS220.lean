/- ValueApart tells true, whatever values and operator come in: the tied card. -/
import Derived.Test.YtpnnpooeheiedaaDoorS219
import Derived.Test.YtpnnpooeheiedaaDoorVC
import Derived.Test.YtpnnpooeheiedaaDoorRows
import Derived.WalkKit
import Derived.ProofKit
import Derived.OpenShut
import Derived.JoinedCond
import Derived.Test.YtpnnpooeheiedaaDoorCards
import Derived.Test.YtpnnpooeheiedaaDoorTie
import Derived.Deep.DeepHandedRow
import Derived.Lay
import Derived.LaidMore
namespace Go.Proofs.YtpnnpooeheiedaaDoor.valueApart
open Go.ChangeShapes Go.WideShapes Go.ChangeAt Go.RowKit
open Go.Proofs.YtpnnpooeheiedaaDoor
set_option linter.unusedVariables false
set_option linter.unusedSimpArgs false
set_option maxRecDepth 100000
theorem own : ownKnob Tryd.prog.godebug = none := by kernel_rfl
theorem laidOut : laidOutB Tryd.prog = true := by kernel_rfl
theorem contract (H : Type) (enc : TypeId × Value → H) (W : World) (base : Nat) (args : Array Value) (ds gs : List (DataW H)) (before : List MemPlace)
  (hval0 : ∀ (j : Nat) t v,Tryd.f7.params[j]? = some t → args[j]? = some v → Value.okWide Tryd.prog W .any base t v)
  (hW : DataW.Whole enc Tryd.prog Tryd.f7.params.toList Rows.valueApartSpec.vars false W args.toList ds gs before) (hL0 : laidMetH Tryd.prog Rows.valueApartRow.laid W) :
  Calls Tryd.prog 7 args W fun e W' => ∃ v,e = .returned v ∧ Rows.valueApartSpec.post enc Tryd.prog Tryd.f7 false true false false W args v W' := by
 have hval : ∀ (j : Nat) t v,Tryd.f7.params[j]? = some t → args[j]? = some v → Value.okWide Tryd.prog W .any base t v := hval0
 have hW' := hW
 obtain ⟨p,q,hA0,hV,rfl,hfz,hnd⟩ := hW
 have hA : DataW.TrodAll enc Tryd.prog W 0 (fun _ => true) true Tryd.f7.params.toList args.toList ds p := hA0
 rw [Tryd.params7] at hA hval
 obtain ⟨v0,vs0,d0,ds0,p0,q0,hargs,rfl,rfl,h0,r0⟩ := trodAll_cons hA
 obtain ⟨v1,vs1,d1,ds1,p1,q1,rfl,rfl,rfl,h1,r1⟩ := trodAll_cons r0
 obtain ⟨v2,vs2,d2,ds2,p2,q2,rfl,rfl,rfl,h2,r2⟩ := trodAll_cons r1
 obtain ⟨rfl,rfl,rfl⟩ := trodAll_nil r2
 obtain rfl : args = #[v0,v1,v2] := by cases args; simp_all
 obtain ⟨rfl,rfl⟩ := trodVars_none hV
 obtain ⟨c0,rfl,-⟩ := okWide_struct Tryd.underlying25 (hval 0 25 v0 rfl rfl)
 obtain ⟨a0,e0,g0⟩ := arg_agg (fun n => rdv_val) h0
 obtain ⟨c1,rfl,-⟩ := okWide_struct Tryd.underlying25 (hval 1 25 v1 rfl rfl)
 obtain ⟨a1,e1,g1⟩ := arg_agg (fun n => rdv_val) h1
 obtain ⟨s2,rfl⟩ := okWide_string Tryd.underlying9 (hval 2 9 v2 rfl rfl)
 obtain ⟨a2,e2,g2⟩ := arg_one (fun n => rdv_str) h2 (fun _ => rfl) (fun _ => rfl) rfl
 refine law_post (tb := 4) laidOut (by kernel_rfl) rfl Tryd.underlying4 rfl rfl hW' (avs := [_, _, _]) (⟨_, _, rfl, e0.1, e0.2, ⟨_, _, rfl, e1.1, e1.2, ⟨_, _, rfl, e2.1, e2.2, rfl⟩⟩⟩) ?_ (gok_of_laid (show Rows.valueApartRow.laid = [("math/bits.deBruijn32tab", Rows.laid_math_bits_deBruijn32tab), ("math/bits.deBruijn64tab", Rows.laid_math_bits_deBruijn64tab), ("internal/strconv.uint64pow10", Lib.tabData .u64 Lib.pow10Tab)] from by kernel_rfl) (by rw [← MakeChecks.laidMetH_plain _ _ _ (by kernel_rfl)]; exact hL0))
 clear hL0 hval hval0 hA0
 exact valueApart_d a0 a1 a2 g0.1 g1.1
/-- THE WITNESS's WORLD holds what the row lists. -/
theorem laid_met (os : Os) : laidMetH Tryd.prog Rows.valueApartRow.laid ((World.laidAll Tryd.prog os Rows.valueApartRow.laid).forCall (fun _ _ => 0) ⟨#[],#[.agg #[.int .u8 0,.int .i64 0,.slice none 0 0],.agg #[.int .u8 0,.int .i64 0,.slice none 0 0],.string ⟨#[]⟩],[]⟩).memory := by
 rw [MakeChecks.laidMetH_plain _ _ _ (by kernel_rfl)]
 exact laidMet_laidAll _ (by kernel_rfl) (by kernel_rfl)
theorem reads (os : Os) {H : Type} (enc : TypeId × Value → H) : ∃ places,DataW.whole enc Tryd.prog ((World.laidAll Tryd.prog os Rows.valueApartRow.laid).forCall (fun _ _ => 0) ⟨#[],#[.agg #[.int .u8 0,.int .i64 0,.slice none 0 0],.agg #[.int .u8 0,.int .i64 0,.slice none 0 0],.string ⟨#[]⟩],[]⟩).memory Tryd.f7.params.toList Rows.valueApartSpec.vars false (#[.agg #[.int .u8 0,.int .i64 0,.slice none 0 0],.agg #[.int .u8 0,.int .i64 0,.slice none 0 0],.string ⟨#[]⟩] : Array Value).toList 8 = some ([.agg [.lit (.int .u8 0),.lit (.int .i64 0),.nil],.agg [.lit (.int .u8 0),.lit (.int .i64 0),.nil],.lit (.string [])],[],places) :=
 ⟨[],by kernel_rfl⟩
theorem lifted (os : Os) (started : os.Started) (H : Type) (enc : TypeId × Value → H) (F : Stop.Interp) :
  ReturnsInHanded {} Tryd.checked os 7 .any ((OpenSpec.ofChange Rows.valueApartSpec).preRow enc Tryd.prog Tryd.f7 Rows.valueApartRow.domain false Rows.valueApartRow.laid) (((OpenSpec.ofChange Rows.valueApartSpec).at F).post enc Tryd.prog Tryd.f7 false true false false) := by
 obtain ⟨places,hx⟩ := reads os enc
 refine returnsInHanded_of_row (C := Tryd.checked) (s := (OpenSpec.ofChange Rows.valueApartSpec)) own started (by kernel_rfl) Tryd.func7
  (witness_row_at (enc := enc) (C := Tryd.checked) false (World.laidAll Tryd.prog os Rows.valueApartRow.laid) #[.agg #[.int .u8 0,.int .i64 0,.slice none 0 0],.agg #[.int .u8 0,.int .i64 0,.slice none 0 0],.string ⟨#[]⟩] (World.laidAll_os _ _ _) (by kernel_rfl) (by kernel_rfl) (by kernel_rfl)
   (OpenSpec.preRow_of_cond 8 hx (by kernel_rfl) (fun k hk => by cases hk) (by kernel_rfl) (laid_met os))) ?_
 intro W base args ds gs before hval hW _ hcond _ hL _ _
 exact contract H enc W base args ds gs before hval hW hL
theorem said : Rows.ValueApartSaid :=
 OpenClaim.holds_of_cond 7 Tryd.f7 rfl rfl rfl rfl rfl rfl rfl ⟨rfl,rfl,rfl,rfl,rfl⟩ rfl rfl rfl rfl rfl (by kernel_rfl) Tryd.func7 (by kernel_rfl)
  (of_decide_eq_true (by kernel_rfl)) (by unfold Func.isWrapper; first | (rw [if_pos (by decide +kernel)]; kernel_rfl) | (rw [if_neg (by decide +kernel)]; exact ⟨rfl,rfl⟩))
  (fun os started H enc _ F => by rw [OpenClaim.pre_eq_preRow]; exact lifted os started H enc F)
theorem plain (f : FuncId) (fn : Func) (hf : Tryd.pinned.checked.prog.funcNamed "clerestory/clerestorylaw11.ValueApart" = some f) (hfn : Tryd.pinned.checked.prog.funcs[f]? = some fn) :
  true = Tryd.pinned.checked.prog.looks [] ∧ ∀ (j : Nat) t,fn.params[j]? = some t → Tryd.pinned.checked.prog.wantsStandIn t = false := by
 obtain rfl : f = 7 := Option.some.inj ((show Tryd.prog.funcNamed "clerestory/clerestorylaw11.ValueApart" = some 7 by kernel_rfl).symm.trans hf) |>.symm
 obtain rfl : fn = Tryd.f7 := (Option.some.inj (Tryd.func7.symm.trans hfn)).symm
 refine ⟨by kernel_rfl,fun j t ht => ?_⟩
 rw [Tryd.params7] at ht
 have hm : t ∈ ([25,25,9] : List Nat) := by simpa using Array.mem_of_getElem? ht
 have hall : (([25,25,9] : List Nat).all fun u => !Tryd.prog.wantsStandIn u) = true := by kernel_rfl
 exact (show Tryd.prog.wantsStandIn t = false by simpa using List.all_eq_true.1 hall t hm)
/-- The statement. -/
theorem proved : Rows.ValueApartCardSaid :=
 Claim7.holds_tied_plain_at .later [] _ _ _ _ said (fun _ h => by cases h) (by kernel_rfl) (fun _ h => by cases h) valueApart_row_tie rfl ⟨rfl,rfl⟩ (by kernel_rfl) rfl plain (by kernel_rfl)
#print axioms proved
end Go.Proofs.YtpnnpooeheiedaaDoor.valueApart
