/- ValueRing tells true of any three numbers: the tied card. -/
import Derived.Test.YtpnnpooeheiedaaDoorS202
import Derived.Test.YtpnnpooeheiedaaDoorS203
import Derived.Test.YtpnnpooeheiedaaDoorVC
import Derived.Test.YtpnnpooeheiedaaDoorRows
import Derived.WalkKit
import Derived.ProofKit
import Derived.OpenShut
import Derived.JoinedCond
import Derived.Test.YtpnnpooeheiedaaDoorCards
import Derived.Test.YtpnnpooeheiedaaDoorTie
import Derived.Deep.DeepHandedRow
import Derived.Lay
import Derived.LaidMore
namespace Go.Proofs.YtpnnpooeheiedaaDoor.valueRing
open Go.ChangeShapes Go.WideShapes Go.ChangeAt Go.RowKit
open Go.Proofs.YtpnnpooeheiedaaDoor
set_option linter.unusedVariables false
set_option linter.unusedSimpArgs false
set_option maxRecDepth 100000
theorem own : ownKnob Tryd.prog.godebug = none := by kernel_rfl
theorem laidOut : laidOutB Tryd.prog = true := by kernel_rfl
theorem contract (H : Type) (enc : TypeId × Value → H) (W : World) (base : Nat) (args : Array Value) (ds gs : List (DataW H)) (before : List MemPlace)
  (hval0 : ∀ (j : Nat) t v,Tryd.f6.params[j]? = some t → args[j]? = some v → Value.okWide Tryd.prog W .any base t v)
  (hW : DataW.Whole enc Tryd.prog Tryd.f6.params.toList Rows.valueRingSpec.vars false W args.toList ds gs before) :
  Calls Tryd.prog 6 args W fun e W' => ∃ v,e = .returned v ∧ Rows.valueRingSpec.post enc Tryd.prog Tryd.f6 false true false false W args v W' := by
 have hval : ∀ (j : Nat) t v,Tryd.f6.params[j]? = some t → args[j]? = some v → Value.okWide Tryd.prog W .any base t v := hval0
 have hW' := hW
 obtain ⟨p,q,hA0,hV,rfl,hfz,hnd⟩ := hW
 have hA : DataW.TrodAll enc Tryd.prog W 0 (fun _ => true) true Tryd.f6.params.toList args.toList ds p := hA0
 rw [Tryd.params6] at hA hval
 obtain ⟨v0,vs0,d0,ds0,p0,q0,hargs,rfl,rfl,h0,r0⟩ := trodAll_cons hA
 obtain ⟨v1,vs1,d1,ds1,p1,q1,rfl,rfl,rfl,h1,r1⟩ := trodAll_cons r0
 obtain ⟨v2,vs2,d2,ds2,p2,q2,rfl,rfl,rfl,h2,r2⟩ := trodAll_cons r1
 obtain ⟨rfl,rfl,rfl⟩ := trodAll_nil r2
 obtain rfl : args = #[v0,v1,v2] := by cases args; simp_all
 obtain ⟨rfl,rfl⟩ := trodVars_none hV
 obtain ⟨s0,rfl⟩ := okWide_int Tryd.underlying2 (hval 0 2 v0 rfl rfl)
 obtain ⟨a0,e0,g0⟩ := arg_one (fun n => rdv_i64) h0 (fun _ => rfl) (fun _ => rfl) rfl
 obtain ⟨s1,rfl⟩ := okWide_int Tryd.underlying2 (hval 1 2 v1 rfl rfl)
 obtain ⟨a1,e1,g1⟩ := arg_one (fun n => rdv_i64) h1 (fun _ => rfl) (fun _ => rfl) rfl
 obtain ⟨s2,rfl⟩ := okWide_int Tryd.underlying2 (hval 2 2 v2 rfl rfl)
 obtain ⟨a2,e2,g2⟩ := arg_one (fun n => rdv_i64) h2 (fun _ => rfl) (fun _ => rfl) rfl
 refine law_post (tb := 4) laidOut (by kernel_rfl) rfl Tryd.underlying4 rfl rfl hW' (avs := [_,_,_]) (⟨_,_,rfl,e0.1,e0.2,⟨_,_,rfl,e1.1,e1.2,⟨_,_,rfl,e2.1,e2.2,rfl⟩⟩⟩) ?_
 clear hval hval0 hA0
 exact valueRing_d a0 a1 a2 g0 g1 g2
/-- THE WITNESS's WORLD holds what the row lists. -/
theorem laid_met (os : Os) : laidMetH Tryd.prog Rows.valueRingRow.laid ((World.laidAll Tryd.prog os Rows.valueRingRow.laid).forCall (fun _ _ => 0) ⟨#[],#[.int .i64 0,.int .i64 0,.int .i64 0],[]⟩).memory := by
 rw [MakeChecks.laidMetH_plain _ _ _ (by kernel_rfl)]
 exact laidMet_laidAll _ (by kernel_rfl) (by kernel_rfl)
theorem reads (os : Os) {H : Type} (enc : TypeId × Value → H) : ∃ places,DataW.whole enc Tryd.prog ((World.laidAll Tryd.prog os Rows.valueRingRow.laid).forCall (fun _ _ => 0) ⟨#[],#[.int .i64 0,.int .i64 0,.int .i64 0],[]⟩).memory Tryd.f6.params.toList Rows.valueRingSpec.vars false (#[.int .i64 0,.int .i64 0,.int .i64 0] : Array Value).toList 8 = some ([.lit (.int .i64 0),.lit (.int .i64 0),.lit (.int .i64 0)],[],places) :=
 ⟨[],by kernel_rfl⟩
theorem lifted (os : Os) (started : os.Started) (H : Type) (enc : TypeId × Value → H) (F : Stop.Interp) :
  ReturnsInHanded {} Tryd.checked os 6 .any ((OpenSpec.ofChange Rows.valueRingSpec).preRow enc Tryd.prog Tryd.f6 Rows.valueRingRow.domain false Rows.valueRingRow.laid) (((OpenSpec.ofChange Rows.valueRingSpec).at F).post enc Tryd.prog Tryd.f6 false true false false) := by
 obtain ⟨places,hx⟩ := reads os enc
 refine returnsInHanded_of_row (C := Tryd.checked) (s := (OpenSpec.ofChange Rows.valueRingSpec)) own started (by kernel_rfl) Tryd.func6
  (witness_row_at (enc := enc) (C := Tryd.checked) false (World.laidAll Tryd.prog os Rows.valueRingRow.laid) #[.int .i64 0,.int .i64 0,.int .i64 0] (World.laidAll_os _ _ _) (by kernel_rfl) (by kernel_rfl) (by kernel_rfl)
   (OpenSpec.preRow_of_cond 8 hx (by kernel_rfl) (fun k hk => by cases hk) (by kernel_rfl) (laid_met os))) ?_
 intro W base args ds gs before hval hW _ hcond _ hL _ _
 exact contract H enc W base args ds gs before hval hW
theorem said : Rows.ValueRingSaid :=
 OpenClaim.holds_of_cond 6 Tryd.f6 rfl rfl rfl rfl rfl rfl rfl ⟨rfl,rfl,rfl,rfl,rfl⟩ rfl rfl rfl rfl rfl (by kernel_rfl) Tryd.func6 (by kernel_rfl)
  (of_decide_eq_true (by kernel_rfl)) (by unfold Func.isWrapper; first | (rw [if_pos (by decide +kernel)]; kernel_rfl) | (rw [if_neg (by decide +kernel)]; exact ⟨rfl,rfl⟩))
  (fun os started H enc _ F => by rw [OpenClaim.pre_eq_preRow]; exact lifted os started H enc F)
theorem plain (f : FuncId) (fn : Func) (hf : Tryd.pinned.checked.prog.funcNamed "clerestory/clerestorylaw11.ValueRing" = some f) (hfn : Tryd.pinned.checked.prog.funcs[f]? = some fn) :
  true = Tryd.pinned.checked.prog.looks [] ∧ ∀ (j : Nat) t,fn.params[j]? = some t → Tryd.pinned.checked.prog.wantsStandIn t = false := by
 obtain rfl : f = 6 := Option.some.inj ((show Tryd.prog.funcNamed "clerestory/clerestorylaw11.ValueRing" = some 6 by kernel_rfl).symm.trans hf) |>.symm
 obtain rfl : fn = Tryd.f6 := (Option.some.inj (Tryd.func6.symm.trans hfn)).symm
 refine ⟨by kernel_rfl,fun j t ht => ?_⟩
 rw [Tryd.params6] at ht
 have hm : t ∈ ([2,2,2] : List Nat) := by simpa using Array.mem_of_getElem? ht
 have hall : (([2,2,2] : List Nat).all fun u => !Tryd.prog.wantsStandIn u) = true := by kernel_rfl
 exact (show Tryd.prog.wantsStandIn t = false by simpa using List.all_eq_true.1 hall t hm)
/-- The statement. -/
theorem proved : Rows.ValueRingCardSaid :=
 Claim7.holds_tied_plain_at .later [] _ _ _ _ said (fun _ h => by cases h) (by kernel_rfl) (fun _ h => by cases h) valueRing_row_tie rfl ⟨rfl,rfl⟩ (by kernel_rfl) rfl plain (by kernel_rfl)
#print axioms proved
end Go.Proofs.YtpnnpooeheiedaaDoor.valueRing
