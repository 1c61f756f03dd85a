/- DiffMakes tells true, whatever rows come in, where what is read is of bulk at most 1048576: the tied card. -/
import Derived.Test.YtigmpablpmanpaaDoorS14
import Derived.Test.YtigmpablpmanpaaDoorS165
import Derived.Test.YtigmpablpmanpaaDoorVC
import Derived.Test.YtigmpablpmanpaaDoorRows
import Derived.WalkKit
import Derived.ProofKit
import Derived.OpenShut
import Derived.JoinedCond
import Derived.Test.YtigmpablpmanpaaDoorCards
import Derived.Test.YtigmpablpmanpaaDoorTie
import Derived.Deep.DeepHandedRow
import Derived.Lay
import Derived.LaidMore
namespace Go.Proofs.YtigmpablpmanpaaDoor.diffMakes
open Go.ChangeShapes Go.WideShapes Go.ChangeAt Go.RowKit
open Go.Proofs.YtigmpablpmanpaaDoor
set_option linter.unusedVariables false
set_option linter.unusedSimpArgs false
set_option maxRecDepth 100000
theorem own : ownKnob Tryd.prog.godebug = none := by kernel_rfl
theorem laidOut : laidOutB Tryd.prog = true := by kernel_rfl
theorem contract (H : Type) (enc : TypeId × Value → H) (W : World) (base : Nat) (args : Array Value) (ds gs : List (DataW H)) (before : List MemPlace)
  (hval0 : ∀ (j : Nat) t v,Tryd.f5.params[j]? = some t → args[j]? = some v → Value.okWide Tryd.prog W .any base t v)
  (hW : DataW.Whole enc Tryd.prog Tryd.f5.params.toList Rows.diffMakesSpec.vars false W args.toList ds gs before) (hk0 : Rows.uptoSmall H (ds ++ gs) = true) :
  Calls Tryd.prog 5 args W fun e W' => ∃ v,e = .returned v ∧ Rows.diffMakesSpec.post enc Tryd.prog Tryd.f5 false true false false W args v W' := by
 have hval : ∀ (j : Nat) t v,Tryd.f5.params[j]? = some t → args[j]? = some v → Value.okWide Tryd.prog W .any base t v := hval0
 have hW' := hW
 obtain ⟨p,q,hA0,hV,rfl,hfz,hnd⟩ := hW
 have hA : DataW.TrodAll enc Tryd.prog W 0 (fun _ => true) true Tryd.f5.params.toList args.toList ds p := hA0
 rw [Tryd.params5] at hA hval
 obtain ⟨v0,vs0,d0,ds0,p0,q0,hargs,rfl,rfl,h0,r0⟩ := trodAll_cons hA
 obtain ⟨v1,vs1,d1,ds1,p1,q1,rfl,rfl,rfl,h1,r1⟩ := trodAll_cons r0
 obtain ⟨v2,vs2,d2,ds2,p2,q2,rfl,rfl,rfl,h2,r2⟩ := trodAll_cons r1
 obtain ⟨rfl,rfl,rfl⟩ := trodAll_nil r2
 obtain rfl : args = #[v0,v1,v2] := by cases args; simp_all
 obtain ⟨rfl,rfl⟩ := trodVars_none hV
 obtain ⟨s0,l0,c0,rfl⟩ := okWide_slice Tryd.underlying22 (hval 0 22 v0 rfl rfl)
 obtain ⟨a0,e0,g0⟩ := arg_one (fun n => rd_strs) h0 (fun _ => rfl) (fun _ => rfl) rfl
 obtain ⟨s1,l1,c1,rfl⟩ := okWide_slice Tryd.underlying22 (hval 1 22 v1 rfl rfl)
 obtain ⟨a1,e1,g1⟩ := arg_one (fun n => rd_strs) h1 (fun _ => rfl) (fun _ => rfl) rfl
 obtain ⟨s2,l2,c2,rfl⟩ := okWide_slice Tryd.underlying37 (hval 2 37 v2 rfl rfl)
 obtain ⟨a2,e2,g2⟩ := arg_one (fun n => rd_intsA) h2 (fun _ => rfl) (fun _ => rfl) rfl
 have hk : Rows.uptoBulkAll [d0,d1,d2] ≤ 1048576 := of_decide_eq_true hk0
 refine law_post (tb := 4) laidOut (by kernel_rfl) rfl Tryd.underlying4 rfl rfl hW' (avs := [_,_,_]) (⟨_,_,rfl,e0.1,e0.2,⟨_,_,rfl,e1.1,e1.2,⟨_,_,rfl,e2.1,e2.2,rfl⟩⟩⟩) ?_
 clear hval hval0 hA0 hW' hk0
 simp only [Rows.uptoBulkAll] at hk
 exact diffMakes_d a0 a1 a2 (short_of_sz (by omega)) (short_of_sz (by omega)) (by omega)
/-- THE WITNESS's WORLD holds what the row lists. -/
theorem laid_met (os : Os) : laidMetH Tryd.prog Rows.diffMakesUptoRow.laid ((World.laidAll Tryd.prog os Rows.diffMakesUptoRow.laid).forCall (fun _ _ => 0) ⟨#[],#[.slice none 0 0,.slice none 0 0,.slice none 0 0],[]⟩).memory := by
 rw [MakeChecks.laidMetH_plain _ _ _ (by kernel_rfl)]
 exact laidMet_laidAll _ (by kernel_rfl) (by kernel_rfl)
theorem reads (os : Os) {H : Type} (enc : TypeId × Value → H) : ∃ places,DataW.whole enc Tryd.prog ((World.laidAll Tryd.prog os Rows.diffMakesUptoRow.laid).forCall (fun _ _ => 0) ⟨#[],#[.slice none 0 0,.slice none 0 0,.slice none 0 0],[]⟩).memory Tryd.f5.params.toList Rows.diffMakesSpec.vars false (#[.slice none 0 0,.slice none 0 0,.slice none 0 0] : Array Value).toList 8 = some ([.nil,.nil,.nil],[],places) :=
 ⟨[],by kernel_rfl⟩
theorem lifted (os : Os) (started : os.Started) (H : Type) (enc : TypeId × Value → H) (F : Stop.Interp) :
  ReturnsInHanded {} Tryd.checked os 5 .any ((Rows.OpenSpec.upto Rows.diffMakesSpec).preRow enc Tryd.prog Tryd.f5 Rows.diffMakesUptoRow.domain false Rows.diffMakesUptoRow.laid) (((Rows.OpenSpec.upto Rows.diffMakesSpec).at F).post enc Tryd.prog Tryd.f5 false true false false) := by
 obtain ⟨places,hx⟩ := reads os enc
 refine returnsInHanded_of_row (C := Tryd.checked) (s := (Rows.OpenSpec.upto Rows.diffMakesSpec)) own started (by kernel_rfl) Tryd.func5
  (witness_row_at (enc := enc) (C := Tryd.checked) false (World.laidAll Tryd.prog os Rows.diffMakesUptoRow.laid) #[.slice none 0 0,.slice none 0 0,.slice none 0 0] (World.laidAll_os _ _ _) (by kernel_rfl) (by kernel_rfl) (by kernel_rfl)
   (OpenSpec.preRow_of_cond 8 hx (by kernel_rfl) (fun k hk => by cases hk; kernel_rfl) (by kernel_rfl) (laid_met os))) ?_
 intro W base args ds gs before hval hW _ hcond _ hL _ _
 exact contract H enc W base args ds gs before hval hW (hcond _ rfl)
theorem said : Rows.DiffMakesUptoSaid :=
 OpenClaim.holds_of_cond 5 Tryd.f5 rfl rfl rfl rfl rfl rfl rfl ⟨rfl,rfl,rfl,rfl,rfl⟩ rfl rfl rfl rfl rfl (by kernel_rfl) Tryd.func5 (by kernel_rfl)
  (of_decide_eq_true (by kernel_rfl)) (by unfold Func.isWrapper; first | (rw [if_pos (by decide +kernel)]; kernel_rfl) | (rw [if_neg (by decide +kernel)]; exact ⟨rfl,rfl⟩))
  (fun os started H enc _ F => by rw [OpenClaim.pre_eq_preRow]; exact lifted os started H enc F)
theorem plain (f : FuncId) (fn : Func) (hf : Tryd.pinned.checked.prog.funcNamed "clerestory/clerestorylaw02.DiffMakes" = some f) (hfn : Tryd.pinned.checked.prog.funcs[f]? = some fn) :
  false = Tryd.pinned.checked.prog.looks [] ∧ ∀ (j : Nat) t,fn.params[j]? = some t → Tryd.pinned.checked.prog.wantsStandIn t = false := by
 obtain rfl : f = 5 := Option.some.inj ((show Tryd.prog.funcNamed "clerestory/clerestorylaw02.DiffMakes" = some 5 by kernel_rfl).symm.trans hf) |>.symm
 obtain rfl : fn = Tryd.f5 := (Option.some.inj (Tryd.func5.symm.trans hfn)).symm
 refine ⟨by kernel_rfl,fun j t ht => ?_⟩
 rw [Tryd.params5] at ht
 have hm : t ∈ ([22,22,37] : List Nat) := by simpa using Array.mem_of_getElem? ht
 have hall : (([22,22,37] : List Nat).all fun u => !Tryd.prog.wantsStandIn u) = true := by kernel_rfl
 exact (show Tryd.prog.wantsStandIn t = false by simpa using List.all_eq_true.1 hall t hm)
/-- The statement. -/
theorem proved : Rows.DiffMakesUptoCardSaid :=
 Claim7.holds_tied_plain_at .later [] _ _ _ _ said (fun _ h => by cases h) (by kernel_rfl) (fun _ h => by cases h) diffMakesUpto_row_tie rfl ⟨rfl,rfl⟩ (by kernel_rfl) rfl plain (by kernel_rfl)
#print axioms proved
end Go.Proofs.YtigmpablpmanpaaDoor.diffMakes
