/- AlphaBack tells true, whatever tree, name and numbers come in, where what is read is of bulk at most 1048576: the tied card. -/
import Derived.Test.YtnoplgongieehaaGreatDoorM9
import Derived.Test.YtnoplgongieehaaGreatDoorM3
import Derived.Test.YtnoplgongieehaaGreatDoorRows
import Derived.WalkKit
import Derived.ProofKit
import Derived.OpenShut
import Derived.JoinedCond
import Derived.Test.YtnoplgongieehaaGreatDoorCards
import Derived.Test.YtnoplgongieehaaGreatDoorTie
import Derived.Deep.DeepWitnessRowRef
import Derived.Lay
import Derived.LaidMore
namespace Go.Proofs.YtnoplgongieehaaGreatDoor.alphaBack
open Go.ChangeShapes Go.WideShapes Go.ChangeAt Go.RowKit
open Go.Proofs.YtnoplgongieehaaGreatDoor
set_option linter.unusedVariables false
set_option linter.unusedSimpArgs false
set_option maxRecDepth 100000
theorem own : ownKnob Tryz.prog.godebug = none := by kernel_rfl
theorem laidOut : laidOutB Tryz.prog = true := by kernel_rfl
theorem contract (H : Type) (enc : TypeId × Value → H) (W : World) (base : Nat) (args : Array Value) (ds gs : List (DataW H)) (before : List MemPlace)
  (VY : ∀ (j : Nat) t v,Tryz.f6.params[j]? = some t → args[j]? = some v → Value.okWide Tryz.prog W .any base t v)
  (hW : DataW.Whole enc Tryz.prog Tryz.f6.params.toList Rows.alphaBackSpec.vars false W args.toList ds gs before) (bV : Rows.uptoSmall H (ds ++ gs) = true) (KV : laidMetH Tryz.prog Rows.alphaBackUptoRow.laid W) :
  Calls Tryz.prog 6 args W fun e W' => ∃ v,e = .returned v ∧ Rows.alphaBackSpec.post enc Tryz.prog Tryz.f6 false true false false W args v W' := by
 have hval : ∀ (j : Nat) t v,Tryz.f6.params[j]? = some t → args[j]? = some v → Value.okWide Tryz.prog W .any base t v := VY
 have WG := hW
 obtain ⟨p,q,hA0,hV,rfl,hfz,hnd⟩ := hW
 have hA : DataW.TrodAll enc Tryz.prog W 0 (fun _ => true) true Tryz.f6.params.toList args.toList ds p := hA0
 rw [Tryz.params6] at hA hval
 obtain ⟨v0,vs0,d0,ds0,p0,q0,hargs,rfl,rfl,h0,r0⟩ := trodAll_cons hA
 obtain ⟨v1,vs1,d1,ds1,p1,q1,rfl,rfl,rfl,h1,r1⟩ := trodAll_cons r0
 obtain ⟨v2,vs2,d2,ds2,p2,q2,rfl,rfl,rfl,h2,r2⟩ := trodAll_cons r1
 obtain ⟨v3,vs3,d3,ds3,p3,q3,rfl,rfl,rfl,h3,r3⟩ := trodAll_cons r2
 obtain ⟨rfl,rfl,rfl⟩ := trodAll_nil r3
 obtain rfl : args = #[v0,v1,v2,v3] := by cases args; simp_all
 obtain ⟨rfl,rfl⟩ := trodVars_none hV
 obtain ⟨c0,rfl,-⟩ := okWide_struct Tryz.underlying25 (hval 0 25 v0 rfl rfl)
 obtain ⟨a0,e0,g0⟩ := SJ (fun n => VX) h0
 obtain ⟨s1,rfl⟩ := okWide_string Tryz.underlying9 (hval 1 9 v1 rfl rfl)
 obtain ⟨a1,e1,g1⟩ := Ac (fun n => VU) h1 (fun _ => rfl) (fun _ => rfl) rfl
 obtain ⟨s2,rfl⟩ := okWide_int Tryz.underlying3 (hval 2 3 v2 rfl rfl)
 obtain ⟨a2,e2,g2⟩ := Ac (fun n => I8) h2 (fun _ => rfl) (fun _ => rfl) rfl
 obtain ⟨s3,rfl⟩ := okWide_int Tryz.underlying3 (hval 3 3 v3 rfl rfl)
 obtain ⟨a3,e3,g3⟩ := Ac (fun n => I8) h3 (fun _ => rfl) (fun _ => rfl) rfl
 have hk : Rows.uptoBulkAll [d0,d1,d2,d3] ≤ 1048576 := of_decide_eq_true bV
 refine Ox (tb := 4) laidOut (by kernel_rfl) rfl Tryz.underlying4 rfl rfl WG (avs := [_, _, _, _]) (⟨_, _, rfl, e0.1, e0.2, ⟨_, _, rfl, e1.1, e1.2, ⟨_, _, rfl, e2.1, e2.2, ⟨_, _, rfl, e3.1, e3.2, rfl⟩⟩⟩⟩) ?_ (Cr (show Rows.alphaBackUptoRow.laid = [("unicode.White_Space", Rows.laid_unicode_White_Space), ("strings.asciiSpace", Lib.tabData .u8 Nn)] from by kernel_rfl) (by rw [← MakeChecks.laidMetH_plain _ _ _ (by kernel_rfl)]; exact KV))
 clear KV hval VY hA0 WG bV
 simp only [Rows.uptoBulkAll] at hk
 exact Fq a0 a1 a2 a3 (by omega)
/-- THE WITNESS's WORLD holds what the row lists. -/
theorem Qp (os : Os) : laidMetH Tryz.prog Rows.alphaBackUptoRow.laid ((World.laidAll Tryz.prog os Rows.alphaBackUptoRow.laid).forCall (fun _ _ => 0) ⟨#[],#[.agg #[.int .u8 0,.string ⟨#[]⟩,.int .i64 0,.slice none 0 0],.string ⟨#[]⟩,.int .i64 0,.int .i64 0],[]⟩).memory := by
 rw [MakeChecks.laidMetH_plain _ _ _ (by kernel_rfl)]
 exact laidMet_laidAll _ (by kernel_rfl) (by kernel_rfl)
theorem reads (os : Os) {H : Type} (enc : TypeId × Value → H) : ∃ places,DataW.whole enc Tryz.prog ((World.laidAll Tryz.prog os Rows.alphaBackUptoRow.laid).forCall (fun _ _ => 0) ⟨#[],#[.agg #[.int .u8 0,.string ⟨#[]⟩,.int .i64 0,.slice none 0 0],.string ⟨#[]⟩,.int .i64 0,.int .i64 0],[]⟩).memory Tryz.f6.params.toList Rows.alphaBackSpec.vars false (#[.agg #[.int .u8 0,.string ⟨#[]⟩,.int .i64 0,.slice none 0 0],.string ⟨#[]⟩,.int .i64 0,.int .i64 0] : Array Value).toList 8 = some ([.agg [.lit (.int .u8 0),.lit (.string []),.lit (.int .i64 0),.nil],.lit (.string []),.lit (.int .i64 0),.lit (.int .i64 0)],[],places) :=
 ⟨[],by kernel_rfl⟩
theorem lifted (os : Os) (started : os.Started) (H : Type) (enc : TypeId × Value → H) (F : Stop.Interp) :
  ReturnsInHanded {} Tryz.checked os 6 .any ((Rows.OpenSpec.upto Rows.alphaBackSpec).preRow enc Tryz.prog Tryz.f6 Rows.alphaBackUptoRow.domain false Rows.alphaBackUptoRow.laid) (((Rows.OpenSpec.upto Rows.alphaBackSpec).at F).post enc Tryz.prog Tryz.f6 false true false false) := by
 obtain ⟨places,hx⟩ := reads os enc
 refine returnsInHanded_of_row (C := Tryz.checked) (s := (Rows.OpenSpec.upto Rows.alphaBackSpec)) own started (by kernel_rfl) Tryz.func6
  (witness_row_atRef (enc := enc) (C := Tryz.checked) false (World.laidAll Tryz.prog os Rows.alphaBackUptoRow.laid) #[.agg #[.int .u8 0,.string ⟨#[]⟩,.int .i64 0,.slice none 0 0],.string ⟨#[]⟩,.int .i64 0,.int .i64 0] (World.laidAll_os _ _ _) (by kernel_rfl) (by kernel_rfl) (by kernel_rfl)
   (OpenSpec.preRow_of_cond 8 hx (by kernel_rfl) (fun k hk => by cases hk; kernel_rfl) (by kernel_rfl) (Qp os))) ?_
 intro W base args ds gs before hval hW _ iB _ hL _ _
 exact contract H enc W base args ds gs before hval hW (iB _ rfl) hL
theorem said : Rows.AlphaBackUptoSaid :=
 OpenClaim.holds_of_cond 6 Tryz.f6 rfl rfl rfl rfl rfl rfl rfl ⟨rfl,rfl,rfl,rfl,rfl⟩ rfl rfl rfl rfl rfl (by kernel_rfl) Tryz.func6 (by kernel_rfl)
  (of_decide_eq_true (by kernel_rfl)) (by unfold Func.isWrapper; first | (rw [if_pos (by decide +kernel)]; kernel_rfl) | (rw [if_neg (by decide +kernel)]; exact ⟨rfl,rfl⟩))
  (fun os started H enc _ F => by rw [OpenClaim.pre_eq_preRow]; exact lifted os started H enc F)
theorem plain (f : FuncId) (fn : Func) (hf : Tryz.pinned.checked.prog.funcNamed "clerestory/clerestorylaw10.AlphaBack" = some f) (hfn : Tryz.pinned.checked.prog.funcs[f]? = some fn) :
  true = Tryz.pinned.checked.prog.looks [] ∧ ∀ (j : Nat) t,fn.params[j]? = some t → Tryz.pinned.checked.prog.wantsStandIn t = false := by
 obtain rfl : f = 6 := Option.some.inj ((show Tryz.prog.funcNamed "clerestory/clerestorylaw10.AlphaBack" = some 6 by kernel_rfl).symm.trans hf) |>.symm
 obtain rfl : fn = Tryz.f6 := (Option.some.inj (Tryz.func6.symm.trans hfn)).symm
 refine ⟨by kernel_rfl,fun j t ht => ?_⟩
 rw [Tryz.params6] at ht
 have hm : t ∈ ([25,9,3,3] : List Nat) := by simpa using Array.mem_of_getElem? ht
 have hall : (([25,9,3,3] : List Nat).all fun u => !Tryz.prog.wantsStandIn u) = true := by kernel_rfl
 exact (show Tryz.prog.wantsStandIn t = false by simpa using List.all_eq_true.1 hall t hm)
/-- The statement. -/
theorem proved : Rows.AlphaBackUptoCardSaid :=
 Claim7.holds_tied_plain_at .later [] _ _ _ _ said (fun _ h => by cases h) (by kernel_rfl) (fun _ h => by cases h) alphaBackUpto_row_tie rfl ⟨rfl,rfl⟩ (by kernel_rfl) rfl plain (by kernel_rfl)
#print axioms proved
end Go.Proofs.YtnoplgongieehaaGreatDoor.alphaBack
