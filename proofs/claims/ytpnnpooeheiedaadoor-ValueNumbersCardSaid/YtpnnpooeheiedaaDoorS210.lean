/- strconv.FormatInt of every number of 64 bits: the shelf's contract, where the table of powers lies as it was laid. -/
import Derived.Lib.AppendIntMem
import Derived.Lib.LaidTab
import Derived.Test.YtpnnpooeheiedaaDoorS194
import Derived.Test.YtpnnpooeheiedaaDoorS200
namespace Go.Proofs.YtpnnpooeheiedaaDoor
open Go.RowKit Go.Shelf
set_option linter.unusedVariables false
theorem lays173M : Go.Proofs.LaysM.n173 Tryd.prog lays173_ren := { lays173 with
 i0 := by kernel_rfl
 i2 := by kernel_rfl
 i3 := by kernel_rfl
 i4 := by kernel_rfl
 i5 := by kernel_rfl
 i9 := by kernel_rfl
 i20 := by kernel_rfl
 i37 := by kernel_rfl
 i46 := by kernel_rfl
 i51 := by kernel_rfl
 i53 := by kernel_rfl
 i171 := by kernel_rfl
 i173 := by kernel_rfl
 i212 := by kernel_rfl
 i232 := by kernel_rfl
 i233 := by kernel_rfl
 m17 := by kernel_rfl
 m18 := by kernel_rfl
 m19 := by kernel_rfl }
/-- The table of powers, as the model's world holds it. -/
theorem tab_of {φ : Phi} {H : AHeap} {w : World} (h : GOk φ H w) : Lib.TabIs Tryd.prog w "internal/strconv.uint64pow10" .u64 Lib.pow10Tab := by
 obtain ⟨⟨e,fr,h1⟩,_⟩ := h _ (List.mem_cons_self ..)
 unfold Lib.TabIs World.var?
 have hg : Tryd.prog.globalNamed "internal/strconv.uint64pow10" = some 0 := by kernel_rfl
 rw [hg]
 simp only [Option.bind_some,h1]
 rfl
theorem fmtI_d (n : Int) (hn : I64 n) (H : AHeap) : D Tryd.prog 51 [.sc (.int .i64 n),.sc (.int .i64 10)] H (.ret (.sc (.string ⟨(Lib.itoa n).toArray⟩))) H := by
 refine ⟨Nat.le_refl _,fun φ w vs hR ha => ?_⟩
 obtain ⟨a,r,e1,a1,a2,b,r2,e2,b1,b2,e3⟩ := ha
 have ea : a = .int .i64 n := VR_sc ⟨a1,a2⟩
 have eb : b = .int .i64 10 := VR_sc ⟨b1,b2⟩
 have e3' : r2 = [] := e3
 have hvs : vs = #[.int .i64 n,.int .i64 10] := by
  cases vs
  simp only at e1
  rw [e1,e2,ea,eb,e3']
 rw [hvs]
 refine (Any.strconv_FormatInt_10 lays173M n hn.1 hn.2 w (tab_of hR.glob)).mono fun en w' ⟨he,k,os,hw⟩ => ?_
 have hb : Below w.heap.size w w' := hw ▸ Lib.below_grow _ w (Nat.le_refl _) k os
 refine ⟨φ,?_,hR.grow hb.size hb.block,grow_step hb.os hb.tape hb.output hb.size hb.block⟩
 rw [he]
 exact ⟨rfl,rfl⟩
/-- From a row's list of laid variables to the table. -/
theorem laidMet_tail {P : Program} {w : World} {x : String × DataW Unit} {r : List (String × DataW Unit)} (h : laidMet P (x :: r) w) : laidMet P r w := by
 obtain ⟨ps,⟨g,t,cs,fuel,p,q,h1,h2,h3,h4,h5,h6⟩,hn,hc⟩ := h
 subst h6
 exact ⟨q,h5,(List.nodup_append.1 hn).2.1,fun b off hm => hc b off (List.mem_append_right _ hm)⟩
theorem gok_of_laid {l : List (String × DataW Unit)} {a b : String × DataW Unit} {w : World} (hl : l = [a, b, ("internal/strconv.uint64pow10", Lib.tabData .u64 Lib.pow10Tab)]) (h : laidMet Tryd.prog l w) : GOk phi0 [] w := by
 subst hl
 have hT := Lib.tabIs_of_head (t := 97) (e := 87) (n := 20) (by kernel_rfl : Tryd.prog.globalNamed "internal/strconv.uint64pow10" = some 0) (by kernel_rfl) (by kernel_rfl) (by kernel_rfl) (by kernel_rfl) (by kernel_rfl) (laidMet_tail (laidMet_tail h))
 intro p hp
 refine ⟨?_,own0⟩
 rcases List.mem_cons.1 hp with rfl | hp
 ·unfold Lib.TabIs World.var? at hT
  rw [show Tryd.prog.globalNamed "internal/strconv.uint64pow10" = some 0 by kernel_rfl] at hT
  simp only [Option.bind_some] at hT
  split at hT
  ·rename_i cs e fr hh
   exact ⟨e,fr,by rw [hh,Option.some.inj hT]; rfl⟩
  ·cases hT
 ·cases hp
end Go.Proofs.YtpnnpooeheiedaaDoor
