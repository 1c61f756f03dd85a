import Derived.Lib.LaidTab
import Derived.Test.YtdjnccnecgblmaaGreatDoorVC
import Derived.Test.YtdjnccnecgblmaaGreatDoorRows
namespace Go.Proofs.YtdjnccnecgblmaaGreatDoor
open Go.RowKit
set_option linter.unusedVariables false
def ascT : List Int:=(List.range 256).map fun c=>if c=9 ∨ c=10 ∨ c=11 ∨ c=12 ∨ c=13 ∨ c=32 then 1 else 0
theorem asc_cells : (ascT.map fun z=>Value.int .u8 z)=(List.range 256).map fun c=>Value.int .u8 (if c=9 ∨ c=10 ∨ c=11 ∨ c=12 ∨ c=13 ∨ c=32 then 1 else 0):=by
 unfold ascT
 rw[List.map_map]
 rfl
theorem laidMet_tail {P : Program} {w : World} {x : String × DataW Unit} {r : List (String × DataW Unit)} (h : laidMet P (x :: r) w) : laidMet P r w:=by
 obtain ⟨ps,⟨g,t,cs,fuel,p,q,h1,h2,h3,h4,h5,h6⟩,hn,hc⟩:=h
 subst h6
 exact ⟨q,h5,(List.nodup_append.1 hn).2.1,fun b off hm=>hc b off (List.mem_append_right _ hm)⟩
theorem gok_of_laid2 {l : List (String × DataW Unit)} {a : String × DataW Unit} {w : World} (hl : l = [a, ("strings.asciiSpace", Lib.tabData .u8 ascT)]) (h : laidMet Tryz.prog l w) : GOk phi0 [] w := by
 subst hl
 have hT := Lib.tabIs_of_head (t := 261) (e := 5) (n := 256) (by kernel_rfl : Tryz.prog.globalNamed "strings.asciiSpace" = some 0) (by kernel_rfl) (by kernel_rfl) (by kernel_rfl) (by kernel_rfl) (by kernel_rfl) (laidMet_tail h)
 intro p hp
 refine ⟨?_,own0⟩
 rcases List.mem_cons.1 hp with rfl | hp
 ·unfold Lib.TabIs World.var? at hT
  rw [show Tryz.prog.globalNamed "strings.asciiSpace" = some 0 by kernel_rfl] at hT
  simp only[Option.bind_some] at hT
  split at hT
  ·rename_i cs e fr hh
   refine ⟨e,fr,by rw[hh,Option.some.inj hT,asc_cells]⟩
  ·cases hT
 ·cases hp
end Go.Proofs.YtdjnccnecgblmaaGreatDoor
