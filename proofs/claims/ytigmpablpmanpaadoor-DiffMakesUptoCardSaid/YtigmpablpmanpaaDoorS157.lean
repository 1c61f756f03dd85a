/- diff.Hunks with texts of the call's own: a round; between; the whole. -/
import Derived.Test.YtigmpablpmanpaaDoorS156
import Derived.Test.YtigmpablpmanpaaDoorSF
namespace Go.Proofs.YtigmpablpmanpaaDoor
open Go.RowKit
set_option maxRecDepth 100000
set_option linter.unusedVariables false
set_option linter.unusedSimpArgs false
theorem HMade.keep {H F G : AHeap} {l : List HR} {vid : Nat} (h : HMade H F l vid) (hl : F.length ≤ G.length) (hk : ∀ id,H.length ≤ id → id < F.length → (id ∈ hids l ∨ (l ≠ [] ∧ id = vid)) → AHeap.find G id = AHeap.find F id) : HMade H G l vid where
 own := h.own.keep fun id hm h1 h2 => hk id h1 h2 (.inl hm)
 row := fun e => by
  obtain ⟨r1,r2,r3⟩ := h.row e
  exact ⟨by rw [hk _ r2 (AHeap.find_lt r1) (.inr ⟨e,rfl⟩)]; exact r1,r2,r3⟩
 ids := fun i hi => ⟨(h.ids i hi).1,Nat.lt_of_lt_of_le (h.ids i hi).2 hl⟩
 nd := h.nd
theorem HMade.step {H F G : AHeap} {l : List HR} {vid : Nat} (h : HMade H F l vid) (hHF : H.length ≤ F.length) (hl : F.length ≤ G.length) (hk : ∀ id ∈ hids l,AHeap.find G id = AHeap.find F id) (x : HR) (vid' : Nat)
  (h1 : x.1.old ≠ [] → AHeap.find G x.2.1 = OutB x.1.old) (h2 : x.1.new ≠ [] → AHeap.find G x.2.2 = OutB x.1.new) (hx : (F.length ≤ x.2.1 ∧ x.2.1 < G.length) ∧ (F.length ≤ x.2.2 ∧ x.2.2 < G.length) ∧ x.2.1 ≠ x.2.2)
  (hv : AHeap.find G vid' = some ⟨3,hrs (l ++ [x]),false,46⟩) (hv2 : F.length ≤ vid' ∧ vid' ≠ x.2.1 ∧ vid' ≠ x.2.2) : HMade H G (l ++ [x]) vid' where
 own := (h.own.keep fun id hm _ _ => hk id hm).app (.one (fun e => ⟨h1 e,by omega⟩) (fun e => ⟨h2 e,by omega⟩))
 row := fun _ => ⟨hv,by omega,fun hm => by
  rw [hids_app,List.mem_append] at hm
  rcases hm with hm | hm
  ·have := (h.ids _ hm).2
   omega
  ·simp [hids] at hm
   omega⟩
 ids := fun i hi => by
  rw [hids_app,List.mem_append] at hi
  rcases hi with hi | hi
  ·have := h.ids _ hi
   omega
  ·simp [hids] at hi
   omega
 nd := by
  rw [hids_app]
  refine List.nodup_append.2 ⟨h.nd,by simp [hids]; exact hx.2.2,fun a ha b hb => ?_⟩
  have := (h.ids _ ha).2
  simp [hids] at hb
  omega
end Go.Proofs.YtigmpablpmanpaaDoor
