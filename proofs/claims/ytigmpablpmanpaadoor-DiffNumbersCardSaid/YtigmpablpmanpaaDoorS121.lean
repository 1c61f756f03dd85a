/- lines.Split. -/
import Derived.Test.YtigmpablpmanpaaDoorS120
namespace Go.Proofs.YtigmpablpmanpaaDoor
open Go.RowKit
set_option maxRecDepth 100000
set_option linter.unusedVariables false
set_option linter.unusedSimpArgs false
theorem heap_ext : ∀ {H G : AHeap},H.length = G.length → (∀ i,i < H.length → AHeap.find H i = AHeap.find G i) → H = G
 | [],[],_,_ => rfl
 | b :: r,c :: s,hl,h => by
  have hl' : r.length = s.length := by simpa using hl
  have h0 := h r.length (by simp)
  rw [AHeap.find_new,hl',AHeap.find_new] at h0
  rw [h0,heap_ext hl' fun i hi => by
   have := h i (by simp; omega)
   rwa [AHeap.find_cons hi,AHeap.find_cons (by omega)] at this]
theorem find_set {H : AHeap} {i j : Nat} {x : Option ABlk} (hi : i < H.length) : AHeap.find (AHeap.set H i x) j = if i = j then x else AHeap.find H j := by
 split
 ·rename_i e; subst e; exact AHeap.find_set_same hi
 ·rename_i e; exact AHeap.find_set_ne (fun h => e h.symm)
theorem set_comm {H : AHeap} {i j : Nat} {x y : Option ABlk} (h : i ≠ j) : AHeap.set (AHeap.set H i x) j y = AHeap.set (AHeap.set H j y) i x := by
 refine heap_ext (by simp [AHeap.set_length]) fun k hk => ?_
 by_cases h1 : k = i
 ·subst h1
  rw [AHeap.find_set_ne h]
  by_cases hl : k < H.length
  ·rw [AHeap.find_set_same hl,AHeap.find_set_same (by rw [AHeap.set_length]; exact hl)]
  ·rw [AHeap.find_ge (by rw [AHeap.set_length]; omega),AHeap.find_ge (by rw [AHeap.set_length,AHeap.set_length]; omega)]
 ·rw [AHeap.find_set_ne (i := i) (j := k) h1]
  by_cases h2 : k = j
  ·subst h2
   by_cases hl : k < H.length
   ·rw [AHeap.find_set_same hl,AHeap.find_set_same (by rw [AHeap.set_length]; exact hl)]
   ·rw [AHeap.find_ge (by rw [AHeap.set_length,AHeap.set_length]; omega),AHeap.find_ge (by rw [AHeap.set_length]; omega)]
  ·rw [AHeap.find_set_ne h2,AHeap.find_set_ne h2,AHeap.find_set_ne h1]
theorem round_heap0 {F : AHeap} {rid oid : Nat} {B R : ABlk} {X : Option ABlk} (hr : AHeap.find F rid = some R) (d : rid ≠ oid) : AHeap.set (AHeap.set (AHeap.set F rid (some B)) oid X) rid (some R) = AHeap.set F oid X := by
 have hl := AHeap.find_lt hr
 rw [set_comm d.symm,set_set,set_self hr hl]
section
variable {P : Program} {id : Nat} {r : Loop} {ts0 ts : List AV} {ib : IC} {Kr : AEnd → AHeap → Prop} {H : AHeap} {i : Nat}
theorem asgS_n : asgS P id r ts0 ib Kr .normal ts H = (AHeap.find H id = some (lpB r ts0) ∧ ES P ib (rndK id Kr) ts (AHeap.set H id (some (lpB { r with state := .busy } ts0)))) := rfl
theorem rndK_n : rndK id Kr .normal ts H = ∃ r ts,AHeap.find H id = some (lpB r ts) ∧ Kr (.ret (.sc (.bool true))) (AHeap.set H id (some (lpB { r with state := .ready,pending := none } ts))) := rfl
end
end Go.Proofs.YtigmpablpmanpaaDoor
