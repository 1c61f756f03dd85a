/- The document's longest: a table of rows. -/
import Derived.Test.YtigmpablpmanpaaDoorSF
import Derived.Test.YtigmpablpmanpaaDoorS121
import Derived.Test.YtigmpablpmanpaaDoorIc23
namespace Go.Proofs.YtigmpablpmanpaaDoor
open Go.RowKit
set_option maxRecDepth 100000
set_option linter.unusedVariables false
set_option linter.unusedSimpArgs false
/-- A table of ints. -/
def tabI (N : Nat) (f : Nat → Nat) : List AV := (List.range N).map fun k => .sc (.int .i64 (f k : Nat))
theorem tabI_congr {N : Nat} {f g : Nat → Nat} (h : ∀ k,k < N → f k = g k) : tabI N f = tabI N g := by
 apply List.ext_getElem
 ·simp [tabI]
 ·intro k h1 h2
  simp only [tabI,List.getElem_map,List.getElem_range]
  rw [h k (by simpa [tabI] using h1)]
/-- The rows that are there, from the lo-th on. -/
def rowE (n base m lo p : Nat) : AV := if lo ≤ p then .vec 1 (base + (n - p)) 0 (m + 1) (some (m + 1)) else .lst 0 [] (some [])
def rowsE (n base m lo : Nat) : List AV := (List.range (n + 1)).map (rowE n base m lo)
structure LonS (a b : List ByteArray) (B : Nat) (H F : AHeap) (lo : Nat) : Prop where
 base : B = H.length + 1
 len : F.length = B + (a.length + 1 - lo)
 out : AHeap.find F H.length = some ⟨1,rowsE a.length B b.length lo,true,37⟩
 row : ∀ p,lo ≤ p → p ≤ a.length → AHeap.find F (B + (a.length - p)) = some ⟨1,tabI (b.length + 1) (lcd a b p),true,3⟩
 old : ∀ id,id < H.length → AHeap.find F id = AHeap.find H id
structure LonR (a b : List ByteArray) (B : Nat) (H F : AHeap) (i : Nat) (g : Nat → Nat) : Prop where
 base : B = H.length + 1
 len : F.length = B + (a.length + 1 - i)
 out : AHeap.find F H.length = some ⟨1,rowsE a.length B b.length i,true,37⟩
 row : ∀ p,i + 1 ≤ p → p ≤ a.length → AHeap.find F (B + (a.length - p)) = some ⟨1,tabI (b.length + 1) (lcd a b p),true,3⟩
 cur : AHeap.find F (B + (a.length - i)) = some ⟨1,tabI (b.length + 1) g,true,3⟩
 old : ∀ id,id < H.length → AHeap.find F id = AHeap.find H id
theorem LonR.step {a b : List ByteArray} {H F : AHeap} {B : Nat} {i : Nat} {g : Nat → Nat} (h : LonR a b B H F i g) (hi : i ≤ a.length) (g' : Nat → Nat) :
  LonR a b B H (AHeap.set F (B + (a.length - i)) (some ⟨1,tabI (b.length + 1) g',true,3⟩)) i g' := by
 have hl := h.len
 have hB := h.base
 refine ⟨hB,by rw [AHeap.set_length]; exact hl,?_,fun p h1 h2 => ?_,AHeap.find_set_same (by omega),fun id hid => ?_⟩
 ·rw [find_set_other (by omega)]; exact h.out
 ·rw [find_set_other (by omega)]; exact h.row p h1 h2
 ·rw [find_set_other (by omega)]; exact h.old id hid
theorem LonR.done {a b : List ByteArray} {H F : AHeap} {B : Nat} {i : Nat} {g : Nat → Nat} (h : LonR a b B H F i g) (hg : ∀ k,k < b.length + 1 → g k = lcd a b i k) : LonS a b B H F i := by
 refine ⟨h.base,h.len,h.out,fun p h1 h2 => ?_,h.old⟩
 by_cases e : p = i
 ·subst e
  rw [h.cur,tabI_congr hg]
 ·exact h.row p (by omega) h2
end Go.Proofs.YtigmpablpmanpaaDoor
