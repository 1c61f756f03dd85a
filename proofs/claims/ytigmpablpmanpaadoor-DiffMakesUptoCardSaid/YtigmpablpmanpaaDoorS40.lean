/- Rows of texts that a call hands out: laid one behind the other; Clone, Invert, moved with results of the call's own. -/
import Derived.Test.YtigmpablpmanpaaDoorS34
import Derived.Test.YtigmpablpmanpaaDoorVE
namespace Go.Proofs.YtigmpablpmanpaaDoor
open Go.RowKit
set_option maxRecDepth 100000
set_option linter.unusedVariables false
set_option linter.unusedSimpArgs false
/-- Rows of texts, one behind the other. -/
def outs : List (List ByteArray) → AHeap → AHeap
 | [],H => H
 | l :: r,H => outs r (OutB l :: H)
theorem outs_length : ∀ {rs : List (List ByteArray)} {H : AHeap},(outs rs H).length = H.length + rs.length
 | [],H => rfl
 | l :: r,H => by simp only [outs,outs_length (rs := r),List.length_cons]; omega
theorem outs_old : ∀ {rs : List (List ByteArray)} {H : AHeap} {i : Nat},i < H.length → AHeap.find (outs rs H) i = AHeap.find H i
 | [],H,i,h => rfl
 | l :: r,H,i,h => by
  simp only [outs]
  rw [outs_old (by simp; omega),AHeap.find_cons h]
theorem outs_new : ∀ {rs : List (List ByteArray)} {H : AHeap} {i : Nat} {l : List ByteArray},rs[i]? = some l → AHeap.find (outs rs H) (H.length + i) = OutB l
 | [],H,i,l,h => by simp at h
 | x :: r,H,0,l,h => by
  simp at h
  subst h
  simp only [outs]
  rw [Nat.add_zero,outs_old (by simp),AHeap.find_new]
 | x :: r,H,i + 1,l,h => by
  simp only [outs]
  have := outs_new (rs := r) (H := OutB x :: H) (i := i) (by simpa using h)
  rw [List.length_cons,show H.length + 1 + i = H.length + (i + 1) from by omega] at this
  exact this
theorem newId_at {n0 : Nat} {src : List Nat} {i s : Nat} (hn : src.Nodup) (hi : src[i]? = some s) (hs : n0 ≤ s) : newId n0 src s = some (n0 + i) := by
 unfold newId
 rw [if_neg (by omega),get_idxOf? hn hi]
 rfl
theorem OutB_ne {l : List ByteArray} (h : l ≠ []) : OutB l = some ⟨1,strs l,false,9⟩ := by rw [OutB,OwnB_ne (strs_ne h)]
/-- A hunk whose texts lie in own memory. -/
abbrev hkO (h : Hk) (i j : Nat) : AV := .agg [.sc (.int .i64 h.at_),OutV h.old i,OutV h.new j]
end Go.Proofs.YtigmpablpmanpaaDoor
