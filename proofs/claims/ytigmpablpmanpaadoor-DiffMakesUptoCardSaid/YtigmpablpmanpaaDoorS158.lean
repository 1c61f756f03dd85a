/- The document's Hunks. -/
import Derived.Test.YtigmpablpmanpaaDoorS157
namespace Go.Proofs.YtigmpablpmanpaaDoor
open Go.RowKit
set_option maxRecDepth 100000
set_option linter.unusedVariables false
set_option linter.unusedSimpArgs false
/-- What 'append([]string{}, l...)' tells and leaves. -/
def OwnW (l : List ByteArray) (id : Nat) : AV := match l with
 | [] => .lst 1 [] (some [])
 | _ :: _ => .vec 1 id 0 l.length none
def apW (l : List ByteArray) (H : AHeap) : AHeap := match l with
 | [] => H
 | _ :: _ => OutB l :: H
theorem apV_w {H : AHeap} {l : List ByteArray} : apV H 1 (strs l) (.lst 1 [] (some [])) = OwnW l H.length := by
 cases l with
 | nil => rfl
 | cons s r => simp [apV,OwnW,strs]
theorem apH_w {H : AHeap} {l : List ByteArray} : apH H 1 9 (strs l) (.lst 1 [] (some [])) = apW l H := by
 cases l with
 | nil => rfl
 | cons s r => simp [apH,apW,strs,OutB,OwnB]
theorem apOk_w {H : AHeap} {l : List ByteArray} : apOk H 1 9 (strs l) (.lst 1 [] (some [])) = (l.length ≤ 100000000) := by
 simp [apOk,strs_length]
theorem apW_len {l : List ByteArray} {H : AHeap} : H.length ≤ (apW l H).length ∧ (l ≠ [] → (apW l H).length = H.length + 1) := by
 cases l <;> simp [apW]
theorem apW_old {l : List ByteArray} {H : AHeap} {id : Nat} (h : id < H.length) : AHeap.find (apW l H) id = AHeap.find H id := by
 cases l with
 | nil => rfl
 | cons s r => exact find_past h
theorem apW_new {l : List ByteArray} {H : AHeap} (h : l ≠ []) : AHeap.find (apW l H) H.length = OutB l := by
 cases l with
 | nil => exact (h rfl).elim
 | cons s r => exact find_top rfl
end Go.Proofs.YtigmpablpmanpaaDoor
