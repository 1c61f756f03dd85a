/- Several texts in one: what each is for stands ahead of it. -/
import Derived.Test.YtigmpablpmanpaaDoorSA
import Derived.Test.YtigmpablpmanpaaDoorIc3
import Derived.Test.YtigmpablpmanpaaDoorVC
import Derived.KernelRfl
/- hunk.Sorted, must, put.add. -/
namespace Go.Proofs.YtigmpablpmanpaaDoor
open Go.RowKit
set_option maxRecDepth 100000
set_option linter.unusedVariables false
set_option linter.unusedSimpArgs false
def hks (l : List Hk) : List AV := l.map hk
theorem hks_length (l : List Hk) : (hks l).length = l.length := by simp [hks]
def nthH (l : List Hk) (k : Nat) : Hk := l.getD k ⟨0,[],[]⟩
theorem nthH_eq {l : List Hk} {k : Nat} (h : k < l.length) : nthH l k = l[k] := by simp [nthH,List.getD,h]
theorem hks_get {l : List Hk} {k : Nat} (h : k < l.length) : (hks l).getD k .top = hk (nthH l k) := by simp [hks,nthH,List.getD,h]
end Go.Proofs.YtigmpablpmanpaaDoor
/- put.add: lines are put behind what was put. -/
namespace Go.Proofs.YtigmpablpmanpaaDoor
open Go.RowKit
set_option maxRecDepth 100000
set_option linter.unusedVariables false
set_option linter.unusedSimpArgs false
abbrev OutV (l : List ByteArray) (id : Nat) : AV := OwnV 1 (strs l) id
abbrev OutB (l : List ByteArray) : Option ABlk := OwnB 1 9 (strs l)
theorem strs_ne {l : List ByteArray} (h : l ≠ []) : strs l ≠ [] := by cases l <;> simp [strs] at h ⊢
end Go.Proofs.YtigmpablpmanpaaDoor
/- text.swap: a hunk's lines are exchanged. -/
namespace Go.Proofs.YtigmpablpmanpaaDoor
open Go.RowKit
set_option maxRecDepth 100000
set_option linter.unusedVariables false
set_option linter.unusedSimpArgs false
theorem strs_gz {H : AHeap} {n : Nat} {src : List Nat} : ∀ {l : List ByteArray},GzL H n src (strs l) (strs l)
 | [] => .nil
 | _ :: _ => .cons (.same trivial) strs_gz
end Go.Proofs.YtigmpablpmanpaaDoor
/- hunk.Apply: what it makes. -/
namespace Go.Proofs.YtigmpablpmanpaaDoor
open Go.RowKit
set_option maxRecDepth 100000
set_option linter.unusedVariables false
set_option linter.unusedSimpArgs false
theorem Short.app {a b : List ByteArray} (ha : Short a) (hb : Short b) (h : a.length + b.length ≤ 100000000) : Short (a ++ b) := by
 refine ⟨by simpa using h,fun s hs => ?_⟩
 rcases List.mem_append.1 hs with hs | hs
 ·exact ha.2 s hs
 ·exact hb.2 s hs
theorem Short.drop {a : List ByteArray} (ha : Short a) (n : Nat) : Short (a.drop n) := ⟨by have := ha.1; simp; omega,fun s hs => ha.2 s (List.mem_of_mem_drop hs)⟩
theorem Short.take {a : List ByteArray} (ha : Short a) (n : Nat) : Short (a.take n) := ⟨by have := ha.1; simp; omega,fun s hs => ha.2 s (List.mem_of_mem_take hs)⟩
theorem Short.nil : Short [] := ⟨by simp,by simp⟩
end Go.Proofs.YtigmpablpmanpaaDoor
/- Small functions of law03: one, abc, great, two; Invert; Apply where what it makes is only read. -/
namespace Go.Proofs.YtigmpablpmanpaaDoor
open Go.RowKit
set_option maxRecDepth 100000
set_option linter.unusedVariables false
set_option linter.unusedSimpArgs false
def Hk.inv (h : Hk) : Hk := ⟨h.at_,h.new,h.old⟩
def k1 : Hk := ⟨1,[⟨#[98,10]⟩],[⟨#[120,10]⟩,⟨#[121,10]⟩]⟩
def k2 : Hk := ⟨1,[⟨#[99,10]⟩],[⟨#[120,10]⟩]⟩
def k3 : Hk := ⟨3,[⟨#[99,10]⟩],[]⟩
def k4 : Hk := ⟨2,[⟨#[99,10]⟩],[⟨#[100]⟩]⟩
def k5 : Hk := ⟨0,[⟨#[97,10]⟩],[⟨#[100]⟩]⟩
abbrev r1 : List ByteArray := [⟨#[97,10]⟩,⟨#[120,10]⟩,⟨#[121,10]⟩,⟨#[99,10]⟩]
abbrev r4 : List ByteArray := [⟨#[97,10]⟩,⟨#[98,10]⟩,⟨#[100]⟩]
end Go.Proofs.YtigmpablpmanpaaDoor
