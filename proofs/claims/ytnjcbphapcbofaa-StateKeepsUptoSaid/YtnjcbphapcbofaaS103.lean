/- clerestoryref20.Put: what it makes. -/
import Derived.Test.YtnjcbphapcbofaaS102
import Derived.Test.YtnjcbphapcbofaaV30
namespace Go.Proofs.Ytnjcbphapcbofaa
open Go.RowKit
set_option maxRecDepth 100000
set_option linter.unusedVariables false
set_option linter.unusedSimpArgs false

theorem opL_docs : ∀ {l : List Dc}, AV.opL (docs l) = true
  | [] => rfl
  | x :: r => by rw [docs_cons]; simp only [AV.opL, AV.op, Bool.and_self, Bool.true_and, Bool.and_true]; exact opL_docs (l := r)
theorem upL_docs {n : Nat} : ∀ {l : List Dc}, AV.upL n (docs l) = docs l
  | [] => rfl
  | x :: r => by
    show AV.up n _ :: AV.upL n (docs r) = _
    rw [upL_docs]; rfl
theorem up_DocB {n : Nat} {l : List Dc} : (DocB l).map (ABlk.up n) = DocB l := by
  cases l with
  | nil => rfl
  | cons x r => simp only [DocB, OwnB, docs_cons, Option.map_some, ABlk.up]; rw [← docs_cons, upL_docs]
theorem op_docs {l : List Dc} : AHeap.op [DocB l] := fun id b hb => by
  have hlt := AHeap.find_lt hb
  have : id = 0 := by simpa using hlt
  subst this
  simp only [AHeap.find, List.length_nil, if_true] at hb
  obtain ⟨_, rfl⟩ := OwnB_some hb
  exact opL_docs
theorem doc_view {H : AHeap} {l : List Dc} {i : Nat} (hf : l ≠ [] → AHeap.find H i = DocB l) : View H (DocV l i) (.lst 2 (docs l) none) := ViewL.own (fun h => hf fun e => h (by rw [e]; rfl)) docs_view

end Go.Proofs.Ytnjcbphapcbofaa
