/- clerestoryref20.put: what it makes. -/
import Derived.Test.YtnjcbphapcbofaaS101
namespace Go.Proofs.Ytnjcbphapcbofaa
open Go.RowKit
set_option maxRecDepth 100000
set_option linter.unusedVariables false
set_option linter.unusedSimpArgs false

theorem rp_drop {d : Dc} {b : Bool} {l : List Dc} {k : Nat} (h : k < l.length) : rp d b (l.drop k) = (if (!b && !lt (nthD l k).1 d.1) = true then [d] else []) ++ ((if (nthD l k).1 = d.1 then [] else [nthD l k]) ++ rp d (b || !lt (nthD l k).1 d.1) (l.drop (k + 1))) := by
  rw [List.drop_eq_getElem_cons h, nthD_eq h]
  rfl
theorem docs_app {l : List Dc} {d : Dc} : docs l ++ [dcA d] = docs (l ++ [d]) := by simp [docs]
end Go.Proofs.Ytnjcbphapcbofaa
