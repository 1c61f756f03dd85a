/- The plain functions of paths: nothing of the program is named here. -/
import Derived.Test.YtcbfppjiikgbfaaBase
namespace Go.Proofs.Ytcbfppjiikgbfaa

/-- Is xs under ys? -/
def under (xs ys : List Int) : Bool := decide (xs.take ys.length = ys)

/-- The order of lists of numbers. -/
def cmpL : List Int → List Int → Int
  | [], [] => 0
  | [], _ :: _ => -1
  | _ :: _, [] => 1
  | x :: xs, y :: ys => if x < y then -1 else if y < x then 1 else cmpL xs ys

/-- xs with another number at a place, if it is there. -/
def stepAt (xs : List Int) (k : Nat) (g : Int → Int) : List Int := if k < xs.length then xs.set k (g (nth xs k)) else xs

def upF (t : Int) (k : Int) : Int := if t ≤ k then k + 1 else k
def downF (t : Int) (k : Int) : Int := if t < k then k - 1 else k
def moveF (f t : Int) (k : Int) : Int := if k = f then t else upF t (downF f k)

def thr (xs ys : List Int) (g : Int → Int) : List Int := if under xs ys then stepAt xs ys.length g else xs
def insL (xs ys : List Int) (t : Int) : List Int := thr xs ys (upF t)
def gone (xs ys : List Int) (t : Int) : Bool := decide (ys.length < xs.length) && (under xs ys && decide (nth xs ys.length = t))
def delL (xs ys : List Int) (t : Int) : List Int := thr xs ys (downF t)
def movL (xs ys : List Int) (f t : Int) : List Int := thr xs ys (moveF f t)

/-- Each number is at most so great. -/
def Bd (B : Int) (xs : List Int) : Prop := ∀ x ∈ xs, -B ≤ x ∧ x ≤ B

theorem Bd.nth {B : Int} {xs : List Int} (h : Bd B xs) {k : Nat} (hk : k < xs.length) : -B ≤ nth xs k ∧ nth xs k ≤ B := by
  rw [nth_eq hk]; exact h _ (List.getElem_mem _)

end Go.Proofs.Ytcbfppjiikgbfaa
