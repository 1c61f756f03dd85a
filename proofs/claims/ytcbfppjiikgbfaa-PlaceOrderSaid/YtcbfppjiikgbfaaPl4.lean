/- The contracts of through, past, Inserted, Deleted, Moved. -/
import Derived.Test.YtcbfppjiikgbfaaPl3
namespace Go.Proofs.Ytcbfppjiikgbfaa
open Go.RowKit

theorem ret_eq {v v' : Value} (h : v = v') : Ending.returned v = .returned v' := by rw [h]

set_option maxHeartbeats 1000000 in
theorem through_any (p q : Value) (xs ys : List Int) (w : World) (hp : Ints w p xs) (hq : Ints w q ys) :
    Calls Try.prog 25 #[p, q] w fun e w' => e = .returned (.agg #[p, .int .i64 ((if under xs ys then ys.length else xs.length : Nat) : Int)]) ∧ Ext w w' := by
  have hp' := hp
  obtain ⟨a, ca, rfl, ha1, ha2, ha3⟩ := hp'.opened
  have hq' := hq
  obtain ⟨b, cb, rfl, hb1, hb2, hb3⟩ := hq'.opened
  clear ha3 hb3 hp' hq'
  cases hu : under xs ys with
  | true =>
    have Hu := Lib.hid hu
    clear hu
    go_enter Try.func25, Try.ntmps25
    go_wp2_with (go_at_call 19; refine (under_any _ _ _ _ _ (hp.ext (ext_alloc w _)) (hq.ext (ext_alloc w _))).mono ?_; rw [Hu.out]; rintro e w' ⟨rfl, n, rfl⟩)
    exact bodyPost_ret (v := .agg #[.slice a xs.length ca, .int .i64 ys.length]) (by simp [results, Try.results25, go_sem]) rfl ⟨by simp, ((((Below.refl _ _).alloc (Nat.le_refl _) _)).trans (below_drewN (Below.refl _ _) n)).setCell (by simp) _ |>.setCell (by simp) _⟩
  | false =>
    have Hu := Lib.hid hu
    clear hu
    go_enter Try.func25, Try.ntmps25
    go_wp2_with (go_at_call 19; refine (under_any _ _ _ _ _ (hp.ext (ext_alloc w _)) (hq.ext (ext_alloc w _))).mono ?_; rw [Hu.out]; rintro e w' ⟨rfl, n, rfl⟩)
    exact bodyPost_ret (v := .agg #[.slice a xs.length ca, .int .i64 xs.length]) (by simp [results, Try.results25, go_sem]) rfl ⟨by simp, ((((Below.refl _ _).alloc (Nat.le_refl _) _)).trans (below_drewN (Below.refl _ _) n)).setCell (by simp) _ |>.setCell (by simp) _⟩

/-- What the call hands back: a slice of its own that reads as xs. -/
def Made (w : World) (n : Nat) (xs : List Int) (e : Ending) (w' : World) : Prop :=
  ∃ v, e = .returned v ∧ w'.ownsRow w.heap.size 3 1 v n (xs.map intV) ∧ Ext w w'

theorem Made.from {w w0 : World} {n : Nat} {xs : List Int} {e : Ending} {w' : World} (h : Made w0 n xs e w') (hx : Ext w w0) : Made w n xs e w' := by
  obtain ⟨v, he, ho, hx'⟩ := h
  refine ⟨v, he, ?_, ext_trans hx hx'⟩
  obtain ⟨h1, h2⟩ := ho
  refine ⟨h1, ?_⟩
  rcases h2 with h2 | ⟨g, cap, cur, hv, hg, r⟩
  · exact .inl h2
  · exact .inr ⟨g, cap, cur, hv, Nat.le_trans hx.size hg, r⟩

set_option maxHeartbeats 1000000 in
theorem past_any (p fv : Value) (xs : List Int) (k : Nat) (g : Int → Int) (w : World) (hp : Ints w p xs) (hf : Fn1 w fv g) (hsm : xs.length ≤ 1000000) (hbd : Bd 1099511627775 xs) (hk : k ≤ 1000000) :
    Calls Try.prog 26 #[.agg #[p, .int .i64 k], fv] w fun e w' => Made w xs.length (stepAt xs k g) e w' := by
  have hp' := hp
  obtain ⟨a, ca, rfl, ha1, ha2, ha3⟩ := hp'.opened
  clear ha3 hp'
  have Hf := Lib.hid (hf.ext (ext_alloc w (.cells #[.slice a xs.length ca, .int .i64 k] 40)))
  obtain ⟨f, caps, rfl, hrun, hcall⟩ := hf
  have Hp := Lib.hid (hp.ext (ext_alloc w (.cells #[.slice a xs.length ca, .int .i64 k] 40)))
  clear hrun hcall hp
  go_enter Try.func26, Try.ntmps26
  go_wp2_with fail
  refine (step_any _ _ xs k g _ Hp.out Hf.out hsm hbd hk).mono ?_
  intro e w' h
  have h' := Made.from h (ext_alloc w _)
  clear h
  obtain ⟨v, rfl, ho, hx⟩ := h'
  go_wp2_with fail
  go_ret
  exact ⟨v, rfl, ho, hx⟩

end Go.Proofs.Ytcbfppjiikgbfaa
