/- SameInts -/
import Derived.Test.YtcbfppjiikgbfaaProg
import Derived.Test.YtcbfppjiikgbfaaBase
namespace Go.Proofs.Ytcbfppjiikgbfaa
open Go.RowKit

set_option maxHeartbeats 400000 in
theorem sameInts_any (p q : Value) (xs ys : List Int) (w : World) (hp : Ints w p xs) (hq : Ints w q ys) :
    Calls Try.prog 21 #[p, q] w fun e w' => e = .returned (.bool (decide (xs = ys))) ∧ ∃ n, w' = w.drewN n := by
  obtain ⟨a, ca, rfl, ha1, ha2, ha3⟩ := hp.opened
  obtain ⟨b, cb, rfl, hb1, hb2, hb3⟩ := hq.opened
  by_cases hl : xs.length = ys.length
  · have hlb : ((xs.length : Int) != (ys.length : Int)) = false := by simp [hl]
    have Hl := Lib.hid hl
    by_cases hx : xs = []
    · subst hx
      have hy : ys = [] := by cases ys with | nil => rfl | cons _ _ => simp at hl
      subst hy
      clear hl Hl
      go_enter Try.func21, Try.ntmps21
      go_wp2
      go_loop [5] (fun i => i = .int .i64 0) (fun _ => 0)
      case atStart => rfl
      case round =>
        subst hrel
        go_wp2
        go_ret
        exact ⟨by simp, 0, rfl⟩
    · have hy : ys ≠ [] := by intro h; subst h; simp at hl; exact hx hl
      obtain ⟨ba, oa, rfl, hca⟩ := ha3 hx
      obtain ⟨bb, ob, rfl, hcb⟩ := hb3 hy
      clear ha3 hb3 hl
      go_enter Try.func21, Try.ntmps21
      go_wp2
      go_loopw [5] (fun i wr => ∃ k n : Nat, k ≤ xs.length ∧ i = .int .i64 k ∧ wr = w.drewN n ∧ ∀ j, j < k → nth xs j = nth ys j) (fun i _ => xs.length - (intOf i).toNat)
      case atStart => exact ⟨0, 0, Nat.zero_le _, rfl, rfl, by intro j hj; omega⟩
      case round =>
        obtain ⟨k, n, hk, rfl, rfl, hall⟩ := hrel
        have Hall := Lib.hid hall
        clear hall
        by_cases hlt : k < xs.length
        · have c1 := hca k hlt
          have c2 := hcb k (by rw [← Hl.out]; exact hlt)
          have hlt' : k < ys.length := by rw [← Hl.out]; exact hlt
          have k1 : (0 : Int) ≤ (k : Int) := by omega
          have k2 : (k : Int) < (xs.length : Int) := by omega
          have k3 : (k : Int) < (ys.length : Int) := by omega
          clear hca hcb
          by_cases he : nth xs k = nth ys k
          · have he' : (nth xs k != nth ys k) = false := by simp [he]
            have He := Lib.hid he
            clear he
            go_wp2_with fail
            go_quiet (fail)
            go_wp2
            go_roundw
            case rel => exact ⟨k + 1, n + nq, by omega, by go_num, by simp, fun j hj => by
              rcases Nat.lt_succ_iff_lt_or_eq.1 hj with h | h
              · exact Hall.out j h
              · subst h; exact He.out⟩
            case measure => simp [intOf]; omega
          · have he' : (nth xs k != nth ys k) = true := by simpa using he
            have He := Lib.hid he
            clear he
            go_wp2_with fail
            go_quiet (fail)
            go_wp2
            go_ret
            exact ⟨by simp; intro h; exact He.out (by rw [h]), n + nq, by simp⟩
        · have hke : k = xs.length := by omega
          go_wp2
          go_ret
          exact ⟨by simp; exact nth_ext Hl.out (by rw [← hke]; exact Hall.out), n, rfl⟩
  · have hlb : ((xs.length : Int) != (ys.length : Int)) = true := by simp; omega
    have Hl := Lib.hid hl
    clear hl
    go_enter Try.func21, Try.ntmps21
    go_wp2
    go_ret
    exact ⟨by simp; intro h; exact Hl.out (by rw [h]), 0, rfl⟩
end Go.Proofs.Ytcbfppjiikgbfaa
