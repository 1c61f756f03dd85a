/- The contracts of slices.Equal, slices.Clone at int. -/
import Derived.Test.YtcbfppjiikgbfaaProg
import Derived.Test.YtcbfppjiikgbfaaPlain
namespace Go.Proofs.Ytcbfppjiikgbfaa
open Go.RowKit

set_option maxHeartbeats 400000 in
theorem equal_any (p q : Value) (xs ys : List Int) (w : World) (hp : Ints w p xs) (hq : Ints w q ys) :
    Calls Try.prog 33 #[p, q] w fun e w' => e = .returned (.bool (decide (xs = ys))) ∧ ∃ n, w' = w.drewN n := by
  obtain ⟨a, ca, rfl, ha1, ha2, ha3⟩ := hp.opened
  obtain ⟨b, cb, rfl, hb1, hb2, hb3⟩ := hq.opened
  by_cases hl : xs.length = ys.length
  · have hlb : ((xs.length : Int) != (ys.length : Int)) = false := by simp [hl]
    have Hl := Lib.hid hl
    by_cases hx : xs = []
    · subst hx
      have hy : ys = [] := by cases ys with | nil => rfl | cons _ _ => simp at hl
      subst hy
      clear hl Hl
      go_enter Try.func33, Try.ntmps33
      go_wp2
      go_loop [13] (fun i => i = .int .i64 0) (fun _ => 0)
      case atStart => rfl
      case round =>
        subst hrel
        go_wp2
        go_ret
        exact ⟨by simp, 0, rfl⟩
    · have hy : ys ≠ [] := by intro h; subst h; simp at hl; exact hx hl
      obtain ⟨ba, oa, rfl, hca⟩ := ha3 hx
      obtain ⟨bb, ob, rfl, hcb⟩ := hb3 hy
      clear ha3 hb3 hl hp hq
      go_enter Try.func33, Try.ntmps33
      go_wp2
      go_loopw [13] (fun i wr => ∃ k n : Nat, k ≤ xs.length ∧ i = .int .i64 k ∧ wr = w.drewN n ∧ ∀ j, j < k → nth xs j = nth ys j) (fun i _ => xs.length - (intOf i).toNat)
      case atStart => exact ⟨0, 0, Nat.zero_le _, rfl, rfl, by intro j hj; omega⟩
      case round =>
        obtain ⟨k, n, hk, rfl, rfl, hall⟩ := hrel
        have Hall := Lib.hid hall
        clear hall
        by_cases hlt : k < xs.length
        · have c1 := hca k hlt
          have c2 := hcb k (by rw [← Hl.out]; exact hlt)
          have hlt' : k < ys.length := by rw [← Hl.out]; exact hlt
          have k1 : (0 : Int) ≤ (k : Int) := by omega
          have k2 : (k : Int) < (xs.length : Int) := by omega
          have k3 : (k : Int) < (ys.length : Int) := by omega
          clear hca hcb
          by_cases he : nth xs k = nth ys k
          · have he' : (nth xs k != nth ys k) = false := by simp [he]
            have He := Lib.hid he
            clear he
            go_wp2_with fail
            go_quiet (fail)
            go_wp2
            go_roundw
            case rel => exact ⟨k + 1, n + nq, by omega, by go_num, by simp, fun j hj => by
              rcases Nat.lt_succ_iff_lt_or_eq.1 hj with h | h
              · exact Hall.out j h
              · subst h; exact He.out⟩
            case measure => simp [intOf]; omega
          · have he' : (nth xs k != nth ys k) = true := by simpa using he
            have He := Lib.hid he
            clear he
            go_wp2_with fail
            go_quiet (fail)
            go_wp2
            go_ret
            exact ⟨by simp; intro h; exact He.out (by rw [h]), n + nq, by simp⟩
        · have hke : k = xs.length := by omega
          go_wp2
          go_ret
          exact ⟨by simp; exact nth_ext Hl.out (by rw [← hke]; exact Hall.out), n, rfl⟩
  · have hlb : ((xs.length : Int) != (ys.length : Int)) = true := by simp; omega
    have Hl := Lib.hid hl
    clear hl hp hq
    go_enter Try.func33, Try.ntmps33
    go_wp2
    go_ret
    exact ⟨by simp; intro h; exact Hl.out (by rw [h]), 0, rfl⟩

theorem Try.info3 : (Try.prog.info? 3).map (fun i => (i.zero, i.size, i.bytes)) = some (some (.int .i64 0), 1, 8) := by kernel_rfl

set_option maxHeartbeats 1000000 in
theorem clone_any (p : Value) (xs : List Int) (w : World) (hp : Ints w p xs) (hsm : xs.length ≤ 1000000) :
    Calls Try.prog 61 #[p] w fun e w' => ∃ v, e = .returned v ∧ w'.ownsRow w.heap.size 3 1 v xs.length (xs.map intV) ∧ Ext w w' := by
  obtain ⟨a, cap, rfl, h1, h2, h3⟩ := hp
  rw [List.length_map] at h1 ⊢
  obtain ⟨i0, hi, hz0, hz1, hz2⟩ := info_parts Try.info3
  have q22 : ∀ (w : World) (a : Option Addr) (n c n' c' : Nat), (binOp .eql 22 (.slice a n c) (.slice none n' c')).run Try.prog w = .ok (.bool a.isNone) w := fun w a n c n' c' => Lib.run_eql_slice_nil w _ _ a n c n' c' Try.underlying22
  by_cases hx : xs = []
  · subst hx
    cases a with
    | none =>
      go_enter Try.func61, Try.ntmps61
      go_wp2
      go_ret
      exact ⟨_, rfl, World.ownsRow_nil _ _ _ _, ext_refl _⟩
    | some a =>
      go_enter Try.func61, Try.ntmps61
      go_wp2_with (at_builtin; refine wpList_append_own _ rfl _ _ 22 rfl w.heap.size 3 i0 (.int .i64 0) 1 8 Try.underlying22 hi hz0 hz1 hz2 rfl (by decide) _ _ _ rfl (World.ownsRow_made w #[] 0 (Nat.le_refl _) (Nat.zero_le _) rfl) a 0 cap [] rfl rfl ?qc2 ?qc3 ?qc4 ?qc5 ?qc6 ?_)
      case qc2 => intro j u hj; simp at hj
      case qc3 => intro u hu; simp at hu
      case qc4 => unfold maxLen; omega
      case qc5 => omega
      case qc6 => simp
      intro v' w1 hown hgrow hnil
      go_wp2
      go_ret
      exact ⟨v', rfl, by simpa using hown, ((Below.refl _ w).alloc (Nat.le_refl _) _).grown hgrow (by simp) (by intro k hk; simp [Value.ownBlock] at hk; omega)⟩
  · obtain ⟨b, off, rfl, hc⟩ := h3 (by simpa using hx)
    clear h3
    go_enter Try.func61, Try.ntmps61
    go_wp2_with (at_builtin; refine wpList_append_own _ rfl _ _ 22 rfl w.heap.size 3 i0 (.int .i64 0) 1 8 Try.underlying22 hi hz0 hz1 hz2 rfl (by decide) _ _ _ rfl (World.ownsRow_made w #[] 0 (Nat.le_refl _) (Nat.zero_le _) rfl) ⟨b, off, none⟩ xs.length cap (xs.map intV) rfl ?qc1 ?qc2 ?qc3 ?qc4 ?qc5 ?qc6 ?_)
    case qc1 => simp
    case qc2 =>
      intro j u hj
      rw [Addr.add_lit]
      exact Lib.cell?_alloc_some _ (hc j u hj)
    case qc3 => intro u hu; obtain ⟨x, _, rfl⟩ := List.mem_map.1 hu; rfl
    case qc4 => unfold maxLen; omega
    case qc5 => omega
    case qc6 => simp
    intro v' w1 hown hgrow hnil
    go_wp2
    go_ret
    exact ⟨v', rfl, by simpa using hown, ((Below.refl _ w).alloc (Nat.le_refl _) _).grown hgrow (by simp) (by intro k hk; simp [Value.ownBlock] at hk; omega)⟩
end Go.Proofs.Ytcbfppjiikgbfaa
