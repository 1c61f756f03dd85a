/- The contracts of Inserted, Deleted, Moved. -/
import Derived.Test.YtcbfppjiikgbfaaPl4
namespace Go.Proofs.Ytcbfppjiikgbfaa
open Go.RowKit

theorem thr_eq (xs ys : List Int) (g : Int → Int) : stepAt xs (if under xs ys then ys.length else xs.length) g = thr xs ys g := by
  unfold thr
  split
  · rfl
  · exact if_neg (by omega)

theorem run37 (args : Array Value) (w : World) : Sem.run Try.prog (callFunc 37 args) w = .ok (.enter 37 args) w := by kernel_rfl
theorem run38 (args : Array Value) (w : World) : Sem.run Try.prog (callFunc 38 args) w = .ok (.enter 38 args) w := by kernel_rfl
theorem run31 (args : Array Value) (w : World) : Sem.run Try.prog (callFunc 31 args) w = .ok (.enter 31 args) w := by kernel_rfl

theorem fn_up {t : Int} {b : Nat} {w : World} (hc : w.cell? ⟨b, 0, none⟩ = some (.int .i64 t)) : Fn1 w (.func (.func 37) #[] #[.pointer (some ⟨b, 0, none⟩)]) (upF t) :=
  ⟨37, _, rfl, run37, fun w' k hx h1 h2 => (up1_any t k b w' (ext_cell hx hc) (by omega) (by omega)).mono fun e w'' ⟨he, hw⟩ => ⟨he, by rw [hw]; exact ext_refl _⟩⟩
theorem fn_down {t : Int} {b : Nat} {w : World} (hc : w.cell? ⟨b, 0, none⟩ = some (.int .i64 t)) : Fn1 w (.func (.func 38) #[] #[.pointer (some ⟨b, 0, none⟩)]) (downF t) :=
  ⟨38, _, rfl, run38, fun w' k hx h1 h2 => (down1_any t k b w' (ext_cell hx hc) (by omega) (by omega)).mono fun e w'' ⟨he, hw⟩ => ⟨he, by rw [hw]; exact ext_refl _⟩⟩
theorem fn_move {f t : Int} {b c : Nat} {w : World} (hb : w.cell? ⟨b, 0, none⟩ = some (.int .i64 f)) (hc : w.cell? ⟨c, 0, none⟩ = some (.int .i64 t)) :
    Fn1 w (.func (.func 31) #[] #[.pointer (some ⟨b, 0, none⟩), .pointer (some ⟨c, 0, none⟩)]) (moveF f t) :=
  ⟨31, _, rfl, run31, fun w' k hx h1 h2 => moved1_any f t k b c w' (ext_cell hx hb) (ext_cell hx hc) h1 h2⟩

theorem alloc_cell (w : World) (v : Value) (t : TypeId) : (w.alloc (.cells #[v] t)).cell? ⟨w.heap.size, 0, none⟩ = some v := World.cell?_alloc_new _ _ _ _

def tk (xs ys : List Int) : Nat := if under xs ys then ys.length else xs.length
theorem tk_le {xs ys : List Int} (h1 : xs.length ≤ 1000000) (h2 : ys.length ≤ 1000000) : tk xs ys ≤ 1000000 := by unfold tk; split <;> omega
theorem thr_tk (xs ys : List Int) (g : Int → Int) : stepAt xs (tk xs ys) g = thr xs ys g := thr_eq xs ys g
theorem through_tk (p q : Value) (xs ys : List Int) (w : World) (hp : Ints w p xs) (hq : Ints w q ys) :
    Calls Try.prog 25 #[p, q] w fun e w' => e = .returned (.agg #[p, .int .i64 (tk xs ys : Int)]) ∧ Ext w w' := through_any p q xs ys w hp hq

set_option maxHeartbeats 1000000 in
theorem inserted_any (p q : Value) (xs ys : List Int) (t : Int) (w : World) (hp : Ints w p xs) (hq : Ints w q ys) (hsm : xs.length ≤ 1000000) (hsy : ys.length ≤ 1000000) (hbd : Bd 1099511627775 xs) :
    Calls Try.prog 11 #[p, q, .int .i64 t] w fun e w' => Made w xs.length (insL xs ys t) e w' := by
  have Fin : Hid (stepAt xs (tk xs ys) (upF t) = insL xs ys t) := thr_tk _ _ _
  have hk := tk_le hsm hsy
  have Hq := Lib.hid hq
  have Hp := Lib.hid hp
  clear hp hq
  go_enter Try.func11, Try.ntmps11
  go_wp2_with fail
  refine (through_tk p q xs ys w Hp.out Hq.out).mono ?_
  rintro e w1 ⟨rfl, hx⟩
  go_wp2_with fail
  refine (up_any t _).mono ?_
  rintro e w2 ⟨rfl, rfl⟩
  go_wp2_with fail
  refine (past_any p _ xs _ (upF t) _ ((Hp.out.ext hx).ext (ext_alloc w1 _)) (fn_up (alloc_cell w1 _ _)) hsm hbd hk).mono ?_
  intro e w' h
  have h' := Made.from h (ext_trans hx (ext_alloc w1 _))
  rw [Fin.out] at h'
  clear h
  obtain ⟨v, rfl, ho, hx3⟩ := h'
  go_wp2_with fail
  go_ret
  exact ⟨v, rfl, ho, hx3⟩

set_option maxHeartbeats 1000000 in
theorem moved_any (p q : Value) (xs ys : List Int) (f t : Int) (w : World) (hp : Ints w p xs) (hq : Ints w q ys) (hsm : xs.length ≤ 1000000) (hsy : ys.length ≤ 1000000) (hbd : Bd 1099511627775 xs) :
    Calls Try.prog 15 #[p, q, .int .i64 f, .int .i64 t] w fun e w' => Made w xs.length (movL xs ys f t) e w' := by
  have Fin : Hid (stepAt xs (tk xs ys) (moveF f t) = movL xs ys f t) := thr_tk _ _ _
  have hk := tk_le hsm hsy
  have Hq := Lib.hid hq
  have Hp := Lib.hid hp
  clear hp hq
  have hx0 : Ext w ((w.alloc (.cells #[.int .i64 f] 3)).alloc (.cells #[.int .i64 t] 3)) := ext_trans (ext_alloc w _) (ext_alloc _ _)
  have c1 : ((w.alloc (.cells #[.int .i64 f] 3)).alloc (.cells #[.int .i64 t] 3)).cell? ⟨w.heap.size, 0, none⟩ = some (.int .i64 f) := ext_cell (ext_alloc _ _) (alloc_cell w _ _)
  have c2 : ((w.alloc (.cells #[.int .i64 f] 3)).alloc (.cells #[.int .i64 t] 3)).cell? ⟨w.heap.size + 1, 0, none⟩ = some (.int .i64 t) := by
    have := alloc_cell (w.alloc (.cells #[.int .i64 f] 3)) (.int .i64 t) 3
    simp at this ⊢
  have C1 := Lib.hid c1
  have C2 := Lib.hid c2
  have Hx0 := Lib.hid hx0
  clear c1 c2 hx0
  go_enter Try.func15, Try.ntmps15
  go_wp2_with fail
  refine (through_tk p q xs ys _ (Hp.out.ext Hx0.out) (Hq.out.ext Hx0.out)).mono ?_
  rintro e w1 ⟨rfl, hx⟩
  go_wp2_with fail
  refine (past_any p _ xs _ (moveF f t) _ (Hp.out.ext (ext_trans Hx0.out hx)) (fn_move (ext_cell hx C1.out) (ext_cell hx C2.out)) hsm hbd hk).mono ?_
  intro e w' h
  have h' := Made.from h (ext_trans Hx0.out hx)
  rw [Fin.out] at h'
  clear h
  obtain ⟨v, rfl, ho, hx3⟩ := h'
  go_wp2_with fail
  go_ret
  exact ⟨v, rfl, ho, hx3⟩

/-- Deleted: behind a path that is gone. -/
theorem deleted_gone (p q : Value) (xs ys : List Int) (t : Int) (w : World) (hp : Ints w p xs) (hq : Ints w q ys) (hg : gone xs ys t = true) (hsm : xs.length ≤ 1000000) (hsy : ys.length ≤ 1000000) :
    Calls Try.prog 13 #[p, q, .int .i64 t] w fun e w' => e = .returned (.tuple #[.slice none 0 0, .bool false]) ∧ Ext w w' := by
  unfold gone at hg
  simp only [Bool.and_eq_true, decide_eq_true_eq] at hg
  obtain ⟨h1, h2, h3⟩ := hg
  have H2 := Lib.hid h2
  have H3 := Lib.hid h3
  have hp' := hp
  obtain ⟨a, ca, rfl, ha1, ha2, ha3⟩ := hp'.opened
  have hq' := hq
  obtain ⟨b, cb, rfl, hb1, hb2, hb3⟩ := hq'.opened
  obtain ⟨bb, off, rfl, hc⟩ := ha3 (by intro e; subst e; simp at h1)
  have hcell := hc ys.length h1
  have hd : decide ((ys.length : Int) < (xs.length : Int)) = true := by simp; omega
  have hd' : (ys.length : Int) < (xs.length : Int) := by omega
  have hy0 : (0 : Int) ≤ (ys.length : Int) := by omega
  have he : (nth xs ys.length == t) = true := by simpa using h3
  have Hq := Lib.hid hq
  have Hp := Lib.hid hp
  clear hp hq hb3 hp' hq' ha3 hc h2 h3
  go_enter Try.func13, Try.ntmps13
  go_wp2_with fail
  refine (under_any _ _ _ _ _ Hp.out Hq.out).mono ?_
  rw [H2.out]
  rintro e w' ⟨rfl, n, rfl⟩
  go_wp2_with fail
  go_ret2
  exact ⟨rfl, ext_drewN _ _⟩

/-- The tuple that Deleted hands back. -/
def MadeOk (w : World) (n : Nat) (xs : List Int) (e : Ending) (w' : World) : Prop :=
  ∃ v, e = .returned (.tuple #[v, .bool true]) ∧ w'.ownsRow w.heap.size 3 1 v n (xs.map intV) ∧ Ext w w'

set_option maxHeartbeats 1000000 in
theorem deleted_kept (p q : Value) (xs ys : List Int) (t : Int) (w : World) (hp : Ints w p xs) (hq : Ints w q ys) (hg : gone xs ys t = false) (hsm : xs.length ≤ 1000000) (hsy : ys.length ≤ 1000000) (hbd : Bd 1099511627775 xs) :
    Calls Try.prog 13 #[p, q, .int .i64 t] w fun e w' => MadeOk w xs.length (delL xs ys t) e w' := by
  have Fin : Hid (stepAt xs (tk xs ys) (downF t) = delL xs ys t) := thr_tk _ _ _
  have hk := tk_le hsm hsy
  have Hq := Lib.hid hq
  have Hp := Lib.hid hp
  have hp' := hp
  obtain ⟨a, ca, rfl, ha1, ha2, ha3⟩ := hp'.opened
  have hq' := hq
  obtain ⟨b, cb, rfl, hb1, hb2, hb3⟩ := hq'.opened
  clear hp hq hb3 hp' hq'
  by_cases h1 : ys.length < xs.length
  · have hd : decide ((ys.length : Int) < (xs.length : Int)) = true := by simp; omega
    have hd' : (ys.length : Int) < (xs.length : Int) := by omega
    have hy0 : (0 : Int) ≤ (ys.length : Int) := by omega
    obtain ⟨bb, off, rfl, hc⟩ := ha3 (by intro e; subst e; simp at h1)
    have hcell := hc ys.length h1
    clear ha3 hc
    cases h2 : under xs ys with
    | true =>
      have he : (nth xs ys.length == t) = false := by
        unfold gone at hg
        simpa [h1, h2] using hg
      have H2 := Lib.hid h2
      clear h2 hg
      go_enter Try.func13, Try.ntmps13
      go_wp2_with fail
      refine (under_any _ _ _ _ _ Hp.out Hq.out).mono ?_
      rw [H2.out]
      rintro e w' ⟨rfl, n, rfl⟩
      go_wp2_with fail
      have hxn := ext_drewN w n
      refine (through_tk _ _ xs ys _ (Hp.out.ext hxn) (Hq.out.ext hxn)).mono ?_
      rintro e w1 ⟨rfl, hx⟩
      go_wp2_with fail
      refine (down_any t _).mono ?_
      rintro e w2 ⟨rfl, rfl⟩
      go_wp2_with fail
      refine (past_any _ _ xs _ (downF t) _ (((Hp.out.ext hxn).ext hx).ext (ext_alloc w1 _)) (fn_down (alloc_cell w1 _ _)) hsm hbd hk).mono ?_
      intro e w' h
      have h' := Made.from h (ext_trans (ext_trans hxn hx) (ext_alloc w1 _))
      rw [Fin.out] at h'
      clear h
      obtain ⟨v, rfl, ho, hx3⟩ := h'
      go_wp2_with fail
      go_ret2
      exact ⟨v, rfl, ho, hx3⟩
    | false =>
      have H2 := Lib.hid h2
      clear h2 hg
      go_enter Try.func13, Try.ntmps13
      go_wp2_with fail
      refine (under_any _ _ _ _ _ Hp.out Hq.out).mono ?_
      rw [H2.out]
      rintro e w' ⟨rfl, n, rfl⟩
      go_wp2_with fail
      have hxn := ext_drewN w n
      refine (through_tk _ _ xs ys _ (Hp.out.ext hxn) (Hq.out.ext hxn)).mono ?_
      rintro e w1 ⟨rfl, hx⟩
      go_wp2_with fail
      refine (down_any t _).mono ?_
      rintro e w2 ⟨rfl, rfl⟩
      go_wp2_with fail
      refine (past_any _ _ xs _ (downF t) _ (((Hp.out.ext hxn).ext hx).ext (ext_alloc w1 _)) (fn_down (alloc_cell w1 _ _)) hsm hbd hk).mono ?_
      intro e w' h
      have h' := Made.from h (ext_trans (ext_trans hxn hx) (ext_alloc w1 _))
      rw [Fin.out] at h'
      clear h
      obtain ⟨v, rfl, ho, hx3⟩ := h'
      go_wp2_with fail
      go_ret2
      exact ⟨v, rfl, ho, hx3⟩
  · have hd : decide ((ys.length : Int) < (xs.length : Int)) = false := by simp; omega
    clear ha3 hg
    go_enter Try.func13, Try.ntmps13
    go_wp2_with fail
    refine (through_tk _ _ xs ys _ Hp.out Hq.out).mono ?_
    rintro e w1 ⟨rfl, hx⟩
    go_wp2_with fail
    refine (down_any t _).mono ?_
    rintro e w2 ⟨rfl, rfl⟩
    go_wp2_with fail
    refine (past_any _ _ xs _ (downF t) _ ((Hp.out.ext hx).ext (ext_alloc w1 _)) (fn_down (alloc_cell w1 _ _)) hsm hbd hk).mono ?_
    intro e w' h
    have h' := Made.from h (ext_trans hx (ext_alloc w1 _))
    rw [Fin.out] at h'
    clear h
    obtain ⟨v, rfl, ho, hx3⟩ := h'
    go_wp2_with fail
    go_ret2
    exact ⟨v, rfl, ho, hx3⟩

end Go.Proofs.Ytcbfppjiikgbfaa
