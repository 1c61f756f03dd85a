/- The contracts of step, through, past, Inserted, Deleted, Moved. -/
import Derived.Test.YtcbfppjiikgbfaaPl2
namespace Go.Proofs.Ytcbfppjiikgbfaa
open Go.RowKit

theorem own_ext {w w' : World} {B : Nat} {e : TypeId} {s : Nat} {v : Value} {n : Nat} {us : List Value} (h : w.ownsRow B e s v n us) (hx : Ext w w') : w'.ownsRow B e s v n us := by
  obtain ⟨h1, h2⟩ := h
  refine ⟨h1, ?_⟩
  rcases h2 with h2 | ⟨g, cap, cur, hv, hg, hh, r⟩
  · exact Or.inl h2
  · exact Or.inr ⟨g, cap, cur, hv, hg, by rw [hx.block g (Array.getElem?_eq_some_iff.1 hh).1]; exact hh, r⟩

/-- A closure from int to int, called in whatever world has grown from here. -/
def Fn1 (w : World) (v : Value) (g : Int → Int) : Prop :=
  ∃ f caps, v = .func (.func f) #[] caps ∧ (∀ args w, Sem.run Try.prog (callFunc f args) w = .ok (.enter f args) w) ∧ ∀ (w' : World) (k : Int), Ext w w' → -1099511627775 ≤ k → k ≤ 1099511627775 →
    Calls Try.prog f (#[.int .i64 k] ++ caps) w' fun e w'' => e = .returned (.int .i64 (g k)) ∧ Ext w' w''

theorem Fn1.ext {w w' : World} {v : Value} {g : Int → Int} (h : Fn1 w v g) (hx : Ext w w') : Fn1 w' v g := by
  obtain ⟨f, caps, hv, hr, hc⟩ := h
  exact ⟨f, caps, hv, hr, fun w'' k hx' => hc w'' k (ext_trans hx hx')⟩

theorem map_set (xs : List Int) (k : Nat) (x : Int) : (xs.map intV).set k (intV x) = (xs.set k x).map intV := by
  rw [List.map_set]

theorem own_form {w : World} {B : Nat} {e : TypeId} {v : Value} {n : Nat} {us : List Value} (h : w.ownsRow B e 1 v n us) :
    ∃ a cap, v = .slice a n cap ∧ n ≤ cap ∧ cap ≤ 9223372036854775807 ∧ (0 < n → ∃ g, a = some ⟨g, 0, none⟩ ∧ B ≤ g) := by
  rcases h.2 with ⟨rfl, h3⟩ | ⟨g, cap, cur, hv, hg, hh, hn, hm, hs, ht⟩
  · exact ⟨none, 0, by rw [h3], by omega, by omega, fun h => by omega⟩
  · exact ⟨_, cap, hv, hn, by unfold maxLen at hm; omega, fun _ => ⟨g, rfl, hg⟩⟩

set_option maxHeartbeats 1000000 in
theorem step_any (p fv : Value) (xs : List Int) (k : Nat) (g : Int → Int) (w : World) (hp : Ints w p xs) (hf : Fn1 w fv g) (hsm : xs.length ≤ 1000000) (hbd : Bd 1099511627775 xs) (hk : k ≤ 1000000) :
    Calls Try.prog 36 #[p, .int .i64 k, fv] w fun e w' => ∃ v, e = .returned v ∧ w'.ownsRow w.heap.size 3 1 v xs.length ((stepAt xs k g).map intV) ∧ Ext w w' := by
  have hp' := hp
  obtain ⟨a, cap, rfl, h1, h2, h3⟩ := hp'.opened
  clear h3 hp'
  by_cases hlt : k < xs.length
  · have Fin : Hid (stepAt xs k g = xs.set k (g (nth xs k))) := if_pos hlt
    have hd : (k : Int) < (xs.length : Int) := by omega
    have hk0 : (0 : Int) ≤ (k : Int) := by omega
    have hbk := hbd.nth hlt
    obtain ⟨f, caps, rfl, hrun, hcall⟩ := hf
    have Hcall := Lib.hid hcall
    clear hcall
    go_enter Try.func36, Try.ntmps36
    go_wp2_with fail
    refine (clone_any _ _ _ hp hsm).mono ?_
    rintro e w1 ⟨v, rfl, ho, hx⟩
    obtain ⟨a', cap', rfl, hc1, hc2, hc3⟩ := own_form ho
    obtain ⟨g', rfl, hg⟩ := hc3 (by omega)
    have hcell : w1.cell? ⟨g', k, none⟩ = some (.int .i64 (nth xs k)) := by
      rw [ho.cellAt k (by omega)]
      simp [hlt, intV, nth_eq hlt]
    have hk1 : (k : Int) < (cap' : Int) := by omega
    go_wp2_with fail
    refine (Hcall.out w1 _ hx (by omega) (by omega)).mono ?_
    rintro e w2 ⟨rfl, hx2⟩
    have ho2 := own_ext ho hx2
    have hcell2 : w2.cell? ⟨g', k, none⟩ = some (.int .i64 (nth xs k)) := ext_cell hx2 hcell
    have hfz := ho2.frozenAt k
    have hs := ho2.stored k (.int .i64 (g (nth xs k)))
    have hxx := ext_trans hx hx2
    clear hcell hrun
    go_wp2_with fail
    go_ret
    refine ⟨_, rfl, ?_, hxx.setCell hg _⟩
    rw [Fin.out, ← map_set]
    exact hs.1
  · have Fin : Hid (stepAt xs k g = xs) := if_neg hlt
    have hd : ¬ (k : Int) < (xs.length : Int) := by omega
    clear hf
    go_enter Try.func36, Try.ntmps36
    go_wp2_with fail
    refine (clone_any _ _ _ hp hsm).mono ?_
    rintro e w1 ⟨v, rfl, ho, hx⟩
    obtain ⟨a', cap', rfl, hc1, hc2, hc3⟩ := own_form ho
    go_wp2_with fail
    go_ret
    exact ⟨_, rfl, by rw [Fin.out]; exact ho, hx⟩
end Go.Proofs.Ytcbfppjiikgbfaa
