/- Rows of texts in the abstract machine; how a call is told where what was laid is dropped. -/
import Derived.Test.YtddhdlfafaobhaaV24
import Derived.Lib.Bytealg
namespace Go.Proofs.Ytddhdlfafaobhaa
open Go.RowKit
set_option linter.unusedVariables false
set_option linter.unusedSimpArgs false

/-- The later memory has what the earlier one had, and more. -/
inductive Over (H : AHeap) : AHeap → Prop where
  | refl : Over H H
  | cons {b : Option ABlk} {G : AHeap} : Over H G → Over H (b :: G)
theorem Over.split {H G : AHeap} (h : Over H G) : ∃ A, G = A ++ H := by
  induction h with
  | refl => exact ⟨[], rfl⟩
  | @cons b G _ ih => obtain ⟨A, rfl⟩ := ih; exact ⟨b :: A, rfl⟩
theorem weak_over {H G : AHeap} {x y : AV} (h : Over H G) (hz : Fz G H.length x y) : Weak H (.ret x) G (.ret y) H := by
  obtain ⟨A, rfl⟩ := h.split
  exact weak_same hz

theorem weak_sc {H G : AHeap} {v : Value} (h : Over H G) : Weak H (.ret (.sc v)) G (.ret (.sc v)) H := weak_over h (.same trivial)

/-- A loop, round by round. -/
inductive Fu where
  | o
  | s (f : Fu)
def Lp (P : Program) (c : IC) (K : Post) : Fu → List AV → AHeap → Prop
  | .o, _, _ => False
  | .s n, ts, H => ES P c (thenK (Lp P c K n) K) ts H
def Fu.num : Fu → Nat
  | .o => 0
  | .s f => f.num + 1
theorem Lp_succ {P : Program} {c : IC} {K : Post} {n : Fu} {ts : List AV} {H : AHeap} : Lp P c K (.s n) ts H = ES P c (thenK (Lp P c K n) K) ts H := rfl
theorem Lp_next {P : Program} {c : IC} {K : Post} {n : Fu} {ts : List AV} {H : AHeap} (h : ∀ L : List AV → AHeap → Prop, (∀ ts H, Lp P c K n ts H → L ts H) → ES P c (thenK L K) ts H) : Lp P c K (.s n) ts H := h _ (fun _ _ h => h)
/-- What comes behind may be left out of sight. -/
theorem ES_gen {P : Program} {c : IC} {K : Post} {ts : List AV} {H : AHeap} (h : ∀ L : Post, (∀ x ts H, K x ts H → L x ts H) → ES P c L ts H) : ES P c K ts H := h _ (fun _ _ _ h => h)
theorem least_of {p : Nat → Prop} (h : ∃ n, p n) : ∃ n, p n ∧ ∀ m, p m → n ≤ m := by
  obtain ⟨n, hn⟩ := h
  induction n using Nat.strongRecOn with
  | ind n ih =>
    by_cases e : ∃ m, m < n ∧ p m
    · obtain ⟨m, h1, h2⟩ := e
      exact ih m h1 h2
    · exact ⟨n, hn, fun m hm => Nat.le_of_not_lt fun h => e ⟨m, h, hm⟩⟩
theorem nc2 : ((2 : Nat) : Int) = 2 := rfl
theorem nc3 : ((3 : Nat) : Int) = 3 := rfl
theorem nc4 : ((4 : Nat) : Int) = 4 := rfl
theorem nc5 : ((5 : Nat) : Int) = 5 := rfl
theorem nc6 : ((6 : Nat) : Int) = 6 := rfl
theorem nc7 : ((7 : Nat) : Int) = 7 := rfl
theorem nc8 : ((8 : Nat) : Int) = 8 := rfl
theorem nc9 : ((9 : Nat) : Int) = 9 := rfl
theorem nc10 : ((10 : Nat) : Int) = 10 := rfl
theorem nc11 : ((11 : Nat) : Int) = 11 := rfl
theorem nc12 : ((12 : Nat) : Int) = 12 := rfl
theorem ES_unroll {P : Program} {c : IC} {K : Post} (n : Fu) {ts : List AV} {H : AHeap} (h : Lp P c K n ts H) : ES P (.loop c) K ts H := by
  classical
  let p : List AV → AHeap → Nat → Prop := fun ts H m => ∃ f : Fu, f.num = m ∧ Lp P c K f ts H
  refine ES_loop (fun ts H => ∃ m, p ts H m) (fun ts H => if e : ∃ m, p ts H m then Classical.choose (least_of e) else 0) ⟨n.num, n, rfl, h⟩ ?_
  intro ts H e
  have h1 := Classical.choose_spec (least_of e)
  obtain ⟨⟨f, hf, hl⟩, hmin⟩ := h1
  cases f with
  | o => exact hl.elim
  | s f =>
    refine ES_mono (fun x ts' H' hx => ?_) hl
    cases x <;> first | exact hx | skip
    have e' : ∃ m, p ts' H' m := ⟨f.num, f, rfl, hx⟩
    refine ⟨e', ?_⟩
    show (if e : _ then Classical.choose (least_of e) else 0) < (if e : _ then Classical.choose (least_of e) else 0)
    rw [dif_pos e', dif_pos e, ← hf]
    exact Nat.lt_succ_of_le ((Classical.choose_spec (least_of e')).2 _ ⟨f, rfl, hx⟩)

theorem ldS_nil {A : List (List Nat)} {i : Nat} {v : AV} : ldS A i [] v = True := by
  cases v <;> simp [ldS]
theorem ldS_same {A : List (List Nat)} {i j : Nat} {H : AHeap} {hs : List (Nat × AHeap × AHeap)} {v : AV} : ldS A i ((j, H, H) :: hs) v = ldS A i hs v := by
  cases v <;> simp [ldS]
theorem ldS_cons {A : List (List Nat)} {i j : Nat} {H G : AHeap} {hs : List (Nat × AHeap × AHeap)} {k id a f : Nat} : ldS A i ((j, H, G) :: hs) (.ptr k id a f) = ((uno A j i = true → id < H.length → AHeap.find G id = AHeap.find H id) ∧ ldS A i hs (.ptr k id a f)) := by
  simp [ldS]
theorem ldS_lp {A : List (List Nat)} {i : Nat} {hs : List (Nat × AHeap × AHeap)} {x : AV} {f : Nat} : ldS A i hs (.lp x f) = True := rfl
theorem chS_nil {A : List (List Nat)} {i : Nat} {H G : AHeap} : chS A i [] H G = True := by simp [chS]
theorem chS_cons {A : List (List Nat)} {i j id : Nat} {ld : List (Nat × Nat)} {H G : AHeap} : chS A i ((j, id) :: ld) H G = ((uno A j i = true → AHeap.find G id = AHeap.find H id) ∧ chS A i ld H G) := by
  simp [chS]

def strs (l : List ByteArray) : List AV := l.map fun s => .sc (.string s)
theorem strs_length (l : List ByteArray) : (strs l).length = l.length := by simp [strs]
theorem strs_nil : strs [] = [] := rfl
theorem strs_cons (s : ByteArray) (l : List ByteArray) : strs (s :: l) = .sc (.string s) :: strs l := rfl
theorem strs_append (a b : List ByteArray) : strs (a ++ b) = strs a ++ strs b := by simp [strs]
def nthS (xs : List ByteArray) (k : Nat) : ByteArray := xs.getD k ByteArray.empty
theorem nthS_eq {xs : List ByteArray} {k : Nat} (h : k < xs.length) : nthS xs k = xs[k] := by simp [nthS, List.getD, h]
theorem strs_get {l : List ByteArray} {k : Nat} (h : k < l.length) : (strs l).getD k .top = .sc (.string (nthS l k)) := by
  simp [strs, nthS, List.getD, h]
theorem nthS_ext {xs ys : List ByteArray} (hl : xs.length = ys.length) (h : ∀ i, i < xs.length → nthS xs i = nthS ys i) : xs = ys := by
  apply List.ext_getElem hl
  intro i h1 h2
  have := h i h1
  rwa [nthS_eq h1, nthS_eq h2] at this
theorem strs_fz {H : AHeap} {n : Nat} : ∀ {l : List ByteArray}, FzL H n (strs l) (strs l)
  | [] => .nil
  | _ :: _ => .cons (.same trivial) strs_fz
/-- A fresh row of texts, told as a list. -/
theorem fz_fresh {H : AHeap} {k n ty id : Nat} {l : List ByteArray} {b : ABlk} {m : Nat} {c : Option Nat} (hf : AHeap.find H id = some b) (hb : b.es = strs l) (hk : b.k = k) (hm : m = l.length) (h : n ≤ id) : Fz H n (.vec k id 0 m c) (.lst k (strs l) none) :=
  .vec h hf hk (by rw [hb, strs_length, hm]; omega) (by
    rw [hb, hm, List.drop_zero, ← strs_length l, List.take_length]
    exact strs_fz)

theorem str_inj {s t : ByteArray} (h : s.toList = t.toList) : s = t := by
  rw [ByteArray.toList_eq, ByteArray.toList_eq] at h
  cases s with
  | mk s => cases t with
    | mk t =>
      have e : s = t := Array.toList_inj.1 h
      subst e
      rfl
theorem toList_beq (s t : ByteArray) : (s.toList == t.toList) = decide (s = t) := by
  by_cases h : s = t
  · subst h; simp
  · rw [decide_eq_false h, beq_eq_false_iff_ne]
    exact fun e => h (str_inj e)
theorem int_beq (a b : Int) : (a == b) = decide (a = b) := by
  by_cases h : a = b <;> simp [h]
theorem not_dec {p : Prop} [Decidable p] : (!decide p) = decide (¬ p) := by
  by_cases h : p <;> simp [h]

/-- A frame, slot by slot; 'none': whatever lies there. -/
def Fr : List (Option AV) → List AV → Prop
  | [], [] => True
  | some v :: p, x :: r => x = v ∧ Fr p r
  | none :: p, _ :: r => Fr p r
  | _, _ => False
def mk : List (Option AV) → (Nat → AV) → List AV
  | [], _ => []
  | some v :: p, js => v :: mk p (fun i => js (i + 1))
  | none :: p, js => js 0 :: mk p (fun i => js (i + 1))
theorem Fr.opened : ∀ {p : List (Option AV)} {ts : List AV}, Fr p ts → ∃ js, ts = mk p js
  | [], [], _ => ⟨fun _ => .top, rfl⟩
  | some v :: p, x :: r, h => by
    obtain ⟨js, e⟩ := Fr.opened h.2
    refine ⟨fun i => js (i - 1), ?_⟩
    simp only [mk, h.1, Nat.add_sub_cancel]
    rw [e]
  | none :: p, x :: r, h => by
    obtain ⟨js, e⟩ := Fr.opened (p := p) (ts := r) h
    refine ⟨fun i => if i = 0 then x else js (i - 1), ?_⟩
    simp only [mk, if_true, Nat.add_sub_cancel, Nat.add_eq_zero_iff, Nat.one_ne_zero, and_false, if_false]
    rw [e]
  | [], _ :: _, h => h.elim
  | some _ :: _, [], h => h.elim
  | none :: _, [], h => h.elim

theorem D_of_calls {P : Program} {f : FuncId} {args : List AV} {H : AHeap} {r : Value} (h : ∀ (w : World) (vs : Array Value), (∀ φ O, Rt φ O w args vs.toList → Calls P f vs w fun e w' => e = .returned r ∧ w = w')) (hr : r.oneCell' = true) : D P f args H (.ret (.sc r)) H :=
  ⟨Nat.le_refl _, fun φ w vs hR ha => (h w vs φ _ ha).mono fun e w' ⟨he, hw⟩ => by
    subst he hw
    exact ⟨φ, sc_VR hr, hR, Step.refl _ _ _⟩⟩
theorem Rt_one {φ : Phi} {O : Nat → Prop} {w : World} {x : AV} {us : List Value} (h : Rt φ O w [x] us) : ∃ v, us = [v] ∧ VR φ O w x v := by
  obtain ⟨v, s, h1, h2, h3, h4⟩ := h
  have : s = [] := h4
  subst this
  exact ⟨v, h1, h2, h3⟩
theorem Rt_cons {φ : Phi} {O : Nat → Prop} {w : World} {x : AV} {r : List AV} {us : List Value} (h : Rt φ O w (x :: r) us) : ∃ v s, us = v :: s ∧ VR φ O w x v ∧ Rt φ O w r s := by
  obtain ⟨v, s, h1, h2, h3, h4⟩ := h
  exact ⟨v, s, h1, ⟨h2, h3⟩, h4⟩
theorem arr_of {a : Array Value} {l : List Value} (h : a.toList = l) : a = l.toArray := by subst h; simp
end Go.Proofs.Ytddhdlfafaobhaa
