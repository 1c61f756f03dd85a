/- Slices of own rows whose room is not known are told at each room that they may have; own memory told in other words. Nothing of the program is named here. -/
import Derived.Test.YtigmpablpmanpaaV30
namespace Go.Proofs.Ytigmpablpmanpaa
open Go.RowKit
set_option linter.unusedVariables false
set_option linter.unusedSimpArgs false

/-- Own memory told in other words. -/
theorem D_reword {P : Program} {f : FuncId} {args : List AV} {H H' : AHeap} {e : AEnd} (S : AHeap → Prop) (hl : H.length ≤ H'.length)
    (hS : ∀ φ w, Rel φ H w → ∃ H2, S H2 ∧ Rel φ H2 w ∧ H2.length = H.length ∧ ∀ b, Own φ H2 b ↔ Own φ H b) (h : ∀ H2, S H2 → D P f args H2 e H') : D P f args H e H' := by
  refine ⟨hl, fun φ w vs hR ha => ?_⟩
  obtain ⟨H2, h1, h2, h3, h4⟩ := hS φ w hR
  have ho : Own φ H2 = Own φ H := funext fun b => propext (h4 b)
  refine ((h H2 h1).2 φ w vs h2 (by rw [ho]; exact ha)).mono fun en w' ⟨φ', g1, g2, g3⟩ => ⟨φ', g1, g2, ?_⟩
  refine ⟨?_, g3.os, g3.tape, g3.output, hl, fun id hid => g3.old id (by rw [h3]; exact hid)⟩
  have := g3.toLater
  rwa [ho] at this

/-- A slice of unknown room, and one of a room that is known. -/
def Opened : AV → AV → Prop
  | .vec k i off n none, y => ∃ c, n ≤ c ∧ y = .vec k i off n (some c)
  | x, y => y = x
inductive OpenedL : List AV → List AV → Prop where
  | nil : OpenedL [] []
  | cons {x y : AV} {r s : List AV} : Opened x y → OpenedL r s → OpenedL (x :: r) (y :: s)
theorem OpenedL.len : ∀ {xs ys : List AV}, OpenedL xs ys → ys.length = xs.length
  | _, _, .nil => rfl
  | _, _, .cons _ h => by simp [h.len]
theorem OpenedL.get : ∀ {xs ys : List AV}, OpenedL xs ys → ∀ {j : Nat}, j < xs.length → Opened (xs.getD j .top) (ys.getD j .top)
  | _, _, .nil, j, h => by simp at h
  | _, _, .cons hx hr, 0, _ => hx
  | _, _, .cons hx hr, j + 1, h => by
    simp only [List.getD_cons_succ]
    exact hr.get (by simpa using h)

theorem open_one {φ : Phi} {O : Nat → Prop} {w : World} (x : AV) (g : Nat → Option Value) (h : R φ O w x g) : ∃ y, Opened x y ∧ R φ O w y g ∧ y.ncells = x.ncells ∧ y.isAgg = x.isAgg := by
  cases x with
  | vec k id off n c =>
    cases c with
    | some c => exact ⟨_, rfl, h, rfl, rfl⟩
    | none =>
      obtain ⟨b, c', cur, e, fr, v1, v2, v3, v4, v5, v6, v7⟩ := h
      exact ⟨_, ⟨c', v3, rfl⟩, ⟨b, c', cur, e, fr, v1, v2, v3, v4, fun m hm => by simpa using hm, v6, v7⟩, rfl, rfl⟩
  | _ => exact ⟨_, rfl, h, rfl, rfl⟩
theorem open_row {φ : Phi} {O : Nat → Prop} {w : World} {b k : Nat} : ∀ (xs : List AV) (off : Nat), Rl φ O w b k xs off → ∃ ys, OpenedL xs ys ∧ Rl φ O w b k ys off
  | [], off, _ => ⟨[], .nil, trivial⟩
  | x :: r, off, h => by
    obtain ⟨y, h1, h2, h3, h4⟩ := open_one x _ h.2.2.1
    obtain ⟨ys, h5, h6⟩ := open_row r (off + k) h.2.2.2
    exact ⟨y :: ys, .cons h1 h5, by rw [h3]; exact h.1, by rw [h4]; exact h.2.1, h2, h6⟩
theorem openedL_self : ∀ (xs : List AV), ∃ ys, OpenedL xs ys
  | [] => ⟨[], .nil⟩
  | x :: r => by
    obtain ⟨ys, h⟩ := openedL_self r
    cases x with
    | vec k id off n c =>
      cases c with
      | none => exact ⟨_, .cons ⟨n, Nat.le_refl _, rfl⟩ h⟩
      | some c => exact ⟨_, .cons rfl h⟩
    | _ => exact ⟨_, .cons rfl h⟩

/-- A row's slices, each with a room. -/
theorem D_open {P : Program} {f : FuncId} {args : List AV} {H H' : AHeap} {e : AEnd} {id : Nat} {blk : ABlk} (hf : AHeap.find H id = some blk) (hl : H.length ≤ H'.length)
    (h : ∀ es, OpenedL blk.es es → D P f args (AHeap.set H id (some { blk with es := es })) e H') (hk0 : 0 < blk.k := by first | exact Nat.zero_lt_one | simp) : D P f args H e H' := by
  have hid := AHeap.find_lt hf
  have hown : ∀ {φ : Phi} {es : List AV} {b : Nat}, Own φ (AHeap.set H id (some { blk with es := es })) b ↔ Own φ H b := by
    intro φ es b
    constructor
    · rintro ⟨i, k, h1, h2⟩
      by_cases e : i = id
      · subst e; exact ⟨i, blk, h1, hf⟩
      · rw [AHeap.find_set_ne e] at h2; exact ⟨i, k, h1, h2⟩
    · rintro ⟨i, k, h1, h2⟩
      by_cases e : i = id
      · subst e; exact ⟨i, _, h1, AHeap.find_set_same hid⟩
      · exact ⟨i, k, h1, by rw [AHeap.find_set_ne e]; exact h2⟩
  refine D_reword (fun H2 => ∃ es, OpenedL blk.es es ∧ H2 = AHeap.set H id (some { blk with es := es })) hl (fun φ w hR => ?_) (fun H2 ⟨es, h1, h2⟩ => h2 ▸ h es h1)
  have hex : ∃ es, OpenedL blk.es es ∧ ∀ b, φ id = some b → Rl φ (Own φ H) w b blk.k es 0 := by
    cases hm : φ id with
    | none =>
      obtain ⟨es, h1⟩ := openedL_self blk.es
      exact ⟨es, h1, fun b hb => by simp at hb⟩
    | some b =>
      obtain ⟨cur, cap, a1, a2, a3, a4, a5, a6⟩ := (hR.blk id b blk hm hf).cells hk0
      obtain ⟨es, h1, h2⟩ := open_row _ _ a6
      exact ⟨es, h1, fun b' hb => by cases hb; exact h2⟩
  obtain ⟨es, h1, h2⟩ := hex
  refine ⟨_, ⟨es, h1, rfl⟩, ⟨fun i b hi => ?_, fun i j b hi hj fi fj => ?_, fun i b k hi hk => ?_⟩, by rw [AHeap.set_length], fun b => hown⟩
  · have := hR.dom i b hi
    rw [AHeap.set_length]; exact this
  · have key : ∀ i, (AHeap.find (AHeap.set H id (some { blk with es := es })) i).isSome → (AHeap.find H i).isSome := by
      intro i hi
      by_cases e : i = id
      · subst e; rw [hf]; rfl
      · rwa [AHeap.find_set_ne e] at hi
    exact hR.inj i j b hi hj (key i fi) (key j fj)
  · have ho : Own φ (AHeap.set H id (some { blk with es := es })) = Own φ H := funext fun b => propext hown
    rw [ho]
    by_cases e : i = id
    · subst e
      rw [AHeap.find_set_same hid] at hk
      cases hk
      obtain ⟨cur, cap, a1, a2, a3, a4, a5, a6⟩ := (hR.blk i b blk hi hf).cells hk0
      have hlen := h1.len
      exact .inl ⟨hk0, cur, cap, a1, a2, by simp only [hlen]; exact a3, fun hx => by simp only [hlen]; exact a4 hx, a5, h2 b hi⟩
    · rw [AHeap.find_set_ne e] at hk
      exact hR.blk i b k hi hk

/-- A slice that came in, with a room. -/
theorem D_openArg {P : Program} {f : FuncId} {a b : List AV} {k i off n : Nat} {H H' : AHeap} {e : AEnd} (hl : H.length ≤ H'.length) (h : ∀ c, n ≤ c → D P f (a ++ .vec k i off n (some c) :: b) H e H') : D P f (a ++ .vec k i off n none :: b) H e H' := by
  refine ⟨hl, fun φ w vs hR ha => ?_⟩
  have : ∀ {a : List AV} {us : List Value}, Rt φ (Own φ H) w (a ++ .vec k i off n none :: b) us → ∃ c, n ≤ c ∧ Rt φ (Own φ H) w (a ++ .vec k i off n (some c) :: b) us := by
    intro a
    induction a with
    | nil =>
      rintro us ⟨v, s, h1, h2, h3, h4⟩
      obtain ⟨y, ⟨c, g1, rfl⟩, g2, _⟩ := open_one _ _ h3
      exact ⟨c, g1, v, s, h1, h2, g2, h4⟩
    | cons x r ih =>
      rintro us ⟨v, s, h1, h2, h3, h4⟩
      obtain ⟨c, g1, g2⟩ := ih h4
      exact ⟨c, g1, v, s, h1, h2, h3, g2⟩
  obtain ⟨c, h1, h2⟩ := this ha
  exact (h c h1).2 φ w vs hR h2
end Go.Proofs.Ytigmpablpmanpaa
