/- Code: what a body does, as the text goes; from a body to a function. -/
import Derived.Test.YtddhdlfafaobhaaV19
namespace Go.Proofs.Ytddhdlfafaobhaa
open Go.RowKit
set_option linter.unusedVariables false
set_option linter.unusedSimpArgs false

inductive IC where
  | skip
  | ops (l : List IO')
  | dops (l : List IO') (A : List (List Nat))
  | seq (a b : IC)
  | cond (c : X) (a b : IC)
  | block (id : Nat) (c : IC)
  | loop (c : IC)
  | exit (id : Nat)
  | ret

inductive AX where
  | normal
  | exit (id : Nat)
  | ret
  | pan (v : AV)

def compC (P : Program) (vecs : List Nat) : Code → Option IC
  | .skip => some .skip
  | .label _ => some .skip
  | .region id ops draw =>
    match compOps P (vecs.contains id) ops ops.toList with
    | none => none
    | some l => if draw then (let A := ancsOf ops; if okE ops A && okD l A && P.follows .mixedOrders then some (.dops l A) else none) else some (.ops l)
  | .seq a b => match compC P vecs a, compC P vecs b with
    | some x, some y => some (.seq x y)
    | _, _ => none
  | .cond c a b => match ofX c, compC P vecs a, compC P vecs b with
    | some c, some x, some y => some (.cond c x y)
    | _, _, _ => none
  | .block id c => (compC P vecs c).map (.block id)
  | .loop c => (compC P vecs c).map .loop
  | .exit id => some (.exit id)
  | .ret => some .ret
  | _ => none

abbrev Post := AX → List AV → AHeap → Prop

def thenK (next : List AV → AHeap → Prop) (K : Post) : Post
  | .normal, ts, H => next ts H
  | x, ts, H => K x ts H
def blockK (id : Nat) (K : Post) : Post
  | .exit i, ts, H => if i = id then K .normal ts H else K (.exit i) ts H
  | x, ts, H => K x ts H

/-- What the code does, from these slots and this own memory on. -/
def E (P : Program) : IC → Post → List AV → AHeap → Prop
  | .skip, K, ts, H => K .normal ts H
  | .ops l, K, ts, H => runOps P (K .normal) (fun v ts' H' => K (.pan v) ts' H') l ts H
  | .dops l A, K, ts, H => runD P A l.length (K .normal) (fun v H' => K (.pan v) (blankT l ts) H') 0 l ts H [] []
  | .seq a b, K, ts, H => E P a (thenK (E P b K) K) ts H
  | .cond c a b, K, ts, H => match c.ev ts with
    | .sc (.bool t) => (t = true → E P a K ts H) ∧ (t = false → E P b K ts H)
    | .ub => E P a K ts H ∧ E P b K ts H
    | _ => False
  | .block id c, K, ts, H => E P c (blockK id K) ts H
  | .loop c, K, ts, H => ∃ (I : List AV → AHeap → Prop) (μ : List AV → AHeap → Nat), I ts H ∧ ∀ ts H, I ts H → E P c (thenK (fun ts' H' => I ts' H' ∧ μ ts' H' < μ ts H) K) ts H
  | .exit id, K, ts, H => K (.exit id) ts H
  | .ret, K, ts, H => K .ret ts H

def XR (φ : Phi) (O : Nat → Prop) (w : World) : AX → Exit → Prop
  | .normal, .normal => True
  | .exit i, .exit j => i = j
  | .ret, .ret => True
  | .pan x, .panic c => ∃ v, c = [{ v := v, recovered := false }] ∧ VR φ O w x v
  | _, _ => False

/-- Where the code comes out, in the model's words. -/
def CK (K : Post) (φ : Phi) (H : AHeap) (w : World) (ds : List Deferred) : Exit → Act → World → Prop := fun e a' w' =>
  ∃ x ts' H' φ', XR φ' (Own φ' H') w' x e ∧ K x ts' H' ∧ FR φ' (Own φ' H') w' ts' a' ∧ Rel φ' H' w' ∧ Step φ H w φ' H' w' ∧ a'.defers = ds

theorem CK.step {K : Post} {φ φ' : Phi} {H H' : AHeap} {w w' : World} {ds : List Deferred} {e : Exit} {a : Act} {w2 : World} (hs : Step φ H w φ' H' w') (h : CK K φ' H' w' ds e a w2) : CK K φ H w ds e a w2 := by
  obtain ⟨x, ts, H2, φ2, h1, h2, h3, h4, h5, h6⟩ := h
  exact ⟨x, ts, H2, φ2, h1, h2, h3, h4, hs.trans h5, h6⟩

theorem E_sound {P : Program} {vecs : List Nat} : ∀ (c : Code) (ic : IC), compC P vecs c = some ic → ∀ (K : Post) (φ : Phi) (H : AHeap) (w : World) (ts : List AV) (a : Act), Rel φ H w → FR φ (Own φ H) w ts a → E P ic K ts H → c.wp P (CK K φ H w a.defers) a w := by
  intro c
  induction c with
  | skip =>
    intro ic hc K φ H w ts a hR hF h
    cases hc
    exact wp_skip ⟨.normal, ts, H, φ, trivial, h, hF, hR, Step.refl _ _ _, rfl⟩
  | label l =>
    intro ic hc K φ H w ts a hR hF h
    cases hc
    exact wp_label ⟨.normal, ts, H, φ, trivial, h, hF, hR, Step.refl _ _ _, rfl⟩
  | region id ops draw =>
    intro ic hc K φ H w ts a hR hF h
    simp only [compC] at hc
    split at hc
    · simp at hc
    rename_i l hl
    have hk : ContOk (CK K φ H w a.defers) (K .normal) φ H w a.defers := fun ts' a' φ' H' w' k1 k2 k3 k4 k5 => ⟨.normal, ts', H', φ', trivial, k1, k2, k3, k4, k5⟩
    have hp : PanOk (CK K φ H w a.defers) (fun v ts' H' => K (.pan v) ts' H') φ H w a.defers := fun v u ts' a' φ' H' w' k1 k2 k3 k4 k5 k6 => ⟨.pan v, ts', H', φ', ⟨u, rfl, k2⟩, k1, k3, k4, k5, k6⟩
    cases draw with
    | false =>
      simp only [Bool.false_eq_true, if_false] at hc
      cases hc
      exact region_seq hl hR hF h hk hp
    | true =>
      simp only [if_true] at hc
      split at hc
      case isFalse => simp at hc
      rename_i hcond
      simp only [Bool.and_eq_true] at hcond
      cases hc
      exact region_drawn hcond.2 hl hcond.1.1 hcond.1.2 hR hF h hk hp
  | seq x y ihx ihy =>
    intro ic hc K φ H w ts a hR hF h
    simp only [compC] at hc
    split at hc
    case h_2 => simp at hc
    rename_i ix iy h1 h2
    cases hc
    refine wp_seq (wp_mono (ihx ix h1 _ φ H w ts a hR hF h) ?_)
    rintro e a' w' ⟨x', ts', H', φ', k1, k2, k3, k4, k5, k6⟩
    cases x' with
    | normal =>
      cases e <;> try exact k1.elim
      show y.wp P _ a' w'
      have := ihy iy h2 K φ' H' w' ts' a' k4 k3 k2
      rw [k6] at this
      exact wp_mono this fun e a2 w2 hc => hc.step k5
    | exit i =>
      cases e <;> try exact k1.elim
      exact ⟨_, ts', H', φ', k1, k2, k3, k4, k5, k6⟩
    | ret =>
      cases e <;> try exact k1.elim
      exact ⟨.ret, ts', H', φ', k1, k2, k3, k4, k5, k6⟩
    | pan v =>
      cases e <;> try exact k1.elim
      exact ⟨_, ts', H', φ', k1, k2, k3, k4, k5, k6⟩
  | cond c x y ihx ihy =>
    intro ic hc K φ H w ts a hR hF h
    simp only [compC] at hc
    split at hc
    case h_2 => simp at hc
    rename_i c' ix iy h0 h1 h2
    cases hc
    have hv := ofX_spec hF h0
    simp only [E] at h
    split at h
    · rename_i t he
      rw [he] at hv
      have hu := VR_sc hv
      refine wp_cond hu ?_
      cases t with
      | true => exact ihx ix h1 K φ H w ts a hR hF (h.1 rfl)
      | false => exact ihy iy h2 K φ H w ts a hR hF (h.2 rfl)
    · rename_i he
      rw [he] at hv
      obtain ⟨t, ht⟩ := hv.2
      have hu : a.eval c = .bool t := by
        have h1 := hv.1
        revert ht h1
        cases a.eval c <;> intro ht h1 <;> first | (simp [cget, Value.cells] at ht; first | exact congrArg Value.bool ht | done) | (exact absurd h1 (by simp [okA, Value.oneCell']))
      refine wp_cond hu ?_
      cases t with
      | true => exact ihx ix h1 K φ H w ts a hR hF h.1
      | false => exact ihy iy h2 K φ H w ts a hR hF h.2
    · exact h.elim
  | block id c ih =>
    intro ic hc K φ H w ts a hR hF h
    simp only [compC, Option.map_eq_some_iff] at hc
    obtain ⟨ix, h1, rfl⟩ := hc
    refine wp_block (wp_mono (ih ix h1 _ φ H w ts a hR hF h) ?_)
    rintro e a' w' ⟨x', ts', H', φ', k1, k2, k3, k4, k5, k6⟩
    cases x' with
    | normal =>
      cases e <;> try exact k1.elim
      exact ⟨.normal, ts', H', φ', k1, k2, k3, k4, k5, k6⟩
    | exit i =>
      cases e <;> try exact k1.elim
      rename_i j
      have : i = j := k1
      subst this
      simp only [blockK] at k2
      simp only [Exit.inBlock]
      split
      · rename_i e2
        rw [if_pos e2] at k2
        exact ⟨.normal, ts', H', φ', trivial, k2, k3, k4, k5, k6⟩
      · rename_i e2
        rw [if_neg e2] at k2
        exact ⟨.exit i, ts', H', φ', rfl, k2, k3, k4, k5, k6⟩
    | ret =>
      cases e <;> try exact k1.elim
      exact ⟨.ret, ts', H', φ', k1, k2, k3, k4, k5, k6⟩
    | pan v =>
      cases e <;> try exact k1.elim
      exact ⟨.pan v, ts', H', φ', k1, k2, k3, k4, k5, k6⟩
  | loop c ih =>
    intro ic hc K φ H w ts a hR hF h
    simp only [compC, Option.map_eq_some_iff] at hc
    obtain ⟨ix, h1, rfl⟩ := hc
    obtain ⟨I, μ, h2, h3⟩ := h
    -- the measure is read off the slots: the invariant keeps them beside the frame
    intro b k cs
    have key : ∀ n ts1 H1 φ1 w1 a1, μ ts1 H1 = n → I ts1 H1 → FR φ1 (Own φ1 H1) w1 ts1 a1 → Rel φ1 H1 w1 → Step φ H w φ1 H1 w1 → a1.defers = a.defers →
        ∃ e a' w', CK K φ H w a.defers e a' w' ∧ Arrives P (lone (b.at a1 (.code c :: .inLoop c :: k)) cs w1) b k cs e a' w' := by
      intro n
      induction n using Nat.strongRecOn with
      | _ n ihn =>
        intro ts1 H1 φ1 w1 a1 hn hI hF1 hR1 hS1 hd1
        obtain ⟨e, a2, w2, ⟨x', ts', H', φ', k1, k2, k3, k4, k5, k6⟩, harr⟩ := ih ix h1 _ φ1 H1 w1 ts1 a1 hR1 hF1 (h3 ts1 H1 hI) b (.inLoop c :: k) cs
        cases x' with
        | normal =>
          cases e <;> try exact k1.elim
          obtain ⟨g1, g2⟩ := k2
          obtain ⟨e3, a3, w3, hq3, harr3⟩ := ihn (μ ts' H') (hn ▸ g2) ts' H' φ' w2 a2 rfl g1 k3 k4 (hS1.trans k5) (by rw [k6, hd1])
          exact ⟨e3, a3, w3, hq3, .of_steps (Steps.trans harr (.one step_inLoop)) harr3⟩
        | exit i =>
          cases e <;> try exact k1.elim
          exact ⟨_, a2, w2, ⟨.exit i, ts', H', φ', k1, k2, k3, k4, hS1.trans k5, by rw [k6, hd1]⟩, .pass (x := .inLoop c) rfl (fun _ _ => .inl (by simp)) harr⟩
        | ret =>
          cases e <;> try exact k1.elim
          exact ⟨_, a2, w2, ⟨.ret, ts', H', φ', k1, k2, k3, k4, hS1.trans k5, by rw [k6, hd1]⟩, .pass (x := .inLoop c) rfl (fun _ _ => .inl (by simp)) harr⟩
        | pan v =>
          cases e <;> try exact k1.elim
          exact ⟨_, a2, w2, ⟨.pan v, ts', H', φ', k1, k2, k3, k4, hS1.trans k5, by rw [k6, hd1]⟩, .pass (x := .inLoop c) rfl (fun _ _ => .inl (by simp)) harr⟩
    obtain ⟨e, a', w', hq, harr⟩ := key _ ts H φ w a rfl h2 hF hR (Step.refl _ _ _) rfl
    exact ⟨e, a', w', hq, .of_steps (.one step_loop) harr⟩
  | exit id =>
    intro ic hc K φ H w ts a hR hF h
    cases hc
    exact wp_exit ⟨.exit id, ts, H, φ, rfl, h, hF, hR, Step.refl _ _ _, rfl⟩
  | ret =>
    intro ic hc K φ H w ts a hR hF h
    cases hc
    exact wp_ret ⟨.ret, ts, H, φ, trivial, h, hF, hR, Step.refl _ _ _, rfl⟩
  | _ => intro ic hc; simp [compC] at hc

end Go.Proofs.Ytddhdlfafaobhaa
