/- Code that ranges over functions, or that calls its way into a round: sound; what such functions tell. Nothing of the program is named here. -/
import Derived.Test.YtigmpablpmanpaaV38
namespace Go.Proofs.Ytigmpablpmanpaa
open Go.RowKit
set_option linter.unusedVariables false
set_option linter.unusedSimpArgs false

theorem E_soundY {P : Program} {ro : Option Nat} {top : Bool} {vecs ys : List Nat} (htop : top = true → ro = none) {n0 : Nat} : ∀ (c : Code) (ic : IC), compY top P vecs ys c = some ic → ∀ (K : Post) (φ : Phi) (H : AHeap) (w : World) (ts : List AV) (a : Act), Rel φ H w → FR φ (Own φ H) w ts a → MD n0 φ H w a.defers → n0 ≤ w.heap.size → E P ic K ts H → c.wpIn (Fv ro) 0 P (CKY n0 K φ H w) a w := by
  intro c
  induction c with
  | skip =>
    intro ic hc K φ H w ts a hR hF hM hn h
    cases hc
    exact wpIn_skip ⟨.normal, ts, H, φ, trivial, h, hF, hR, Step.refl _ _ _, hM⟩
  | label l =>
    intro ic hc K φ H w ts a hR hF hM hn h
    cases hc
    exact wpIn_label ⟨.normal, ts, H, φ, trivial, h, hF, hR, Step.refl _ _ _, hM⟩
  | region id ops draw =>
    intro ic hc K φ H w ts a hR hF hM hn h
    simp only [compY] at hc
    split at hc
    case isFalse => simp at hc
    rename_i hnd
    have hnd := opsOkY_spec hnd
    have hk : ContOk (CKY n0 K φ H w) (K .normal) φ H w a.defers := fun ts' a' φ' H' w' k1 k2 k3 k4 k5 => ⟨.normal, ts', H', φ', trivial, k1, k2, k3, k4, by rw [k5]; exact hM.step k4⟩
    have hp : PanOk (CKY n0 K φ H w) (fun v ts' H' => K (.pan v) ts' H') φ H w a.defers := fun v u ts' a' φ' H' w' k1 k2 k3 k4 k5 k6 => ⟨.pan v, ts', H', φ', k2, k1, k3, k4, k5, by rw [k6]; exact hM.step k5⟩
    split at hc
    · cases draw with
      | true => simp at hc
      | false =>
        simp only [Bool.false_eq_true, if_false] at hc
        exact region_yld hnd hc hR hF h hk hp
    · exact region_Y hnd hc CKY.stays hR hF h hk hp
  | seq x y ihx ihy =>
    intro ic hc K φ H w ts a hR hF hM hn h
    simp only [compY] at hc
    split at hc
    case h_2 => simp at hc
    rename_i ix iy h1 h2
    cases hc
    refine wpIn_seq (wpIn_mono (ihx ix h1 _ φ H w ts a hR hF hM hn h) ?_)
    rintro e a' w' ⟨x', ts', H', φ', k1, k2, k3, k4, k5, k6⟩
    cases x' with
    | normal =>
      cases e <;> try exact k1.elim
      show y.wpIn (Fv ro) 0 P _ a' w'
      exact wpIn_mono (ihy iy h2 K φ' H' w' ts' a' k4 k3 k6 (Nat.le_trans hn k5.size) k2) fun e a2 w2 hc => hc.step k5
    | exit i =>
      cases e <;> try exact k1.elim
      exact ⟨_, ts', H', φ', k1, k2, k3, k4, k5, k6⟩
    | ret =>
      cases e <;> try exact k1.elim
      exact ⟨.ret, ts', H', φ', k1, k2, k3, k4, k5, k6⟩
    | pan v =>
      cases e <;> try exact k1.elim
      exact ⟨_, ts', H', φ', k1, k2, k3, k4, k5, k6⟩
  | cond c x y ihx ihy =>
    intro ic hc K φ H w ts a hR hF hM hn h
    simp only [compY] at hc
    split at hc
    case h_2 => simp at hc
    rename_i c' ix iy h0 h1 h2
    cases hc
    have hv := ofX_spec hF h0
    simp only [E] at h
    split at h
    · rename_i t he
      rw [he] at hv
      have hu := VR_sc hv
      refine wpIn_cond hu ?_
      cases t with
      | true => exact ihx ix h1 K φ H w ts a hR hF hM hn (h.1 rfl)
      | false => exact ihy iy h2 K φ H w ts a hR hF hM hn (h.2 rfl)
    · rename_i he
      rw [he] at hv
      obtain ⟨t, ht⟩ := hv.2
      have hu : a.eval c = .bool t := by
        have h1 := hv.1
        revert ht h1
        cases a.eval c <;> intro ht h1 <;> first | (simp [cget, Value.cells] at ht; first | exact congrArg Value.bool ht | done) | (exact absurd h1 (by simp [okA, Value.oneCell']))
      refine wpIn_cond hu ?_
      cases t with
      | true => exact ihx ix h1 K φ H w ts a hR hF hM hn h.1
      | false => exact ihy iy h2 K φ H w ts a hR hF hM hn h.2
    · exact h.elim
  | block id c ih =>
    intro ic hc K φ H w ts a hR hF hM hn h
    simp only [compY, Option.map_eq_some_iff] at hc
    obtain ⟨ix, h1, rfl⟩ := hc
    refine wpIn_block (wpIn_mono (ih ix h1 _ φ H w ts a hR hF hM hn h) ?_)
    rintro e a' w' ⟨x', ts', H', φ', k1, k2, k3, k4, k5, k6⟩
    cases x' with
    | normal =>
      cases e <;> try exact k1.elim
      exact ⟨.normal, ts', H', φ', k1, k2, k3, k4, k5, k6⟩
    | exit i =>
      cases e <;> try exact k1.elim
      rename_i j
      have : i = j := k1
      subst this
      simp only [blockK] at k2
      simp only [Exit.inBlock]
      split
      · rename_i e2
        rw [if_pos e2] at k2
        exact ⟨.normal, ts', H', φ', trivial, k2, k3, k4, k5, k6⟩
      · rename_i e2
        rw [if_neg e2] at k2
        exact ⟨.exit i, ts', H', φ', rfl, k2, k3, k4, k5, k6⟩
    | ret =>
      cases e <;> try exact k1.elim
      exact ⟨.ret, ts', H', φ', k1, k2, k3, k4, k5, k6⟩
    | pan v =>
      cases e <;> try exact k1.elim
      exact ⟨.pan v, ts', H', φ', k1, k2, k3, k4, k5, k6⟩
  | loop c ih =>
    intro ic hc K φ H w ts a hR hF hM hn h
    simp only [compY, Option.map_eq_some_iff] at hc
    obtain ⟨ix, h1, rfl⟩ := hc
    obtain ⟨I, μ, h2, h3⟩ := h
    intro b k cs hro hb hr
    have key : ∀ n ts1 H1 φ1 w1 a1, μ ts1 H1 = n → I ts1 H1 → FR φ1 (Own φ1 H1) w1 ts1 a1 → Rel φ1 H1 w1 → Step φ H w φ1 H1 w1 → MD n0 φ1 H1 w1 a1.defers →
        ∃ e a' w', CKY n0 K φ H w e a' w' ∧ ArrivesIn (Machine.fenced P (Fv ro)) P (lone (b.atR a1 (.code c :: .inLoop c :: k)) cs w1) b k cs e a' w' := by
      intro n
      induction n using Nat.strongRecOn with
      | _ n ihn =>
        intro ts1 H1 φ1 w1 a1 hn1 hI hF1 hR1 hS1 hM1
        obtain ⟨e, a2, w2, ⟨x', ts', H', φ', k1, k2, k3, k4, k5, k6⟩, harr⟩ := ih ix h1 _ φ1 H1 w1 ts1 a1 hR1 hF1 hM1 (Nat.le_trans hn hS1.size) (h3 ts1 H1 hI) b (.inLoop c :: k) cs hro hb hr
        cases x' with
        | normal =>
          cases e <;> try exact k1.elim
          obtain ⟨g1, g2⟩ := k2
          obtain ⟨e3, a3, w3, hq3, harr3⟩ := ihn (μ ts' H') (hn1 ▸ g2) ts' H' φ' w2 a2 rfl g1 k3 k4 (hS1.trans k5) k6
          exact ⟨e3, a3, w3, hq3, .of_steps (StepsIn.trans harr (.one (fenced_calm hb hr rfl) stepR_inLoop)) harr3⟩
        | exit i =>
          cases e <;> try exact k1.elim
          exact ⟨_, a2, w2, ⟨.exit i, ts', H', φ', k1, k2, k3, k4, hS1.trans k5, k6⟩, .pass (x := .inLoop c) rfl (fun _ _ => .inl (by simp)) harr⟩
        | ret =>
          cases e <;> try exact k1.elim
          exact ⟨_, a2, w2, ⟨.ret, ts', H', φ', k1, k2, k3, k4, hS1.trans k5, k6⟩, .pass (x := .inLoop c) rfl (fun _ _ => .inl (by simp)) harr⟩
        | pan v =>
          cases e <;> try exact k1.elim
          exact ⟨_, a2, w2, ⟨.pan v, ts', H', φ', k1, k2, k3, k4, hS1.trans k5, k6⟩, .pass (x := .inLoop c) rfl (fun _ _ => .inl (by simp)) harr⟩
    obtain ⟨e, a', w', hq, harr⟩ := key _ ts H φ w a rfl h2 hF hR (Step.refl _ _ _) hM
    exact ⟨e, a', w', hq, .of_steps (.one (fenced_calm hb hr rfl) stepR_loop) harr⟩
  | exit id =>
    intro ic hc K φ H w ts a hR hF hM hn h
    cases hc
    exact wpIn_exit ⟨.exit id, ts, H, φ, rfl, h, hF, hR, Step.refl _ _ _, hM⟩
  | ret =>
    intro ic hc K φ H w ts a hR hF hM hn h
    cases hc
    exact wpIn_ret ⟨.ret, ts, H, φ, trivial, h, hF, hR, Step.refl _ _ _, hM⟩
  | refuse s =>
    intro ic hc K φ H w ts a hR hF hM hn h
    cases hc
    exact False.elim h
  | rangeFunc g ps asg body _ _ =>
    intro ic hc K φ H w ts a hR hF hM hn h
    simp only [compY] at hc
    split at hc
    case isFalse => simp at hc
    rename_i ht
    rw [htop ht]
    rw [Option.map_eq_some_iff] at hc
    obtain ⟨x, hx, rfl⟩ := hc
    exact rng_in hx hR hF hM hn h
  | _ => intro ic hc; simp [compY] at hc

/-! ### A round -/

/-- The parameters' slots. -/
def putPs : List Tmp → List AV → List AV → List AV
  | t :: r, x :: s, ts => putPs r s (ts.set t x)
  | _, _, ts => ts

theorem zip_FR {φ : Phi} {O : Nat → Prop} {w : World} {ds : List Deferred} : ∀ {ps : List Tmp} {args : List AV} {vs : List Value} {ts : List AV} {tm : Array Value}, Rt φ O w args vs → FR φ O w ts { tmps := tm, defers := ds } → FR φ O w (putPs ps args ts) { tmps := (ps.zip vs).foldl (fun t x => t.setIfInBounds x.1 x.2) tm, defers := ds }
  | [], args, vs, ts, tm, ha, hF => by cases args <;> simpa [putPs] using hF
  | p :: ps, [], vs, ts, tm, ha, hF => by have : vs = [] := ha; subst this; simpa [putPs] using hF
  | p :: ps, x :: args, vs, ts, tm, ha, hF => by
    obtain ⟨v, s, rfl, h1, h2, h3⟩ := ha
    simp only [putPs, List.zip_cons_cons, List.foldl_cons]
    exact zip_FR h3 (FR.put hF (some p) ⟨h1, h2⟩)

/-- How a round ends: the record, and what its call hands back. -/
def rndK (id : Nat) (Kr : AEnd → AHeap → Prop) : Post
  | .normal, _, H => ∃ r ts, AHeap.find H id = some (lpB r ts) ∧ Kr (.ret (.sc (.bool true))) (AHeap.set H id (some (lpB { r with state := .ready, pending := none } ts)))
  | .ret, _, H => ∃ r ts, AHeap.find H id = some (lpB r ts) ∧ Kr (.ret (.sc (.bool false))) (AHeap.set H id (some (lpB { r with state := .done, pending := some .ret } ts)))
  | .exit i, _, H => ∃ r ts, AHeap.find H id = some (lpB r ts) ∧ Kr (.ret (.sc (.bool false))) (AHeap.set H id (some (lpB { r with state := .done, pending := some (.exit i) } ts)))
  | .pan _, _, _ => False
/-- A round, told before anything is dropped. -/
def DKY (P : Program) (id : Nat) (args : List AV) (H : AHeap) (Kr : AEnd → AHeap → Prop) : Prop :=
  ∀ (φ : Phi) (w : World) (b : Nat) (vs : Array Value), Rel φ H w → φ id = some b → Rt φ (Own φ H) w args vs.toList →
    ∃ f tmps asg body, (Instr.yield b vs).run P w = .ok (.round b f tmps asg body) w ∧
      RoundIn Fence.wide 0 P b f tmps asg body w fun en w' => ∃ e H' φ', EndR φ' (Own φ' H') w' e en ∧ Kr e H' ∧ Rel φ' H' w' ∧ Step φ H w φ' H' w'
theorem DY_of_DKY {P : Program} {id : Nat} {args : List AV} {H : AHeap} {e : AEnd} {H' : AHeap} (hl : H.length ≤ H'.length) (h : DKY P id args H fun e1 H1 => Weak H e1 H1 e H') : DY P id args H e H' := by
  refine ⟨hl, fun φ w b vs hR hb ha => ?_⟩
  obtain ⟨f, tmps, asg, body, h1, h2⟩ := h φ w b vs hR hb ha
  exact ⟨f, tmps, asg, body, h1, h2.mono fun en w' ⟨e1, H1, φ1, g1, g2, g3, g4⟩ => g2 φ w φ1 w' en hR g1 g3 g4⟩

/-- What stands between the parameters' assignment and the body. -/
def asgK (P : Program) (id : Nat) (r : Loop) (ts0 : List AV) (ib : IC) (Kr : AEnd → AHeap → Prop) : Post
  | .normal, ts, H => AHeap.find H id = some (lpB r ts0) ∧ E P ib (rndK id Kr) ts (AHeap.set H id (some (lpB { r with state := .busy } ts0)))
  | _, _, _ => False

theorem DKY_of_body {P : Program} {id : Nat} {r : Loop} {ts0 args : List AV} {H : AHeap} {vecs : List Nat} {ia ib : IC} {Kr : AEnd → AHeap → Prop} (hf : AHeap.find H id = some (lpB r ts0)) (hs : r.state = .ready) (hn : args.length = r.params.size)
    (ha : compY false P vecs [] r.assign = some ia) (hb : compY false P vecs [] r.body = some ib) (h : E P ia (asgK P id r ts0 ib Kr) (putPs r.params.toList args ts0) H) : DKY P id args H Kr := by
  intro φ w b vs hR hb0 hvs
  obtain ⟨tm, hl, ht⟩ := own_rec hR hb0 hf
  have hlt := heap_lt hl
  have hsz : vs.size = args.length := by have := Rt_len hvs; simpa using this
  refine ⟨_, _, _, _, run_yield hl (by show vs.size = r.params.size; rw [hsz, hn]), ?_⟩
  refine roundIn_of_wpIn (F := Fence.wide) trivial ?_
  have hF0 : FR φ (Own φ H) w (putPs r.params.toList args ts0) { tmps := (r.params.zip vs).foldl (fun t x => t.setIfInBounds x.1 x.2) tm, defers := [] } := by
    have := zip_FR (ps := r.params.toList) hvs (Rt_FR ht [])
    rwa [show (r.params.zip vs).foldl (fun t x => t.setIfInBounds x.1 x.2) tm = (r.params.toList.zip vs.toList).foldl (fun t x => t.setIfInBounds x.1 x.2) tm from by rw [← Array.foldl_toList, Array.toList_zip]]
  have h1 := E_soundY (ro := some b) (top := false) (vecs := vecs) (ys := []) (by simp) (n0 := 0) r.assign ia ha _ φ H w _ _ hR hF0 (MD.nil _ _ _ _) (Nat.zero_le _) h
  refine wpIn_mono h1 ?_
  rintro e a1 w1 ⟨x1, ts1, H1, φ1, k1, k2, k3, k4, k5, k6⟩
  cases x1 with
  | exit i => exact k2.elim
  | ret => exact k2.elim
  | pan v => exact k2.elim
  | normal =>
    cases e <;> try exact k1.elim
    obtain ⟨m1, m2⟩ := k2
    have hb1 : φ1 id = some b := k5.map _ _ trivial hb0
    obtain ⟨tm1, hl1, ht1⟩ := own_rec k4 hb1 m1
    obtain ⟨hR2, hS2⟩ := k4.writeL hb1 m1 hl1 ht1 { r with state := .busy }
    refine ⟨_, run_beginRound hl1 hs, ?_⟩
    have h2 := E_soundY (ro := some b) (top := false) (vecs := vecs) (ys := []) (by simp) (n0 := 0) r.body ib hb _ φ1 _ _ ts1 a1 hR2 (FR.step hS2 k3) (k6.step hS2) (Nat.zero_le _) m2
    refine wpIn_mono h2 ?_
    rintro e a3 w3 ⟨x3, ts3, H3, φ3, g1, g2, g3, g4, g5, g6⟩
    have hb3 : φ3 id = some b := g5.map _ _ trivial hb1
    have hS := (k5.trans hS2).trans g5
    cases x3 with
    | normal =>
      cases e <;> try exact g1.elim
      obtain ⟨r3, t3, q1, q2⟩ := g2
      obtain ⟨tm3, hl3, ht3⟩ := own_rec g4 hb3 q1
      obtain ⟨hR4, hS4⟩ := g4.writeL hb3 q1 hl3 ht3 { r3 with state := .ready, pending := none }
      exact ⟨_, _, run_endRound none hl3, .ret (.sc (.bool true)), _, φ3, sc_VR rfl, q2, hR4, hS.trans hS4⟩
    | ret =>
      cases e <;> try exact g1.elim
      obtain ⟨r3, t3, q1, q2⟩ := g2
      obtain ⟨tm3, hl3, ht3⟩ := own_rec g4 hb3 q1
      obtain ⟨hR4, hS4⟩ := g4.writeL hb3 q1 hl3 ht3 { r3 with state := .done, pending := some .ret }
      exact ⟨_, _, run_endRound (some .ret) hl3, .ret (.sc (.bool false)), _, φ3, sc_VR rfl, q2, hR4, hS.trans hS4⟩
    | exit i =>
      cases e <;> try exact g1.elim
      rename_i j
      have : i = j := g1
      subst this
      obtain ⟨r3, t3, q1, q2⟩ := g2
      obtain ⟨tm3, hl3, ht3⟩ := own_rec g4 hb3 q1
      obtain ⟨hR4, hS4⟩ := g4.writeL hb3 q1 hl3 ht3 { r3 with state := .done, pending := some (.exit i) }
      exact ⟨_, _, run_endRound (some (.exit i)) hl3, .ret (.sc (.bool false)), _, φ3, sc_VR rfl, q2, hR4, hS.trans hS4⟩
    | pan v => exact g2.elim

/-! ### A block that is no cells is turned: what is known of values stays -/
def SameC (w w' : World) : Prop := ∀ (b : Nat) (cur : Array Value) (e : TypeId) (fr : Nat × Nat), w.heap[b]? = some (.cells cur e fr) → w'.heap[b]? = some (.cells cur e fr)
section
variable {φ : Phi} {O : Nat → Prop} {w w' : World}
mutual
theorem R_shut (hz : w'.heap.size = w.heap.size) (hc : SameC w w') : ∀ (x : AV) (g g' : Nat → Option Value), (∀ i v, g i = some v → g' i = some v) → R φ O w x g → R φ O w' x g'
  | .sc v, g, g', hg, hr => hg _ _ hr
  | .lst k xs room, g, g', hg, hr => by
    obtain ⟨a, c, h1, h2, h3, h4, h5, h6⟩ := hr
    refine ⟨a, c, hg _ _ h1, h2, h3, h4, fun hn => ?_, ?_⟩
    · obtain ⟨b, off, ha, ho, hb, hl⟩ := h5 hn
      exact ⟨b, off, ha, ho, by omega, Rl_shut hz hc b k xs off hl⟩
    · cases room with
      | none => trivial
      | some ys =>
        refine ⟨h6.1, fun hn => ?_⟩
        obtain ⟨b, off, ha, ho, hb, hl⟩ := h6.2 hn
        exact ⟨b, off, ha, ho, by omega, Rl_shut hz hc b k ys _ hl⟩
  | .vec k id off n c, g, g', hg, hr => by
    obtain ⟨b, c', cur, e, fr, h1, h2, h3, h4, h5, h6, h7⟩ := hr
    exact ⟨b, c', cur, e, fr, h1, hg _ _ h2, h3, h4, h5, hc _ _ _ _ h6, h7⟩
  | .ptr k id j f, g, g', hg, hr => by
    obtain ⟨b, h1, h2⟩ := hr
    exact ⟨b, h1, hg _ _ h2⟩
  | .lp x f, g, g', hg, hr => by
    obtain ⟨b, off, h1, ho, hb, h3, h2⟩ := hr
    have hm := memAt_shut hc b off
    refine ⟨b, off, hg _ _ h1, ho, by omega, fun hx => ?_, R_shut hz hc x _ _ hm h2⟩
    obtain ⟨u, h4, h5⟩ := h3 hx
    exact ⟨u, hm _ _ h4, h5⟩
  | .agg cs, g, g', hg, hr => Rs_shut hz hc cs g g' hg hr
  | .tup vs, g, g', hg, hr => by
    obtain ⟨us, h1, h2⟩ := hr
    exact ⟨us, hg _ _ h1, Rt_shut hz hc vs _ h2⟩
  | .fn f a b, g, g', hg, hr => by
    obtain ⟨us, ws, h1, h2, h3⟩ := hr
    exact ⟨us, ws, hg _ _ h1, Rt_shut hz hc a _ h2, Rt_shut hz hc b _ h3⟩
  | .ifc t x, g, g', hg, hr => by
    obtain ⟨u, h1, h2, h3⟩ := hr
    exact ⟨u, hg _ _ h1, h2, R_shut hz hc x _ _ (fun _ _ h => h) h3⟩
  | .ub, g, g', hg, hr => by
    obtain ⟨b, h1⟩ := hr
    exact ⟨b, hg _ _ h1⟩
  | .top, _, _, _, _ => trivial
  | .rcd _, _, _, _, hr => hr.elim
theorem memAt_shut (hc : SameC w w') (b off : Nat) : ∀ i v, memAt w b off i = some v → memAt w' b off i = some v := fun i v hv => by
  unfold memAt at hv ⊢
  cases ho : w.heap[b]? with
  | none => unfold World.cell? at hv; rw [ho] at hv; simp at hv
  | some o =>
    cases o with
    | cells cur e fr => rw [World.cell?_of_block ((hc _ _ _ _ ho).trans ho.symm)]; exact hv
    | _ => unfold World.cell? at hv; rw [ho] at hv; simp at hv
theorem Rl_shut (hz : w'.heap.size = w.heap.size) (hc : SameC w w') (b k : Nat) : ∀ (l : List AV) (off : Nat), Rl φ O w b k l off → Rl φ O w' b k l off
  | [], _, _ => trivial
  | x :: r, off, hr => by
    have hm := memAt_shut hc b off
    refine ⟨hr.1, fun hx => ?_, R_shut hz hc x _ _ hm hr.2.2.1, Rl_shut hz hc b k r _ hr.2.2.2⟩
    obtain ⟨u, h1, h2⟩ := hr.2.1 hx
    exact ⟨u, hm _ _ h1, h2⟩
theorem Rs_shut (hz : w'.heap.size = w.heap.size) (hc : SameC w w') : ∀ (l : List AV) (g g' : Nat → Option Value), (∀ i v, g i = some v → g' i = some v) → Rs φ O w l g → Rs φ O w' l g'
  | [], _, _, _, _ => trivial
  | x :: r, g, g', hg, hr => ⟨hr.1, R_shut hz hc x _ _ hg hr.2.1, by
      obtain ⟨u, h1, h2⟩ := hr.2.2.1
      exact ⟨u, hg _ _ h1, h2⟩, Rs_shut hz hc r _ _ (fun i v => hg (i + 1) v) hr.2.2.2⟩
theorem Rt_shut (hz : w'.heap.size = w.heap.size) (hc : SameC w w') : ∀ (l : List AV) (us : List Value), Rt φ O w l us → Rt φ O w' l us
  | [], _, hr => hr
  | x :: r, us, hr => by
    obtain ⟨v, s, h1, h2, h3, h4⟩ := hr
    exact ⟨v, s, h1, h2, R_shut hz hc x _ _ (fun _ _ h => h) h3, Rt_shut hz hc r _ h4⟩
end
theorem VR_shut (hz : w'.heap.size = w.heap.size) (hc : SameC w w') {x : AV} {v : Value} (h : VR φ O w x v) : VR φ O w' x v := ⟨h.1, R_shut hz hc x _ _ (fun _ _ h => h) h.2⟩
theorem RE_shut (hz : w'.heap.size = w.heap.size) (hc : SameC w w') : ∀ {l : List AV} {es : List MapEntry}, RE φ O w l es → RE φ O w' l es
  | [], _, hr => hr
  | _ :: _, _, hr => by
    obtain ⟨e, s, h1, h2, h3⟩ := hr
    exact ⟨e, s, h1, VR_shut hz hc h2, RE_shut hz hc h3⟩
end

/-- A block for deferred calls is shut. -/
theorem shut_one {φ : Phi} {H : AHeap} {w : World} {m : Nat} {d : Option (List Deferred)} (hR : Rel φ H w) (hm : w.heap[m]? = some (.deferred d)) (ho : ¬ Own φ H m) (d' : Option (List Deferred)) :
    Rel φ H (w.putObj m (.deferred d')) ∧ (∀ x v, VR φ (Own φ H) w x v → VR φ (Own φ H) (w.putObj m (.deferred d')) x v) ∧ ∀ {φ0 : Phi} {H0 : AHeap} {w0 : World}, Step φ0 H0 w0 φ H w → w0.heap.size ≤ m → Step φ0 H0 w0 φ H (w.putObj m (.deferred d')) := by
  have hz : (w.putObj m (.deferred d')).heap.size = w.heap.size := World.putObj_size
  have hoth : ∀ b, b ≠ m → (w.putObj m (.deferred d')).heap[b]? = w.heap[b]? := fun b hb => World.putObj_heap_other hb
  have hc : SameC w (w.putObj m (.deferred d')) := fun b cur e fr hb => by
    rw [hoth b (fun e => by rw [e, hm] at hb; cases hb)]; exact hb
  refine ⟨⟨fun id b h => by rw [hz]; exact hR.dom id b h, hR.inj, fun id b k h1 h2 => ?_⟩, fun x v h => VR_shut hz hc h, fun hS hle => ⟨⟨hS.map, by rw [hz]; exact hS.size, hS.own, fun b hb hn => ?_, fun b hb => ?_⟩, hS.os, hS.tape, hS.output, hS.len, hS.old⟩⟩
  · have hb : b ≠ m := fun e => ho (e ▸ ⟨id, k, h1, h2⟩)
    rcases hR.blk id b k h1 h2 with ⟨h0, c1, c2, a1, a2, a3, a4, a5, a6⟩ | ⟨h0, ht, ents, clock, a1, a2, a3, a4⟩ | ⟨h0, ht, r, ts, tm, e, a1, a2⟩
    · exact .inl ⟨h0, c1, c2, by rw [hoth b hb]; exact a1, a2, a3, a4, a5, Rl_shut hz hc _ _ _ _ a6⟩
    · exact .inr (.inl ⟨h0, ht, ents, clock, by rw [hoth b hb]; exact a1, a2, a3, RE_shut hz hc a4⟩)
    · exact .inr (.inr ⟨h0, ht, r, ts, tm, e, by rw [hoth b hb]; exact a1, Rt_shut hz hc _ _ a2⟩)
  · rw [hoth b (by omega)]; exact hS.same b hb hn
  · unfold World.shape?
    rw [hoth b (by omega)]
    exact hS.shape b hb

theorem leavesY {P : Program} {fn : Func} {tmps : Array Value} {Rr : Ending → World → Prop} {u : FrameMode} (hu : u ≠ .run) {φ0 φ : Phi} {H0 H : AHeap} {w0 : World} : ∀ (ms : List Nat) (w : World), Rel φ H w → Step φ0 H0 w0 φ H w → ms.Nodup → (∀ m ∈ ms, w0.heap.size ≤ m ∧ w.heap[m]? = some (.deferred (some [])) ∧ ¬ Own φ H m) →
    (∀ w2, Rel φ H w2 → Step φ0 H0 w0 φ H w2 → (∀ x v, VR φ (Own φ H) w x v → VR φ (Own φ H) w2 x v) → LeavesIn Fence.wide 0 P fn tmps Rr [] u w2) → LeavesInM Fence.wide 0 P fn tmps Rr (ms.map Mk) u w
  | [], w, hR, hS, _, _, h => h w hR hS fun _ _ h => h
  | m :: ms, w, hR, hS, hn, hm, h => by
    obtain ⟨g1, g2, g3⟩ := hm m (by simp)
    obtain ⟨s1, s2, s3⟩ := shut_one hR g2 g3 none
    refine ⟨hu, .inl ⟨m, _, rfl, run_takeDeferred g2, ?_⟩⟩
    have hnd := List.nodup_cons.1 hn
    refine leavesY hu ms _ s1 (s3 hS g1) hnd.2 (fun m' hm' => ?_) fun w2 k1 k2 k3 => h w2 k1 k2 fun x v hv => k3 x v (s2 x v hv)
    obtain ⟨e1, e2, e3⟩ := hm m' (by simp [hm'])
    exact ⟨e1, by rw [World.putObj_heap_other (fun e => hnd.1 (by rw [← e]; exact hm'))]; exact e2, e3⟩

/-- From the body to the call. -/
theorem DK_of_bodyY {P : Program} {f : FuncId} {fn : Func} {c : Code} {ic : IC} {rs : List RV} {vecs ys : List Nat} (hf : P.funcs[f]? = some fn) (hb : fn.body = some c) (hc : compY true P vecs ys c = some ic) (hr : compR P fn.results.toList = some rs) {args : List AV} {H : AHeap} {Kr : AEnd → AHeap → Prop}
    (h : E P ic (bodyK rs Kr) (args ++ List.replicate (fn.ntmps - args.length) (.tup [])) H) : DK P f args H Kr := by
  intro φ w vs hR ha
  refine (callsIn_wide (n := 0)).1 (callsIn_of_wp_marks (F := Fence.wide) hf hb trivial ?_)
  refine wpIn_mono (E_soundY (ro := none) (fun _ => rfl) (n0 := w.heap.size) c ic hc _ φ H w _ _ hR (FR_enter ha) (MD.nil _ _ _ _) (Nat.le_refl _) h) ?_
  rintro e a' w' ⟨x, ts', H', φ', k1, k2, k3, k4, k5, ms, k6, k7, k8⟩
  have hret : (resL rs ts' H' fun l => Kr (.ret (oneOf l)) H') → LeavesInM Fence.wide 0 P fn a'.tmps (fun en w' => ∃ e H' φ', EndR φ' (Own φ' H') w' e en ∧ Kr e H' ∧ Rel φ' H' w' ∧ Step φ H w φ' H' w') a'.defers .returning w' := by
    intro hl
    rw [k6]
    refine leavesY (by simp) ms w' k4 k5 k7 k8 fun w2 m1 m2 m3 => ?_
    obtain ⟨y, v, g1, g2, g3⟩ := results_run m1 (show FR φ' (Own φ' H') w2 ts' a' from ⟨k3.1, fun i => m3 _ _ (k3.2 i)⟩) hr (K := fun x => Kr (.ret x) H') hl
    exact ⟨v, g3, .ret y, H', φ', g2, g1, m1, m2⟩
  cases x with
  | normal =>
    cases e <;> try exact k1.elim
    exact hret k2
  | ret =>
    cases e <;> try exact k1.elim
    exact hret k2
  | exit i => exact k2.elim
  | pan v =>
    cases e <;> try exact k1.elim
    show LeavesInM Fence.wide 0 P fn a'.tmps _ a'.defers (.panicking _) w'
    rw [k6]
    refine leavesY (by simp) ms w' k4 k5 k7 k8 fun w2 m1 m2 m3 => ?_
    obtain ⟨v', older, e1, e2, e3⟩ := k1
    exact ⟨.pan v, H', φ', ⟨v', older, e1, e2, m3 _ _ e3⟩, k2, m1, m2⟩

/-- The form that is printed. -/
theorem dk_ofY {P : Program} {f : FuncId} {fn : Func} {ic : IC} {rs : List RV} (ys : List Nat) (hf : P.funcs[f]? = some fn) (hb : fn.body = some (fn.body.getD .skip)) (hc : compY true P [] ys (fn.body.getD .skip) = some ic) (hr : compR P fn.results.toList = some rs) : Dk P f ic rs fn.ntmps :=
  fun h => DK_of_bodyY hf hb hc hr h

/-- The ranges over functions in a text, in order. -/
def rngs : Code → List (Array Tmp × Code × Code)
  | .seq a b => rngs a ++ rngs b
  | .cond _ a b => rngs a ++ rngs b
  | .block _ c => rngs c
  | .loop c => rngs c
  | .rangeFunc _ ps asg body => [(ps, asg, body)]
  | _ => []
def rcA (fn : Func) (i : Nat) : Code := ((rngs (fn.body.getD .skip))[i]?.map fun x => x.2.1).getD .skip
def rcB (fn : Func) (i : Nat) : Code := ((rngs (fn.body.getD .skip))[i]?.map fun x => x.2.2).getD .skip

section
variable {P : Program} {K : Post} {ts : List AV} {H : AHeap}
theorem ES_yld {l1 : List IO'} {g : Option (Nat × Bool)} {y : X} {args : List X} {d : Option Nat} {l2 : List IO'} : ES P (.yld l1 g y args d l2) K ts H = runS P (fun ts1 H1 => guardK ts1 (yldK P (fun v H2 => runS P (K .normal) (fun v ts' H' => K (.pan v) ts' H') l2 (putT ts1 d v) H2) (fun v H2 => K (.pan v) ts1 H2) (args.map (X.ev ts1)) H1 (y.ev ts1)) (runS P (K .normal) (fun v ts' H' => K (.pan v) ts' H') l2 (putT ts1 d (.tup [])) H1) g) (fun v ts' H' => K (.pan v) ts' H') l1 ts H := rfl
theorem ES_rng {g : X} {ps : Array Tmp} {asg body : Code} : ES P (.rng g ps asg body) K ts H = rngK P ps asg body K ts H (g.ev ts) := rfl
theorem guardK_n {yes no : Prop} : guardK ts yes no none = yes := rfl
theorem yldK_ret {K Kp : AV → AHeap → Prop} {args : List AV} {H H' : AHeap} {id j : Nat} {v : AV} (h : DY P id args H (.ret v) H') (hk : K v H') : yldK P K Kp args H (.ptr 0 id j 1) := ⟨⟨rfl, rfl⟩, _, _, h, hk⟩
theorem rngK_of {ps : Array Tmp} {asg body : Code} {f : FuncId} {caps : List AV} (hc : callable P f = true) (h : ∀ fn db, ∃ v H' r ts', D P f (.ptr 0 H.length 0 1 :: caps) (some (lpB (recB fn db ps asg body) ts) :: H) (.ret v) H' ∧ AHeap.find H' H.length = some (lpB r ts') ∧ r.state ≠ .busy ∧ jmpK K ts (AHeap.set H' H.length none) r.pending) : rngK P ps asg body K ts H (.fn (.func f) [] caps) := ⟨hc, h⟩
end
/-- A round, as it is evaluated. -/
def asgS (P : Program) (id : Nat) (r : Loop) (ts0 : List AV) (ib : IC) (Kr : AEnd → AHeap → Prop) : Post
  | .normal, ts, H => AHeap.find H id = some (lpB r ts0) ∧ ES P ib (rndK id Kr) ts (AHeap.set H id (some (lpB { r with state := .busy } ts0)))
  | _, _, _ => False
theorem DKY_of_ES {P : Program} {id : Nat} {r : Loop} {ts0 args : List AV} {H : AHeap} {ia ib : IC} {Kr : AEnd → AHeap → Prop} (ha : compY false P [] [] r.assign = some ia) (hb : compY false P [] [] r.body = some ib) (hf : AHeap.find H id = some (lpB r ts0)) (hs : r.state = .ready) (hn : args.length = r.params.size)
    (h : ES P ia (asgS P id r ts0 ib Kr) (putPs r.params.toList args ts0) H) : DKY P id args H Kr :=
  DKY_of_body hf hs hn ha hb (ES_E (ES_mono (fun x ts H h => by
    cases x <;> first | exact ⟨h.1, ES_E h.2⟩ | exact h.elim) h))

end Go.Proofs.Ytigmpablpmanpaa
