/- Slices of slices and of texts; values built of parts; then: all operations that only compute. -/
import Derived.Test.YtddhdlfafaobhaaV6
import Derived.Great.BuildSlice
namespace Go.Proofs.Ytddhdlfafaobhaa
open Go.RowKit
set_option linter.unusedVariables false
set_option linter.unusedSimpArgs false

section
variable {P : Program} {φ : Phi} {O : Nat → Prop} {w : World}

theorem bnd_val {ts : List AV} {a : Act} (hr : FR φ O w ts a) {o : Option Operand} {x : Option X} (hx : ofXo o = some x) {d : Nat} {K : Nat → Prop} (h : bnd (X.ev ts) d x K) :
    ∃ n, K n ∧ ((o.map a.eval = none ∧ n = d) ∨ ∃ k m, o.map a.eval = some (.int k m) ∧ 0 ≤ m ∧ n = m.toNat) ∧ (x.isSome = (o.map a.eval).isSome) := by
  rcases bnd_run hr hx h with ⟨rfl, rfl, h1⟩ | ⟨p, k, n, rfl, h2, h3, h4, h5⟩
  · exact ⟨_, h1, .inl ⟨rfl, rfl⟩, rfl⟩
  · exact ⟨_, h5, .inr ⟨k, n, by simp [h3], h4, rfl⟩, by simp [h2]⟩

theorem lst_full {k : Nat} {xs ys : List AV} {v : Value} (h : VR φ O w (.lst k xs (some ys)) v) : ∃ a, v = .slice a xs.length (xs.length + ys.length) ∧ xs.length + ys.length ≤ maxLen ∧
    (0 < xs.length + ys.length → ∃ b off, a = some ⟨b, off, none⟩ ∧ ¬ O b ∧ b < w.heap.size ∧ Rl φ O w b k (xs ++ ys) off) := by
  obtain ⟨a, c, rfl, h2, h3, h4, h5, h6, h7⟩ := VR_lst h
  subst h6
  refine ⟨a, rfl, h3, fun hp => ?_⟩
  by_cases hx : 0 < xs.length
  · obtain ⟨b, off, rfl, h8, h9, h10⟩ := h5 hx
    refine ⟨b, off, rfl, h8, h9, ?_⟩
    by_cases hy : 0 < ys.length
    · obtain ⟨b', off', e, _, _, h11⟩ := h7 hy
      cases e
      exact Rl_append h10 h11
    · have : ys = [] := List.length_eq_zero_iff.1 (by omega)
      subst this
      simpa using h10
  · have : xs = [] := List.length_eq_zero_iff.1 (by omega)
    subst this
    obtain ⟨b, off, rfl, h8, h9, h11⟩ := h7 (by simpa using hp)
    exact ⟨b, off, rfl, h8, h9, by simpa using h11⟩

theorem Rl_prefix {b k : Nat} : ∀ {l m : List AV} {off : Nat}, Rl φ O w b k (l ++ m) off → Rl φ O w b k l off ∧ Rl φ O w b k m (off + l.length * k)
  | [], m, off, h => ⟨trivial, by simpa using h⟩
  | x :: r, m, off, h => by
    obtain ⟨h1, h2⟩ := Rl_prefix h.2.2.2
    refine ⟨⟨h.1, h.2.1, h.2.2.1, h1⟩, ?_⟩
    rw [show off + (x :: r).length * k = off + k + r.length * k from by simp [Nat.add_mul]; omega]
    exact h2

theorem mk_room {k : Nat} {zs : List AV} {a : Option Addr} {l h m : Nat} (hz : 0 < zs.length → ∃ b off, a = some ⟨b, off, none⟩ ∧ ¬ O b ∧ b < w.heap.size ∧ Rl φ O w b k zs off)
    (h1 : l ≤ h) (h2 : h ≤ m) (h3 : m ≤ zs.length) (h4 : m ≤ maxLen) :
    VR φ O w (.lst k ((zs.take h).drop l) (some ((zs.take m).drop h))) (.slice (if m = l then a else a.map (·.add (l * k))) (h - l) (m - l)) := by
  have hlen : ((zs.take h).drop l).length = h - l := by simp; omega
  have hlen2 : ((zs.take m).drop h).length = m - h := by simp; omega
  have e1 : h - l ≤ m - l := by omega
  have e2 : m - l ≤ maxLen := by omega
  have e3 : m - l = (h - l) + (m - h) := by omega
  have e4 : l + (h - l) = h := by omega
  refine ⟨rfl, (if m = l then a else a.map (·.add (l * k))), m - l, by rw [hlen]; rfl, by rw [hlen]; exact e1, e2, fun hn => ?_, fun hp => ?_, ?_⟩
  · by_cases e : m = l
    · omega
    · have hq := hz (by omega)
      obtain ⟨b, off, rfl, _⟩ := hq
      rw [if_neg e] at hn
      simp at hn
  · rw [hlen] at hp
    have hq := hz (by omega)
    obtain ⟨b, off, rfl, h5, h6, h7⟩ := hq
    rw [if_neg (by omega)]
    exact ⟨b, off + l * k, by simp [addr_add], h5, h6, Rl_drop (Rl_take h7)⟩
  · refine ⟨by rw [hlen, hlen2]; exact e3, fun hp => ?_⟩
    rw [hlen2] at hp
    have hq := hz (by omega)
    obtain ⟨b, off, rfl, h5, h6, h7⟩ := hq
    rw [if_neg (by omega)]
    refine ⟨b, off + l * k, by simp [addr_add], h5, h6, ?_⟩
    rw [hlen]
    have h8 := Rl_drop (f := h) (Rl_take (n := m) h7)
    rw [Nat.add_assoc, ← Nat.add_mul, e4]
    exact h8

theorem mk_open {k : Nat} {xs : List AV} {a : Option Addr} {l h c : Nat} (hz : 0 < xs.length → ∃ b off, a = some ⟨b, off, none⟩ ∧ ¬ O b ∧ b < w.heap.size ∧ Rl φ O w b k xs off)
    (h1 : l ≤ h) (h2 : h ≤ xs.length) (h3 : xs.length ≤ c) (h4 : c ≤ maxLen) (h5 : a = none → c = 0) :
    VR φ O w (.lst k ((xs.take h).drop l) none) (.slice (if c = l then a else a.map (·.add (l * k))) (h - l) (c - l)) := by
  have hlen : ((xs.take h).drop l).length = h - l := by simp; omega
  have e1 : h - l ≤ c - l := by omega
  have e2 : c - l ≤ maxLen := by omega
  refine ⟨rfl, (if c = l then a else a.map (·.add (l * k))), c - l, by rw [hlen]; rfl, by rw [hlen]; exact e1, e2, fun hn => ?_, fun hp => ?_, trivial⟩
  · by_cases e : c = l
    · omega
    · rw [if_neg e] at hn
      simp at hn
      have := h5 hn
      omega
  · rw [hlen] at hp
    have hq := hz (by omega)
    obtain ⟨b, off, rfl, h5, h6, h7⟩ := hq
    rw [if_neg (by omega)]
    exact ⟨b, off + l * k, by simp [addr_add], h5, h6, Rl_drop (Rl_take h7)⟩

theorem slice_run {t e : TypeId} {inf : TypeInfo} (ht : P.underlying t = some (.slice e)) (hi : P.info? e = some inf) {a : Option Addr} {n c l h m : Nat} {lo hi' mx : Option Value}
    (hm : (mx = none ∧ m = c) ∨ ∃ k n, mx = some (.int k n) ∧ 0 ≤ n ∧ m = n.toNat ∧ hi'.isSome) (hh : (hi' = none ∧ h = n) ∨ ∃ k n, hi' = some (.int k n) ∧ 0 ≤ n ∧ h = n.toNat)
    (hl : (lo = none ∧ l = 0) ∨ ∃ k n, lo = some (.int k n) ∧ 0 ≤ n ∧ l = n.toNat) (h1 : l ≤ h) (h2 : h ≤ m) (h3 : m ≤ c) :
    (Instr.sliceAt t (.slice a n c) lo hi' mx).run P w = .ok (.slice (if m = l then a else a.map (·.add (l * inf.size))) (h - l) (m - l)) w := by
  simp only [Instr.sliceAt, Instr.slice, Sem.run_bind, rn_under ht, Result.andThen_ok, bounds_run hm hh hl h1 h2 h3, rn_size hi, Sem.run_pure]

theorem ps_slc {o : Oper} {t e : TypeId} {inf : TypeInfo} {x : Operand} {x' : X} {lo hi mx : Option Operand} {lo' hi' mx' : Option X} (ho : o.op = .slice t x lo hi mx) (ht : P.underlying t = some (.slice e)) (hi0 : P.info? e = some inf)
    (hx : ofX x = some x') (hlo : ofXo lo = some lo') (hhi : ofXo hi = some hi') (hmx : ofXo mx = some mx') : PSound P o (.slc inf.size x' lo' hi' mx') := by
  intro φ O w ts a hr K h
  have hv := ofX_spec hr hx
  have hex : ∀ {V : Value} {r : Value}, a.eval x = V → (Instr.sliceAt t V (lo.map a.eval) (hi.map a.eval) (mx.map a.eval)).run P w = .ok r w → (execOp a.eval o).run P w = .ok (.value r) w := by
    intro V r h1 h2
    simp only [execOp, ho, Sem.run_bind, h1, h2, Result.andThen_ok, Sem.run_pure]
  simp only [PO.sem] at h
  cases he : X.ev ts x' <;> rw [he] at h hv <;> try exact False.elim h
  · rename_i k xs room
    obtain ⟨hk, h⟩ := h
    have hkz : ∀ {zs : List AV}, k = inf.size ∨ zs.length = 0 → ∀ {b off : Nat}, Rl φ O w b k zs off → Rl φ O w b inf.size zs off := by
      intro zs hz b off hl
      rcases hz with rfl | hz
      · exact hl
      · have : zs = [] := List.length_eq_zero_iff.1 hz
        subst this
        trivial
    cases mx' with
    | some m =>
      have hmx2 : ∃ p, mx = some p := by
        cases mx with
        | none => simp [ofXo] at hmx
        | some p => exact ⟨p, rfl⟩
      obtain ⟨nm, h1, h2, _⟩ := bnd_val hr hmx h
      obtain ⟨nh, h3, h4, h4'⟩ := bnd_val hr hhi h1
      obtain ⟨nl, h5, h6, _⟩ := bnd_val hr hlo h3
      obtain ⟨⟨g0, g1, g2, g3⟩, h8⟩ := h5
      have h4 : (hi.map a.eval = none ∧ nh = xs.length) ∨ ∃ k m, hi.map a.eval = some (.int k m) ∧ 0 ≤ m ∧ nh = m.toNat := by
        rcases h4 with ⟨e, _⟩ | e
        · rw [g0, e] at h4'
          simp at h4'
        · exact .inr e
      obtain ⟨ad, c, hva, c1, c2, c3, c4, _⟩ := VR_lst hv
      obtain ⟨p, rfl⟩ := hmx2
      refine ⟨_, _, h8, mk_room (k := inf.size) (a := ad) (zs := xs) (l := nl) (h := nh) (m := nm) (fun hp => ?_) g1 g2 g3 (by omega), hex hva (slice_run ht hi0 ?_ h4 h6 g1 g2 (by omega))⟩
      · obtain ⟨b, off, e1, e2, e3, e4⟩ := c4 hp
        exact ⟨b, off, e1, e2, e3, hkz (hk.imp id fun e => by rw [e.1]; rfl) e4⟩
      · rcases h2 with ⟨e1, _⟩ | ⟨kk, mm, e1, e2, e3⟩
        · simp at e1
        · refine .inr ⟨kk, mm, e1, e2, e3, ?_⟩
          rw [← h4']
          exact g0
    | none =>
      have hmn : mx = none := by
        cases mx with
        | none => rfl
        | some p => simp [ofXo] at hmx
      subst hmn
      cases room with
      | none =>
        obtain ⟨nh, h3, h4, _⟩ := bnd_val hr hhi h
        obtain ⟨nl, h5, h6, _⟩ := bnd_val hr hlo h3
        obtain ⟨⟨g1, g2⟩, h8⟩ := h5
        obtain ⟨ad, c, hva, c1, c2, c3, c4, _⟩ := VR_lst hv
        refine ⟨_, _, h8, mk_open (k := inf.size) (a := ad) (xs := xs) (c := c) (fun hp => ?_) g1 g2 c1 c2 c3, hex hva (slice_run ht hi0 (.inl ⟨rfl, rfl⟩) h4 h6 g1 (by omega) (Nat.le_refl _))⟩
        obtain ⟨b, off, e1, e2, e3, e4⟩ := c4 hp
        exact ⟨b, off, e1, e2, e3, hkz (hk.imp id fun e => by rw [e.1]; rfl) e4⟩
      | some ys =>
        obtain ⟨nh, h3, h4, _⟩ := bnd_val hr hhi h
        obtain ⟨nl, h5, h6, _⟩ := bnd_val hr hlo h3
        obtain ⟨⟨g1, g2⟩, h8⟩ := h5
        obtain ⟨ad, hva, c2, c4⟩ := lst_full hv
        have hk2 : k = inf.size ∨ (xs ++ ys).length = 0 := hk.imp id fun e => by rw [e.1]; have := e.2; cases this; rfl
        refine ⟨_, _, h8, ?_, hex hva (slice_run ht hi0 (.inl ⟨rfl, rfl⟩) h4 h6 g1 g2 (Nat.le_refl _))⟩
        have := mk_room (φ := φ) (O := O) (w := w) (k := inf.size) (a := ad) (zs := xs ++ ys) (l := nl) (h := nh) (m := xs.length + ys.length) (fun hp => by
          obtain ⟨b, off, e1, e2, e3, e4⟩ := c4 (by simpa using hp)
          exact ⟨b, off, e1, e2, e3, hkz hk2 e4⟩) g1 g2 (by simp) (by omega)
        rw [show (xs ++ ys).take (xs.length + ys.length) = xs ++ ys from List.take_of_length_le (by simp)] at this
        exact this
  · rename_i k id off n c
    obtain ⟨rfl, hm, h⟩ := h
    have hmn : mx = none := by
      cases mx with
      | none => rfl
      | some p =>
        simp [ofXo] at hmx
        obtain ⟨q, _, rfl⟩ := hmx
        simp at hm
    subst hmn
    obtain ⟨nh, h3, h4, _⟩ := bnd_val hr hhi h
    obtain ⟨nl, h5, h6, _⟩ := bnd_val hr hlo h3
    obtain ⟨⟨g1, g2⟩, h8, h9⟩ := h5
    obtain ⟨b, c', cur, e', fr, v1, v2, v3, v4, v5, v6, v7⟩ := VR_vec hv
    have hcap : nh ≤ c' := by
      cases c with
      | none => simp at g2; omega
      | some m => have := v5 m rfl; simp at g2; omega
    have hrun := hex v2 (slice_run ht hi0 (lo := lo.map a.eval) (hi' := hi.map a.eval) (mx := none) (.inl ⟨rfl, rfl⟩) h4 h6 g1 hcap (Nat.le_refl _))
    by_cases hlt : nl < nh
    · refine ⟨_, _, h8 hlt, ?_, hrun⟩
      rw [if_neg (by omega)]
      refine ⟨rfl, b, c' - nl, cur, e', fr, v1, ?_, by omega, by omega, ?_, v6, ?_⟩
      · simp [cget, Value.cells, addr_add, Nat.add_mul]
      · intro m hm
        cases c with
        | none => simp at hm
        | some mm => simp at hm; have := v5 mm rfl; omega
      · rw [v7]; congr 1; omega
    · refine ⟨_, _, h9 (by omega), ?_, hrun⟩
      have hz : nh - nl = 0 := by omega
      rw [hz]
      refine ⟨rfl, _, c' - nl, rfl, Nat.zero_le _, by omega, fun hn => ?_, fun hp => by simp at hp, trivial⟩
      split at hn <;> simp at hn

theorem ps_slcS {o : Oper} {t : TypeId} {x : Operand} {x' : X} {lo hi : Option Operand} {lo' hi' : Option X} (ho : o.op = .slice t x lo hi none) (ht : P.underlying t = some .string)
    (hx : ofX x = some x') (hlo : ofXo lo = some lo') (hhi : ofXo hi = some hi') : PSound P o (.slcS x' lo' hi') := by
  intro φ O w ts a hr K h
  have hv := ofX_spec hr hx
  simp only [PO.sem] at h
  cases he : X.ev ts x' <;> rw [he] at h hv <;> try exact False.elim h
  rename_i u
  cases u <;> try exact False.elim h
  rename_i s
  obtain ⟨nh, h3, h4, _⟩ := bnd_val hr hhi h
  obtain ⟨nl, h5, h6, _⟩ := bnd_val hr hlo h3
  obtain ⟨⟨g1, g2⟩, h8⟩ := h5
  refine ⟨_, _, h8, sc_VR rfl, ?_⟩
  have hb := bounds_run (P := P) (w := w) (sl := false) (len := s.size) (cap := s.size) (mx := none) (.inl ⟨rfl, rfl⟩) h4 h6 g1 g2 (Nat.le_refl _)
  simp only [execOp, ho, VR_sc hv, Instr.sliceAt, Instr.slice, Sem.run_bind, rn_under ht, Result.andThen_ok, Option.map_none, hb, Option.isSome_none, Bool.false_eq_true, if_false, Sem.run_pure]
end
end Go.Proofs.Ytddhdlfafaobhaa
