/- The operations that only compute: the model makes the same. -/
import Derived.Test.YtddhdlfafaobhaaV4
namespace Go.Proofs.Ytddhdlfafaobhaa
open Go.RowKit
set_option linter.unusedVariables false
set_option linter.unusedSimpArgs false

section
variable {P : Program} {φ : Phi} {O : Nat → Prop} {w : World}

theorem rn_size {t : TypeId} {i : TypeInfo} (h : P.info? t = some i) : (sizeOf t).run P w = .ok i.size w := by simp [sizeOf, typeInfo, h]
theorem rn_under {t : TypeId} {d : TypeDesc} (h : P.underlying t = some d) : (underlying t).run P w = .ok d w := run_underlying h w
theorem rn_isAgg {t : TypeId} {d : TypeDesc} (h : P.underlying t = some d) : (isAgg t).run P w = .ok (isAggT d) w := by
  simp only [isAgg, Sem.run_bind, rn_under h, Result.andThen_ok]
  cases d <;> rfl

theorem cut_sub {cs : List AV} {us : Array Value} {f n : Nat} (h : Rs φ O w cs (fun i => us[i]?)) (hs : us.size = cs.length) (hf : f + n ≤ cs.length) :
    VR φ O w (.agg ((cs.drop f).take n)) (.agg (us.extract f (f + n))) := by
  refine VR_agg (Rs_congr (fun i hi => ?_) (Rs_take (n := n) (Rs_drop (f := f) h))) ?_
  · have : i < n := by simp at hi; omega
    have h1 : f + i < us.size := by simp at hi; omega
    rw [Array.getElem?_extract]
    have : i < min (f + n) us.size - f := by omega
    rw [if_pos this]
  · simp; omega

/-- A part of an aggregate. -/
theorem part_run {t : TypeId} {n : Nat} {ag : Bool} (hs : sizeAgg P t = some (n, ag)) {cs : List AV} {us : Array Value} (h : Rs φ O w cs (fun i => us[i]?)) (hz : us.size = cs.length) {f : Nat} (hok : AV.subOk (.agg cs) f n ag) :
    ∃ u, (part t us f).run P w = .ok u w ∧ VR φ O w (AV.sub (.agg cs) f n ag) u := by
  unfold sizeAgg at hs
  split at hs
  · rename_i d i h1 h2
    cases hs
    unfold part
    simp only [Sem.run_bind, rn_isAgg h1, Result.andThen_ok]
    cases hd : isAggT d with
    | true =>
      simp only [AV.subOk, hd, if_true, AV.cells] at hok
      simp only [if_true, Sem.run_bind, rn_size h2, Result.andThen_ok, Sem.run_pure, AV.sub, hd, AV.cells]
      exact ⟨_, rfl, cut_sub h hz hok⟩
    | false =>
      simp only [AV.subOk, hd, AV.cells] at hok
      simp only [AV.sub, hd, AV.cells]
      have hf : f < us.size := by rw [hz]; simpa using hok
      have hl : f < cs.length := by simpa using hok
      obtain ⟨a1, a2, u, a3, a4⟩ := Rs_nth h (i := f) (x := cs[f]) (by simp [hl])
      refine ⟨u, ?_, ?_⟩
      · simp [a3]
      · have : cs.getD f AV.top = cs[f] := by simp [List.getD, hl]
        simp only [Bool.false_eq_true, if_false, this]
        exact VR_one a1 a4 a2 (by simpa using a3)
  · simp at hs

theorem VR_tup {vs : List AV} {v : Value} (h : VR φ O w (.tup vs) v) : ∃ us, v = .tuple us ∧ Rt φ O w vs us.toList := by
  obtain ⟨us, h1, h2⟩ := h.2
  obtain ⟨us', rfl⟩ := h.1
  simp [cget, Value.cells] at h1
  subst h1
  exact ⟨_, rfl, h2⟩

theorem cget_one {v : Value} (h : v.oneCell' = true) : cget v 0 = some v := by
  cases v <;> first | rfl | (simp [Value.oneCell'] at h)

theorem VR_lst {k : Nat} {xs : List AV} {room : Option (List AV)} {v : Value} (h : VR φ O w (.lst k xs room) v) : ∃ a c, v = .slice a xs.length c ∧ xs.length ≤ c ∧ c ≤ maxLen ∧ (a = none → c = 0) ∧
      (0 < xs.length → ∃ b off, a = some ⟨b, off, none⟩ ∧ ¬ O b ∧ b < w.heap.size ∧ Rl φ O w b k xs off) ∧ Rm φ O w k xs.length a c room := by
  obtain ⟨a, c, h1, h2⟩ := h.2
  rw [cget_one h.1] at h1
  exact ⟨a, c, Option.some.inj h1, h2⟩

theorem VR_vec {k id off n : Nat} {c : Option Nat} {v : Value} (h : VR φ O w (.vec k id off n c) v) : ∃ b c' cur e fr, φ id = some b ∧ v = .slice (some ⟨b, off * k, none⟩) n c' ∧ n ≤ c' ∧ c' ≤ maxLen ∧ (∀ m, c = some m → c' = m) ∧
      w.heap[b]? = some (.cells cur e fr) ∧ cur.size = (off + c') * k := by
  obtain ⟨b, c', cur, e, fr, h1, h2, h3⟩ := h.2
  rw [cget_one h.1] at h2
  exact ⟨b, c', cur, e, fr, h1, Option.some.inj h2, h3⟩

theorem VR_ptr {k id j f : Nat} {v : Value} (h : VR φ O w (.ptr k id j f) v) : ∃ b, φ id = some b ∧ v = .pointer (some ⟨b, j * k + f, none⟩) := by
  obtain ⟨b, h1, h2⟩ := h.2
  rw [cget_one h.1] at h2
  exact ⟨b, h1, Option.some.inj h2⟩

theorem VR_lp {x : AV} {f : Nat} {v : Value} (h : VR φ O w (.lp x f) v) : ∃ b off, v = .pointer (some ⟨b, off + f, none⟩) ∧ ¬ O b ∧ b < w.heap.size ∧ (x.isAgg = false → ∃ u, memAt w b off 0 = some u ∧ u.oneCell' = true) ∧ R φ O w x (memAt w b off) := by
  obtain ⟨b, off, h1, h2⟩ := h.2
  rw [cget_one h.1] at h1
  exact ⟨b, off, Option.some.inj h1, h2⟩

theorem VR_fn {f : Fn} {a b : List AV} {v : Value} (h : VR φ O w (.fn f a b) v) : ∃ us ws, v = .func f us ws ∧ Rt φ O w a us.toList ∧ Rt φ O w b ws.toList := by
  obtain ⟨us, ws, h1, h2⟩ := h.2
  rw [cget_one h.1] at h1
  exact ⟨us, ws, Option.some.inj h1, h2⟩

theorem VR_ifc {t : TypeId} {x : AV} {v : Value} (h : VR φ O w (.ifc t x) v) : ∃ u, v = .iface t u ∧ VR φ O w x u := by
  obtain ⟨u, h1, h2⟩ := h.2
  rw [cget_one h.1] at h1
  exact ⟨u, Option.some.inj h1, h2⟩

theorem ptr_VR {k id j f b : Nat} (h : φ id = some b) : VR φ O w (.ptr k id j f) (.pointer (some ⟨b, j * k + f, none⟩)) := ⟨rfl, b, h, rfl⟩

theorem addr_add (b o n : Nat) : (⟨b, o, none⟩ : Addr).add n = ⟨b, o + n, none⟩ := by unfold Addr.add; split <;> simp_all

theorem Rl_nth : ∀ {l : List AV} {b k off j : Nat} {x : AV}, Rl φ O w b k l off → l[j]? = some x →
    x.ncells = k ∧ (x.isAgg = false → ∃ u, memAt w b (off + j * k) 0 = some u ∧ u.oneCell' = true) ∧ R φ O w x (memAt w b (off + j * k))
  | [], _, _, _, _, _, _, h => by simp at h
  | y :: r, b, k, off, 0, x, h, hj => by
    simp at hj
    subst hj
    simp only [Nat.zero_mul, Nat.add_zero]
    exact ⟨h.1, h.2.1, h.2.2.1⟩
  | y :: r, b, k, off, j + 1, x, h, hj => by
    have := Rl_nth h.2.2.2 (by simpa using hj)
    rw [show off + k + j * k = off + (j + 1) * k from by rw [Nat.add_mul]; omega] at this
    exact this

theorem Rl_drop : ∀ {f : Nat} {l : List AV} {b k off : Nat}, Rl φ O w b k l off → Rl φ O w b k (l.drop f) (off + f * k)
  | 0, l, b, k, off, h => by simpa using h
  | f + 1, [], b, k, off, h => by simp [Rl]
  | f + 1, x :: r, b, k, off, h => by
    have := Rl_drop (f := f) h.2.2.2
    rw [show off + k + f * k = off + (f + 1) * k from by rw [Nat.add_mul]; omega] at this
    simpa using this

theorem Rl_take : ∀ {n : Nat} {l : List AV} {b k off : Nat}, Rl φ O w b k l off → Rl φ O w b k (l.take n) off
  | 0, l, b, k, off, h => by simp [Rl]
  | n + 1, [], b, k, off, h => by simp [Rl]
  | n + 1, x :: r, b, k, off, h => ⟨h.1, h.2.1, h.2.2.1, Rl_take h.2.2.2⟩

theorem Rl_append : ∀ {l m : List AV} {b k off : Nat}, Rl φ O w b k l off → Rl φ O w b k m (off + l.length * k) → Rl φ O w b k (l ++ m) off
  | [], m, b, k, off, _, h => by simpa using h
  | x :: r, m, b, k, off, h, h' => ⟨h.1, h.2.1, h.2.2.1, Rl_append h.2.2.2 (by
      rw [show off + (x :: r).length * k = off + k + r.length * k from by simp [Nat.add_mul]; omega] at h'
      exact h')⟩

theorem bnd_run {ts : List AV} {a : Act} (hr : FR φ O w ts a) {o : Option Operand} {x : Option X} (hx : ofXo o = some x) {d : Nat} {K : Nat → Prop} (h : bnd (X.ev ts) d x K) :
    (o = none ∧ x = none ∧ K d) ∨ (∃ p k n, o = some p ∧ x.isSome ∧ a.eval p = .int k n ∧ 0 ≤ n ∧ K n.toNat) := by
  cases o with
  | none => cases hx; exact .inl ⟨rfl, rfl, h⟩
  | some p =>
    simp only [ofXo, Option.map_eq_some_iff] at hx
    obtain ⟨y, h1, rfl⟩ := hx
    simp only [bnd] at h
    have hv := ofX_spec hr h1
    cases he : X.ev ts y <;> rw [he] at h hv <;> try exact False.elim h
    rename_i v
    cases v <;> try exact False.elim h
    exact .inr ⟨p, _, _, rfl, rfl, VR_sc hv, h.1, h.2⟩

theorem bound_run {k : IntKind} {n : Int} {y : Nat} {c : BoundsCode} (h0 : 0 ≤ n) (h1 : n.toNat ≤ y) : (Instr.sliceBound (.int k n) y c).run P w = .ok n.toNat w := by
  unfold Instr.sliceBound
  have : n ≤ (y : Int) := by omega
  simp [asIntOf, h0, this]

theorem bounds_run {sl : Bool} {len cap : Nat} {lo hi mx : Option Value} {l h m : Nat}
    (hm : (mx = none ∧ m = cap) ∨ ∃ k n, mx = some (.int k n) ∧ 0 ≤ n ∧ m = n.toNat ∧ hi.isSome) (hh : (hi = none ∧ h = len) ∨ ∃ k n, hi = some (.int k n) ∧ 0 ≤ n ∧ h = n.toNat)
    (hl : (lo = none ∧ l = 0) ∨ ∃ k n, lo = some (.int k n) ∧ 0 ≤ n ∧ l = n.toNat) (h1 : l ≤ h) (h2 : h ≤ m) (h3 : m ≤ cap) : (Instr.sliceBounds sl len cap lo hi mx).run P w = .ok (l, h, m) w := by
  unfold Instr.sliceBounds
  rcases hm with ⟨rfl, rfl⟩ | ⟨km, nm, rfl, m0, rfl, hi'⟩ <;> rcases hh with ⟨rfl, rfl⟩ | ⟨kh, nh, rfl, hh0, rfl⟩ <;> rcases hl with ⟨rfl, rfl⟩ | ⟨kl, nl, rfl, hl0, rfl⟩ <;>
    first
    | (simp at hi'; done)
    | (simp only [Sem.run_bind, Sem.run_pure, Result.andThen_ok]; done)
    | (simp only [Sem.run_bind, Sem.run_pure, Result.andThen_ok]; rw [bound_run (by assumption) (by omega)]; done)
    | (simp only [Sem.run_bind, Sem.run_pure, Result.andThen_ok]; rw [bound_run (by assumption) (by omega)]; simp only [Sem.run_bind, Sem.run_pure, Result.andThen_ok]; done)
    | (simp only [Sem.run_bind, Sem.run_pure, Result.andThen_ok]; rw [bound_run (by assumption) (by omega)]; simp only [Sem.run_bind, Sem.run_pure, Result.andThen_ok]; rw [bound_run (by assumption) (by omega)]; simp only [Sem.run_bind, Sem.run_pure, Result.andThen_ok]; done)
    | (simp only [Sem.run_bind, Sem.run_pure, Result.andThen_ok]; rw [bound_run (by assumption) (by omega)]; simp only [Sem.run_bind, Sem.run_pure, Result.andThen_ok]; rw [bound_run (by assumption) (by omega)]; simp only [Sem.run_bind, Sem.run_pure, Result.andThen_ok]; rw [bound_run (by assumption) (by omega)]; simp only [Sem.run_bind, Sem.run_pure, Result.andThen_ok]; done)

end
end Go.Proofs.Ytddhdlfafaobhaa
