/- Appends and calls: the model does the same; then: all operations on memory, by what they were made of. -/
import Derived.Test.YtddhdlfafaobhaaV12
namespace Go.Proofs.Ytddhdlfafaobhaa
open Go.RowKit
set_option linter.unusedVariables false
set_option linter.unusedSimpArgs false

section
variable {P : Program}

theorem lsOf_src {φ : Phi} {H : AHeap} {w : World} (hR : Rel φ H w) {k : Nat} {x : AV} {v : Value} (hv : VR φ (Own φ H) w x v) {K : List AV → Prop} (h : lsOf H k x K) : ∃ ys, K ys ∧ Src φ (Own φ H) w k ys v := by
  cases x <;> try exact False.elim h
  · exact ⟨_, h.2, Src.of_lst hv h.1⟩
  · obtain ⟨blk, h1, ⟨rfl, h2, h3⟩, h4⟩ := h
    exact ⟨_, h4, Src.of_vec hR hv h1 h2 h3⟩

theorem set_self {H : AHeap} {id : Nat} {b : Option ABlk} (h : AHeap.find H id = b) (hl : id < H.length) : AHeap.set H id b = H := by
  induction H with
  | nil => rfl
  | cons x r ih =>
    simp only [AHeap.set]
    simp only [AHeap.find] at h
    split
    · rename_i e; rw [if_pos e] at h; rw [h]
    · rename_i e
      rw [if_neg e] at h
      rw [ih h (by simp at hl; omega)]

theorem set_set {id : Nat} (b c : Option ABlk) : ∀ (H : AHeap), AHeap.set (AHeap.set H id b) id c = AHeap.set H id c
  | [] => rfl
  | x :: r => by
    simp only [AHeap.set]
    split
    · rename_i e; simp only [AHeap.set]; rw [if_pos e]
    · rename_i e; simp only [AHeap.set, AHeap.set_length]; rw [if_neg e, set_set b c r]

theorem set_cons {H : AHeap} {id : Nat} {b x : Option ABlk} (hl : id < H.length) : AHeap.set (b :: H) id x = b :: AHeap.set H id x := by
  simp only [AHeap.set]
  rw [if_neg (by omega)]

theorem memAt_cells {w : World} {b off : Nat} {cur : Array Value} {t : TypeId} {fr : Nat × Nat} (h : w.heap[b]? = some (.cells cur t fr)) (i : Nat) : memAt w b off i = cur[off + i]? := by
  simp [memAt, World.cell?, h]

/-- An append into the room of an own block. -/
theorem append_in {φ : Phi} {H : AHeap} {w : World} (hR : Rel φ H w) {t ty e : TypeId} {inf : TypeInfo} (ht : P.underlying t = some (.slice e)) (hi : P.info? e = some inf)
    {id b n c' cap : Nat} {blk : ABlk} {cur : Array Value} {ys : List AV} {v : Value} (hm : φ id = some b) (hf : AHeap.find H id = some blk) (hb : w.heap[b]? = some (.cells cur blk.ty (0, 0))) (hsz : cur.size = cap * blk.k) (hk : blk.k = inf.size) (hty : blk.ty = e)
    (hel : blk.es.length ≤ cap) (hex : blk.exact = true → cap = blk.es.length) (hmx : cap ≤ maxLen) (hrl : Rl φ (Own φ H) w b blk.k blk.es 0) (hv : Src φ (Own φ H) w inf.size ys v) (hn : n ≤ blk.es.length) (hroom : n + ys.length ≤ c') (hc : c' ≤ cap)
    (es' : List AV) (hes : es' = blk.es.take n ++ ys ++ blk.es.drop (n + ys.length)) (hex' : blk.exact = true → cap = es'.length) :
    ∃ w', (Builtin.append_ #[t, t] ty #[.slice (some ⟨b, 0, none⟩) n c', v]).run P w = .ok (.slice (some ⟨b, 0, none⟩) (n + ys.length) c') w' ∧
      Rel φ (AHeap.set H id (some { blk with es := es' })) w' ∧ Step φ H w φ (AHeap.set H id (some { blk with es := es' })) w' := by
  obtain ⟨a2, c2, news, rfl, n2, n3, n4, n5, n6⟩ := hv.ex
  obtain ⟨f1, f2⟩ := Rl_flat hrl
  have hfl : (flat blk.es).length = blk.es.length * blk.k := flat_length f1
  have hyl : (flat ys).length = ys.length * inf.size := flat_length n3
  have hcm : blk.es.length * blk.k ≤ cap * blk.k := Nat.mul_le_mul_right _ hel
  have hnm : n * blk.k ≤ blk.es.length * blk.k := Nat.mul_le_mul_right _ hn
  have hnc : (n + ys.length) * blk.k ≤ cap * blk.k := Nat.mul_le_mul_right _ (by omega)
  have hadd : (n + ys.length) * blk.k = n * blk.k + ys.length * blk.k := Nat.add_mul _ _ _
  rw [← hk] at n2 n3 hyl
  by_cases hy : 0 < ys.length
  · obtain ⟨ad, rfl, hnews⟩ := n6 hy
    have hrun := run_append_room (P := P) w t ty e inf ht hi b n c' cur (by rw [← hty]; exact hb) ad ys.length c2 news (by rw [n2, hk]) hnews n5 hroom (by rw [n2, hsz, ← hk]; omega)
    have hkes : ∀ x ∈ es', x.ncells = blk.k := by
      intro x hx
      rw [hes] at hx
      rcases List.mem_append.1 hx with hx | hx
      · rcases List.mem_append.1 hx with hx | hx
        · exact f1 x (List.mem_of_mem_take hx)
        · exact n3 x hx
      · exact f1 x (List.mem_of_mem_drop hx)
    have hflat : flat es' = (flat blk.es).take (n * blk.k) ++ flat ys ++ (flat blk.es).drop (n * blk.k + ys.length * blk.k) := by
      rw [hes, flat_append, flat_append, flat_take f1, flat_drop f1, hadd]
    have hlen' : es'.length ≤ cap := by rw [hes]; simp; omega
    have hcl : (cur.toList.take (n * blk.k)).length = n * blk.k := by simp; omega
    have hl0 : ((flat blk.es).take (n * blk.k)).length = n * blk.k := by rw [List.length_take, hfl]; exact Nat.min_eq_left hnm
    have hw := hR.write hm hf hb hsz es' (cur' := (cur.toList.take (n * inf.size) ++ news ++ cur.toList.drop (n * inf.size + news.length)).toArray) (by simp [n2, ← hk]; omega) hlen' hmx hex' hkes (by
      rw [hflat, ← hk]
      refine Rs_append (Rs_append (Rs_congr (fun q hq => ?_) (Rs_take (n := n * blk.k) f2)) (Rs_congr (fun q hq => ?_) n4)) (Rs_congr (fun q hq => ?_) (Rs_drop (f := n * blk.k + ys.length * blk.k) f2))
      · have hq' : q < n * blk.k := by rw [hl0] at hq; exact hq
        simp only [List.getElem?_toArray]
        rw [List.append_assoc, List.getElem?_append_left (by omega), List.getElem?_take_of_lt hq', memAt_cells hb]
        simp
      · have hq' : q < ys.length * blk.k := by rw [hyl] at hq; exact hq
        rw [hl0]
        simp only [List.getElem?_toArray]
        rw [List.getElem?_append_left (by rw [List.length_append, hcl, n2]; omega), List.getElem?_append_right (by omega), hcl]
        congr 1
        omega
      · have hl : ((flat blk.es).take (n * blk.k) ++ flat ys).length = n * blk.k + ys.length * blk.k := by rw [List.length_append, hl0, hyl]
        rw [hl]
        simp only [List.getElem?_toArray]
        have hl2 : (cur.toList.take (n * blk.k) ++ news).length = n * blk.k + ys.length * blk.k := by rw [List.length_append, hcl, n2]
        rw [List.getElem?_append_right (by omega), hl2, memAt_cells hb, n2]
        simp)
    exact ⟨_, hrun, hw.1, hw.2⟩
  · have hy0 : ys = [] := List.length_eq_zero_iff.1 (by omega)
    subst hy0
    have he : es' = blk.es := by rw [hes]; simp
    have hz := append_zero (P := P) (w := w) (ty := ty) ht hi (base := some ⟨b, 0, none⟩) (a := a2) (c' := c2) (show n ≤ c' by simpa using hroom)
    have hset : AHeap.set H id (some { blk with es := es' }) = H := by
      rw [he]
      exact set_self hf (AHeap.find_lt hf)
    rw [hset]
    exact ⟨w, by simpa using hz, hR, Step.refl _ _ _⟩

theorem vr_vec_of {φ : Phi} {O : Nat → Prop} {w : World} {k id n c' b : Nat} {c : Option Nat} {cur : Array Value} {e : TypeId} {fr : Nat × Nat} (h1 : φ id = some b) (h2 : n ≤ c') (h3 : c' ≤ maxLen) (h4 : ∀ m, c = some m → c' = m) (h5 : w.heap[b]? = some (.cells cur e fr)) (h6 : cur.size = c' * k) :
    VR φ O w (.vec k id 0 n c) (.slice (some ⟨b, 0, none⟩) n c') :=
  ⟨rfl, b, c', cur, e, fr, h1, by simp [cget, Value.cells], h2, h3, h4, h5, by rw [h6]; congr 1; omega⟩

theorem hs_app {o : Oper} {t e : TypeId} {inf : TypeInfo} {z : Value} {s x : Operand} {s' x' : X} {args : Array Operand} {ats : Array TypeId} (ho : o.op = .call { callee := .builtin .append, args, argTypes := ats }) (ha : args.toList = [s, x]) (hat : ats.toList = [t, t])
    (ht : P.underlying t = some (.slice e)) (hi : P.info? e = some inf) (hz : inf.zero = some z) (hzs : z.cells.size = inf.size) (hk0 : 0 < inf.size) (hby : inf.bytes ≤ 1000) (hs : ofX s = some s') (hx : ofX x = some x') : HSound P o (.app inf.size e s' x') := by
  intro φ H w ts a hR hr K Kp h next Q hn hpp
  obtain rfl : args = #[s, x] := by apply Array.toList_inj.1; simpa using ha
  obtain rfl : ats = #[t, t] := by apply Array.toList_inj.1; simpa using hat
  have hv := ofX_spec hr hs
  have hw := ofX_spec hr hx
  have hex : ∀ {r : Value} {w' : World}, (Builtin.append_ #[t, t] o.type #[a.eval s, a.eval x]).run P w = .ok r w' → (execOp a.eval o).run P w = .ok (.value r) w' := by
    intro r w' h1
    simp only [execOp, ho, resolve, invoke, builtin, Sem.run_bind, Sem.run_pure, Result.andThen_ok, List.map_toArray, List.map_cons, List.map_nil, h1]
  simp only [HO.sem] at h
  obtain ⟨ys, h, hsrc⟩ := lsOf_src hR hw h
  split at h
  · rename_i k' xs he
    rw [he] at hv
    obtain ⟨⟨g1, g2⟩, g3, g4⟩ := h
    obtain ⟨ad, c, hva, c1, c2, c3, c4, c5⟩ := VR_lst hv
    by_cases hy : ys = []
    · subst hy
      obtain ⟨a2, cc, news, e2, _⟩ := hsrc.ex
      refine wp_value (hex ?_) (hn _ _ _ _ _ (g3 rfl) hv hR (Step.refl _ _ _))
      rw [hva, e2]
      exact append_zero ht hi c1
    · have hpos : 0 < ys.length := List.length_pos_iff.2 hy
      have hcap : c = xs.length := by have := c5.1; simpa using this
      obtain ⟨c', w', r1, r2, r3, r4⟩ := append_new (P := P) hR (ty := o.type) ht hi hz hzs hby (Src.of_lst hv g1) hsrc hpos g2 ⟨ad, c, hva, by omega, c3⟩
      exact wp_value (hex r1) (hn _ _ _ _ _ (g4 hy) r4 r2 r3)
  · rename_i k' id off n c he
    rw [he] at hv
    obtain ⟨blk, h1, ⟨rfl, hk, hty, rfl, hb8⟩, h⟩ := h
    obtain ⟨b, c', cur, e', fr, v1, v2, v3, v4, v5, v6, v7⟩ := VR_vec hv
    obtain ⟨cur2, cap, a1, a2, a3, a4, a5, a6⟩ := hR.blk id b blk v1 h1
    rw [v6] at a1
    cases a1
    have hcc : c' = cap := by
      rw [v7, hk] at a2
      have : (0 + c') = cap := Nat.eq_of_mul_eq_mul_right hk0 a2
      omega
    subst hcc
    rw [Nat.zero_mul] at v2
    have hidl : id < H.length := AHeap.find_lt h1
    cases c with
    | none =>
      obtain ⟨⟨g1, g2⟩, g3⟩ := h
      by_cases hroom : n + ys.length ≤ c'
      · obtain ⟨w', r1, r2, r3⟩ := append_in (P := P) hR (ty := o.type) ht hi v1 h1 v6 a2 hk hty a3 a4 a5 a6 hsrc (Nat.le_of_eq g2) hroom (Nat.le_refl _) (blk.es ++ ys) (by
          rw [g2, List.take_length, List.drop_of_length_le (by omega), List.append_nil]) (fun h => by rw [g1] at h; simp at h)
        have hf2 : AHeap.find (AHeap.set H id (some { blk with es := blk.es ++ ys })) id = some { blk with es := blk.es ++ ys } := AHeap.find_set_same hidl
        obtain ⟨m1, m2⟩ := r2.move v1 hf2
        have hset : AHeap.set (AHeap.set H id (some { blk with es := blk.es ++ ys })) id none = AHeap.set H id none := set_set _ _ _
        rw [AHeap.set_length, hset] at m1 m2
        have hbe : ({ blk with es := blk.es ++ ys } : ABlk) = ⟨inf.size, blk.es ++ ys, false, e⟩ := by
          cases blk
          simp only at hk hty g1
          subst hk
          subst hty
          subst g1
          rfl
        rw [hbe] at m1 m2 r3
        have hcell := r3.toLater.cells v6
        obtain ⟨cur', fr', q1, q2⟩ := hcell
        refine wp_value (hex (by rw [v2]; exact r1)) (hn _ _ _ _ _ g3 (vr_vec_of (by simp [Phi.add]) hroom v4 (fun m hm => by simp at hm) q1 (by rw [q2, v7]; congr 1; omega)) m1 (r3.trans m2))
      · have hpos : 0 < ys.length := by omega
        obtain ⟨c2, w', r1, r2, r3, r4⟩ := append_new (P := P) hR (ty := o.type) ht hi hz hzs hby (xs := blk.es) (s := a.eval s) (by
          have := Src.of_vec hR hv h1 hk (by omega)
          rwa [List.drop_zero, g2, List.take_length] at this) hsrc hpos (by omega) ⟨_, c', by rw [v2, g2], by omega, fun h => by simp at h⟩
        obtain ⟨k1, k2⟩ := r2.kill id
        rw [set_cons hidl] at k1 k2
        refine wp_value (hex r1) (hn _ _ _ _ _ ?_ (k2.vr r4) k1 (r3.trans k2))
        rw [← g2]
        exact g3
    | some m =>
      obtain ⟨⟨g1, g2, g3⟩, g4, g5⟩ := h
      have hcm := v5 m rfl
      subst hcm
      by_cases hroom : n + ys.length ≤ c'
      · have hes : (blk.es.take n ++ ys ++ blk.es.drop (n + ys.length)).length = blk.es.length := by simp; omega
        obtain ⟨w', r1, r2, r3⟩ := append_in (P := P) hR (ty := o.type) ht hi v1 h1 v6 a2 hk hty a3 a4 a5 a6 hsrc (by omega) hroom (Nat.le_refl _) _ rfl (fun _ => by rw [hes]; exact g2)
        obtain ⟨cur', fr', q1, q2⟩ := r3.toLater.cells v6
        exact wp_value (hex (by rw [v2]; exact r1)) (hn _ _ _ _ _ (g4 hroom) (vr_vec_of v1 hroom v4 (fun m hm => by simpa using hm) q1 (by rw [q2, v7]; congr 1; omega)) r2 r3)
      · have hpos : 0 < ys.length := by omega
        have hl : (blk.es.take n).length = n := by simp; omega
        obtain ⟨c2, w', r1, r2, r3, r4⟩ := append_new (P := P) hR (ty := o.type) ht hi hz hzs hby (xs := blk.es.take n) (s := a.eval s) (by
          have := Src.of_vec hR hv h1 hk (by omega)
          rwa [List.drop_zero] at this) hsrc hpos (by rw [hl]; omega) ⟨_, c', by rw [v2, hl], by rw [hl]; omega, fun h => by simp at h⟩
        rw [hl] at r1 r4
        exact wp_value (hex r1) (hn _ _ _ _ _ (g5 (by omega)) r4 r2 r3)
  · exact h.elim

theorem callFunc_run {f : FuncId} {fn : Func} (h1 : P.funcs[f]? = some fn) (h2 : fn.body.isSome) (h3 : fn.name ≠ "runtime.NumGoroutine") (args : Array Value) (w : World) : (callFunc f args).run P w = .ok (.enter f args) w := by
  have h4 : (fn.name == "runtime.NumGoroutine") = false := by simpa using h3
  have h5 : fn.body.isNone = false := by
    cases hb : fn.body with
    | none => rw [hb] at h2; simp at h2
    | some c => rfl
  simp only [callFunc, Sem.run_bind, run_program, Result.andThen_ok, h1, h4, h5, Bool.false_eq_true, if_false, Sem.run_pure]

theorem wp_enter {o : Oper} {a : Act} {φ : Phi} {H : AHeap} {w : World} {f : FuncId} {vs : Array Value} {as : List AV} {e : AEnd} {H' : AHeap} {K Kp : AV → AHeap → Prop} {next : Act → World → Prop} {Q : Exit → Act → World → Prop}
    (hrun : (execOp a.eval o).run P w = .ok (.enter f vs) w) (hR : Rel φ H w) (ha : Rt φ (Own φ H) w as vs.toList) (hD : D P f as H e H') (hK : AEnd.post K Kp H' e)
    (hn : ∀ v u φ' H' w', K v H' → VR φ' (Own φ' H') w' v u → Rel φ' H' w' → Step φ H w φ' H' w' → next (a.put o.dst u) w')
    (hp : ∀ v u φ' H' w', Kp v H' → VR φ' (Own φ' H') w' v u → Rel φ' H' w' → Step φ H w φ' H' w' → Q (.panic [{ v := u, recovered := false }]) a w') : o.wp P a w next Q := by
  unfold Oper.wp
  rw [hrun, Oper.upon_enter]
  refine (hD.2 φ w vs hR ha).mono ?_
  rintro en w' ⟨φ', h1, h2, h3⟩
  cases e with
  | ret v =>
    cases en with
    | returned u => exact hn _ _ _ _ _ hK h1 h2 h3
    | panicked c => exact h1.elim
    | outgrown => exact h1.elim
  | pan v =>
    cases en with
    | returned u => exact h1.elim
    | panicked c =>
      obtain ⟨u, rfl, h4⟩ := h1
      exact hp _ _ _ _ _ hK h4 h2 h3
    | outgrown => exact h1.elim

theorem hs_call {o : Oper} {f : FuncId} {args : Array Operand} {ats : Array TypeId} {as : List X} (ho : o.op = .call { callee := .value (.func f), args, argTypes := ats }) (hc : callable P f = true) (has : ofXs args = some as) : HSound P o (.call f as) := by
  intro φ H w ts a hR hr K Kp h next Q hn hp
  obtain ⟨e, H', h1, h2⟩ := h
  unfold callable at hc
  split at hc
  case h_2 => simp at hc
  rename_i fn hf
  simp only [Bool.and_eq_true, Bool.not_eq_true', beq_eq_false_iff_ne] at hc
  refine wp_enter (vs := args.map a.eval) ?_ hR (by simpa using Rt_map hr has) h1 h2 hn hp
  simp only [execOp, ho, resolve, Deferred.ofValue, Act.eval, invoke, Sem.run_bind, Sem.run_pure, Result.andThen_ok]
  rw [callFunc_run hf hc.1 hc.2]
  simp

theorem hs_callv {o : Oper} {t : Tmp} {args : Array Operand} {ats : Array TypeId} {as : List X} (ho : o.op = .call { callee := .value (.tmp t), args, argTypes := ats }) (has : ofXs args = some as) : HSound P o (.callv (.t t) as) := by
  intro φ H w ts a hR hr K Kp h next Q hn hp
  have hv : VR φ (Own φ H) w (X.ev ts (.t t)) (a.eval (.tmp t)) := ofX_spec hr rfl
  simp only [HO.sem] at h
  split at h
  case h_2 => exact h.elim
  rename_i g A B he
  rw [he] at hv
  obtain ⟨⟨fn, c1, c2, c3⟩, e, H', h1, h2⟩ := h
  obtain ⟨us, ws, e1, e2, e3⟩ := VR_fn hv
  refine wp_enter (vs := us ++ args.map a.eval ++ ws) ?_ hR ?_ h1 h2 hn hp
  · simp only [execOp, ho, resolve, e1, Deferred.ofValue, invoke, Sem.run_bind, Sem.run_pure, Result.andThen_ok]
    rw [callFunc_run c1 c2 c3]
  · have ha := Rt_map hr has
    have happ : ∀ {l m : List AV} {x y : List Value}, Rt φ (Own φ H) w l x → Rt φ (Own φ H) w m y → Rt φ (Own φ H) w (l ++ m) (x ++ y) := by
      intro l
      induction l with
      | nil => intro m x y h1 h2; simp only [Rt] at h1; subst h1; simpa using h2
      | cons q r ih =>
        intro m x y h1 h2
        obtain ⟨v, s, rfl, k1, k2, k3⟩ := h1
        exact ⟨v, s ++ y, rfl, k1, k2, ih k3 h2⟩
    simp only [Array.toList_append, Array.toList_map]
    exact happ (happ e2 ha) e3

theorem hs_pan {o : Oper} {x : Operand} {x' : X} (ho : o.op = .panic x) (hx : ofX x = some x') : HSound P o (.pan x') := by
  intro φ H w ts a hR hr K Kp h next Q hn hp
  have hv := ofX_spec hr hx
  simp only [HO.sem] at h
  split at h
  case h_2 => exact h.elim
  rename_i t v he
  rw [he] at hv
  obtain ⟨u, h1, _⟩ := VR_ifc hv
  have hrun : (execOp a.eval o).run P w = .halt (.panic (a.eval x)) w := by
    simp only [execOp, ho, h1, Instr.panic, Sem.run_bind, run_goPanic, Result.andThen_halt]
  unfold Oper.wp
  rw [hrun, Oper.upon_panic]
  exact hp _ _ _ _ _ h hv hR (Step.refl _ _ _)

theorem compH_sound {b : Bool} {o : Oper} {op : HO} (h : compH P b o = some op) : HSound P o op := by
  unfold compH at h
  split at h
  · rename_i t x ho
    split at h <;> cases h
    exact hs_load ho (by assumption) (by assumption)
  · rename_i t ho
    split at h
    case h_2 => simp at h
    rename_i z hz
    split at h
    case h_2 => simp at h
    rename_i z' hc
    split at h
    case isFalse => simp at h
    rename_i ht
    cases h
    rw [Option.bind_eq_some_iff] at hz
    obtain ⟨i, h1, h2⟩ := hz
    exact hs_alloc ho h1 h2 hc ht
  · rename_i t x ho
    split at h <;> cases h
    exact hs_box ho (by assumption)
  · rename_i t ln parts ho
    split at h
    case h_2 => simp at h
    rename_i e ht
    split at h
    case h_2 => simp at h
    rename_i i hi
    split at h
    case h_2 => simp at h
    rename_i z ps hz hps
    split at h
    case isFalse => simp at h
    rename_i hc
    obtain ⟨c1, c2, c3, c4⟩ := hc
    cases h
    rw [Option.bind_eq_some_iff] at hz
    obtain ⟨zv, h1, h2⟩ := hz
    cases b with
    | true => exact hs_bslV ho ht hi h1 h2 hps c1 c2 c3 c4
    | false => exact hs_bsl ho ht hi h1 h2 hps c1 c2 c3 c4
  · rename_i t x y ho
    split at h <;> cases h
    exact hs_store ho (by assumption) (by assumption) (by assumption)
  · rename_i t l c ho
    split at h
    case h_2 => simp at h
    rename_i e ht
    split at h
    case h_2 => simp at h
    rename_i i l' c' hi hl hc
    split at h
    case h_2 => simp at h
    rename_i z hz
    split at h
    case isFalse => simp at h
    rename_i hcc
    obtain ⟨c1, c2, c3, c4⟩ := hcc
    cases h
    rw [Option.bind_eq_some_iff] at hz
    obtain ⟨zv, h1, h2⟩ := hz
    exact hs_mksl ho ht hi h1 h2 hl hc c1 c2 c3 c4
  · rename_i args ats ho
    split at h
    case h_2 => simp at h
    rename_i s x t t' ha hat
    split at h
    case isFalse => simp at h
    rename_i hte
    subst hte
    split at h
    case h_2 => simp at h
    rename_i e ht
    split at h
    case h_2 => simp at h
    rename_i i s' x' hi hs hx
    split at h
    case h_2 => simp at h
    rename_i z hz
    split at h
    case isFalse => simp at h
    rename_i hcc
    cases h
    exact hs_app ho ha hat ht hi hz hcc.1 hcc.2.1 hcc.2.2 hs hx
  · rename_i f args ats ho
    split at h
    case isFalse => simp at h
    rename_i hc
    rw [Option.map_eq_some_iff] at h
    obtain ⟨as, h1, rfl⟩ := h
    exact hs_call ho hc h1
  · rename_i t args ats ho
    rw [Option.map_eq_some_iff] at h
    obtain ⟨as, h1, rfl⟩ := h
    exact hs_callv ho h1
  · rename_i x ho
    rw [Option.map_eq_some_iff] at h
    obtain ⟨x', h1, rfl⟩ := h
    exact hs_pan ho h1
  · simp at h
end
end Go.Proofs.Ytddhdlfafaobhaa
