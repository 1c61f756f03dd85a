/- The rule for regions whose order is drawn. -/
import Derived.Test.YtddhdlfafaobhaaV18
namespace Go.Proofs.Ytddhdlfafaobhaa
open Go.RowKit
set_option linter.unusedVariables false
set_option linter.unusedSimpArgs false

section
variable {P : Program}

/-- What holds behind some of the operations, in whatever order they were taken. -/
structure DI (ops : Array Oper) (l : List IO') (N : Nat) (vs : Nat → AV) (Hs : Nat → AHeap) (ts : List AV) (H : AHeap) (φ : Phi) (w0 : World) (ds : List Deferred) (listed : Array Bool) (act : Act) (w : World) : Prop where
  size : listed.size = ops.size
  lt : ∀ i, listed.getD i false = true → i < N
  cl : ∀ (j : Nat) (o : Oper), ops[j]? = some o → listed.getD j false = true → ∀ e ∈ o.after.toList, Region.binds .any e = true → listed.getD e.on false = true
  dfs : act.defers = ds
  ex : ∃ (φ' : Phi) (s : Nat), s ≤ N ∧ (∀ (c : Nat) (x : IO'), l[c]? = some x → x.op.isChain = true → (listed.getD c false = true ↔ c < s)) ∧ (s = N ∨ ∃ x : IO', l[s]? = some x ∧ x.op.isChain = true) ∧ Rel φ' (Hs s) w ∧ Step φ H w0 φ' (Hs s) w ∧
    (∀ (i : Nat) (x : IO'), l[i]? = some x → x.op.isAlloc = true → i < N → (Hs i).length < (Hs (i + 1)).length → listed.getD i false = false → φ' (Hs i).length = none) ∧
    act.tmps.size = ts.length ∧ (∀ (i : Nat) (x : IO') (d : Nat), l[i]? = some x → x.dst = some d → d < ts.length → listed.getD i false = true → VR φ' (Own φ' (Hs s)) w (vs i) (act.tmps.getD d undef)) ∧
    (∀ t : Nat, (∀ (i : Nat) (x : IO'), l[i]? = some x → x.dst ≠ some t) → VR φ' (Own φ' (Hs s)) w (ts.getD t .top) (act.tmps.getD t undef))

theorem tmps_put (a : Act) (d : Option Tmp) (u : Value) (t : Nat) : (a.put d u).tmps.getD t undef = if d = some t ∧ t < a.tmps.size then u else a.tmps.getD t undef := by
  cases d with
  | none => simp [Act.put]
  | some d =>
    simp only [Act.put, Array.getD_eq_getD_getElem?, Array.getElem?_setIfInBounds]
    by_cases e : d = t
    · subst e
      by_cases hl : d < a.tmps.size
      · simp [hl]
      · simp [hl]
    · have : ¬ (some d = some t ∧ t < a.tmps.size) := by simp [e]
      rw [if_neg e, if_neg this]

theorem put_size (a : Act) (d : Option Tmp) (u : Value) : (a.put d u).tmps.size = a.tmps.size := by
  cases d <;> simp [Act.put]

set_option maxHeartbeats 1000000 in
theorem region_drawn {b : Bool} {id : Nat} {ops : Array Oper} {l : List IO'} {A : List (List Nat)} (hm : P.follows .mixedOrders = true) (hc : compOps P b ops ops.toList = some l) (hA : okE ops A = true) (hD : okD l A = true)
    {Q : Exit → Act → World → Prop} {K : List AV → AHeap → Prop} {Kp : AV → List AV → AHeap → Prop} {φ : Phi} {H : AHeap} {w : World} {ts : List AV} {a : Act}
    (hR : Rel φ H w) (hF : FR φ (Own φ H) w ts a) (h : runD P A l.length K (fun v H' => Kp v (blankT l ts) H') 0 l ts H [] []) (hk : ContOk Q K φ H w a.defers) (hp : PanOk Q Kp φ H w a.defers) : (Code.region id ops true).wp P Q a w := by
  obtain ⟨N, vs, Hs, fs, hrd, hH0, hf0⟩ := runD_road l 0 ts H [] [] h
  obtain ⟨hlen, hget⟩ := compOps_get hc
  have hls : l.length = ops.size := by simpa using hlen
  have hNl : N ≤ l.length := by simpa using hrd.hi
  have hx : ∀ i, i < ops.size → ∃ o x, ops[i]? = some o ∧ l[i]? = some x ∧ compO P b ops o = some x := by
    intro i hi
    obtain ⟨x, h1, h2⟩ := hget i ops[i] (by simp [hi])
    exact ⟨ops[i], x, by simp [hi], h1, h2⟩
  have hst : ∀ (m : Nat) (x : IO'), m < N → l[m]? = some x → fs (m + 1) = putT (fs m) x.dst (vs m) ∧ StepOK P x (fs m) (Hs m) (vs m) (Hs (m + 1)) := fun m x hmN hx => hrd.step m x (Nat.zero_le _) hmN (by simpa using hx)
  have hlx : ∀ m, m < N → ∃ x, l[m]? = some x := fun m hmN => ⟨l[m]'(by omega), by simp [show m < l.length by omega]⟩
  have hmono1 : ∀ m, m < N → (Hs m).length ≤ (Hs (m + 1)).length := fun m hmN => by
    obtain ⟨x, hx⟩ := hlx m hmN
    exact (hst m x hmN hx).2.len
  have hmono : ∀ k m, m + k ≤ N → (Hs m).length ≤ (Hs (m + k)).length := by
    intro k
    induction k with
    | zero => intro m _; exact Nat.le_refl _
    | succ k ih => intro m hmk; exact Nat.le_trans (ih m (by omega)) (hmono1 (m + k) (by omega))
  have hmono' : ∀ m m', m ≤ m' → m' ≤ N → (Hs m).length ≤ (Hs m').length := fun m m' h1 h2 => by
    have := hmono (m' - m) m (by omega)
    rwa [show m + (m' - m) = m' from by omega] at this
  have hext : ∀ k lo, lo + k ≤ N → (∀ (m : Nat) (x : IO'), lo ≤ m → m < lo + k → l[m]? = some x → x.op.isChain = false) → Ext (Hs lo) (Hs (lo + k)) := by
    intro k
    induction k with
    | zero => intro lo _ _; exact Ext.refl _
    | succ k ih =>
      intro lo h1 h2
      obtain ⟨x, hx⟩ := hlx (lo + k) (by omega)
      exact (ih lo (by omega) fun m x g1 g2 g3 => h2 m x g1 (by omega) g3).trans ((hst (lo + k) x (by omega) hx).2.ext (h2 (lo + k) x (by omega) (by omega) hx))
  -- the frames as the text goes
  have hfL : ∀ i, i ≤ N → (fs i).length = ts.length := by
    intro i
    induction i with
    | zero => intro _; rw [hf0]
    | succ i ih =>
      intro hi
      obtain ⟨x, hx⟩ := hlx i (by omega)
      rw [(hst i x (by omega) hx).1, putT_length, ih (by omega)]
  have hfN : ∀ i, i ≤ N → ∀ t : Nat, (∀ (j : Nat) (x : IO'), j < i → l[j]? = some x → x.dst ≠ some t) → (fs i).getD t .top = ts.getD t .top := by
    intro i
    induction i with
    | zero => intro _ t _; rw [hf0]
    | succ i ih =>
      intro hi t ht
      obtain ⟨x, hx⟩ := hlx i (by omega)
      rw [(hst i x (by omega) hx).1, putT_get, if_neg (fun e => ht i x (by omega) hx e.1)]
      exact ih (by omega) t fun j y hj hy => ht j y (by omega) hy
  have hfW : ∀ i, i ≤ N → ∀ (j : Nat) (x : IO') (t : Nat), j < i → l[j]? = some x → x.dst = some t → t < ts.length → (fs i).getD t .top = vs j := by
    intro i
    induction i with
    | zero => intro _ j x t hj; omega
    | succ i ih =>
      intro hi j x t hj hxj hd ht
      obtain ⟨y, hy⟩ := hlx i (by omega)
      rw [(hst i y (by omega) hy).1, putT_get, hfL i (by omega)]
      by_cases e : j = i
      · subst e
        rw [hxj] at hy
        cases hy
        rw [if_pos ⟨hd, ht⟩]
      · rw [if_neg (fun e2 => e ((okD_spec hD hy hxj).2.1 t hd e2.1))]
        exact ih (by omega) j x t (by omega) hxj hd ht
  apply wp_region_any hm
  refine wpAny_inv (DI ops l N vs Hs ts H φ w a.defers) (fun _ _ _ hI => hI.size) ?_ ?_ ops.size _ a _ ?_ (by omega)
  case refine_3 =>
    -- at the start
    obtain ⟨s, h1, h2, h3, h4⟩ := next_at (fun m => match l[m]? with | some x => x.op.isChain | none => false) N N 0 (by omega)
    have hfl : ∀ i, (Array.replicate ops.size false).getD i false = false := fun i => by simp [Array.getD]
    have hE : Ext (Hs 0) (Hs s) := by
      have := hext s 0 (by omega) fun m x g1 g2 g3 => by have := h4 m g1 (by omega); rw [g3] at this; exact this
      rwa [Nat.zero_add] at this
    rw [hH0] at hE
    obtain ⟨r1, r2⟩ := (drew_rel hR).ext hE
    have r3 := (drew_step φ H w).trans r2
    refine ⟨by simp, fun i hi => by rw [hfl] at hi; simp at hi, fun j o ho hl => by rw [hfl] at hl; simp at hl, rfl, φ, s, h2, fun c x hcx hch => ?_, ?_, r1, r3, fun i x hix hal hiN _ _ => ?_, hF.1, fun i x d _ _ _ hl => by rw [hfl] at hl; simp at hl, fun t _ => r3.vr (hF.2 t)⟩
    · rw [hfl]
      refine ⟨fun e => by simp at e, fun e => ?_⟩
      have := h4 c (by omega) e
      rw [hcx] at this
      simp only at this
      rw [hch] at this
      simp at this
    · rcases h3 with h3 | h3
      · exact .inl h3
      · split at h3
        · rename_i x hx; exact .inr ⟨x, hx, h3⟩
        · simp at h3
    · cases hφ : φ (Hs i).length with
      | none => rfl
      | some b =>
        have g1 := (hR.dom _ _ hφ).1
        have g2 := hmono' 0 i (by omega) (by omega)
        rw [hH0] at g2
        omega
  case refine_1 =>
    -- at the end
    intro listed act w' hI hr
    have hall := all_listed hA hI.size hr
    have hN : N = ops.size := by
      rcases Nat.lt_or_ge N ops.size with h1 | h1
      · have := hI.lt N (hall (N + 1) N (by omega) h1)
        omega
      · omega
    obtain ⟨φ', s, h1, h2, h3, h4, h5, h6, h7, h8, h9⟩ := hI.ex
    have hs : s = N := by
      rcases h3 with h3 | ⟨x, hx, hch⟩
      · exact h3
      · have hsl : s < l.length := (List.getElem?_eq_some_iff.1 hx).1
        have := (h2 s x hx hch).1 (hall (s + 1) s (by omega) (by omega))
        omega
    subst hs
    rcases hrd.fin with ⟨g1, g2⟩ | ⟨o, v, H', g1, _⟩
    · refine hk (fs s) act φ' (Hs s) w' g2 ⟨by rw [h7, hfL s (Nat.le_refl _)], fun t => ?_⟩ h4 h5 hI.dfs
      by_cases hw : ∃ (j : Nat) (x : IO'), l[j]? = some x ∧ x.dst = some t
      · obtain ⟨j, x, hj, hd⟩ := hw
        have hjl : j < l.length := (List.getElem?_eq_some_iff.1 hj).1
        by_cases ht : t < ts.length
        · rw [hfW s (Nat.le_refl _) j x t (by omega) hj hd ht]
          exact h8 j x t hj hd ht (hall (j + 1) j (by omega) (by omega))
        · have : (fs s).getD t .top = .top := by
            simp [List.getD, List.getElem?_eq_none (show (fs s).length ≤ t by rw [hfL s (Nat.le_refl _)]; omega)]
          rw [this]
          exact vr_top _
      · have hno : ∀ (i : Nat) (x : IO'), l[i]? = some x → x.dst ≠ some t := fun i x hi hd => hw ⟨i, x, hi, hd⟩
        rw [hfN s (Nat.le_refl _) t fun j x _ hj => hno j x hj]
        exact h9 t hno
    · have := (List.getElem?_eq_some_iff.1 g1).1
      omega
  case refine_2 =>
    -- one more
    intro listed act w' i hI hi
    obtain ⟨hil, hnt, hedge⟩ := mem_ready' hi
    have hils : i < listed.size := by rw [hI.size]; exact hil
    have hnl : listed.getD i false = false := by
      simp [Array.getD, hils] at hnt ⊢
      exact hnt
    obtain ⟨o, x, ho, hxi, hcx⟩ := hx i hil
    obtain ⟨hdst, hgd⟩ := compO_dst hcx
    have hanc : ∀ j, anc A i j = true → listed.getD j false = true := okE_spec hA hI.cl (i + 1) i o (by omega) ho (hedge o ho)
    have hiN : i ≤ N := by
      rcases Nat.lt_or_ge N i with h1 | h1
      · exfalso
        rcases hrd.fin with ⟨g1, _⟩ | ⟨o', v', H', _, _, g3, _⟩
        · omega
        · unfold lastB at g3
          have := List.all_eq_true.1 g3 i (by simp; omega)
          simp only [Bool.or_eq_true, decide_eq_true_eq] at this
          rcases this with h2 | h2
          · omega
          · have := hI.lt N (hanc N h2)
            omega
      · exact h1
    obtain ⟨φ', s, hs1, hs2, hs3, hs4, hs5, hs6, hs7, hs8, hs9⟩ := hI.ex
    -- the slots as they stand
    obtain ⟨stF, hstW, hstN, hstU⟩ : ∃ stF : Nat → AV, (∀ (j : Nat) (y : IO') (t : Nat), l[j]? = some y → y.dst = some t → listed.getD j false = true → stF t = vs j) ∧
        (∀ t : Nat, (∀ (j : Nat) (y : IO'), l[j]? = some y → y.dst ≠ some t) → stF t = ts.getD t .top) ∧ (∀ (j : Nat) (y : IO') (t : Nat), l[j]? = some y → y.dst = some t → listed.getD j false = false → stF t = .top) := by
      classical
      refine ⟨fun t => if hh : ∃ (j : Nat) (y : IO'), l[j]? = some y ∧ y.dst = some t ∧ listed.getD j false = true then vs hh.choose else if ∃ (j : Nat) (y : IO'), l[j]? = some y ∧ y.dst = some t then .top else ts.getD t .top, ?_, ?_, ?_⟩
      · intro j y t hj hd hl
        have hh : ∃ (j : Nat) (y : IO'), l[j]? = some y ∧ y.dst = some t ∧ listed.getD j false = true := ⟨j, y, hj, hd, hl⟩
        obtain ⟨y', c1, c2, c3⟩ := hh.choose_spec
        have : hh.choose = j := (okD_spec hD hj c1).2.1 t c2 hd
        simp only
        rw [dif_pos hh, this]
      · intro t ht
        simp only
        rw [dif_neg (fun ⟨j, y, h1, h2, _⟩ => ht j y h1 h2), if_neg (fun ⟨j, y, h1, h2⟩ => ht j y h1 h2)]
      · intro j y t hj hd hl
        simp only
        rw [dif_neg (fun ⟨j', y', h1, h2, h3⟩ => by
          have := (okD_spec hD hj h1).2.1 t h2 hd
          rw [this, hl] at h3
          simp at h3), if_pos ⟨j, y, hj, hd⟩]
    let tsS : List AV := (List.range ts.length).map stF
    have htsS : ∀ t, t < ts.length → tsS.getD t .top = stF t := fun t ht => by simp [tsS, List.getD, ht]
    have htsO : ∀ t, ts.length ≤ t → tsS.getD t .top = .top := fun t ht => by simp [tsS, List.getD, ht]
    have hFS : FR φ' (Own φ' (Hs s)) w' tsS act := by
      refine ⟨by simp [tsS, hs7], fun t => ?_⟩
      by_cases ht : t < ts.length
      · rw [htsS t ht]
        by_cases hw : ∃ (j : Nat) (y : IO'), l[j]? = some y ∧ y.dst = some t
        · obtain ⟨j, y, hj, hd⟩ := hw
          cases hl : listed.getD j false with
          | true => rw [hstW j y t hj hd hl]; exact hs8 j y t hj hd ht hl
          | false => rw [hstU j y t hj hd hl]; exact vr_top _
        · have hno : ∀ (j : Nat) (y : IO'), l[j]? = some y → y.dst ≠ some t := fun j y hj hd => hw ⟨j, y, hj, hd⟩
          rw [hstN t hno]
          exact hs9 t hno
      · rw [htsO t (by omega)]
        exact vr_top _
    have hgets : ∀ t, t ∈ opTmps x → tsS.getD t .top = (fs i).getD t .top := by
      intro t hmem
      by_cases ht : t < ts.length
      · rw [htsS t ht]
        by_cases hw : ∃ (j : Nat) (y : IO'), l[j]? = some y ∧ y.dst = some t
        · obtain ⟨j, y, hj, hd⟩ := hw
          have h1 := (okD_spec hD hxi hj).2.2.1 t hd hmem
          have h2 := (okD_spec hD hxi hj).1 j h1
          rw [hstW j y t hj hd (hanc j h1), hfW i hiN j y t h2 hj hd ht]
        · have hno : ∀ (j : Nat) (y : IO'), l[j]? = some y → y.dst ≠ some t := fun j y hj hd => hw ⟨j, y, hj, hd⟩
          rw [hstN t hno, hfN i hiN t fun j y _ hj => hno j y hj]
      · rw [htsO t (by omega)]
        simp [List.getD, List.getElem?_eq_none (show (fs i).length ≤ t by rw [hfL i hiN]; omega)]
    have hev : ∀ y ∈ x.op.xs, X.ev (fs i) y = X.ev tsS y := by
      intro y hy
      cases y with
      | k v => rfl
      | t t =>
        simp only [X.ev]
        exact (hgets t (by unfold opTmps; exact List.mem_append_left _ (List.mem_filterMap.2 ⟨.t t, hy, rfl⟩))).symm
    have hgev : ∀ d wt, x.guard = some (d, wt) → (fs i).getD d .top = tsS.getD d .top := by
      intro d wt hg
      exact (hgets d (by unfold opTmps; rw [hg]; simp)).symm
    -- what is left to show behind it
    have adv : ∀ (φ2 : Phi) (s2 : Nat) (w2 : World) (u : Value), i < N → s2 ≤ N → (∀ (c : Nat) (y : IO'), l[c]? = some y → y.op.isChain = true → ((listed.setIfInBounds i true).getD c false = true ↔ c < s2)) → (s2 = N ∨ ∃ y : IO', l[s2]? = some y ∧ y.op.isChain = true) → Rel φ2 (Hs s2) w2 →
        Later (fun _ => True) φ' φ2 (Own φ' (Hs s)) (Own φ2 (Hs s2)) w' w2 → (∀ id, id < H.length → φ2 id = φ' id) → w2.os = w'.os → w2.tape = w'.tape → w2.output = w'.output →
        (∀ (j : Nat) (y : IO'), l[j]? = some y → y.op.isAlloc = true → j < N → (Hs j).length < (Hs (j + 1)).length → (listed.setIfInBounds i true).getD j false = false → φ2 (Hs j).length = none) → VR φ2 (Own φ2 (Hs s2)) w2 (vs i) u →
        DI ops l N vs Hs ts H φ w a.defers (listed.setIfInBounds i true) (act.put o.dst u) w2 := by
      intro φ2 s2 w2 u hiN' g1 g2 g3 g4 g5 g6 g7 g8 g9 g10 g11
      refine ⟨by simpa using hI.size, fun j hj => ?_, fun j oj hoj hj e he hb => ?_, by rw [put_defers]; exact hI.dfs, φ2, s2, g1, g2, g3, g4, ⟨hs5.toLater.trans g5, g7.trans hs5.os, g8.trans hs5.tape, g9.trans hs5.output, ?_, fun id hid => (g6 id hid).trans (hs5.old id hid)⟩, g10, by rw [put_size]; exact hs7, fun j y d hj hd hdl hl => ?_, fun t ht => ?_⟩
      · by_cases e : i = j
        · omega
        · rw [getD_set_ne' e] at hj
          exact hI.lt j hj
      · by_cases e2 : i = j
        · subst e2
          rw [ho] at hoj
          cases hoj
          exact getD_set_true' (hedge o ho e he hb)
        · rw [getD_set_ne' e2] at hj
          exact getD_set_true' (hI.cl j oj hoj hj e he hb)
      · have := hmono' 0 s2 (Nat.zero_le _) g1
        rwa [hH0] at this
      · rw [tmps_put]
        by_cases e : i = j
        · subst e
          rw [hxi] at hj
          cases hj
          rw [if_pos ⟨by rw [← hdst]; exact hd, by rw [hs7]; exact hdl⟩]
          exact g11
        · rw [if_neg (fun e2 => e ((okD_spec hD hj hxi).2.1 d (by rw [hdst]; exact e2.1) hd))]
          rw [getD_set_ne' e] at hl
          exact VR_later g5 (AV.ids_true _) (hs8 j y d hj hd hdl hl)
      · rw [tmps_put, if_neg (fun e2 => ht i x hxi (by rw [hdst]; exact e2.1))]
        exact VR_later g5 (AV.ids_true _) (hs9 t ht)
    have hset_ch : x.op.isChain = false → ∀ (c : Nat) (y : IO'), l[c]? = some y → y.op.isChain = true → ((listed.setIfInBounds i true).getD c false = true ↔ c < s) := by
      intro hnc c y hc' hch
      have e : i ≠ c := fun e => by
        subst e
        rw [hxi] at hc'
        cases hc'
        rw [hnc] at hch
        simp at hch
      rw [getD_set_ne' e]
      exact hs2 c y hc' hch
    have hset_al : x.op.isAlloc = false → ∀ (j : Nat) (y : IO'), l[j]? = some y → y.op.isAlloc = true → j < N → (Hs j).length < (Hs (j + 1)).length → (listed.setIfInBounds i true).getD j false = false → φ' (Hs j).length = none := by
      intro hna j y hj hal hjN hlt hu
      have e : i ≠ j := fun e => by
        subst e
        rw [hxi] at hj
        cases hj
        rw [hna] at hal
        simp at hal
      rw [getD_set_ne' e] at hu
      exact hs6 j y hj hal hjN hlt hu
    unfold wpOp
    rw [ho]
    simp only
    rcases Nat.lt_or_ge i N with hlt | hge
    case inr =>
      -- the one that panics
      have hieq : i = N := by omega
      subst hieq
      rcases hrd.fin with ⟨g1, _⟩ | ⟨o', v', H', g1, ⟨g2, g3, g4⟩, g5, g6⟩
      · omega
      · rw [show i - 0 = i from rfl, hxi] at g1
        cases g1
        have hs : s = i := by
          rcases hs3 with h1 | ⟨y, h1, h2⟩
          · exact h1
          · rcases Nat.lt_or_ge s i with h3 | h3
            · have h4 := (okD_spec hD hxi h1).2.2.2 h3 (.inl ⟨g3, .inl h2⟩)
              have := (hs2 s y h1 h2).1 (hanc s h4)
              omega
            · omega
        subst hs
        rcases guard_wanted hgd hFS (guardK_congr hgev g2) with ⟨hw, _⟩ | ⟨_, hf⟩
        · rw [if_pos hw]
          left
          rw [opK_congr hev] at g4
          refine op_wp hcx hs4 hFS g4 (fun v u φ2 H2 w2 k1 => k1.elim) (fun v u φ2 H2 w2 k1 k2 k3 k4 => ?_)
          obtain ⟨rfl, rfl⟩ := k1
          refine hp v u (blankT l ts) act φ2 H2 w2 g6 k2 ⟨by rw [hs7, (blankT_get l ts).1], fun t => ?_⟩ k3 (hs5.trans k4) hI.dfs
          rcases (blankT_get l ts).2 t with h1 | ⟨h1, h2⟩
          · rw [h1]; exact vr_top _
          · rw [h1]
            exact k4.vr (hs9 t fun j y hj => h2 y (List.mem_of_getElem? hj))
        · exact hf.elim
    case inl =>
      have hsi := (hst i x hlt hxi).2
      have hno : guardK tsS False True x.guard → Region.wanted o (yielded ops act.tmps) = false := fun hg => by
        rcases guard_wanted hgd hFS hg with ⟨_, hf⟩ | ⟨hw, _⟩
        · exact hf.elim
        · exact hw
      rcases hsi with ⟨hg, hop⟩ | ⟨hg, hv, hHe⟩
      case inr =>
        rw [if_neg (by rw [hno (guardK_congr hgev hg)]; simp)]
        have hsame : ∀ s2 w2, Later (fun _ => True) φ' φ' (Own φ' (Hs s2)) (Own φ' (Hs s2)) w2 w2 := fun _ _ => Later.refl
        have hvu : ∀ (φ2 : Phi) (O2 : Nat → Prop), VR φ2 O2 w' (vs i) undef := fun _ _ => by rw [hv]; exact vr_undef
        cases hch : x.op.isChain with
        | false =>
          refine adv φ' s w' undef hlt hs1 (hset_ch hch) hs3 hs4 Later.refl (fun _ _ => rfl) rfl rfl rfl (fun j y hj hal hjN hl2 hu => ?_) (hvu _ _)
          by_cases e : i = j
          · subst e
            rw [hHe] at hl2
            omega
          · rw [getD_set_ne' e] at hu
            exact hs6 j y hj hal hjN hl2 hu
        | true =>
          -- a guarded one of the row that is not wanted: the row goes on
          have his : s = i := by
            have h1 : ¬ i < s := fun h1 => by
              have := (hs2 i x hxi hch).2 h1
              rw [hnl] at this
              simp at this
            rcases hs3 with h2 | ⟨y, h2, h3⟩
            · omega
            · rcases Nat.lt_or_ge s i with h4 | h4
              · have h5 := (okD_spec hD hxi h2).2.2.2 h4 (.inl ⟨hch, .inl h3⟩)
                have := (hs2 s y h2 h3).1 (hanc s h5)
                omega
              · omega
          subst his
          obtain ⟨s2, n1, n2, n3, n4⟩ := next_at (fun m => match l[m]? with | some y => y.op.isChain | none => false) N (N - (s + 1)) (s + 1) (by omega)
          have hE : Ext (Hs (s + 1)) (Hs s2) := by
            have := hext (s2 - (s + 1)) (s + 1) (by omega) fun m y g1 g2 g3 => by have := n4 m g1 (by omega); rw [g3] at this; exact this
            rwa [show s + 1 + (s2 - (s + 1)) = s2 from by omega] at this
          rw [hHe] at hE
          obtain ⟨r1, r2⟩ := hs4.ext hE
          refine adv φ' s2 w' undef hlt n2 (fun c y hcy hcc => ?_) ?_ r1 r2.toLater (fun _ _ => rfl) rfl rfl rfl (fun j y hj hal hjN hl2 hu => ?_) (hvu _ _)
          · by_cases e : s = c
            · subst e
              rw [getD_set_same' hils]
              simp; omega
            · rw [getD_set_ne' e, hs2 c y hcy hcc]
              constructor
              · intro h; omega
              · intro h
                rcases Nat.lt_or_ge c (s + 1) with h1 | h1
                · omega
                · have := n4 c h1 h
                  rw [hcy] at this
                  simp only at this
                  rw [hcc] at this
                  simp at this
          · rcases n3 with h3 | h3
            · exact .inl h3
            · split at h3
              · rename_i y hy; exact .inr ⟨y, hy, h3⟩
              · simp at h3
          · by_cases e : s = j
            · subst e
              rw [hHe] at hl2
              omega
            · rw [getD_set_ne' e] at hu
              exact hs6 j y hj hal hjN hl2 hu
      case inl =>
        rcases guard_wanted hgd hFS (guardK_congr hgev hg) with ⟨hw, _⟩ | ⟨_, hf⟩
        case inr => exact hf.elim
        rw [if_pos hw]
        left
        have hop' := hop
        rw [opK_congr hev] at hop
        cases hch : x.op.isChain with
        | true =>
          have his : s = i := by
            have h1 : ¬ i < s := fun h1 => by
              have := (hs2 i x hxi hch).2 h1
              rw [hnl] at this
              simp at this
            rcases hs3 with h2 | ⟨y, h2, h3⟩
            · omega
            · rcases Nat.lt_or_ge s i with h4 | h4
              · have h5 := (okD_spec hD hxi h2).2.2.2 h4 (.inl ⟨hch, .inl h3⟩)
                have := (hs2 s y h2 h3).1 (hanc s h5)
                omega
              · omega
          subst his
          refine op_wp hcx hs4 hFS hop (fun v u φ2 H2 w2 k1 k2 k3 k4 => ?_) (fun v u φ2 H2 w2 k1 => k1.elim)
          obtain ⟨rfl, rfl⟩ := k1
          obtain ⟨s2, n1, n2, n3, n4⟩ := next_at (fun m => match l[m]? with | some y => y.op.isChain | none => false) N (N - (s + 1)) (s + 1) (by omega)
          have hE : Ext (Hs (s + 1)) (Hs s2) := by
            have := hext (s2 - (s + 1)) (s + 1) (by omega) fun m y g1 g2 g3 => by have := n4 m g1 (by omega); rw [g3] at this; exact this
            rwa [show s + 1 + (s2 - (s + 1)) = s2 from by omega] at this
          obtain ⟨r1, r2⟩ := k3.ext hE
          have k5 := k4.trans r2
          have hl0 : H.length ≤ (Hs s).length := by
            have := hmono' 0 s (Nat.zero_le _) hs1
            rwa [hH0] at this
          refine adv φ2 s2 w2 u hlt n2 (fun c y hcy hcc => ?_) ?_ r1 k5.toLater (fun id hid => k5.old id (by omega)) k5.os k5.tape k5.output (fun j y hj hal hjN hl2 hu => ?_) (r2.vr k2)
          · by_cases e : s = c
            · subst e
              rw [getD_set_same' hils]
              simp; omega
            · rw [getD_set_ne' e, hs2 c y hcy hcc]
              constructor
              · intro h; omega
              · intro h
                rcases Nat.lt_or_ge c (s + 1) with h1 | h1
                · omega
                · have := n4 c h1 h
                  rw [hcy] at this
                  simp only at this
                  rw [hcc] at this
                  simp at this
          · rcases n3 with h3 | h3
            · exact .inl h3
            · split at h3
              · rename_i y hy; exact .inr ⟨y, hy, h3⟩
              · simp at h3
          · have e : s ≠ j := fun e => by
              subst e
              rw [hxi] at hj
              cases hj
              cases hxo : x.op with
              | p q => rw [hxo] at hal; simp [IOp.isAlloc] at hal
              | h q => rw [hxo] at hal hch; cases q <;> simp [IOp.isAlloc, HO.isAlloc, IOp.isChain, HO.isChain] at hal hch
            rw [getD_set_ne' e] at hu
            -- an alloc that stands ahead of the row's operation is listed; one behind it is not told of yet
            rcases Nat.lt_or_ge j s with h1 | h1
            · have h2 := (okD_spec hD hxi hj).2.2.2 h1 (.inl ⟨hch, .inr hal⟩)
              rw [hanc j h2] at hu
              simp at hu
            · cases hφ : φ2 (Hs j).length with
              | none => rfl
              | some bb =>
                have g1 := (k3.dom _ _ hφ).1
                have g2 := hmono' (s + 1) j (by omega) (by omega)
                omega
        | false =>
          cases hal : x.op.isAlloc with
          | true =>
            obtain ⟨q, hq⟩ : ∃ q, x.op = .h q := by
              cases hxo : x.op with
              | p q => rw [hxo] at hal; simp [IOp.isAlloc] at hal
              | h q => exact ⟨q, rfl⟩
            have hcq : compH P b o = some q := by
              unfold compO at hcx
              split at hcx
              · simp at hcx
              split at hcx
              · cases hcx; cases hq
              · split at hcx
                · rename_i q' hq'
                  cases hcx
                  cases hq
                  exact hq'
                · simp at hcx
            rw [hq] at hop
            obtain ⟨blk, cur, cap, u, a1, a2, a3, a4, a5, a6, a7, a8, a9⟩ := alloc_at hcq (by rw [hq] at hal; exact hal) hFS hop
            -- it stands ahead of the row's next
            have his : i < s := by
              rcases Nat.lt_or_ge i s with h1 | h1
              · exact h1
              · rcases hs3 with h2 | ⟨y, h2, h3⟩
                · omega
                · rcases Nat.lt_or_ge s i with h4 | h4
                  · have h5 := (okD_spec hD hxi h2).2.2.2 h4 (.inr ⟨hal, h3⟩)
                    have := (hs2 s y h2 h3).1 (hanc s h5)
                    omega
                  · have : s = i := by omega
                    subst this
                    rw [hxi] at h2
                    cases h2
                    rw [hch] at h3
                    simp at h3
            have hnoc : ∀ (m : Nat) (y : IO'), i + 1 ≤ m → m < s → l[m]? = some y → y.op.isChain = false := by
              intro m y g1 g2 g3
              cases hcc : y.op.isChain with
              | false => rfl
              | true =>
                exfalso
                have g4 := (hs2 m y g3 hcc).2 g2
                have g5 := (okD_spec hD g3 hxi).2.2.2 (by omega) (.inl ⟨hcc, .inr hal⟩)
                have hml : m < l.length := (List.getElem?_eq_some_iff.1 g3).1
                obtain ⟨om, ym, m1, m2, _⟩ := hx m (by omega)
                have := okE_spec hA hI.cl (m + 1) m om (by omega) m1 (hI.cl m om m1 g4) i g5
                rw [hnl] at this
                simp at this
            have hE : Ext (Hs (i + 1)) (Hs s) := by
              have := hext (s - (i + 1)) (i + 1) (by omega) fun m y g1 g2 g3 => hnoc m y g1 (by omega) g3
              rwa [show i + 1 + (s - (i + 1)) = s from by omega] at this
            have hlen1 : (Hs (i + 1)).length = (Hs i).length + 1 := by rw [a1]; simp
            have hfind : AHeap.find (Hs s) (Hs i).length = some blk := by
              rw [hE.2 _ (by omega), a1, AHeap.find_new]
            have hun : φ' (Hs i).length = none := hs6 i x hxi hal hlt (by omega) hnl
            obtain ⟨r1, r2⟩ := hs4.allocAt hun hfind cur cap a3 a4 a5 a6 a7 a8
            have hl0 : H.length ≤ (Hs i).length := by
              have := hmono' 0 i (Nat.zero_le _) (by omega)
              rwa [hH0] at this
            refine wp_value a2 (adv (φ'.add (Hs i).length w'.heap.size) s _ u hlt hs1 (hset_ch hch) hs3 r1 r2 (fun id hid => by unfold Phi.add; rw [if_neg (by omega)]) rfl rfl rfl (fun j y hj haj hjN hl2 hu => ?_) (a9 _ _ _ (by simp [Phi.add]) (heap_alloc_new w' _)))
            have e : i ≠ j := fun e => by
              subst e
              rw [getD_set_same' hils] at hu
              simp at hu
            rw [getD_set_ne' e] at hu
            have hne : (Hs j).length ≠ (Hs i).length := by
              rcases Nat.lt_or_ge i j with h1 | h1
              · have := hmono' (i + 1) j (by omega) (by omega)
                omega
              · have := hmono' (j + 1) i (by omega) (by omega)
                omega
            unfold Phi.add
            rw [if_neg hne]
            exact hs6 j y hj haj hjN hl2 hu
          | false =>
            have hload : ∀ m ag ad k id j f, x.op = .h (.load m ag ad) → X.ev tsS ad = .ptr k id j f → AHeap.find (Hs s) id = AHeap.find (Hs i) id := by
              intro m ag ad k id j f he hp'
              have hlo : LoadOf x (fs i) id := ⟨m, ag, ad, k, j, f, he, by rw [hev ad (by rw [he]; simp [IOp.xs, HO.xs])]; exact hp'⟩
              have hvr : ∃ bb, φ' id = some bb := by
                have hadx : ad ∈ x.op.xs := by rw [he]; simp [IOp.xs, HO.xs]
                cases ad with
                | k v =>
                  simp only [X.ev] at hp'
                  subst hp'
                  -- a constant is no address of own memory: such an operand is not made
                  unfold compO at hcx
                  split at hcx
                  · simp at hcx
                  split at hcx
                  · cases hcx; cases he
                  · split at hcx
                    · rename_i q' hq'
                      cases hcx
                      cases he
                      unfold compH at hq'
                      split at hq'
                      · split at hq' <;> cases hq'
                        rename_i xo _ ho1 _ hxo
                        have := ofX_spec hFS hxo
                        obtain ⟨bb, h1, _⟩ := VR_ptr this
                        exact ⟨bb, h1⟩
                      · split at hq' <;> (try split at hq') <;> (try split at hq') <;> (try split at hq') <;> simp at hq'
                      all_goals first
                        | (split at hq' <;> (try split at hq') <;> (try split at hq') <;> (try split at hq') <;> (try split at hq') <;> simp at hq'; done)
                        | (simp at hq'; done)
                        | skip
                    · simp at hcx
                | t t =>
                  have := hFS.2 t
                  simp only [X.ev] at hp'
                  rw [hp'] at this
                  obtain ⟨bb, h1, _⟩ := VR_ptr this
                  exact ⟨bb, h1⟩
              obtain ⟨bb, hbb⟩ := hvr
              have hids := (hs4.dom id bb hbb).1
              have both := fun c y (h1 : c < N) (h2 : l[c]? = some y) (h3 : y.op.isChain = true) (h4 : uno A i c = true) (h5 : id < (Hs c).length) => hrd.both i x id c y (Nat.zero_le _) hlt (Nat.zero_le _) h1 (by simpa using hxi) hlo hg (by simpa using h2) h3 h4 (by rw [uno_comm]; exact h4) h5
              rcases Nat.lt_or_ge s i with h1 | h1
              · -- it is taken early
                have key : ∀ k, s + k ≤ i → AHeap.find (Hs (s + k)) id = AHeap.find (Hs s) id ∧ id < (Hs (s + k)).length := by
                  intro k
                  induction k with
                  | zero => intro _; exact ⟨rfl, hids⟩
                  | succ k ih =>
                    intro hk
                    obtain ⟨e1, e2⟩ := ih (by omega)
                    obtain ⟨y, hy⟩ := hlx (s + k) (by omega)
                    have hl := (hst (s + k) y (by omega) hy).2
                    refine ⟨?_, Nat.lt_of_lt_of_le e2 hl.len⟩
                    rw [← e1]
                    cases hcc : y.op.isChain with
                    | false => exact (hl.ext hcc).2 id e2
                    | true =>
                      refine both (s + k) y (by omega) hy hcc ?_ e2
                      unfold uno
                      have n1 : anc A i (s + k) = false := by
                        cases hq : anc A i (s + k) with
                        | false => rfl
                        | true =>
                          have := (hs2 _ y hy hcc).1 (hanc _ hq)
                          omega
                      have n2 : anc A (s + k) i = false := by
                        cases hq : anc A (s + k) i with
                        | false => rfl
                        | true => have := (okD_spec hD hy hxi).1 i hq; omega
                      rw [n1, n2]; rfl
                have := (key (i - s) (by omega)).1
                rw [show s + (i - s) = i from by omega] at this
                exact this.symm
              · -- it is taken late, or in its turn
                have hidi : id < (Hs i).length := by
                  have h2 : ∃ blk, AHeap.find (Hs i) id = some blk := by
                    rw [he] at hop'
                    simp only [opK, HO.sem] at hop'
                    obtain ⟨_, _, _, _, _, _, e1, e2⟩ := hlo
                    rw [he] at e1
                    cases e1
                    rw [e2] at hop'
                    obtain ⟨blk, _, h3, _⟩ := hop'
                    exact ⟨blk, h3⟩
                  obtain ⟨blk, h3⟩ := h2
                  exact AHeap.find_lt h3
                have key : ∀ k, i + k ≤ s → AHeap.find (Hs (i + k)) id = AHeap.find (Hs i) id ∧ id < (Hs (i + k)).length := by
                  intro k
                  induction k with
                  | zero => intro _; exact ⟨rfl, hidi⟩
                  | succ k ih =>
                    intro hk
                    obtain ⟨e1, e2⟩ := ih (by omega)
                    obtain ⟨y, hy⟩ := hlx (i + k) (by omega)
                    have hl := (hst (i + k) y (by omega) hy).2
                    refine ⟨?_, Nat.lt_of_lt_of_le e2 hl.len⟩
                    rw [← e1]
                    cases hcc : y.op.isChain with
                    | false => exact (hl.ext hcc).2 id e2
                    | true =>
                      refine both (i + k) y (by omega) hy hcc ?_ e2
                      unfold uno
                      have n1 : anc A i (i + k) = false := by
                        cases hq : anc A i (i + k) with
                        | false => rfl
                        | true => have := (okD_spec hD hxi hy).1 _ hq; omega
                      have n2 : anc A (i + k) i = false := by
                        cases hq : anc A (i + k) i with
                        | false => rfl
                        | true =>
                          have g4 := (hs2 _ y hy hcc).2 (by omega)
                          have hml : i + k < l.length := (List.getElem?_eq_some_iff.1 hy).1
                          obtain ⟨om, ym, m1, m2, _⟩ := hx (i + k) (by omega)
                          have := okE_spec hA hI.cl (i + k + 1) (i + k) om (by omega) m1 (hI.cl _ om m1 g4) i hq
                          rw [hnl] at this
                          simp at this
                      rw [n1, n2]; rfl
                have := (key (s - i) (by omega)).1
                rw [show i + (s - i) = s from by omega] at this
                exact this
            obtain ⟨q1, q2⟩ := quiet_op (T := Hs s) hch hal hop hload
            refine op_wp hcx hs4 hFS q2 (fun v u φ2 H2 w2 k1 k2 k3 k4 => ?_) (fun v u φ2 H2 w2 k1 => k1.elim)
            obtain ⟨rfl, rfl⟩ := k1
            have hl0 : H.length ≤ (Hs s).length := by
              have := hmono' 0 s (Nat.zero_le _) hs1
              rwa [hH0] at this
            refine adv φ2 s w2 u hlt hs1 (hset_ch hch) hs3 k3 k4.toLater (fun id hid => k4.old id (by omega)) k4.os k4.tape k4.output (fun j y hj haj hjN hl2 hu => ?_) k2
            have h1 := hset_al hal j y hj haj hjN hl2 hu
            rcases Nat.lt_or_ge (Hs j).length (Hs s).length with h2 | h2
            · rw [k4.old _ h2]; exact h1
            · cases hφ : φ2 (Hs j).length with
              | none => rfl
              | some bb => have := (k3.dom _ _ hφ).1; omega
end
end Go.Proofs.Ytddhdlfafaobhaa
