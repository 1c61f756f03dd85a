/- Regions whose order is drawn: what is asked of them, told as they stand; what their operations leave. -/
import Derived.Test.YtddhdlfafaobhaaV15
namespace Go.Proofs.Ytddhdlfafaobhaa
open Go.RowKit
set_option linter.unusedVariables false
set_option linter.unusedSimpArgs false

def HO.isChain : HO → Bool
  | .store .. => true
  | .app .. => true
  | .call .. => true
  | .callv .. => true
  | .pan _ => true
  | _ => false
def HO.isAlloc : HO → Bool
  | .alloc .. => true
  | .box .. => true
  | .bslV .. => true
  | .mksl .. => true
  | _ => false
def IOp.isChain : IOp → Bool
  | .h q => q.isChain
  | _ => false
def IOp.isAlloc : IOp → Bool
  | .h q => q.isAlloc
  | _ => false
def IOp.xs : IOp → List X
  | .p q => q.xs
  | .h q => q.xs

def anc (A : List (List Nat)) (i j : Nat) : Bool := (A.getD i []).contains j
def uno (A : List (List Nat)) (i j : Nat) : Bool := !anc A i j && !anc A j i
def lastB (A : List (List Nat)) (n i : Nat) : Bool := (List.range n).all fun j => decide (j ≤ i) || anc A j i

def stepD (P : Program) (A : List (List Nat)) (n i : Nat) (ev : X → AV) (H : AHeap) (ld : List (Nat × Nat)) (hs : List (Nat × AHeap × AHeap)) (C : AV → AHeap → List (Nat × Nat) → List (Nat × AHeap × AHeap) → Prop) (Kp : AV → AHeap → Prop) : IOp → Prop
  | .p q => PO.sem ev (fun v => C v H ld hs) q
  | .h (.load m ag a) => match ev a with
    | .ptr k id j f => (∀ c ∈ hs, uno A c.1 i = true → id < c.2.1.length → AHeap.find c.2.2 id = AHeap.find c.2.1 id) ∧ HO.sem P ev H (fun v H' => C v H' ((i, id) :: ld) hs) (fun _ _ => False) (.load m ag a)
    | _ => HO.sem P ev H (fun v H' => C v H' ld hs) (fun _ _ => False) (.load m ag a)
  | .h q => if q.isChain then HO.sem P ev H (fun v H' => (∀ l ∈ ld, uno A l.1 i = true → AHeap.find H' l.2 = AHeap.find H l.2) ∧ C v H' ld ((i, H, H') :: hs)) (fun v H' => lastB A n i = true ∧ Kp v H') q
    else HO.sem P ev H (fun v H' => C v H' ld hs) (fun _ _ => False) q

def runD (P : Program) (A : List (List Nat)) (n : Nat) (K : List AV → AHeap → Prop) (Kp : AV → AHeap → Prop) : Nat → List IO' → List AV → AHeap → List (Nat × Nat) → List (Nat × AHeap × AHeap) → Prop
  | _, [], ts, H, _, _ => K ts H
  | i, o :: r, ts, H, ld, hs => guardK ts (stepD P A n i (X.ev ts) H ld hs (fun v H' ld' hs' => runD P A n K Kp (i + 1) r (putT ts o.dst v) H' ld' hs') Kp o.op) (runD P A n K Kp (i + 1) r (putT ts o.dst (.tup [])) H ld hs) o.guard

theorem lsOf_ex {H : AHeap} {k : Nat} {x : AV} {K : List AV → Prop} (h : lsOf H k x K) : ∃ ys, K ys ∧ ∀ L : List AV → Prop, L ys → lsOf H k x L := by
  cases x <;> try exact False.elim h
  · exact ⟨_, h.2, fun L hL => ⟨h.1, hL⟩⟩
  · obtain ⟨blk, h1, h2, h3⟩ := h
    exact ⟨_, h3, fun L hL => ⟨blk, h1, h2, hL⟩⟩

theorem HO.sem_ex {P : Program} {ev : X → AV} {H : AHeap} {K Kp : AV → AHeap → Prop} : ∀ {q : HO}, HO.sem P ev H K Kp q →
    (∃ v H', K v H' ∧ HO.sem P ev H (fun v' H'' => v' = v ∧ H'' = H') (fun _ _ => False) q) ∨ (q.isChain = true ∧ ∃ v H', Kp v H' ∧ HO.sem P ev H (fun _ _ => False) (fun v' H'' => v' = v ∧ H'' = H') q) := by
  intro q h
  cases q with
  | load n ag a =>
    simp only [HO.sem] at h ⊢
    left
    split at h
    · obtain ⟨blk, e, h1, h2, h3, h4⟩ := h; exact ⟨_, _, h4, blk, e, h1, h2, h3, rfl, rfl⟩
    · exact ⟨_, _, h.2, h.1, rfl, rfl⟩
    · exact h.elim
  | alloc z ty => exact .inl ⟨_, _, h, rfl, rfl⟩
  | box k ty x => exact .inl ⟨_, _, h.2, h.1, rfl, rfl⟩
  | bsl k ty z ln ps =>
    obtain ⟨cs, h1, h2⟩ := elsA_ex h
    exact .inl ⟨_, _, h1, h2 _ ⟨rfl, rfl⟩⟩
  | bslV k ty z ln ps =>
    obtain ⟨cs, h1, h2⟩ := elsA_ex h
    exact .inl ⟨_, _, h1, h2 _ ⟨rfl, rfl⟩⟩
  | store n a x =>
    simp only [HO.sem] at h ⊢
    left
    split at h
    · obtain ⟨blk, e, h1, h2, h3, h4⟩ := h; exact ⟨_, _, h4, blk, e, h1, h2, h3, rfl, rfl⟩
    · exact h.elim
  | mksl k ty z l c =>
    simp only [HO.sem] at h ⊢
    left
    split at h
    · exact ⟨_, _, h.2, h.1, rfl, rfl⟩
    · exact h.elim
  | app k ty s x =>
    simp only [HO.sem] at h ⊢
    left
    obtain ⟨ys, h, hL⟩ := lsOf_ex h
    split at h
    · obtain ⟨h1, h2, h3⟩ := h
      by_cases e : ys = []
      · exact ⟨_, _, h2 e, hL _ ⟨h1, fun _ => ⟨rfl, rfl⟩, fun h => absurd e h⟩⟩
      · exact ⟨_, _, h3 e, hL _ ⟨h1, fun h => absurd h e, fun _ => ⟨rfl, rfl⟩⟩⟩
    · rename_i k' id off n c _
      obtain ⟨blk, h1, h2, h3⟩ := h
      cases c with
      | none => exact ⟨_, _, h3.2, hL _ ⟨blk, h1, h2, h3.1, rfl, rfl⟩⟩
      | some m =>
        obtain ⟨h4, h5, h6⟩ := h3
        by_cases e : n + ys.length ≤ m
        · exact ⟨_, _, h5 e, hL _ ⟨blk, h1, h2, h4, fun _ => ⟨rfl, rfl⟩, fun h => by omega⟩⟩
        · exact ⟨_, _, h6 (by omega), hL _ ⟨blk, h1, h2, h4, fun h => absurd h e, fun _ => ⟨rfl, rfl⟩⟩⟩
    · exact h.elim
  | call f as =>
    obtain ⟨e, H', h1, h2⟩ := h
    cases e with
    | ret v => exact .inl ⟨v, H', h2, _, _, h1, rfl, rfl⟩
    | pan v => exact .inr ⟨rfl, v, H', h2, _, _, h1, rfl, rfl⟩
  | callv f as =>
    simp only [HO.sem] at h ⊢
    split at h
    · obtain ⟨h0, e, H', h1, h2⟩ := h
      cases e with
      | ret v => exact .inl ⟨v, H', h2, h0, _, _, h1, rfl, rfl⟩
      | pan v => exact .inr ⟨rfl, v, H', h2, h0, _, _, h1, rfl, rfl⟩
    · exact h.elim
  | pan x =>
    simp only [HO.sem] at h ⊢
    right
    split at h
    · exact ⟨rfl, _, _, h, rfl, rfl⟩
    · exact h.elim

/-- One later step of a row of operations, as the text goes. -/
def StepOK (P : Program) (o : IO') (ts : List AV) (H : AHeap) (v : AV) (H' : AHeap) : Prop :=
  (guardK ts True False o.guard ∧ opK P (X.ev ts) H (fun v' H'' => v' = v ∧ H'' = H') (fun _ _ => False) o.op) ∨ (guardK ts False True o.guard ∧ v = .tup [] ∧ H' = H)
def PanAt (P : Program) (o : IO') (ts : List AV) (H : AHeap) (v : AV) (H' : AHeap) : Prop :=
  guardK ts True False o.guard ∧ o.op.isChain = true ∧ opK P (X.ev ts) H (fun _ _ => False) (fun v' H'' => v' = v ∧ H'' = H') o.op
def LoadOf (o : IO') (ts : List AV) (id : Nat) : Prop := ∃ m ag a k j f, o.op = .h (.load m ag a) ∧ X.ev ts a = .ptr k id j f

/-- The road through the operations from i on, as the text goes. -/
structure Road (P : Program) (A : List (List Nat)) (n : Nat) (K : List AV → AHeap → Prop) (Kp : AV → AHeap → Prop) (i : Nat) (r : List IO') (ld : List (Nat × Nat)) (hs : List (Nat × AHeap × AHeap)) (N : Nat) (vs : Nat → AV) (Hs : Nat → AHeap) (fs : Nat → List AV) : Prop where
  lo : i ≤ N
  hi : N ≤ i + r.length
  step : ∀ m o, i ≤ m → m < N → r[m - i]? = some o → fs (m + 1) = putT (fs m) o.dst (vs m) ∧ StepOK P o (fs m) (Hs m) (vs m) (Hs (m + 1))
  ldc : ∀ l ∈ ld, ∀ c o, i ≤ c → c < N → r[c - i]? = some o → o.op.isChain = true → uno A l.1 c = true → AHeap.find (Hs (c + 1)) l.2 = AHeap.find (Hs c) l.2
  hsc : ∀ c ∈ hs, ∀ m o id, i ≤ m → m < N → r[m - i]? = some o → LoadOf o (fs m) id → guardK (fs m) True False o.guard → uno A c.1 m = true → id < c.2.1.length → AHeap.find c.2.2 id = AHeap.find c.2.1 id
  both : ∀ m o id c o', i ≤ m → m < N → i ≤ c → c < N → r[m - i]? = some o → LoadOf o (fs m) id → guardK (fs m) True False o.guard → r[c - i]? = some o' → o'.op.isChain = true → uno A m c = true → uno A c m = true → id < (Hs c).length → AHeap.find (Hs (c + 1)) id = AHeap.find (Hs c) id
  fin : (N = i + r.length ∧ K (fs N) (Hs N)) ∨ ∃ o v H', r[N - i]? = some o ∧ PanAt P o (fs N) (Hs N) v H' ∧ lastB A n N = true ∧ Kp v H'

theorem guardK_cases {ts : List AV} {yes no : Prop} : ∀ {g : Option (Nat × Bool)}, guardK ts yes no g → (guardK ts True False g ∧ yes) ∨ (guardK ts False True g ∧ no)
  | none, h => .inl ⟨trivial, h⟩
  | some (d, want), h => by
    simp only [guardK] at h ⊢
    split at h
    · rename_i b _
      by_cases e : b = want
      · exact .inl ⟨⟨fun _ => trivial, fun h => absurd e h⟩, h.1 e⟩
      · exact .inr ⟨⟨fun h => absurd h e, fun _ => trivial⟩, h.2 e⟩
    · exact .inr ⟨trivial, h⟩
    · exact h.elim

theorem uno_comm (A : List (List Nat)) (i j : Nat) : uno A i j = uno A j i := by unfold uno; rw [Bool.and_comm]

/-- One step, then the road from there. -/
theorem Road.cons {P : Program} {A : List (List Nat)} {n : Nat} {K : List AV → AHeap → Prop} {Kp : AV → AHeap → Prop} {i : Nat} {o : IO'} {r : List IO'} {ld ld' : List (Nat × Nat)} {hs hs' : List (Nat × AHeap × AHeap)} {ts : List AV} {H : AHeap} {v : AV} {H' : AHeap}
    (hst : StepOK P o ts H v H') {N : Nat} {vs : Nat → AV} {Hs : Nat → AHeap} {fs : Nat → List AV} (hrd : Road P A n K Kp (i + 1) r ld' hs' N vs Hs fs) (hf : fs (i + 1) = putT ts o.dst v) (hH : Hs (i + 1) = H')
    (hld : ∀ l ∈ ld, l ∈ ld' ∧ (o.op.isChain = true → uno A l.1 i = true → AHeap.find H' l.2 = AHeap.find H l.2))
    (hhs : ∀ c ∈ hs, c ∈ hs' ∧ ∀ id, LoadOf o ts id → guardK ts True False o.guard → uno A c.1 i = true → id < c.2.1.length → AHeap.find c.2.2 id = AHeap.find c.2.1 id)
    (hnew : ∀ id, LoadOf o ts id → guardK ts True False o.guard → (i, id) ∈ ld') (hch : o.op.isChain = true → (i, H, H') ∈ hs' ∨ (H' = H)) :
    ∃ vs2 Hs2 fs2, Road P A n K Kp i (o :: r) ld hs N vs2 Hs2 fs2 ∧ Hs2 i = H ∧ fs2 i = ts := by
  have hlo := hrd.lo
  have hget : ∀ m, i + 1 ≤ m → (o :: r)[m - i]? = r[m - (i + 1)]? := fun m hm => by
    rw [show m - i = (m - (i + 1)) + 1 from by omega]
    simp
  have hat : ∀ o', (o :: r)[i - i]? = some o' → o' = o := fun o' h => by simpa using h.symm
  refine ⟨fun m => if m = i then v else vs m, fun m => if m = i then H else Hs m, fun m => if m = i then ts else fs m, ?_, by simp, by simp⟩
  have e1 : ∀ {α : Type} (x y : α) m, i + 1 ≤ m → (if m = i then x else y) = y := fun x y m hm => by rw [if_neg (by omega)]
  refine ⟨by omega, by have := hrd.hi; simp; omega, ?_, ?_, ?_, ?_, ?_⟩
  · intro m o' hm hmN ho'
    by_cases e : m = i
    · subst e
      cases hat o' ho'
      simp only [if_true]
      rw [if_neg (by omega), if_neg (by omega), hf, hH]
      exact ⟨rfl, hst⟩
    · rw [hget m (by omega)] at ho'
      have := hrd.step m o' (by omega) hmN ho'
      rw [if_neg e, if_neg e, if_neg e, if_neg (by omega), if_neg (by omega)]
      exact this
  · intro l hl c o' hc hcN ho' hch' hu
    by_cases e : c = i
    · subst e
      cases hat o' ho'
      simp only [if_true]
      rw [if_neg (by omega), hH]
      exact (hld l hl).2 hch' hu
    · rw [hget c (by omega)] at ho'
      rw [if_neg e, if_neg (by omega)]
      exact hrd.ldc l (hld l hl).1 c o' (by omega) hcN ho' hch' hu
  · intro c hc m o' id hm hmN ho' hl hg hu hid
    by_cases e : m = i
    · subst e
      cases hat o' ho'
      simp only [if_true] at hl hg
      exact (hhs c hc).2 id hl hg hu hid
    · rw [hget m (by omega)] at ho'
      simp only [if_neg e] at hl hg
      exact hrd.hsc c (hhs c hc).1 m o' id (by omega) hmN ho' hl hg hu hid
  · intro m o1 id c o2 hm hmN hc hcN ho1 hl hg ho2 hch' hu hu' hid
    by_cases e : m = i
    · subst e
      cases hat o1 ho1
      simp only [if_true] at hl hg
      by_cases e2 : c = m
      · subst e2
        cases hat o2 ho2
        obtain ⟨_, _, _, _, _, _, hop, _⟩ := hl
        rw [hop] at hch'
        simp [IOp.isChain, HO.isChain] at hch'
      · rw [hget c (by omega)] at ho2
        simp only [if_neg e2] at hid ⊢
        rw [if_neg (by omega)]
        exact hrd.ldc (m, id) (hnew id hl hg) c o2 (by omega) hcN ho2 hch' hu
    · by_cases e2 : c = i
      · subst e2
        cases hat o2 ho2
        rw [hget m (by omega)] at ho1
        simp only [if_neg e] at hl hg
        simp only [if_true] at hid ⊢
        rw [if_neg (by omega), hH]
        rcases hch hch' with h1 | h1
        · exact hrd.hsc (c, H, H') h1 m o1 id (by omega) hmN ho1 hl hg hu' hid
        · rw [h1]
      · rw [hget m (by omega)] at ho1
        rw [hget c (by omega)] at ho2
        simp only [if_neg e] at hl hg
        simp only [if_neg e2] at hid ⊢
        rw [if_neg (by omega)]
        exact hrd.both m o1 id c o2 (by omega) hmN (by omega) hcN ho1 hl hg ho2 hch' hu hu' hid
  · have e2 : N ≠ i := by omega
    simp only [if_neg e2]
    rcases hrd.fin with ⟨h1, h2⟩ | ⟨o', v', H2, h1, h2⟩
    · exact .inl ⟨by rw [h1]; simp; omega, h2⟩
    · exact .inr ⟨o', v', H2, by rw [hget N (by omega)]; exact h1, h2⟩

theorem runD_road {P : Program} {A : List (List Nat)} {n : Nat} {K : List AV → AHeap → Prop} {Kp : AV → AHeap → Prop} : ∀ (r : List IO') (i : Nat) (ts : List AV) (H : AHeap) (ld : List (Nat × Nat)) (hs : List (Nat × AHeap × AHeap)), runD P A n K Kp i r ts H ld hs →
    ∃ N vs Hs fs, Road P A n K Kp i r ld hs N vs Hs fs ∧ Hs i = H ∧ fs i = ts
  | [], i, ts, H, ld, hs, h => by
    refine ⟨i, fun _ => .top, fun _ => H, fun _ => ts, ⟨Nat.le_refl _, by simp, fun m o h1 h2 => by omega, fun l _ c o h1 h2 => by omega, fun c _ m o id h1 h2 => by omega, fun m o id c o' h1 h2 => by omega, .inl ⟨by simp, h⟩⟩, rfl, rfl⟩
  | o :: r, i, ts, H, ld, hs, h => by
    simp only [runD] at h
    rcases guardK_cases h with ⟨hg, hy⟩ | ⟨hg, hn⟩
    case inr =>
      obtain ⟨N, vs, Hs, fs, h1, h2, h3⟩ := runD_road r (i + 1) _ _ _ _ hn
      have hgno : ¬ guardK ts True False o.guard := by
        intro hc
        cases hgo : o.guard with
        | none => rw [hgo] at hg; exact hg
        | some dw =>
          obtain ⟨d, want⟩ := dw
          rw [hgo] at hg hc
          simp only [guardK] at hg hc
          split at hg
          · rename_i b he
            rw [he] at hc
            by_cases e : b = want
            · exact hg.1 e
            · exact hc.2 e
          · rename_i _ he
            rw [he] at hc
            exact hc
          · exact hg
      have hst : StepOK P o ts H (.tup []) H := .inr ⟨hg, rfl, rfl⟩
      obtain ⟨a, b, c, k⟩ := Road.cons hst h1 h3 h2 (fun l hl => ⟨hl, fun _ _ => rfl⟩) (fun c hc => ⟨hc, fun id _ hgg => absurd hgg hgno⟩) (fun id _ hgg => absurd hgg hgno) (fun _ => .inr rfl)
      exact ⟨N, a, b, c, k⟩
    case inl =>
      have plain : ∀ (v : AV) (H' : AHeap), opK P (X.ev ts) H (fun v' H'' => v' = v ∧ H'' = H') (fun _ _ => False) o.op → runD P A n K Kp (i + 1) r (putT ts o.dst v) H' ld hs → (∀ id, ¬ LoadOf o ts id) → o.op.isChain = false → ∃ N vs Hs fs, Road P A n K Kp i (o :: r) ld hs N vs Hs fs ∧ Hs i = H ∧ fs i = ts := by
        intro v H' h1 h2 h3 h4
        obtain ⟨N, vs, Hs, fs, k1, k2, k3⟩ := runD_road r (i + 1) _ _ _ _ h2
        have hst : StepOK P o ts H v H' := .inl ⟨hg, h1⟩
        obtain ⟨a, b, c, k⟩ := Road.cons hst k1 k3 k2 (fun l hl => ⟨hl, fun h => by rw [h4] at h; simp at h⟩) (fun c hc => ⟨hc, fun id hl => absurd hl (h3 id)⟩) (fun id hl => absurd hl (h3 id)) (fun h => by rw [h4] at h; simp at h)
        exact ⟨N, a, b, c, k⟩
      cases hop : o.op with
      | p q =>
        rw [hop] at hy
        obtain ⟨v, h1, h2⟩ := PO.sem_ex (show PO.sem (X.ev ts) (fun v => runD P A n K Kp (i + 1) r (putT ts o.dst v) H ld hs) q from hy)
        have h2' : opK P (X.ev ts) H (fun v' H'' => v' = v ∧ H'' = H) (fun _ _ => False) o.op := by
          rw [hop]
          show PO.sem (X.ev ts) (fun u => u = v ∧ H = H) q
          have e : (fun u => u = v ∧ H = H) = fun u => u = v := by funext u; simp
          rw [e]
          exact h2
        exact plain v H h2' h1 (fun id hl => by obtain ⟨_, _, _, _, _, _, e, _⟩ := hl; rw [hop] at e; cases e) (by rw [hop]; rfl)
      | h q =>
        rw [hop] at hy
        by_cases hload : ∃ m ag a, q = .load m ag a
        · obtain ⟨m, ag, a, rfl⟩ := hload
          simp only [stepD] at hy
          split at hy
          · rename_i k id j f he
            obtain ⟨hc, hy⟩ := hy
            rcases HO.sem_ex hy with ⟨v, H', h1, h2⟩ | ⟨h0, _⟩
            · obtain ⟨N, vs, Hs, fs, k1, k2, k3⟩ := runD_road r (i + 1) _ _ _ _ h1
              have hst : StepOK P o ts H v H' := .inl ⟨hg, by rw [hop]; exact h2⟩
              have hone : ∀ id', LoadOf o ts id' → id' = id := by
                rintro id' ⟨_, _, a', _, _, _, e1, e2⟩
                rw [hop] at e1
                cases e1
                rw [he] at e2
                cases e2
                rfl
              have hnc : o.op.isChain = false := by rw [hop]; rfl
              obtain ⟨a, b, c, k⟩ := Road.cons hst k1 k3 k2 (fun l hl => ⟨List.mem_cons_of_mem _ hl, fun h => by rw [hnc] at h; simp at h⟩) (fun c hc' => ⟨hc', fun id' hl _ hu hid => by
                cases hone id' hl; exact hc c hc' hu hid⟩) (fun id' hl _ => by cases hone id' hl; simp) (fun h => by rw [hnc] at h; simp at h)
              exact ⟨N, a, b, c, k⟩
            · simp [HO.isChain] at h0
          · rename_i hne
            rcases HO.sem_ex hy with ⟨v, H', h1, h2⟩ | ⟨h0, _⟩
            · exact plain v H' (by rw [hop]; exact h2) h1 (fun id hl => by
                obtain ⟨_, _, a', k, j, f, e1, e2⟩ := hl
                rw [hop] at e1
                cases e1
                exact hne _ _ _ _ e2) (by rw [hop]; rfl)
            · simp [HO.isChain] at h0
        · have hnl : ∀ id, ¬ LoadOf o ts id := by
            rintro id ⟨m, ag, a, _, _, _, e1, _⟩
            rw [hop] at e1
            cases e1
            exact hload ⟨_, _, _, rfl⟩
          have hy' : if q.isChain then HO.sem P (X.ev ts) H (fun v H' => (∀ l ∈ ld, uno A l.1 i = true → AHeap.find H' l.2 = AHeap.find H l.2) ∧ runD P A n K Kp (i + 1) r (putT ts o.dst v) H' ld ((i, H, H') :: hs)) (fun v H' => lastB A n i = true ∧ Kp v H') q
              else HO.sem P (X.ev ts) H (fun v H' => runD P A n K Kp (i + 1) r (putT ts o.dst v) H' ld hs) (fun _ _ => False) q := by
            cases q <;> first | exact hy | exact absurd ⟨_, _, _, rfl⟩ hload
          cases hcn : q.isChain with
          | false =>
            rw [hcn] at hy'
            simp only [Bool.false_eq_true, if_false] at hy'
            rcases HO.sem_ex hy' with ⟨v, H', h1, h2⟩ | ⟨h0, _⟩
            · exact plain v H' (by rw [hop]; exact h2) h1 hnl (by rw [hop]; exact hcn)
            · rw [hcn] at h0; simp at h0
          | true =>
            rw [hcn] at hy'
            simp only [if_true] at hy'
            have hch : o.op.isChain = true := by rw [hop]; exact hcn
            rcases HO.sem_ex hy' with ⟨v, H', ⟨h0, h1⟩, h2⟩ | ⟨_, v, H', ⟨h0, h1⟩, h2⟩
            · obtain ⟨N, vs, Hs, fs, k1, k2, k3⟩ := runD_road r (i + 1) _ _ _ _ h1
              have hst : StepOK P o ts H v H' := .inl ⟨hg, by rw [hop]; exact h2⟩
              obtain ⟨a, b, c, k⟩ := Road.cons hst k1 k3 k2 (fun l hl => ⟨hl, fun _ hu => h0 l hl hu⟩) (fun c hc => ⟨List.mem_cons_of_mem _ hc, fun id hl => absurd hl (hnl id)⟩) (fun id hl => absurd hl (hnl id)) (fun _ => .inl (by simp))
              exact ⟨N, a, b, c, k⟩
            · refine ⟨i, fun _ => .top, fun _ => H, fun _ => ts, ⟨Nat.le_refl _, by simp, fun m o h1 h2 => by omega, fun l _ c o h1 h2 => by omega, fun c _ m o id h1 h2 => by omega, fun m o id c o' h1 h2 => by omega, .inr ⟨o, v, H', by simp, ⟨hg, hch, by rw [hop]; exact h2⟩, h0, h1⟩⟩, rfl, rfl⟩
end Go.Proofs.Ytddhdlfafaobhaa
