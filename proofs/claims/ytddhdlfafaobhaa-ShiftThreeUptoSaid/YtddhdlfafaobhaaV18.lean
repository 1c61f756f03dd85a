/- Regions whose order is drawn: whatever the order, the end is the one that the text's order tells. -/
import Derived.Test.YtddhdlfafaobhaaV17
namespace Go.Proofs.Ytddhdlfafaobhaa
open Go.RowKit
set_option linter.unusedVariables false
set_option linter.unusedSimpArgs false

section
variable {P : Program}

theorem compOps_get {b : Bool} {ops : Array Oper} : ∀ {os : List Oper} {l : List IO'}, compOps P b ops os = some l → l.length = os.length ∧ ∀ (i : Nat) (o : Oper), os[i]? = some o → ∃ x, l[i]? = some x ∧ compO P b ops o = some x
  | [], l, h => by simp [compOps] at h; subst h; exact ⟨rfl, fun i o h => by simp at h⟩
  | o :: r, l, h => by
    unfold compOps at h
    split at h
    case h_2 => simp at h
    rename_i x s h1 h2
    cases h
    obtain ⟨k1, k2⟩ := compOps_get h2
    refine ⟨by simp [k1], fun i o' ho => ?_⟩
    cases i with
    | zero => simp at ho; subst ho; exact ⟨x, rfl, h1⟩
    | succ i => simp at ho; obtain ⟨y, h3, h4⟩ := k2 i o' ho; exact ⟨y, by simpa using h3, h4⟩

theorem putT_get (ts : List AV) (d : Option Nat) (v : AV) (t : Nat) : (putT ts d v).getD t .top = if d = some t ∧ t < ts.length then v else ts.getD t .top := by
  cases d with
  | none => simp [putT]
  | some d =>
    simp only [putT, List.getD, List.getElem?_set]
    by_cases e : d = t
    · subst e
      by_cases hl : d < ts.length
      · simp [hl]
      · simp [hl]
    · have : ¬ (some d = some t ∧ t < ts.length) := by simp [e]
      rw [if_neg e, if_neg this]

theorem guardK_congr {ts ts' : List AV} {yes no : Prop} {g : Option (Nat × Bool)} (h : ∀ d w, g = some (d, w) → ts.getD d .top = ts'.getD d .top) (hg : guardK ts yes no g) : guardK ts' yes no g := by
  cases g with
  | none => exact hg
  | some dw =>
    obtain ⟨d, w⟩ := dw
    simp only [guardK] at hg ⊢
    rw [← h d w rfl]
    exact hg

theorem guardK_map {ts : List AV} {yes no yes' no' : Prop} (h1 : yes → yes') (h2 : no → no') {g : Option (Nat × Bool)} (hg : guardK ts yes no g) : guardK ts yes' no' g := by
  cases g with
  | none => exact h1 hg
  | some dw =>
    obtain ⟨d, w⟩ := dw
    simp only [guardK] at hg ⊢
    split at hg
    · exact ⟨fun e => h1 (hg.1 e), fun e => h2 (hg.2 e)⟩
    · exact h2 hg
    · exact hg.elim

theorem guardK_iff {ts : List AV} {p q : Prop} (h : p ↔ q) {g : Option (Nat × Bool)} (hg : guardK ts True False g) : guardK ts True False g := hg

theorem opK_congr {ev ev' : X → AV} {H : AHeap} {K Kp : AV → AHeap → Prop} {q : IOp} (h : ∀ x ∈ q.xs, ev x = ev' x) : opK P ev H K Kp q = opK P ev' H K Kp q := by
  cases q with
  | p q => exact PO.sem_congr (K := fun v => K v H) h
  | h q => exact HO.sem_congr (K := K) (Kp := Kp) h

/-- An operation that neither lays nor acts: it leaves memory as it is, and hangs on no more than the block that it reads. -/
theorem quiet_op {ev : X → AV} {H T : AHeap} {v : AV} {H' : AHeap} {q : IOp} (hc : q.isChain = false) (ha : q.isAlloc = false) (h : opK P ev H (fun v' H'' => v' = v ∧ H'' = H') (fun _ _ => False) q)
    (hl : ∀ m ag a k id j f, q = .h (.load m ag a) → ev a = .ptr k id j f → AHeap.find T id = AHeap.find H id) : H' = H ∧ opK P ev T (fun v' H'' => v' = v ∧ H'' = T) (fun _ _ => False) q := by
  cases q with
  | p q =>
    obtain ⟨u, ⟨h1, h2⟩, h3⟩ := PO.sem_ex (show PO.sem ev (fun v' => v' = v ∧ H = H') q from h)
    refine ⟨h2.symm, ?_⟩
    show PO.sem ev (fun v' => v' = v ∧ T = T) q
    have e : (fun v' : AV => v' = v ∧ T = T) = fun v' => v' = u := by funext v'; simp [h1]
    rw [e]
    exact h3
  | h q =>
    cases q with
    | load m ag a =>
      have h' := h
      simp only [opK, HO.sem] at h' ⊢
      split at h'
      · rename_i k id j f he
        obtain ⟨blk, e, h1, h2, h3, h4, h5⟩ := h'
        exact ⟨h5.symm, blk, e, by rw [hl m ag a k id j f rfl he]; exact h1, h2, h3, h4, trivial⟩
      · obtain ⟨h1, h2, h3⟩ := h'
        exact ⟨h3.symm, h1, h2, trivial⟩
      · exact h'.elim
    | bsl k ty z ln ps =>
      obtain ⟨cs, ⟨h1, h2⟩, h3⟩ := elsA_ex (show elsA ev k (List.replicate ln z) ps (fun es => AV.lst k es (some []) = v ∧ H = H') from h)
      exact ⟨h2.symm, h3 _ ⟨h1, rfl⟩⟩
    | _ => first | (simp [IOp.isChain, HO.isChain] at hc; done) | (simp [IOp.isAlloc, HO.isAlloc] at ha; done)

theorem alloc_op {ev : X → AV} {H : AHeap} {v : AV} {H' : AHeap} {q : IOp} (ha : q.isAlloc = true) (h : opK P ev H (fun v' H'' => v' = v ∧ H'' = H') (fun _ _ => False) q) : ∃ blk, H' = some blk :: H := by
  cases q with
  | p q => simp [IOp.isAlloc] at ha
  | h q =>
    cases q with
    | alloc z ty => exact ⟨_, h.2.symm⟩
    | box k ty x => exact ⟨_, h.2.2.symm⟩
    | bslV k ty z ln ps =>
      obtain ⟨cs, ⟨h1, h2⟩, h3⟩ := elsA_ex (show elsA ev k (List.replicate ln z) ps (fun es => AV.vec k H.length 0 ln (some ln) = v ∧ some ⟨k, es, true, ty⟩ :: H = H') from h)
      exact ⟨_, h2.symm⟩
    | mksl k ty z l c =>
      simp only [opK, HO.sem] at h
      split at h
      · exact ⟨_, h.2.2.symm⟩
      · exact h.elim
    | _ => simp [IOp.isAlloc, HO.isAlloc] at ha

theorem chain_len {ev : X → AV} {H : AHeap} {v : AV} {H' : AHeap} {q : IOp} (h : opK P ev H (fun v' H'' => v' = v ∧ H'' = H') (fun _ _ => False) q) : H.length ≤ H'.length := by
  cases hc : q.isChain with
  | false =>
    cases ha : q.isAlloc with
    | false => rw [(quiet_op hc ha h (T := H) (fun _ _ _ _ _ _ _ _ _ => rfl)).1]; exact Nat.le_refl _
    | true => obtain ⟨blk, rfl⟩ := alloc_op ha h; simp
  | true =>
    cases q with
    | p q => simp [IOp.isChain] at hc
    | h q =>
      cases q with
      | store n a x =>
        simp only [opK, HO.sem] at h
        split at h
        · obtain ⟨blk, e, h1, h2, h3, h4, h5⟩ := h; rw [← h5, AHeap.set_length]; exact Nat.le_refl _
        · exact h.elim
      | app k ty s x =>
        simp only [opK, HO.sem] at h
        obtain ⟨ys, h, _⟩ := lsOf_ex h
        split at h
        · obtain ⟨h1, h2, h3⟩ := h
          by_cases e : ys = []
          · rw [← (h2 e).2]; exact Nat.le_refl _
          · rw [← (h3 e).2]; simp
        · rename_i k' id off n c _
          obtain ⟨blk, h1, h2, h3⟩ := h
          cases c with
          | none => rw [← h3.2.2]; simp [AHeap.set_length]
          | some m =>
            obtain ⟨h4, h5, h6⟩ := h3
            by_cases e : n + ys.length ≤ m
            · rw [← (h5 e).2, AHeap.set_length]; exact Nat.le_refl _
            · rw [← (h6 (by omega)).2]; simp
        · exact h.elim
      | call f as =>
        obtain ⟨e, H2, h1, h2⟩ := h
        cases e with
        | ret u => rw [← h2.2]; exact h1.1
        | pan u => exact h2.elim
      | callv f as =>
        simp only [opK, HO.sem] at h
        split at h
        · obtain ⟨_, e, H2, h1, h2⟩ := h
          cases e with
          | ret u => rw [← h2.2]; exact h1.1
          | pan u => exact h2.elim
        · exact h.elim
      | pan x =>
        simp only [opK, HO.sem] at h
        split at h <;> exact h.elim
      | _ => simp [IOp.isChain, HO.isChain] at hc

theorem StepOK.len {o : IO'} {ts : List AV} {H : AHeap} {v : AV} {H' : AHeap} (h : StepOK P o ts H v H') : H.length ≤ H'.length := by
  rcases h with ⟨_, h⟩ | ⟨_, _, rfl⟩
  · exact chain_len h
  · exact Nat.le_refl _

theorem StepOK.ext {o : IO'} {ts : List AV} {H : AHeap} {v : AV} {H' : AHeap} (h : StepOK P o ts H v H') (hc : o.op.isChain = false) : Ext H H' := by
  rcases h with ⟨_, h⟩ | ⟨_, _, rfl⟩
  · cases ha : o.op.isAlloc with
    | false => rw [(quiet_op hc ha h (T := H) (fun _ _ _ _ _ _ _ _ _ => rfl)).1]; exact Ext.refl _
    | true => obtain ⟨blk, rfl⟩ := alloc_op ha h; exact Ext.cons _ _
  · exact Ext.refl _

/-- The next place, from lo on, at which something is so; or the end. -/
theorem next_at (p : Nat → Bool) (N : Nat) : ∀ (k lo : Nat), lo + k = N → ∃ s, lo ≤ s ∧ s ≤ N ∧ (s = N ∨ p s = true) ∧ ∀ m, lo ≤ m → m < s → p m = false
  | 0, lo, h => ⟨lo, Nat.le_refl _, by omega, .inl (by omega), fun m h1 h2 => by omega⟩
  | k + 1, lo, h => by
    cases hp : p lo with
    | true => exact ⟨lo, Nat.le_refl _, by omega, .inr hp, fun m h1 h2 => by omega⟩
    | false =>
      obtain ⟨s, h1, h2, h3, h4⟩ := next_at p N k (lo + 1) (by omega)
      refine ⟨s, by omega, h2, h3, fun m g1 g2 => ?_⟩
      by_cases e : m = lo
      · rw [e]; exact hp
      · exact h4 m (by omega) g2

theorem getD_set_true' {listed : Array Bool} {i j : Nat} (h : listed.getD j false = true) : (listed.setIfInBounds i true).getD j false = true := by
  simp only [Array.getD_eq_getD_getElem?, Array.getElem?_setIfInBounds] at h ⊢
  by_cases e : i = j
  · subst e
    by_cases hl : i < listed.size
    · simp [hl]
    · simp [hl] at h
  · rw [if_neg e]; exact h
theorem getD_set_ne' {listed : Array Bool} {i j : Nat} (h : i ≠ j) : (listed.setIfInBounds i true).getD j false = listed.getD j false := by
  simp only [Array.getD_eq_getD_getElem?, Array.getElem?_setIfInBounds, if_neg h]
theorem getD_set_same' {listed : Array Bool} {i : Nat} (h : i < listed.size) : (listed.setIfInBounds i true).getD i false = true := by
  simp [Array.getD_eq_getD_getElem?, Array.getElem?_setIfInBounds, h]

theorem blankT_get : ∀ (l : List IO') (ts : List AV), (blankT l ts).length = ts.length ∧ ∀ t, (blankT l ts).getD t .top = .top ∨ ((blankT l ts).getD t .top = ts.getD t .top ∧ ∀ o ∈ l, o.dst ≠ some t)
  | [], ts => ⟨rfl, fun t => .inr ⟨rfl, by simp⟩⟩
  | o :: r, ts => by
    obtain ⟨h1, h2⟩ := blankT_get r (putT ts o.dst .top)
    simp only [blankT, List.foldl_cons] at h1 h2 ⊢
    refine ⟨by rw [h1, putT_length], fun t => ?_⟩
    rcases h2 t with h3 | ⟨h3, h4⟩
    · exact .inl h3
    · rw [putT_get] at h3
      by_cases e : o.dst = some t
      · by_cases hl : t < ts.length
        · rw [if_pos ⟨e, hl⟩] at h3
          exact .inl h3
        · left
          rw [h3, if_neg (by simp [hl])]
          simp [List.getD, List.getElem?_eq_none (Nat.le_of_not_lt hl)]
      · rw [if_neg (by simp [e])] at h3
        exact .inr ⟨h3, fun o' ho' => by
          rcases List.mem_cons.1 ho' with rfl | ho'
          · exact e
          · exact h4 o' ho'⟩
end
end Go.Proofs.Ytddhdlfafaobhaa
