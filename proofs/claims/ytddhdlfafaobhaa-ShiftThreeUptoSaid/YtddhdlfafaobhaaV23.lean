/- Evaluation: the walk of abstract code in a form that computes; the equations. -/
import Derived.Test.YtddhdlfafaobhaaV22
namespace Go.Proofs.Ytddhdlfafaobhaa
open Go.RowKit
set_option linter.unusedVariables false
set_option linter.unusedSimpArgs false

def ldOk (H : AHeap) (n : Nat) (ag : Bool) : AV → Prop
  | .ptr k id j f => match AHeap.find H id with
    | some blk => blk.k = k ∧ j < blk.es.length ∧ AV.subOk (blk.es.getD j .top) f n ag
    | none => False
  | .lp x f => AV.subOk x f n ag
  | _ => False
def ldV (H : AHeap) (n : Nat) (ag : Bool) : AV → AV
  | .ptr _ id j f => match AHeap.find H id with
    | some blk => AV.sub (blk.es.getD j .top) f n ag
    | none => .top
  | .lp x f => AV.sub x f n ag
  | _ => .top
def stOk (H : AHeap) (n : Nat) : AV → AV → Prop
  | .ptr k id j f, x => match AHeap.find H id with
    | some blk => blk.k = k ∧ j < blk.es.length ∧ x.isTop = false ∧ x.ncells = n ∧ f + n ≤ (blk.es.getD j .top).ncells ∧ ((blk.es.getD j .top).isAgg || !x.isAgg) = true
    | none => False
  | _, _ => False
def stH (H : AHeap) : AV → AV → AHeap
  | .ptr k id j f, x => match AHeap.find H id with
    | some blk => AHeap.set H id (some { blk with es := blk.es.set j (AV.upd (blk.es.getD j .top) f x) })
    | none => H
  | _, _ => H

def elsV (ev : X → AV) : List AV → List (Nat × X) → List AV
  | es, [] => es
  | es, (i, x) :: r => elsV ev (es.set i (ev x)) r
def elsOk (ev : X → AV) (k : Nat) : List AV → List (Nat × X) → Prop
  | _, [] => True
  | es, (i, x) :: r => ((ev x).isTop = false ∧ (ev x).ncells = k ∧ i < es.length) ∧ elsOk ev k (es.set i (ev x)) r
theorem elsA_iff {ev : X → AV} {k : Nat} {K : List AV → Prop} : ∀ {ps : List (Nat × X)} {es : List AV}, elsA ev k es ps K ↔ elsOk ev k es ps ∧ K (elsV ev es ps)
  | [], es => by simp [elsA, elsOk, elsV]
  | (i, x) :: r, es => by simp only [elsA, elsOk, elsV, elsA_iff (ps := r), and_assoc]

def lsOk (H : AHeap) (k : Nat) : AV → Prop
  | .lst k' ys _ => k' = k ∨ ys = []
  | .vec k' id off n _ => match AHeap.find H id with
    | some blk => k' = k ∧ blk.k = k ∧ off + n ≤ blk.es.length
    | none => False
  | _ => False
def lsV (H : AHeap) : AV → List AV
  | .lst _ ys _ => ys
  | .vec _ id off n _ => match AHeap.find H id with
    | some blk => (blk.es.drop off).take n
    | none => []
  | _ => []

def intV : AV → Int
  | .sc (.int _ n) => n
  | _ => 0
def isIntV : AV → Prop
  | .sc (.int _ _) => True
  | _ => False

/-- An append: what it asks, tells and leaves. -/
def apOk (H : AHeap) (k ty : Nat) (ys : List AV) : AV → Prop
  | .lst k' xs (some []) => (k' = k ∨ xs = []) ∧ xs.length + ys.length ≤ 100000000
  | .vec k' id off n none => match AHeap.find H id with
    | some blk => (k' = k ∧ blk.k = k ∧ blk.ty = ty ∧ off = 0 ∧ n + ys.length ≤ 100000000) ∧ blk.exact = false ∧ n = blk.es.length
    | none => False
  | .vec k' id off n (some m) => match AHeap.find H id with
    | some blk => (k' = k ∧ blk.k = k ∧ blk.ty = ty ∧ off = 0 ∧ n + ys.length ≤ 100000000) ∧ blk.exact = true ∧ m = blk.es.length ∧ n ≤ m
    | none => False
  | _ => False
def apV (H : AHeap) (k : Nat) (ys : List AV) : AV → AV
  | .lst k' xs (some []) => match ys with
    | [] => .lst k' xs (some [])
    | _ :: _ => .vec k H.length 0 (xs.length + ys.length) none
  | .vec _ id _ n none => .vec k H.length 0 (n + ys.length) none
  | .vec _ id _ n (some m) => if n + ys.length ≤ m then .vec k id 0 (n + ys.length) (some m) else .vec k H.length 0 (n + ys.length) none
  | _ => .top
def apH (H : AHeap) (k ty : Nat) (ys : List AV) : AV → AHeap
  | .lst _ xs (some []) => match ys with
    | [] => H
    | _ :: _ => some ⟨k, xs ++ ys, false, ty⟩ :: H
  | .vec _ id _ n none => match AHeap.find H id with
    | some blk => some ⟨k, blk.es ++ ys, false, ty⟩ :: AHeap.set H id none
    | none => H
  | .vec _ id _ n (some m) => match AHeap.find H id with
    | some blk => if n + ys.length ≤ m then AHeap.set H id (some { blk with es := blk.es.take n ++ ys ++ blk.es.drop (n + ys.length) }) else some ⟨k, blk.es.take n ++ ys, false, ty⟩ :: H
    | none => H
  | _ => H

def HO.okS (ev : X → AV) (H : AHeap) : HO → Prop
  | .load n ag a => ldOk H n ag (ev a)
  | .alloc _ _ => True
  | .box k _ x => (ev x).isTop = false ∧ (ev x).ncells = k
  | .bsl k _ z ln ps => elsOk ev k (List.replicate ln z) ps
  | .bslV k _ z ln ps => elsOk ev k (List.replicate ln z) ps
  | .store n a x => stOk H n (ev a) (ev x)
  | .mksl _ _ _ l c => isIntV (ev l) ∧ isIntV (ev c) ∧ 0 ≤ intV (ev l) ∧ intV (ev l) ≤ intV (ev c) ∧ intV (ev c) ≤ 100000000
  | .app k ty s x => lsOk H k (ev x) ∧ apOk H k ty (lsV H (ev x)) (ev s)
  | _ => False
def HO.valS (ev : X → AV) (H : AHeap) : HO → AV
  | .load n ag a => ldV H n ag (ev a)
  | .alloc z _ => .ptr z.ncells H.length 0 0
  | .box k _ _ => .ptr k H.length 0 0
  | .bsl k _ z ln ps => .lst k (elsV ev (List.replicate ln z) ps) (some [])
  | .bslV k _ _ ln _ => .vec k H.length 0 ln (some ln)
  | .store _ _ _ => .top
  | .mksl k _ _ l c => .vec k H.length 0 (intV (ev l)).toNat (some (intV (ev c)).toNat)
  | .app k _ s x => apV H k (lsV H (ev x)) (ev s)
  | _ => .top
def HO.heapS (ev : X → AV) (H : AHeap) : HO → AHeap
  | .alloc z ty => some ⟨z.ncells, [z], true, ty⟩ :: H
  | .box k ty x => some ⟨k, [ev x], true, ty⟩ :: H
  | .bslV k ty z ln ps => some ⟨k, elsV ev (List.replicate ln z) ps, true, ty⟩ :: H
  | .store _ a x => stH H (ev a) (ev x)
  | .mksl k ty z _ c => some ⟨k, List.replicate (intV (ev c)).toNat z, true, ty⟩ :: H
  | .app k ty s x => apH H k ty (lsV H (ev x)) (ev s)
  | _ => H

theorem getElem_of {α : Type} {l : List α} {j : Nat} {d : α} (h : j < l.length) : l[j]? = some (l.getD j d) := by simp [List.getD, h]

theorem HO.sem_of {P : Program} {ev : X → AV} {H : AHeap} {K Kp : AV → AHeap → Prop} : ∀ {q : HO}, q.okS ev H → K (q.valS ev H) (q.heapS ev H) → HO.sem P ev H K Kp q := by
  intro q h hk
  cases q with
  | load n ag a =>
    simp only [HO.okS, HO.valS, HO.heapS, HO.sem] at *
    cases he : ev a <;> rw [he] at h hk <;> try exact h.elim
    · simp only [ldOk, ldV] at h hk
      cases hf : AHeap.find H _ with
      | none => rw [hf] at h; exact h.elim
      | some blk => rw [hf] at h hk; exact ⟨blk, _, hf, getElem_of h.2.1, ⟨h.1, h.2.2⟩, hk⟩
    · exact ⟨h, hk⟩
  | alloc z ty => exact hk
  | box k ty x => exact ⟨h, hk⟩
  | bsl k ty z ln ps => exact elsA_iff.2 ⟨h, hk⟩
  | bslV k ty z ln ps => exact elsA_iff.2 ⟨h, hk⟩
  | store n a x =>
    simp only [HO.okS, HO.valS, HO.heapS, HO.sem] at *
    cases he : ev a <;> rw [he] at h hk <;> try exact h.elim
    simp only [stOk, stH] at h hk
    cases hf : AHeap.find H _ with
    | none => rw [hf] at h; exact h.elim
    | some blk =>
      rw [hf] at h hk
      obtain ⟨h1, h2, h3, h4, h5, h6⟩ := h
      refine ⟨blk, _, hf, getElem_of h2, ⟨h1, h3, h4, h5, fun e => ?_⟩, hk⟩
      rw [e] at h6
      simpa using h6
  | mksl k ty z l c =>
    simp only [HO.okS, HO.valS, HO.heapS, HO.sem] at *
    obtain ⟨h1, h2, h3⟩ := h
    cases he : ev l <;> rw [he] at h1 <;> try exact h1.elim
    rename_i v
    cases v <;> try exact h1.elim
    cases hf : ev c <;> rw [hf] at h2 <;> try exact h2.elim
    rename_i v2
    cases v2 <;> try exact h2.elim
    rw [he, hf] at h3 hk
    exact ⟨h3, hk⟩
  | app k ty s x =>
    simp only [HO.okS, HO.valS, HO.heapS, HO.sem] at *
    obtain ⟨h1, h2⟩ := h
    have hls : ∀ {K' : List AV → Prop}, K' (lsV H (ev x)) → lsOf H k (ev x) K' := by
      intro K' hk'
      cases hx : ev x <;> rw [hx] at h1 hk' <;> try exact h1.elim
      · exact ⟨h1, hk'⟩
      · simp only [lsOk, lsV] at h1 hk'
        cases hf : AHeap.find H _ with
        | none => rw [hf] at h1; exact h1.elim
        | some blk => rw [hf] at h1 hk'; exact ⟨blk, hf, h1, hk'⟩
    refine hls ?_
    cases hs : ev s <;> rw [hs] at h2 hk <;> try exact h2.elim
    · rename_i k' xs room
      cases room with
      | none => exact h2.elim
      | some zs =>
        cases zs with
        | cons _ _ => exact h2.elim
        | nil =>
          refine ⟨h2, fun e => ?_, fun e => ?_⟩
          · rw [e] at hk; exact hk
          · cases hy : lsV H (ev x) with
            | nil => exact absurd hy e
            | cons a b => rw [hy] at hk; exact hk
    · rename_i k' id off n c
      cases c with
      | none =>
        simp only [apOk, apV, apH] at h2 hk
        cases hf : AHeap.find H id with
        | none => rw [hf] at h2; exact h2.elim
        | some blk => rw [hf] at h2 hk; exact ⟨blk, hf, h2.1, h2.2, hk⟩
      | some m =>
        simp only [apOk, apV, apH] at h2 hk
        cases hf : AHeap.find H id with
        | none => rw [hf] at h2; exact h2.elim
        | some blk =>
          rw [hf] at h2 hk
          refine ⟨blk, hf, h2.1, h2.2, fun e => ?_, fun e => ?_⟩
          · simp only [if_pos e] at hk; exact hk
          · have : ¬ n + (lsV H (ev x)).length ≤ m := by omega
            simp only [if_neg this] at hk; exact hk
  | _ => exact h.elim

/-- One operation. -/
def doS (P : Program) (ev : X → AV) (H : AHeap) (C Cp : AV → AHeap → Prop) : IOp → Prop
  | .p q => q.ok ev ∧ C (q.val ev) H
  | .h (.call f as) => ∃ e H', D P f (as.map ev) H e H' ∧ AEnd.post C Cp H' e
  | .h (.callv f as) => match ev f with
    | .fn (.func g) a b => callable P g = true ∧ ∃ e H', D P g (a ++ as.map ev ++ b) H e H' ∧ AEnd.post C Cp H' e
    | _ => False
  | .h (.pan x) => match ev x with
    | .ifc t v => Cp (.ifc t v) H
    | _ => False
  | .h q => q.okS ev H ∧ C (q.valS ev H) (q.heapS ev H)

theorem callable_spec {P : Program} {f : FuncId} (h : callable P f = true) : ∃ fn, P.funcs[f]? = some fn ∧ fn.body.isSome ∧ fn.name ≠ "runtime.NumGoroutine" := by
  unfold callable at h
  split at h
  case h_2 => simp at h
  rename_i fn hf
  simp only [Bool.and_eq_true, Bool.not_eq_true', beq_eq_false_iff_ne] at h
  exact ⟨fn, hf, h.1, h.2⟩

theorem doS_opK {P : Program} {ev : X → AV} {H : AHeap} {C Cp : AV → AHeap → Prop} {op : IOp} (h : doS P ev H C Cp op) : opK P ev H C Cp op := by
  cases op with
  | p q => exact PO.sem_of (K := fun v => C v H) h.1 h.2
  | h q =>
    cases q with
    | call f as => exact h
    | callv f as =>
      simp only [doS, opK, HO.sem] at h ⊢
      split at h
      · rename_i he; simp only [he]; exact ⟨callable_spec h.1, h.2⟩
      · exact h.elim
    | pan x => exact h
    | _ => exact HO.sem_of (P := P) (Kp := Cp) h.1 h.2

theorem guardK_imp {ts : List AV} {p q p' q' : Prop} {g : Option (Nat × Bool)} (h1 : p → p') (h2 : q → q') (h : guardK ts p q g) : guardK ts p' q' g := guardK_map h1 h2 h

/-- A row of operations. -/
def runS (P : Program) (K : List AV → AHeap → Prop) (Kp : AV → List AV → AHeap → Prop) : List IO' → List AV → AHeap → Prop
  | [], ts, H => K ts H
  | o :: r, ts, H => guardK ts (doS P (X.ev ts) H (fun v H' => runS P K Kp r (putT ts o.dst v) H') (fun v H' => Kp v ts H') o.op) (runS P K Kp r (putT ts o.dst (.tup [])) H) o.guard

theorem doS_mono {P : Program} {ev : X → AV} {H : AHeap} {C Cp C' Cp' : AV → AHeap → Prop} {op : IOp} (h1 : ∀ v H, C v H → C' v H) (h2 : ∀ v H, Cp v H → Cp' v H) (h : doS P ev H C Cp op) : doS P ev H C' Cp' op := by
  have hpost : ∀ {e H'}, AEnd.post C Cp H' e → AEnd.post C' Cp' H' e := fun {e H'} h => by
    cases e with
    | ret v => exact h1 _ _ h
    | pan v => exact h2 _ _ h
  cases op with
  | p q => exact ⟨h.1, h1 _ _ h.2⟩
  | h q =>
    cases q with
    | call f as => obtain ⟨e, H', g1, g2⟩ := h; exact ⟨e, H', g1, hpost g2⟩
    | callv f as =>
      simp only [doS] at h ⊢
      split at h
      · obtain ⟨g0, e, H', g1, g2⟩ := h; exact ⟨g0, e, H', g1, hpost g2⟩
      · exact h.elim
    | pan x =>
      simp only [doS] at h ⊢
      split at h
      · exact h2 _ _ h
      · exact h.elim
    | _ => exact ⟨h.1, h1 _ _ h.2⟩

theorem runS_runOps {P : Program} {K : List AV → AHeap → Prop} {Kp : AV → List AV → AHeap → Prop} : ∀ {l : List IO'} {ts : List AV} {H : AHeap}, runS P K Kp l ts H → runOps P K Kp l ts H
  | [], _, _, h => h
  | o :: r, ts, H, h => guardK_imp (fun h => doS_opK (doS_mono (fun v H h => runS_runOps h) (fun _ _ h => h) h)) (fun h => runS_runOps h) h

/-- A region whose order is drawn, where no more is asked of it than of any other: its calls leave what was there as it was. -/
def ldS (A : List (List Nat)) (i : Nat) (hs : List (Nat × AHeap × AHeap)) : AV → Prop
  | .ptr _ id _ _ => ∀ c ∈ hs, uno A c.1 i = true → id < c.2.1.length → AHeap.find c.2.2 id = AHeap.find c.2.1 id
  | _ => True
def ldN (i : Nat) (ld : List (Nat × Nat)) : AV → List (Nat × Nat)
  | .ptr _ id _ _ => (i, id) :: ld
  | _ => ld
def chS (A : List (List Nat)) (i : Nat) (ld : List (Nat × Nat)) (H H' : AHeap) : Prop := ∀ l ∈ ld, uno A l.1 i = true → AHeap.find H' l.2 = AHeap.find H l.2

def doD (P : Program) (A : List (List Nat)) (n i : Nat) (ev : X → AV) (H : AHeap) (ld : List (Nat × Nat)) (hs : List (Nat × AHeap × AHeap)) (C : AV → AHeap → List (Nat × Nat) → List (Nat × AHeap × AHeap) → Prop) (Kp : AV → AHeap → Prop) : IOp → Prop
  | .p q => q.ok ev ∧ C (q.val ev) H ld hs
  | .h (.load m ag a) => ldS A i hs (ev a) ∧ ldOk H m ag (ev a) ∧ C (ldV H m ag (ev a)) H (ldN i ld (ev a)) hs
  | .h (.call f as) => ∃ e H', D P f (as.map ev) H e H' ∧ AEnd.post (fun v H' => chS A i ld H H' ∧ C v H' ld ((i, H, H') :: hs)) (fun v H' => lastB A n i = true ∧ Kp v H') H' e
  | .h (.callv f as) => match ev f with
    | .fn (.func g) a b => callable P g = true ∧ ∃ e H', D P g (a ++ as.map ev ++ b) H e H' ∧ AEnd.post (fun v H' => chS A i ld H H' ∧ C v H' ld ((i, H, H') :: hs)) (fun v H' => lastB A n i = true ∧ Kp v H') H' e
    | _ => False
  | .h (.pan x) => False
  | .h (.store m a x) => stOk H m (ev a) (ev x) ∧ chS A i ld H (stH H (ev a) (ev x)) ∧ C .top (stH H (ev a) (ev x)) ld ((i, H, stH H (ev a) (ev x)) :: hs)
  | .h (.app k ty s x) => (lsOk H k (ev x) ∧ apOk H k ty (lsV H (ev x)) (ev s)) ∧ chS A i ld H (apH H k ty (lsV H (ev x)) (ev s)) ∧ C (apV H k (lsV H (ev x)) (ev s)) (apH H k ty (lsV H (ev x)) (ev s)) ld ((i, H, apH H k ty (lsV H (ev x)) (ev s)) :: hs)
  | .h q => q.okS ev H ∧ C (q.valS ev H) (q.heapS ev H) ld hs

def runDS (P : Program) (A : List (List Nat)) (n : Nat) (K : List AV → AHeap → Prop) (Kp : AV → AHeap → Prop) : Nat → List IO' → List AV → AHeap → List (Nat × Nat) → List (Nat × AHeap × AHeap) → Prop
  | _, [], ts, H, _, _ => K ts H
  | i, o :: r, ts, H, ld, hs => guardK ts (doD P A n i (X.ev ts) H ld hs (fun v H' ld' hs' => runDS P A n K Kp (i + 1) r (putT ts o.dst v) H' ld' hs') Kp o.op) (runDS P A n K Kp (i + 1) r (putT ts o.dst (.tup [])) H ld hs) o.guard

theorem doD_stepD {P : Program} {A : List (List Nat)} {n i : Nat} {ev : X → AV} {H : AHeap} {ld : List (Nat × Nat)} {hs : List (Nat × AHeap × AHeap)} {C C' : AV → AHeap → List (Nat × Nat) → List (Nat × AHeap × AHeap) → Prop} {Kp : AV → AHeap → Prop} {op : IOp}
    (hC : ∀ v H ld hs, C v H ld hs → C' v H ld hs) (h : doD P A n i ev H ld hs C Kp op) : stepD P A n i ev H ld hs C' Kp op := by
  cases op with
  | p q => exact PO.sem_of (K := fun v => C' v H ld hs) h.1 (hC _ _ _ _ h.2)
  | h q =>
    cases q with
    | load m ag a =>
      obtain ⟨h1, h2, h3⟩ := h
      simp only [stepD]
      split
      · rename_i k id j f he
        rw [he] at h1 h2 h3
        refine ⟨h1, HO.sem_of (q := .load m ag a) ?_ ?_⟩
        · simp only [HO.okS]; rw [he]; exact h2
        · simp only [HO.valS, HO.heapS]; rw [he]; exact hC _ _ _ _ h3
      · rename_i hne
        have hn : ldN i ld (ev a) = ld := by
          cases he : ev a <;> first | rfl | (exact absurd he (hne _ _ _ _))
        rw [hn] at h3
        exact HO.sem_of (q := .load m ag a) h2 (hC _ _ _ _ h3)
    | call f as =>
      obtain ⟨e, H', h1, h2⟩ := h
      cases e with
      | ret v => exact ⟨.ret v, H', h1, h2.1, hC _ _ _ _ h2.2⟩
      | pan v => exact ⟨.pan v, H', h1, h2⟩
    | callv f as =>
      have h' := h
      simp only [doD] at h'
      show HO.sem P ev H _ _ (.callv f as)
      simp only [HO.sem]
      split at h'
      · rename_i he
        simp only [he]
        obtain ⟨h0, e, H', h1, h2⟩ := h'
        refine ⟨callable_spec h0, e, H', h1, ?_⟩
        cases e with
        | ret v => exact ⟨h2.1, hC _ _ _ _ h2.2⟩
        | pan v => exact h2
      · exact h'.elim
    | pan x => exact h.elim
    | store m a x => exact HO.sem_of (P := P) (K := fun v H' => (∀ l ∈ ld, uno A l.1 i = true → AHeap.find H' l.2 = AHeap.find H l.2) ∧ C' v H' ld ((i, H, H') :: hs)) (Kp := fun v H' => lastB A n i = true ∧ Kp v H') (q := .store m a x) h.1 ⟨h.2.1, hC _ _ _ _ h.2.2⟩
    | app k ty s x => exact HO.sem_of (P := P) (K := fun v H' => (∀ l ∈ ld, uno A l.1 i = true → AHeap.find H' l.2 = AHeap.find H l.2) ∧ C' v H' ld ((i, H, H') :: hs)) (Kp := fun v H' => lastB A n i = true ∧ Kp v H') (q := .app k ty s x) h.1 ⟨h.2.1, hC _ _ _ _ h.2.2⟩
    | _ => exact HO.sem_of (P := P) (K := fun v H' => C' v H' ld hs) (Kp := fun _ _ => False) h.1 (hC _ _ _ _ h.2)

theorem runDS_runD {P : Program} {A : List (List Nat)} {n : Nat} {K : List AV → AHeap → Prop} {Kp : AV → AHeap → Prop} : ∀ {l : List IO'} {i : Nat} {ts : List AV} {H : AHeap} {ld : List (Nat × Nat)} {hs : List (Nat × AHeap × AHeap)}, runDS P A n K Kp i l ts H ld hs → runD P A n K Kp i l ts H ld hs
  | [], _, _, _, _, _, h => h
  | o :: r, i, ts, H, ld, hs, h => guardK_imp (fun h => doD_stepD (fun v H ld hs h => runDS_runD h) h) (fun h => runDS_runD h) h

/-- Code. -/
def ES (P : Program) : IC → Post → List AV → AHeap → Prop
  | .skip, K, ts, H => K .normal ts H
  | .ops l, K, ts, H => runS P (K .normal) (fun v ts' H' => K (.pan v) ts' H') l ts H
  | .dops l A, K, ts, H => runDS P A l.length (K .normal) (fun v H' => K (.pan v) (blankT l ts) H') 0 l ts H [] []
  | .seq a b, K, ts, H => ES P a (thenK (ES P b K) K) ts H
  | .cond c a b, K, ts, H => match c.ev ts with
    | .sc (.bool t) => (t = true → ES P a K ts H) ∧ (t = false → ES P b K ts H)
    | .ub => ES P a K ts H ∧ ES P b K ts H
    | _ => False
  | .block id c, K, ts, H => ES P c (blockK id K) ts H
  | .loop c, K, ts, H => ∃ (I : List AV → AHeap → Prop) (μ : List AV → AHeap → Nat), I ts H ∧ ∀ ts H, I ts H → ES P c (thenK (fun ts' H' => I ts' H' ∧ μ ts' H' < μ ts H) K) ts H
  | .exit id, K, ts, H => K (.exit id) ts H
  | .ret, K, ts, H => K .ret ts H

theorem runOps_mono {P : Program} {K K' : List AV → AHeap → Prop} {Kp Kp' : AV → List AV → AHeap → Prop} (h1 : ∀ ts H, K ts H → K' ts H) (h2 : ∀ v ts H, Kp v ts H → Kp' v ts H) : ∀ {l : List IO'} {ts : List AV} {H : AHeap}, runS P K Kp l ts H → runS P K' Kp' l ts H
  | [], _, _, h => h1 _ _ h
  | o :: r, ts, H, h => guardK_imp (fun h => doS_mono (fun v H h => runOps_mono h1 h2 h) (fun v H h => h2 _ _ _ h) h) (fun h => runOps_mono h1 h2 h) h

theorem doD_mono {P : Program} {A : List (List Nat)} {n i : Nat} {ev : X → AV} {H : AHeap} {ld : List (Nat × Nat)} {hs : List (Nat × AHeap × AHeap)} {C C' : AV → AHeap → List (Nat × Nat) → List (Nat × AHeap × AHeap) → Prop} {Kp Kp' : AV → AHeap → Prop} {op : IOp}
    (hC : ∀ v H ld hs, C v H ld hs → C' v H ld hs) (hK : ∀ v H, Kp v H → Kp' v H) (h : doD P A n i ev H ld hs C Kp op) : doD P A n i ev H ld hs C' Kp' op := by
  cases op with
  | p q => exact ⟨h.1, hC _ _ _ _ h.2⟩
  | h q =>
    cases q with
    | load m ag a => exact ⟨h.1, h.2.1, hC _ _ _ _ h.2.2⟩
    | call f as =>
      obtain ⟨e, H', h1, h2⟩ := h
      cases e with
      | ret v => exact ⟨.ret v, H', h1, h2.1, hC _ _ _ _ h2.2⟩
      | pan v => exact ⟨.pan v, H', h1, h2.1, hK _ _ h2.2⟩
    | callv f as =>
      simp only [doD] at h ⊢
      split at h
      · obtain ⟨h0, e, H', h1, h2⟩ := h
        refine ⟨h0, e, H', h1, ?_⟩
        cases e with
        | ret v => exact ⟨h2.1, hC _ _ _ _ h2.2⟩
        | pan v => exact ⟨h2.1, hK _ _ h2.2⟩
      · exact h.elim
    | pan x => exact h.elim
    | store m a x => exact ⟨h.1, h.2.1, hC _ _ _ _ h.2.2⟩
    | app k ty s x => exact ⟨h.1, h.2.1, hC _ _ _ _ h.2.2⟩
    | _ => exact ⟨h.1, hC _ _ _ _ h.2⟩

theorem runDS_mono {P : Program} {A : List (List Nat)} {n : Nat} {K K' : List AV → AHeap → Prop} {Kp Kp' : AV → AHeap → Prop} (h1 : ∀ ts H, K ts H → K' ts H) (h2 : ∀ v H, Kp v H → Kp' v H) : ∀ {l : List IO'} {i : Nat} {ts : List AV} {H : AHeap} {ld : List (Nat × Nat)} {hs : List (Nat × AHeap × AHeap)}, runDS P A n K Kp i l ts H ld hs → runDS P A n K' Kp' i l ts H ld hs
  | [], _, _, _, _, _, h => h1 _ _ h
  | o :: r, i, ts, H, ld, hs, h => guardK_imp (fun h => doD_mono (fun v H ld hs h => runDS_mono h1 h2 h) h2 h) (fun h => runDS_mono h1 h2 h) h

theorem ES_mono {P : Program} : ∀ {c : IC} {K K' : Post}, (∀ x ts H, K x ts H → K' x ts H) → ∀ {ts : List AV} {H : AHeap}, ES P c K ts H → ES P c K' ts H := by
  intro c
  induction c with
  | skip => intro K K' hk ts H h; exact hk _ _ _ h
  | ops l => intro K K' hk ts H h; exact runOps_mono (fun _ _ h => hk _ _ _ h) (fun _ _ _ h => hk _ _ _ h) h
  | dops l A => intro K K' hk ts H h; exact runDS_mono (fun _ _ h => hk _ _ _ h) (fun _ _ h => hk _ _ _ h) h
  | seq a b iha ihb =>
    intro K K' hk ts H h
    refine iha (fun x ts H h => ?_) h
    cases x <;> first | exact ihb hk h | exact hk _ _ _ h
  | cond c a b iha ihb =>
    intro K K' hk ts H h
    simp only [ES] at h ⊢
    split at h
    · exact ⟨fun e => iha hk (h.1 e), fun e => ihb hk (h.2 e)⟩
    · exact ⟨iha hk h.1, ihb hk h.2⟩
    · exact h.elim
  | block id c ih =>
    intro K K' hk ts H h
    refine ih (fun x ts H h => ?_) h
    cases x <;> first | exact hk _ _ _ h | skip
    simp only [blockK] at h ⊢
    split at h
    · rename_i e; rw [if_pos e]; exact hk _ _ _ h
    · rename_i e; rw [if_neg e]; exact hk _ _ _ h
  | loop c ih =>
    intro K K' hk ts H h
    obtain ⟨I, μ, h1, h2⟩ := h
    refine ⟨I, μ, h1, fun ts H hI => ih (fun x ts' H' h => ?_) (h2 ts H hI)⟩
    cases x <;> first | exact h | exact hk _ _ _ h
  | exit id => intro K K' hk ts H h; exact hk _ _ _ h
  | ret => intro K K' hk ts H h; exact hk _ _ _ h

theorem ES_E {P : Program} : ∀ {c : IC} {K : Post} {ts : List AV} {H : AHeap}, ES P c K ts H → E P c K ts H := by
  intro c
  induction c with
  | skip => intro K ts H h; exact h
  | ops l => intro K ts H h; exact runS_runOps h
  | dops l A => intro K ts H h; exact runDS_runD h
  | seq a b iha ihb =>
    intro K ts H h
    refine iha (ES_mono (fun x ts H h => ?_) h)
    cases x <;> first | exact ihb h | exact h
  | cond c a b iha ihb =>
    intro K ts H h
    simp only [ES, E] at h ⊢
    split at h
    · rename_i he; simp only [he]; exact ⟨fun e => iha (h.1 e), fun e => ihb (h.2 e)⟩
    · rename_i he; simp only [he]; exact ⟨iha h.1, ihb h.2⟩
    · exact h.elim
  | block id c ih => intro K ts H h; exact ih h
  | loop c ih =>
    intro K ts H h
    obtain ⟨I, μ, h1, h2⟩ := h
    exact ⟨I, μ, h1, fun ts H hI => ih (h2 ts H hI)⟩
  | exit id => intro K ts H h; exact h
  | ret => intro K ts H h; exact h

end Go.Proofs.Ytddhdlfafaobhaa
