/- Regions that are walked in the order of the text. -/
import Derived.Test.YtddhdlfafaobhaaV13
namespace Go.Proofs.Ytddhdlfafaobhaa
open Go.RowKit
set_option linter.unusedVariables false
set_option linter.unusedSimpArgs false

inductive IOp where
  | p (q : PO)
  | h (q : HO)

structure IO' where
  dst : Option Nat
  guard : Option (Nat × Bool)
  op : IOp

def opK (P : Program) (ev : X → AV) (H : AHeap) (K Kp : AV → AHeap → Prop) : IOp → Prop
  | .p q => PO.sem ev (fun v => K v H) q
  | .h q => HO.sem P ev H K Kp q

/-- A guarded operation: is it wanted? -/
def guardK (ts : List AV) (yes no : Prop) : Option (Nat × Bool) → Prop
  | none => yes
  | some (d, want) => match ts.getD d .top with
    | .sc (.bool b) => (b = want → yes) ∧ (b ≠ want → no)
    | .tup _ => no
    | _ => False

def runOps (P : Program) (K : List AV → AHeap → Prop) (Kp : AV → List AV → AHeap → Prop) : List IO' → List AV → AHeap → Prop
  | [], ts, H => K ts H
  | o :: r, ts, H => guardK ts (opK P (X.ev ts) H (fun v H' => runOps P K Kp r (putT ts o.dst v) H') (fun v H' => Kp v ts H') o.op) (runOps P K Kp r (putT ts o.dst (.tup [])) H) o.guard

def compG (ops : Array Oper) : Option (Nat × Bool) → Option (Option (Nat × Bool))
  | none => some none
  | some (j, want) => match (ops[j]?).bind (·.dst) with
    | some d => some (some (d, want))
    | none => none

def compO (P : Program) (vecs : Bool) (ops : Array Oper) (o : Oper) : Option IO' :=
  match compG ops o.guard with
  | none => none
  | some g => match compP P o with
    | some q => some ⟨o.dst, g, .p q⟩
    | none => match compH P vecs o with
      | some q => some ⟨o.dst, g, .h q⟩
      | none => none

def compOps (P : Program) (vecs : Bool) (ops : Array Oper) : List Oper → Option (List IO')
  | [] => some []
  | o :: r => match compO P vecs ops o, compOps P vecs ops r with
    | some x, some s => some (x :: s)
    | _, _ => none

section
variable {P : Program}

theorem vr_undef {φ : Phi} {O : Nat → Prop} {w : World} : VR φ O w (.tup []) undef := ⟨⟨#[], rfl⟩, ⟨#[], rfl, rfl⟩⟩

/-- One operation, where it stands. -/
theorem op_wp {b : Bool} {ops : Array Oper} {o : Oper} {x : IO'} (hc : compO P b ops o = some x) {φ : Phi} {H : AHeap} {w : World} {ts : List AV} {a : Act} (hR : Rel φ H w) (hF : FR φ (Own φ H) w ts a) {K Kp : AV → AHeap → Prop} (h : opK P (X.ev ts) H K Kp x.op)
    {next : Act → World → Prop} {Q : Exit → Act → World → Prop}
    (hn : ∀ v u φ' H' w', K v H' → VR φ' (Own φ' H') w' v u → Rel φ' H' w' → Step φ H w φ' H' w' → next (a.put o.dst u) w')
    (hp : ∀ v u φ' H' w', Kp v H' → VR φ' (Own φ' H') w' v u → Rel φ' H' w' → Step φ H w φ' H' w' → Q (.panic [{ v := u, recovered := false }]) a w') : o.wp P a w next Q := by
  unfold compO at hc
  split at hc
  · simp at hc
  split at hc
  · rename_i q hq
    cases hc
    obtain ⟨v, u, h1, h2, h3⟩ := compP_sound hq φ (Own φ H) w ts a hF (fun v => K v H) h
    exact wp_value h3 (hn _ _ _ _ _ h1 h2 hR (Step.refl _ _ _))
  · split at hc
    · rename_i q hq
      cases hc
      exact compH_sound hq φ H w ts a hR hF K Kp h next Q hn hp
    · simp at hc

theorem compO_dst {b : Bool} {ops : Array Oper} {o : Oper} {x : IO'} (hc : compO P b ops o = some x) : x.dst = o.dst ∧ compG ops o.guard = some x.guard := by
  unfold compO at hc
  split at hc
  · simp at hc
  rename_i g hg
  split at hc
  · cases hc; exact ⟨rfl, hg⟩
  · split at hc
    · cases hc; exact ⟨rfl, hg⟩
    · simp at hc

theorem guard_wanted {ops : Array Oper} {o : Oper} {g : Option (Nat × Bool)} (hg : compG ops o.guard = some g) {φ : Phi} {O : Nat → Prop} {w : World} {ts : List AV} {a : Act} (hF : FR φ O w ts a) {yes no : Prop} (h : guardK ts yes no g) :
    (Region.wanted o (yielded ops a.tmps) = true ∧ yes) ∨ (Region.wanted o (yielded ops a.tmps) = false ∧ no) := by
  unfold compG at hg
  unfold Region.wanted
  split at hg
  · rename_i e
    cases hg
    rw [e]
    exact .inl ⟨rfl, h⟩
  · rename_i j want e
    split at hg
    case h_2 => simp at hg
    rename_i d hd
    cases hg
    rw [e]
    have hv := hF.2 d
    have hy : yielded ops a.tmps j = match a.tmps[d]? with | some (.bool b) => some b | _ => none := by
      unfold yielded
      rw [hd]
      rfl
    simp only [guardK] at h
    split at h
    · rename_i b hb
      rw [hb] at hv
      have hu := VR_sc hv
      have hsz : d < a.tmps.size := by
        rcases Nat.lt_or_ge d a.tmps.size with hl | hl
        · exact hl
        · rw [Array.getD_eq_getD_getElem?, Array.getElem?_eq_none hl] at hu
          simp [undef] at hu
      have hg' : a.tmps[d]? = some (.bool b) := by
        rw [Array.getD_eq_getD_getElem?, Array.getElem?_eq_getElem hsz] at hu
        rw [Array.getElem?_eq_getElem hsz]
        exact congrArg some hu
      simp only [hy, hg']
      by_cases hbw : b = want
      · exact .inl ⟨by simp [hbw], h.1 hbw⟩
      · exact .inr ⟨by simp [hbw], h.2 hbw⟩
    · rename_i vs hb
      rw [hb] at hv
      obtain ⟨us, hu, _⟩ := VR_tup hv
      refine .inr ⟨?_, h⟩
      simp only [hy]
      rw [Array.getD_eq_getD_getElem?] at hu
      cases hg' : a.tmps[d]? with
      | none => rfl
      | some v =>
        rw [hg'] at hu
        simp at hu
        subst hu
        rfl
    · exact h.elim

theorem putT_length (ts : List AV) (d : Option Nat) (v : AV) : (putT ts d v).length = ts.length := by
  cases d <;> simp [putT]

/-- What stands behind a region, or where it is left by a panic. -/
def ContOk (Q : Exit → Act → World → Prop) (K : List AV → AHeap → Prop) (φ : Phi) (H : AHeap) (w : World) (ds : List Deferred) : Prop :=
  ∀ ts' a' φ' H' w', K ts' H' → FR φ' (Own φ' H') w' ts' a' → Rel φ' H' w' → Step φ H w φ' H' w' → a'.defers = ds → Q .normal a' w'
def PanOk (Q : Exit → Act → World → Prop) (Kp : AV → List AV → AHeap → Prop) (φ : Phi) (H : AHeap) (w : World) (ds : List Deferred) : Prop :=
  ∀ v u ts' a' φ' H' w', Kp v ts' H' → VR φ' (Own φ' H') w' v u → FR φ' (Own φ' H') w' ts' a' → Rel φ' H' w' → Step φ H w φ' H' w' → a'.defers = ds → Q (.panic [{ v := u, recovered := false }]) a' w'

theorem put_defers (a : Act) (d : Option Tmp) (v : Value) : (a.put d v).defers = a.defers := by cases d <;> rfl

theorem runOps_sound {b : Bool} {ops : Array Oper} {Q : Exit → Act → World → Prop} {K : List AV → AHeap → Prop} {Kp : AV → List AV → AHeap → Prop} : ∀ (n i : Nat) (l : List IO') (ts : List AV) (H : AHeap) (φ : Phi) (w : World) (a : Act),
    i + n = ops.size → compOps P b ops (ops.toList.drop i) = some l → Rel φ H w → FR φ (Own φ H) w ts a → runOps P K Kp l ts H → ContOk Q K φ H w a.defers → PanOk Q Kp φ H w a.defers → wpOps P ops Q (List.range' i n) a w
  | 0, i, l, ts, H, φ, w, a, hi, hc, hR, hF, h, hk, hp => by
    have : ops.toList.drop i = [] := List.drop_of_length_le (by simp; omega)
    rw [this] at hc
    simp [compOps] at hc
    subst hc
    exact hk _ _ _ _ _ h hF hR (Step.refl _ _ _) rfl
  | n + 1, i, l, ts, H, φ, w, a, hi, hc, hR, hF, h, hk, hp => by
    have hlt : i < ops.toList.length := by simp; omega
    rw [List.drop_eq_getElem_cons hlt] at hc
    unfold compOps at hc
    split at hc
    case h_2 => simp at hc
    rename_i x s hx hs
    cases hc
    have hoi : ops[i]? = some (ops.toList[i]) := by simp at hlt; simp [hlt]
    obtain ⟨hd, hg⟩ := compO_dst hx
    simp only [runOps] at h
    have hcont : ∀ φ' H' w', Step φ H w φ' H' w' → ∀ a' : Act, a'.defers = a.defers → ContOk Q K φ' H' w' a'.defers ∧ PanOk Q Kp φ' H' w' a'.defers := by
      intro φ' H' w' hst a' ha
      exact ⟨fun ts2 a2 φ2 H2 w2 k1 k2 k3 k4 k5 => hk ts2 a2 φ2 H2 w2 k1 k2 k3 (hst.trans k4) (by rw [k5, ha]), fun v u ts2 a2 φ2 H2 w2 k1 k2 k3 k4 k5 k6 => hp v u ts2 a2 φ2 H2 w2 k1 k2 k3 k4 (hst.trans k5) (by rw [k6, ha])⟩
    rw [show List.range' i (n + 1) = i :: List.range' (i + 1) n from rfl]
    simp only [wpOps, hoi]
    rcases guard_wanted hg hF h with ⟨hw, hy⟩ | ⟨hw, hno⟩
    · rw [if_pos hw]
      left
      refine op_wp hx hR hF hy (fun v u φ' H' w' k1 k2 k3 k4 => ?_) (fun v u φ' H' w' k1 k2 k3 k4 => ?_)
      · have hF' := (FR.step k4 hF).put (ops.toList[i]).dst k2
        rw [hd] at k1
        have := hcont φ' H' w' k4 (a.put (ops.toList[i]).dst u) (put_defers _ _ _)
        exact runOps_sound n (i + 1) s _ H' φ' w' _ (by omega) hs k3 hF' k1 this.1 this.2
      · exact hp v u ts a φ' H' w' k1 k2 (FR.step k4 hF) k3 k4 rfl
    · rw [if_neg (by rw [hw]; simp)]
      have hF' := hF.put (ops.toList[i]).dst (vr_undef (φ := φ) (O := Own φ H) (w := w))
      rw [hd] at hno
      have := hcont φ H w (Step.refl _ _ _) (a.put (ops.toList[i]).dst undef) (put_defers _ _ _)
      exact runOps_sound n (i + 1) s _ H φ w _ (by omega) hs hR hF' hno this.1 this.2

/-- A region in the order of the text. -/
theorem region_seq {b : Bool} {id : Nat} {ops : Array Oper} {l : List IO'} (hc : compOps P b ops ops.toList = some l) {Q : Exit → Act → World → Prop} {K : List AV → AHeap → Prop} {Kp : AV → List AV → AHeap → Prop} {φ : Phi} {H : AHeap} {w : World} {ts : List AV} {a : Act}
    (hR : Rel φ H w) (hF : FR φ (Own φ H) w ts a) (h : runOps P K Kp l ts H) (hk : ContOk Q K φ H w a.defers) (hp : PanOk Q Kp φ H w a.defers) : (Code.region id ops false).wp P Q a w := by
  refine wp_region ?_
  rw [List.range_eq_range']
  exact runOps_sound ops.size 0 l ts H φ w a (by omega) (by simpa using hc) hR hF h hk hp
end
end Go.Proofs.Ytddhdlfafaobhaa
