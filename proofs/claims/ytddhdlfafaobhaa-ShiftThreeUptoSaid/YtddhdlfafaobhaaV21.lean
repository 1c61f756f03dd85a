/- Functions: from a body to what a call tells; what is dropped and what is frozen when it is left. -/
import Derived.Test.YtddhdlfafaobhaaV20
namespace Go.Proofs.Ytddhdlfafaobhaa
open Go.RowKit
set_option linter.unusedVariables false
set_option linter.unusedSimpArgs false

inductive RV where
  | t (n : Nat)
  | c (a n : Nat) (ag : Bool)

def compR (P : Program) : List ResultVar → Option (List RV)
  | [] => some []
  | .tmp t :: r => (compR P r).map (.t t :: ·)
  | .cell a t :: r => match sizeAgg P t, compR P r with
    | some (n, ag), some s => some (.c a n ag :: s)
    | _, _ => none

def resL : List RV → List AV → AHeap → (List AV → Prop) → Prop
  | [], ts, H, K => K []
  | .t n :: r, ts, H, K => resL r ts H fun l => K (ts.getD n .top :: l)
  | .c a n ag :: r, ts, H, K => match ts.getD a .top with
    | .ptr k id j f => ∃ blk e, AHeap.find H id = some blk ∧ blk.es[j]? = some e ∧ (blk.k = k ∧ AV.subOk e f n ag) ∧ resL r ts H fun l => K (AV.sub e f n ag :: l)
    | _ => False

def oneOf : List AV → AV
  | [x] => x
  | l => .tup l

def bodyK (rs : List RV) (Kr : AEnd → AHeap → Prop) : Post
  | .normal, ts, H => resL rs ts H fun l => Kr (.ret (oneOf l)) H
  | .ret, ts, H => resL rs ts H fun l => Kr (.ret (oneOf l)) H
  | .pan v, ts, H => Kr (.pan v) H
  | .exit _, _, _ => False

/-- What a call tells, before anything is dropped. -/
def DK (P : Program) (f : FuncId) (args : List AV) (H : AHeap) (Kr : AEnd → AHeap → Prop) : Prop :=
  ∀ (φ : Phi) (w : World) (vs : Array Value), Rel φ H w → Rt φ (Own φ H) w args vs.toList →
    Calls P f vs w fun en w' => ∃ e H' φ', EndR φ' (Own φ' H') w' e en ∧ Kr e H' ∧ Rel φ' H' w' ∧ Step φ H w φ' H' w'

section
variable {P : Program}

theorem resL_run {φ : Phi} {H : AHeap} {w : World} {ts : List AV} {a : Act} (hR : Rel φ H w) (hF : FR φ (Own φ H) w ts a) : ∀ {rv : List ResultVar} {rs : List RV}, compR P rv = some rs → ∀ {K : List AV → Prop}, resL rs ts H K →
    ∃ l us, K l ∧ Rt φ (Own φ H) w l us ∧ (rv.mapM fun (r : ResultVar) => (match r with | .tmp t => pure (a.tmps.getD t undef) | .cell ad t => do loadVar t (← asAddr (a.tmps.getD ad undef)) : Sem Value)).run P w = .ok us w
  | [], rs, h, K, hk => by
    simp [compR] at h
    subst h
    exact ⟨[], [], hk, rfl, by simp⟩
  | .tmp t :: r, rs, h, K, hk => by
    simp only [compR, Option.map_eq_some_iff] at h
    obtain ⟨s, h1, rfl⟩ := h
    obtain ⟨l, us, h2, h3, h4⟩ := resL_run hR hF h1 hk
    refine ⟨_, a.tmps.getD t undef :: us, h2, ⟨_, _, rfl, (hF.2 t).1, (hF.2 t).2, h3⟩, ?_⟩
    simp only [List.mapM_cons, Sem.run_bind, Sem.run_pure, Result.andThen_ok, h4]
  | .cell ad t :: r, rs, h, K, hk => by
    simp only [compR] at h
    split at h
    case h_2 => simp at h
    rename_i n ag s hs h1
    cases h
    simp only [resL] at hk
    split at hk
    case h_2 => exact hk.elim
    rename_i k id j f he
    obtain ⟨blk, e, g1, g2, ⟨rfl, g3⟩, hk⟩ := hk
    obtain ⟨l, us, h2, h3, h4⟩ := resL_run hR hF h1 hk
    have hv := hF.2 ad
    rw [he] at hv
    obtain ⟨b, e1, e2⟩ := VR_ptr hv
    obtain ⟨h7, h8⟩ := hR.elem e1 g1 g2
    obtain ⟨u, h9, h10⟩ := load_run hs h8 g3
    refine ⟨_, u :: us, h2, ⟨_, _, rfl, h10.1, h10.2, h3⟩, ?_⟩
    have e3 : (asAddr (a.tmps.getD ad undef)).run P w = .ok ⟨b, j * blk.k + f, none⟩ w := by rw [e2]; rfl
    simp only [List.mapM_cons, Sem.run_bind, Sem.run_pure, Result.andThen_ok, e3, h9, h4]

theorem results_run {φ : Phi} {H : AHeap} {w : World} {ts : List AV} {a : Act} (hR : Rel φ H w) (hF : FR φ (Own φ H) w ts a) {fn : Func} {rs : List RV} (hc : compR P fn.results.toList = some rs) {K : AV → Prop} (h : resL rs ts H fun l => K (oneOf l)) :
    ∃ x v, K x ∧ VR φ (Own φ H) w x v ∧ (results fn a.tmps).run P w = .ok v w := by
  obtain ⟨l, us, h1, h2, h3⟩ := resL_run hR hF hc h
  refine ⟨_, (if us.length = 1 then us.getD 0 undef else .tuple us.toArray), h1, ?_, ?_⟩
  · have hl := Rt_len h2
    match l, h2, hl with
    | [], h2, hl =>
      simp only [Rt] at h2
      subst h2
      exact ⟨⟨_, rfl⟩, _, rfl, rfl⟩
    | [x], h2, hl =>
      obtain ⟨v, s, rfl, g1, g2, g3⟩ := h2
      simp only [Rt] at g3
      subst g3
      exact ⟨g1, g2⟩
    | x :: y :: r, h2, hl =>
      have : ¬ us.length = 1 := by rw [hl]; simp
      rw [if_neg this]
      exact ⟨⟨_, rfl⟩, _, rfl, h2⟩
  · unfold results
    rw [Array.mapM_eq_mapM_toList]
    rw [Sem.run_bind, Sem.run_map]
    erw [h3]
    simp only [Result.andThen_ok, Sem.run_pure]
    congr 1
    by_cases h4 : us.length = 1
    · have : us.toArray.size = 1 := by simpa using h4
      rw [dif_pos this, if_pos h4]
      match us, h4 with
      | [v], _ => rfl
    · have : ¬ us.toArray.size = 1 := by simpa using h4
      rw [dif_neg this, if_neg h4]

theorem vr_undefs {φ : Phi} {O : Nat → Prop} {w : World} : VR φ O w (.tup []) undef := vr_undef

/-- From the body to the call. -/
theorem DK_of_body {f : FuncId} {fn : Func} {c : Code} {ic : IC} {rs : List RV} {vecs : List Nat} (hf : P.funcs[f]? = some fn) (hb : fn.body = some c) (hc : compC P vecs c = some ic) (hr : compR P fn.results.toList = some rs) {args : List AV} {H : AHeap} {Kr : AEnd → AHeap → Prop}
    (h : E P ic (bodyK rs Kr) (args ++ List.replicate (fn.ntmps - args.length) (.tup [])) H) : DK P f args H Kr := by
  intro φ w vs hR ha
  have hlen := Rt_len ha
  have hF : FR φ (Own φ H) w (args ++ List.replicate (fn.ntmps - args.length) (.tup [])) { tmps := vs ++ Array.replicate (fn.ntmps - vs.size) undef, defers := [] } := by
    have hsz : vs.size = args.length := by simpa using hlen
    refine ⟨by simp [hsz], fun i => ?_⟩
    by_cases h1 : i < args.length
    · obtain ⟨u, g1, g2⟩ := Rt_nth ha (i := i) (x := args[i]) (by simp [h1])
      have e1 : (args ++ List.replicate (fn.ntmps - args.length) (AV.tup [])).getD i .top = args[i] := by simp [List.getD, List.getElem?_append_left h1, h1]
      have e2 : (vs ++ Array.replicate (fn.ntmps - vs.size) undef).getD i undef = u := by
        rw [Array.getElem?_toList] at g1
        rw [Array.getD_eq_getD_getElem?, Array.getElem?_append_left (by omega), g1]
        rfl
      rw [e1, e2]
      exact g2
    · by_cases h2 : i < args.length + (fn.ntmps - args.length)
      · have e1 : (args ++ List.replicate (fn.ntmps - args.length) (AV.tup [])).getD i .top = .tup [] := by
          simp only [List.getD]
          rw [List.getElem?_append_right (by omega), List.getElem?_replicate, if_pos (by omega)]
          rfl
        have e2 : (vs ++ Array.replicate (fn.ntmps - vs.size) undef).getD i undef = undef := by
          rw [Array.getD_eq_getD_getElem?, Array.getElem?_append_right (by omega), Array.getElem?_replicate]
          split <;> rfl
        rw [e1, e2]
        exact vr_undef
      · have e1 : (args ++ List.replicate (fn.ntmps - args.length) (AV.tup [])).getD i .top = .top := by
          simp only [List.getD]
          rw [List.getElem?_eq_none (by simp; omega)]
          rfl
        rw [e1]
        exact vr_top _
  refine calls_of_wp hf hb (wp_mono (E_sound c ic hc _ φ H w _ _ hR hF h) ?_)
  rintro e a' w' ⟨x, ts', H', φ', k1, k2, k3, k4, k5, k6⟩
  have hret : (resL rs ts' H' fun l => Kr (.ret (oneOf l)) H') → a'.defers = [] ∧ ∃ v, (results fn a'.tmps).run P w' = .ok v w' ∧ ∃ e H2 φ2, EndR φ2 (Own φ2 H2) w' e (.returned v) ∧ Kr e H2 ∧ Rel φ2 H2 w' ∧ Step φ H w φ2 H2 w' := by
    intro hl
    obtain ⟨y, v, g1, g2, g3⟩ := results_run k4 k3 hr (K := fun x => Kr (.ret x) H') hl
    exact ⟨k6, v, g3, .ret y, H', φ', g2, g1, k4, k5⟩
  cases x with
  | normal =>
    cases e <;> try exact k1.elim
    exact hret k2
  | ret =>
    cases e <;> try exact k1.elim
    exact hret k2
  | exit i => exact k2.elim
  | pan v =>
    cases e <;> try exact k1.elim
    exact ⟨k6, .pan v, H', φ', k1, k2, k4, k5⟩

/-- What a call leaves may be told more weakly. -/
def Weak (H : AHeap) (e1 : AEnd) (H1 : AHeap) (e : AEnd) (H' : AHeap) : Prop :=
  ∀ φ w φ1 w1 en, Rel φ H w → EndR φ1 (Own φ1 H1) w1 e1 en → Rel φ1 H1 w1 → Step φ H w φ1 H1 w1 → ∃ φ', EndR φ' (Own φ' H') w1 e en ∧ Rel φ' H' w1 ∧ Step φ H w φ' H' w1

theorem Weak.refl (H : AHeap) (e : AEnd) (H' : AHeap) : Weak H e H' e H' := fun φ w φ1 w1 en _ h1 h2 h3 => ⟨φ1, h1, h2, h3⟩

theorem D_of_DK {f : FuncId} {args : List AV} {H : AHeap} {e : AEnd} {H' : AHeap} (hl : H.length ≤ H'.length) (h : DK P f args H fun e1 H1 => Weak H e1 H1 e H') : D P f args H e H' :=
  ⟨hl, fun φ w vs hR ha => (h φ w vs hR ha).mono fun en w' ⟨e1, H1, φ1, h1, h2, h3, h4⟩ => h2 φ w φ1 w' en hR h1 h3 h4⟩

mutual
/-- A value that own memory bears, as it may be told when that memory is given up: 'n0' and all above is. -/
inductive Fz (H1 : AHeap) (n0 : Nat) : AV → AV → Prop where
  | same {x : AV} : x.ids (· < n0) → Fz H1 n0 x x
  | vec {k id off n : Nat} {c : Option Nat} {blk : ABlk} {ys : List AV} : n0 ≤ id → AHeap.find H1 id = some blk → blk.k = k → off + n ≤ blk.es.length → FzL H1 n0 ((blk.es.drop off).take n) ys → Fz H1 n0 (.vec k id off n c) (.lst k ys none)
  | lst {k : Nat} {xs ys : List AV} {room : Option (List AV)} : FzL H1 n0 xs ys → Fz H1 n0 (.lst k xs room) (.lst k ys none)
  | nil {k : Nat} {room : Option (List AV)} {k' : Nat} : Fz H1 n0 (.lst k' [] room) (.lst k [] none)
  | agg {xs ys : List AV} : FzL H1 n0 xs ys → Fz H1 n0 (.agg xs) (.agg ys)
  | tup {xs ys : List AV} : FzL H1 n0 xs ys → Fz H1 n0 (.tup xs) (.tup ys)
  | ifc {t : TypeId} {x y : AV} : Fz H1 n0 x y → Fz H1 n0 (.ifc t x) (.ifc t y)
inductive FzL (H1 : AHeap) (n0 : Nat) : List AV → List AV → Prop where
  | nil : FzL H1 n0 [] []
  | cons {x y : AV} {r s : List AV} : Fz H1 n0 x y → FzL H1 n0 r s → FzL H1 n0 (x :: r) (y :: s)
end

theorem FzL.len {H1 : AHeap} {n0 : Nat} : ∀ {xs ys : List AV}, FzL H1 n0 xs ys → ys.length = xs.length
  | _, _, .nil => rfl
  | _, _, .cons _ h => by simp [h.len]
theorem Fz.isAgg {H1 : AHeap} {n0 : Nat} {x y : AV} (h : Fz H1 n0 x y) : y.isAgg = x.isAgg ∧ y.ncells = x.ncells := by
  cases h with
  | agg h => exact ⟨rfl, h.len⟩
  | _ => exact ⟨rfl, rfl⟩
theorem Fz.okA {H1 : AHeap} {n0 : Nat} {x y : AV} (h : Fz H1 n0 x y) {u : Value} (hk : okA x u) : okA y u := by
  cases h with
  | agg h => obtain ⟨us, h1, h2⟩ := hk; exact ⟨us, h1, by rw [h2, h.len]⟩
  | _ => exact hk

/-- What is restricted. -/
def Phi.below (φ : Phi) (n : Nat) : Phi := fun i => if i < n then φ i else none

theorem own_below {φ1 : Phi} {G H2 : AHeap} {b : Nat} (h : Own (φ1.below H2.length) H2 b) : ∃ id blk, id < H2.length ∧ φ1 id = some b ∧ AHeap.find H2 id = some blk ∧ AHeap.find (G ++ H2) id = some blk := by
  obtain ⟨id, blk, h1, h2⟩ := h
  have hl := AHeap.find_lt h2
  unfold Phi.below at h1
  rw [if_pos hl] at h1
  exact ⟨id, blk, hl, h1, h2, by rw [AHeap.find_append hl]; exact h2⟩

theorem later_below {φ1 : Phi} {G H2 : AHeap} {w1 : World} : Later (· < H2.length) φ1 (φ1.below H2.length) (Own φ1 (G ++ H2)) (Own (φ1.below H2.length) H2) w1 w1 := by
  refine ⟨fun id b hid hm => ?_, Nat.le_refl _, fun b hb ho ho' => ?_, fun _ _ _ => rfl, fun _ _ => rfl⟩
  · unfold Phi.below; rw [if_pos hid]; exact hm
  · obtain ⟨id, blk, h1, h2, h3, h4⟩ := own_below (G := G) ho'
    exact ho ⟨id, blk, h2, h4⟩

mutual
theorem Fz.R {φ1 : Phi} {G H2 : AHeap} {w1 : World} (hR : Rel φ1 (G ++ H2) w1) : ∀ {x y : AV}, Fz (G ++ H2) H2.length x y → ∀ {g : Nat → Option Value}, R φ1 (Own φ1 (G ++ H2)) w1 x g → R (φ1.below H2.length) (Own (φ1.below H2.length) H2) w1 y g
  | _, _, .same hi, g, h => R_later later_below _ _ _ hi (fun _ _ h => h) h
  | _, _, .vec (k := k) (id := id) (off := off) (n := n) (c := c) (blk := blk) (ys := ys) h1 h2 h3 h4 h5, g, h => by
    obtain ⟨b, c', cur, e, fr, v1, v2, v3, v4, v5, v6, v7⟩ := h
    have hln : ((blk.es.drop off).take n).length = n := by simp; omega
    have hyl : ys.length = n := by rw [h5.len, hln]
    refine ⟨_, c', by rw [hyl]; exact v2, by omega, v4, fun h => by simp at h, fun hp => ⟨b, off * k, rfl, ?_, heap_lt v6, ?_⟩, trivial⟩
    · intro ho
      obtain ⟨id', blk', g1, g2, g3, g4⟩ := own_below (G := G) ho
      have := hR.inj id' id b g2 v1 (by rw [g4]; rfl) (by rw [h2]; rfl)
      omega
    · obtain ⟨cur2, cap, a1, a2, a3, a4, a5, a6⟩ := hR.blk id b blk v1 h2
      have h7 := Rl_take (n := n) (Rl_drop (f := off) a6)
      rw [h3, Nat.zero_add] at h7
      exact FzL.Rl hR h5 h7
  | _, _, .lst (k := k) (xs := xs) (ys := ys) hl, g, h => by
    obtain ⟨a, c, h1, h2, h3, h4, h5, h6⟩ := h
    have hyl := hl.len
    refine ⟨a, c, by rw [hyl]; exact h1, by omega, h3, h4, fun hp => ?_, trivial⟩
    obtain ⟨b, off, e1, e2, e3, e4⟩ := h5 (by omega)
    refine ⟨b, off, e1, fun ho => ?_, e3, FzL.Rl hR hl e4⟩
    obtain ⟨id', blk', g1, g2, g3, g4⟩ := own_below (G := G) ho
    exact e2 ⟨id', blk', g2, g4⟩
  | _, _, .nil, g, h => by
    obtain ⟨a, c, h1, h2, h3, h4, h5, h6⟩ := h
    exact ⟨a, c, h1, h2, h3, h4, fun hp => by simp at hp, trivial⟩
  | _, _, .agg hl, g, h => FzL.Rs hR hl h
  | _, _, .tup hl, g, h => by
    obtain ⟨us, h1, h2⟩ := h
    exact ⟨us, h1, FzL.Rt hR hl h2⟩
  | _, _, .ifc hx, g, h => by
    obtain ⟨u, h1, h2, h3⟩ := h
    exact ⟨u, h1, hx.okA h2, Fz.R hR hx h3⟩
theorem FzL.Rl {φ1 : Phi} {G H2 : AHeap} {w1 : World} (hR : Rel φ1 (G ++ H2) w1) : ∀ {xs ys : List AV}, FzL (G ++ H2) H2.length xs ys → ∀ {b k off : Nat}, Rl φ1 (Own φ1 (G ++ H2)) w1 b k xs off → Rl (φ1.below H2.length) (Own (φ1.below H2.length) H2) w1 b k ys off
  | _, _, .nil, b, k, off, _ => trivial
  | _, _, .cons hx hr, b, k, off, h => ⟨by rw [hx.isAgg.2]; exact h.1, by rw [hx.isAgg.1]; exact h.2.1, Fz.R hR hx h.2.2.1, FzL.Rl hR hr h.2.2.2⟩
theorem FzL.Rs {φ1 : Phi} {G H2 : AHeap} {w1 : World} (hR : Rel φ1 (G ++ H2) w1) : ∀ {xs ys : List AV}, FzL (G ++ H2) H2.length xs ys → ∀ {g : Nat → Option Value}, Rs φ1 (Own φ1 (G ++ H2)) w1 xs g → Rs (φ1.below H2.length) (Own (φ1.below H2.length) H2) w1 ys g
  | _, _, .nil, g, _ => trivial
  | _, _, .cons hx hr, g, h => ⟨by rw [hx.isAgg.1]; exact h.1, Fz.R hR hx h.2.1, h.2.2.1, FzL.Rs hR hr h.2.2.2⟩
theorem FzL.Rt {φ1 : Phi} {G H2 : AHeap} {w1 : World} (hR : Rel φ1 (G ++ H2) w1) : ∀ {xs ys : List AV}, FzL (G ++ H2) H2.length xs ys → ∀ {us : List Value}, Rt φ1 (Own φ1 (G ++ H2)) w1 xs us → Rt (φ1.below H2.length) (Own (φ1.below H2.length) H2) w1 ys us
  | _, _, .nil, us, h => h
  | _, _, .cons hx hr, us, h => by
    obtain ⟨v, s, h1, h2, h3, h4⟩ := h
    exact ⟨v, s, h1, hx.okA h2, Fz.R hR hx h3, FzL.Rt hR hr h4⟩
end

mutual
theorem R_ids {φ : Phi} {O : Nat → Prop} {w : World} : ∀ (x : AV) (g : Nat → Option Value), R φ O w x g → x.ids (fun id => ∃ b, φ id = some b)
  | .sc v, g, _ => trivial
  | .lst k xs room, g, h => by
    obtain ⟨a, c, h1, h2, h3, h4, h5, h6⟩ := h
    refine ⟨?_, ?_⟩
    · cases xs with
      | nil => trivial
      | cons x r => obtain ⟨b, off, _, _, _, h7⟩ := h5 (by simp); exact Rl_ids _ _ _ _ h7
    · cases room with
      | none => trivial
      | some ys =>
        cases ys with
        | nil => trivial
        | cons y s => obtain ⟨b, off, _, _, _, h7⟩ := h6.2 (by simp); exact Rl_ids _ _ _ _ h7
  | .vec k id off n c, g, h => by obtain ⟨b, _, _, _, _, h1, _⟩ := h; exact ⟨b, h1⟩
  | .ptr k id j f, g, h => by obtain ⟨b, h1, _⟩ := h; exact ⟨b, h1⟩
  | .lp x f, g, h => by obtain ⟨b, off, _, _, _, _, h1⟩ := h; exact R_ids x _ h1
  | .agg cs, g, h => Rs_ids cs g h
  | .tup vs, g, h => by obtain ⟨us, _, h1⟩ := h; exact Rt_ids vs _ h1
  | .fn f a b, g, h => by obtain ⟨us, ws, _, h1, h2⟩ := h; exact ⟨Rt_ids a _ h1, Rt_ids b _ h2⟩
  | .ifc t x, g, h => by obtain ⟨u, _, _, h1⟩ := h; exact R_ids x _ h1
  | .ub, g, _ => trivial
  | .top, g, _ => trivial
theorem Rl_ids {φ : Phi} {O : Nat → Prop} {w : World} : ∀ (l : List AV) (b k off : Nat), Rl φ O w b k l off → AV.idsL (fun id => ∃ b, φ id = some b) l
  | [], _, _, _, _ => trivial
  | x :: r, b, k, off, h => ⟨R_ids x _ h.2.2.1, Rl_ids r _ _ _ h.2.2.2⟩
theorem Rs_ids {φ : Phi} {O : Nat → Prop} {w : World} : ∀ (l : List AV) (g : Nat → Option Value), Rs φ O w l g → AV.idsL (fun id => ∃ b, φ id = some b) l
  | [], _, _ => trivial
  | x :: r, g, h => ⟨R_ids x _ h.2.1, Rs_ids r _ h.2.2.2⟩
theorem Rt_ids {φ : Phi} {O : Nat → Prop} {w : World} : ∀ (l : List AV) (us : List Value), Rt φ O w l us → AV.idsL (fun id => ∃ b, φ id = some b) l
  | [], _, _ => trivial
  | x :: r, us, h => by obtain ⟨v, s, _, _, h1, h2⟩ := h; exact ⟨R_ids x _ h1, Rt_ids r _ h2⟩
end

/-- What a call laid and did not hand out is dropped; what it hands out is frozen. -/
theorem weak_rel {H G H2 : AHeap} (hl : H.length ≤ H2.length) (hold : ∀ id k, AHeap.find H2 id = some k → (id < H.length ∧ AHeap.find H id = some k) ∨ AV.idsL (· < H2.length) k.es) {φ φ1 : Phi} {w w1 : World} (hR0 : Rel φ H w) (hR : Rel φ1 (G ++ H2) w1) (hS : Step φ H w φ1 (G ++ H2) w1) :
    Rel (φ1.below H2.length) H2 w1 ∧ Step φ H w (φ1.below H2.length) H2 w1 := by
  have hlb : Later (· < H2.length) φ1 (φ1.below H2.length) (Own φ1 (G ++ H2)) (Own (φ1.below H2.length) H2) w1 w1 := later_below
  have hbm : ∀ id b, φ1.below H2.length id = some b → id < H2.length ∧ φ1 id = some b := fun id b h => by
    unfold Phi.below at h
    split at h
    · rename_i hlt; exact ⟨hlt, h⟩
    · simp at h
  refine ⟨⟨fun id b h => ⟨(hbm id b h).1, (hR.dom id b (hbm id b h).2).2⟩, fun i j b hi hj hfi hfj => ?_, fun id b k h1 h2 => ?_⟩, ⟨⟨fun id b _ h => ?_, hS.size, fun b hb ho ho' => ?_, hS.same, hS.shape⟩, hS.os, hS.tape, hS.output, hl, fun id hid => ?_⟩⟩
  · have l1 := (hbm i b hi).1
    have l2 := (hbm j b hj).1
    exact hR.inj i j b (hbm i b hi).2 (hbm j b hj).2 (by rw [AHeap.find_append l1]; exact hfi) (by rw [AHeap.find_append l2]; exact hfj)
  · obtain ⟨hlt, h3⟩ := hbm id b h1
    obtain ⟨c1, c2, a1, a2, a3, a4, a5, a6⟩ := hR.blk id b k h3 (by rw [AHeap.find_append hlt]; exact h2)
    refine ⟨c1, c2, a1, a2, a3, a4, a5, Rl_later hlb b rfl _ _ _ ?_ a6⟩
    rcases hold id k h2 with ⟨g1, g2⟩ | g
    · have h4 : φ id = some b := by rw [← hS.old id g1]; exact h3
      obtain ⟨_, _, _, _, _, _, _, b6⟩ := hR0.blk id b k h4 g2
      exact AV.idsL_mono (fun i ⟨b', hb'⟩ => Nat.lt_of_lt_of_le (hR0.dom i b' hb').1 hl) _ (Rl_ids _ _ _ _ b6)
    · exact g
  · have h4 := (hR0.dom id b h).1
    unfold Phi.below
    rw [if_pos (by omega), hS.old id h4]
    exact h
  · obtain ⟨id, blk, g1, g2, g3, g4⟩ := own_below (G := G) ho'
    exact hS.own b hb ho ⟨id, blk, g2, g4⟩
  · unfold Phi.below
    rw [if_pos (by omega)]
    exact hS.old id hid

theorem weak_ret {H G H2 : AHeap} {x y : AV} (hl : H.length ≤ H2.length) (hold : ∀ id k, AHeap.find H2 id = some k → (id < H.length ∧ AHeap.find H id = some k) ∨ AV.idsL (· < H2.length) k.es) (hz : Fz (G ++ H2) H2.length x y) : Weak H (.ret x) (G ++ H2) (.ret y) H2 := by
  intro φ w φ1 w1 en hR0 he hR hS
  obtain ⟨h1, h2⟩ := weak_rel hl hold hR0 hR hS
  refine ⟨φ1.below H2.length, ?_, h1, h2⟩
  cases en with
  | returned v => exact ⟨hz.okA he.1, Fz.R hR hz he.2⟩
  | _ => exact he.elim

theorem weak_pan {H G H2 : AHeap} {x y : AV} (hl : H.length ≤ H2.length) (hold : ∀ id k, AHeap.find H2 id = some k → (id < H.length ∧ AHeap.find H id = some k) ∨ AV.idsL (· < H2.length) k.es) (hz : Fz (G ++ H2) H2.length x y) : Weak H (.pan x) (G ++ H2) (.pan y) H2 := by
  intro φ w φ1 w1 en hR0 he hR hS
  obtain ⟨h1, h2⟩ := weak_rel hl hold hR0 hR hS
  refine ⟨φ1.below H2.length, ?_, h1, h2⟩
  cases en with
  | panicked c => obtain ⟨v, rfl, hv⟩ := he; exact ⟨v, rfl, hz.okA hv.1, Fz.R hR hz hv.2⟩
  | _ => exact he.elim

/-- The most used: nothing that was there has changed, and all that was laid is dropped. -/
theorem weak_same {H G : AHeap} {x y : AV} (hz : Fz (G ++ H) H.length x y) : Weak H (.ret x) (G ++ H) (.ret y) H :=
  weak_ret (Nat.le_refl _) (fun id k h => .inl ⟨AHeap.find_lt h, h⟩) hz
end
end Go.Proofs.Ytddhdlfafaobhaa
