/- Rounds: ranges over functions, from the code's words to the model's. Nothing of the program is named here. -/
import Derived.Test.YtigmpablpmanpaaVC
import Derived.RangeFuncRecord
import Derived.OrdersIn
namespace Go.Proofs.Ytigmpablpmanpaa
open Go.RowKit
set_option linter.unusedVariables false
set_option linter.unusedSimpArgs false

/-- The fence that lets all in; in a round, or in none. -/
def Fv : Option Nat → Fence
  | none => Fence.wide
  | some l => Fence.wide.inRound l

section
variable {P : Program} {ro : Option Nat} {n : Nat}

theorem Fv_round : (Fv ro).round = ro := by cases ro <;> rfl
theorem Fv_fn (f : FuncId) : (Fv ro).fn f := by cases ro <;> trivial
theorem Fv_depth : (Fv ro).depth.isSome = true → 1 ≤ n := by cases ro <;> (intro h; cases h)
theorem Fv_room (m : Nat) : (Fv ro).room m := by cases ro <;> exact room_wide m
theorem callsV {f : FuncId} {args : Array Value} {w : World} {R : Ending → World → Prop} (h : Calls P f args w R) : CallsIn (Fv ro) n P f args w R := by
  cases ro with
  | none => exact callsIn_wide.2 h
  | some l => exact (callsIn_wide.2 h : CallsIn Fence.wide n P f args w R)
theorem rowsF {row : String} {args : Array Value} {w : World} {R : Value → World → Prop} (h : Rows P row args w R) : RowsIn (Fv ro) n P row args w R := by
  intro c cs _
  obtain ⟨v, w', r, s⟩ := h c cs
  refine ⟨v, w', r, ?_⟩
  cases ro with
  | none => exact stepsIn_wide.2 s
  | some l => exact stepsIn_wide.2 s

def notDefer : Op → Bool
  | .defer _ => false
  | _ => true

theorem op_in {o : Oper} (hnd : notDefer o.op = true) {a : Act} {w : World} {next : Act → World → Prop} {Q : Exit → Act → World → Prop} (h : o.wp P a w next Q) : o.wpIn (Fv ro) 0 P a w next Q := by
  refine ⟨fun f _ => Fv_fn f, ?_⟩
  rw [Oper.semAt_eq _ _ _ (fun c e => by rw [e] at hnd; cases hnd)]
  unfold Oper.wp at h
  revert h
  cases (execOp a.eval o).run P w with
  | ok nx w' =>
    cases nx <;> intro h <;> first | exact h.elim | exact h | exact ⟨Fv_depth, callsV h⟩ | exact ⟨Fv_depth, rowsF h⟩
  | halt hl w' => cases hl <;> intro h <;> first | exact h.elim | exact h

theorem ops_in {ops : Array Oper} (hnd : ∀ o ∈ ops.toList, notDefer o.op = true) {Q : Exit → Act → World → Prop} (hq : ¬ LetsOut Q) : ∀ (l : List Nat) (a : Act) (w : World), wpOps P ops Q l a w → wpOpsIn (Fv ro) 0 P ops Q l a w
  | [], a, w, h => h
  | i :: rest, a, w, h => by
    simp only [wpOps] at h
    simp only [wpOpsIn]
    split
    · rename_i ho; simp only [ho] at h; exact ops_in hnd hq rest a w h
    · rename_i o ho
      simp only [ho] at h
      have hm : o ∈ ops.toList := by rw [← Array.getElem?_toList] at ho; exact List.mem_of_getElem? ho
      split
      · rename_i hw
        rw [if_pos hw] at h
        rcases h with h | h
        · exact op_in (hnd o hm) (Oper.wp_mono (fun a w h => ops_in hnd hq rest a w h) h)
        · exact (hq h.2).elim
      · rename_i hw
        rw [if_neg hw] at h
        exact ⟨fun f _ => Fv_fn f, ops_in hnd hq rest _ w h⟩

theorem any_in {md : Region.Mode} {ops : Array Oper} (hnd : ∀ o ∈ ops.toList, notDefer o.op = true) {Q : Exit → Act → World → Prop} (hq : ¬ LetsOut Q) : ∀ (fuel : Nat) (L : Array Bool) (a : Act) (w : World), wpAny P md ops Q fuel L a w → wpAnyIn (Fv ro) 0 P md ops Q fuel L a w
  | 0, L, a, w, h => h
  | fuel + 1, L, a, w, h => by
    refine ⟨h.1, fun i hi => ?_⟩
    have := h.2 i hi
    unfold wpOp at this
    unfold wpOpIn
    split
    · rename_i ho; simp only [ho] at this; exact any_in hnd hq fuel _ a w this
    · rename_i o ho
      simp only [ho] at this
      have hm : o ∈ ops.toList := by rw [← Array.getElem?_toList] at ho; exact List.mem_of_getElem? ho
      split
      · rename_i hw
        rw [if_pos hw] at this
        rcases this with h | h
        · exact op_in (hnd o hm) (Oper.wp_mono (fun a w h => any_in hnd hq fuel _ a w h) h)
        · exact (hq h.2).elim
      · rename_i hw
        rw [if_neg hw] at this
        exact ⟨fun f _ => Fv_fn f, any_in hnd hq fuel _ _ w this⟩

/-! ### Own records -/

/-- A new own block that is no cells. -/
theorem Rel.allocO {φ : Phi} {w : World} {H : AHeap} (h : Rel φ H w) (blk : ABlk) (o : Obj) (hx : Later (fun _ => True) φ (φ.add H.length w.heap.size) (Own φ H) (Own (φ.add H.length w.heap.size) (some blk :: H)) w (w.alloc o) → BlkR (φ.add H.length w.heap.size) (Own (φ.add H.length w.heap.size) (some blk :: H)) (w.alloc o) blk w.heap.size) :
    Rel (φ.add H.length w.heap.size) (some blk :: H) (w.alloc o) ∧ Step φ H w (φ.add H.length w.heap.size) (some blk :: H) (w.alloc o) := by
  obtain ⟨hnew, hold⟩ := MapKept.heap_alloc w o
  have hsize : w.heap.size ≤ (w.alloc o).heap.size := by simp
  have hdom : ∀ id b, φ id = some b → id < H.length := fun id b hm => (h.dom id b hm).1
  have hl2 : Later (fun _ => True) φ (φ.add H.length w.heap.size) (Own φ H) (Own (φ.add H.length w.heap.size) (some blk :: H)) w (w.alloc o) := by
    refine ⟨fun id b _ hm' => ?_, hsize, fun b hb ho ho' => ?_, fun b hb _ => hold b hb, fun b hb => by unfold World.shape?; rw [hold b hb]⟩
    · unfold Phi.add
      rw [if_neg (by have := hdom id b hm'; omega)]
      exact hm'
    · rcases own_add hdom ho' with h1 | h1
      · exact ho h1
      · omega
  refine ⟨⟨fun id b' hm' => ?_, fun i j b' hi hj hfi hfj => ?_, fun id b' k h1 h2 => ?_⟩, ⟨hl2, rfl, rfl, rfl, by simp, fun id hid => by unfold Phi.add; rw [if_neg (by omega)]⟩⟩
  · unfold Phi.add at hm'
    split at hm'
    · rename_i e
      cases hm'
      exact ⟨by simp [e], by simp⟩
    · have := h.dom id b' hm'
      exact ⟨by simp; omega, by simp; omega⟩
  · unfold Phi.add at hi hj
    split at hi <;> split at hj
    · omega
    · cases hi; have := (h.dom j _ hj).2; omega
    · cases hj; have := (h.dom i _ hi).2; omega
    · have l1 := (h.dom i b' hi).1
      have l2 := (h.dom j b' hj).1
      rw [AHeap.find_cons l1] at hfi
      rw [AHeap.find_cons l2] at hfj
      exact h.inj i j b' hi hj hfi hfj
  · unfold Phi.add at h1
    split at h1
    · rename_i e
      cases h1
      subst e
      rw [AHeap.find_new] at h2
      cases h2
      exact hx hl2
    · have l1 := (h.dom id b' h1).1
      have l2 := (h.dom id b' h1).2
      rw [AHeap.find_cons l1] at h2
      exact (h.blk id b' k h1 h2).on hl2 (hold b' l2)

theorem Rt_of {φ : Phi} {O : Nat → Prop} {w : World} : ∀ {ts : List AV} {us : List Value}, us.length = ts.length → (∀ i, i < ts.length → VR φ O w (ts.getD i .top) (us.getD i undef)) → Rt φ O w ts us
  | [], us, hl, _ => by cases us <;> first | rfl | simp at hl
  | x :: r, [], hl, _ => by simp at hl
  | x :: r, v :: s, hl, h => by
    have h0 := h 0 (by simp)
    exact ⟨v, s, rfl, h0.1, h0.2, Rt_of (by simpa using hl) fun i hi => by have := h (i + 1) (by simp; omega); simpa using this⟩
theorem FR_Rt {φ : Phi} {O : Nat → Prop} {w : World} {ts : List AV} {a : Act} (h : FR φ O w ts a) : Rt φ O w ts a.tmps.toList := by
  refine Rt_of (by simpa using h.1) fun i hi => ?_
  have := h.2 i
  rwa [show a.tmps.toList.getD i undef = a.tmps.getD i undef from by rw [Array.getD_eq_getD_getElem?, List.getD, Array.getElem?_toList]]
theorem Rt_FR {φ : Phi} {O : Nat → Prop} {w : World} {ts : List AV} {us : Array Value} (h : Rt φ O w ts us.toList) (ds : List Deferred) : FR φ O w ts { tmps := us, defers := ds } := by
  have hl := Rt_len h
  refine ⟨by simpa using hl, fun i => ?_⟩
  by_cases hi : i < ts.length
  · obtain ⟨u, g1, g2⟩ := Rt_nth h (i := i) (x := ts[i]) (by simp [hi])
    rw [Array.getElem?_toList] at g1
    rw [show ts.getD i .top = ts[i] from by simp [List.getD, hi], show us.getD i undef = u from by rw [Array.getD_eq_getD_getElem?, g1]; rfl]
    exact g2
  · rw [show ts.getD i .top = .top from by simp [List.getD, List.getElem?_eq_none (Nat.le_of_not_lt hi)]]
    exact vr_top _

/-- What is known of an own record. -/
theorem own_rec {φ : Phi} {w : World} {H : AHeap} (hR : Rel φ H w) {id b : Nat} {r : Loop} {ts : List AV} (hm : φ id = some b) (hf : AHeap.find H id = some (lpB r ts)) : ∃ tm : Array Value, w.heap[b]? = some (.loop { r with tmps := tm }) ∧ Rt φ (Own φ H) w ts tm.toList := by
  rcases hR.blk id b _ hm hf with ⟨h0, _⟩ | ⟨_, h0, _⟩ | ⟨_, _, r', ts', tm, e, a1, a2⟩
  · exact absurd h0 (by simp [lpB])
  · exact absurd h0 (by simp [lpB])
  · simp only [lpB, List.cons.injEq, AV.rcd.injEq] at e
    obtain ⟨rfl, rfl⟩ := e
    exact ⟨tm, a1, a2⟩

theorem shape_loop {w : World} {b : Nat} {r : Loop} (h : w.heap[b]? = some (.loop r)) : w.shape? b = none := by unfold World.shape?; rw [h]

/-- An own record is written. -/
theorem Rel.writeL {φ : Phi} {w : World} {H : AHeap} (h : Rel φ H w) {id b : Nat} {r : Loop} {ts : List AV} {tm : Array Value} (hm : φ id = some b) (hf : AHeap.find H id = some (lpB r ts)) (hb : w.heap[b]? = some (.loop { r with tmps := tm })) (ht : Rt φ (Own φ H) w ts tm.toList) (r' : Loop) :
    Rel φ (AHeap.set H id (some (lpB r' ts))) (w.putObj b (.loop { r' with tmps := tm })) ∧ Step φ H w φ (AHeap.set H id (some (lpB r' ts))) (w.putObj b (.loop { r' with tmps := tm })) := by
  have hlt := heap_lt hb
  refine h.writeO hm hf _ World.putObj_size (fun b' hne => World.putObj_heap_other hne) (by rw [shape_loop hb, shape_loop (World.putObj_heap_same hlt)]) rfl rfl rfl fun k hk hl => ?_
  cases hk
  exact .inr (.inr ⟨rfl, rfl, r', ts, tm, rfl, World.putObj_heap_same hlt, Rt_later hl _ _ (AV.idsL_true _) ht⟩)
/-- An own record is given up. -/
theorem Rel.killL {φ : Phi} {w : World} {H : AHeap} (h : Rel φ H w) {id b : Nat} {r r' : Loop} {blk : ABlk} (hm : φ id = some b) (hf : AHeap.find H id = some blk) (hb : w.heap[b]? = some (.loop r)) :
    Rel φ (AHeap.set H id none) (w.putObj b (.loop r')) ∧ Step φ H w φ (AHeap.set H id none) (w.putObj b (.loop r')) :=
  h.writeO hm hf _ World.putObj_size (fun b' hne => World.putObj_heap_other hne) (by rw [shape_loop hb, shape_loop (World.putObj_heap_same (heap_lt hb))]) rfl rfl rfl fun k hk => by cases hk

/-! ### The marks that such loops leave among the deferred calls -/
def Mk (m : Nat) : Deferred := { target := .collected m, args := #[] }
def MD (n0 : Nat) (φ : Phi) (H : AHeap) (w : World) (ds : List Deferred) : Prop := ∃ ms : List Nat, ds = ms.map Mk ∧ ms.Nodup ∧ ∀ m ∈ ms, n0 ≤ m ∧ w.heap[m]? = some (.deferred (some [])) ∧ ¬ Own φ H m
theorem MD.nil (n0 : Nat) (φ : Phi) (H : AHeap) (w : World) : MD n0 φ H w [] := ⟨[], rfl, .nil, fun m h => by cases h⟩
theorem MD.step {n0 : Nat} {φ φ' : Phi} {H H' : AHeap} {w w' : World} {ds : List Deferred} (hs : Step φ H w φ' H' w') (h : MD n0 φ H w ds) : MD n0 φ' H' w' ds := by
  obtain ⟨ms, h1, h2, h3⟩ := h
  refine ⟨ms, h1, h2, fun m hm => ?_⟩
  obtain ⟨g1, g2, g3⟩ := h3 m hm
  exact ⟨g1, (hs.same m (heap_lt g2) g3).trans g2, hs.own m (heap_lt g2) g3⟩

/-! ### Regions that call the way into a round -/
def splitY : List Oper → Option (List Oper × Oper × Tmp × Array Operand × List Oper)
  | [] => none
  | o :: r => match o.op with
    | .call { callee := .value (.tmp t), args, .. } => some ([], o, t, args, r)
    | _ => (splitY r).map fun x => (o :: x.1, x.2.1, x.2.2.1, x.2.2.2.1, x.2.2.2.2)
theorem splitY_spec : ∀ {l a : List Oper} {o : Oper} {t : Tmp} {as : Array Operand} {c : List Oper}, splitY l = some (a, o, t, as, c) → l = a ++ o :: c ∧ ∃ ats, o.op = .call { callee := .value (.tmp t), args := as, argTypes := ats }
  | [], a, o, t, as, c, h => by simp [splitY] at h
  | x :: r, a, o, t, as, c, h => by
    unfold splitY at h
    split at h
    · rename_i t' args' ats e
      simp only [Option.some.injEq, Prod.mk.injEq] at h
      obtain ⟨rfl, rfl, rfl, rfl, rfl⟩ := h
      exact ⟨rfl, ats, e⟩
    · simp only [Option.map_eq_some_iff, Prod.mk.injEq] at h
      obtain ⟨⟨a', o', t', as', c'⟩, h1, rfl, rfl, rfl, rfl, rfl⟩ := h
      obtain ⟨h2, h3⟩ := splitY_spec h1
      exact ⟨by rw [h2]; rfl, h3⟩

def compYld (P : Program) (b : Bool) (ops : Array Oper) : Option IC := match splitY ops.toList with
  | some (a, o, t, as, c) => match compOps P b ops a, compG ops o.guard, ofXs as, compOps P b ops c with
    | some l1, some g, some xs, some l2 => some (.yld l1 g (.t t) xs o.dst l2)
    | _, _, _, _ => none
  | none => none

theorem runOps_partY {b : Bool} {ops : Array Oper} (hnd : ∀ o ∈ ops.toList, notDefer o.op = true) {Q : Exit → Act → World → Prop} {K : List AV → AHeap → Prop} {Kp : AV → List AV → AHeap → Prop} {tail : List Nat} : ∀ (n i : Nat) (l : List IO') (ts : List AV) (H : AHeap) (φ : Phi) (w : World) (a : Act),
    i + n ≤ ops.size → compOps P b ops ((ops.toList.drop i).take n) = some l → Rel φ H w → FR φ (Own φ H) w ts a → runOps P K Kp l ts H →
    (∀ ts' a' φ' H' w', K ts' H' → FR φ' (Own φ' H') w' ts' a' → Rel φ' H' w' → Step φ H w φ' H' w' → a'.defers = a.defers → wpOpsIn (Fv ro) 0 P ops Q tail a' w') → PanOk Q Kp φ H w a.defers → wpOpsIn (Fv ro) 0 P ops Q (List.range' i n ++ tail) a w
  | 0, i, l, ts, H, φ, w, a, hi, hc, hR, hF, h, hk, hp => by
    simp [compOps] at hc
    subst hc
    exact hk _ _ _ _ _ h hF hR (Step.refl _ _ _) rfl
  | n + 1, i, l, ts, H, φ, w, a, hi, hc, hR, hF, h, hk, hp => by
    have hlt : i < ops.toList.length := by simp; omega
    rw [List.drop_eq_getElem_cons hlt, List.take_succ_cons] at hc
    unfold compOps at hc
    split at hc
    case h_2 => simp at hc
    rename_i x s hx hs
    cases hc
    have hoi : ops[i]? = some (ops.toList[i]) := by simp at hlt; simp [hlt]
    obtain ⟨hd, hg⟩ := compO_dst hx
    simp only [runOps] at h
    have hcont : ∀ φ' H' w', Step φ H w φ' H' w' → ∀ a' : Act, a'.defers = a.defers → (∀ ts2 a2 φ2 H2 w2, K ts2 H2 → FR φ2 (Own φ2 H2) w2 ts2 a2 → Rel φ2 H2 w2 → Step φ' H' w' φ2 H2 w2 → a2.defers = a'.defers → wpOpsIn (Fv ro) 0 P ops Q tail a2 w2) ∧ PanOk Q Kp φ' H' w' a'.defers := by
      intro φ' H' w' hst a' ha
      exact ⟨fun ts2 a2 φ2 H2 w2 k1 k2 k3 k4 k5 => hk ts2 a2 φ2 H2 w2 k1 k2 k3 (hst.trans k4) (by rw [k5, ha]), fun v u ts2 a2 φ2 H2 w2 k1 k2 k3 k4 k5 k6 => hp v u ts2 a2 φ2 H2 w2 k1 k2 k3 k4 (hst.trans k5) (by rw [k6, ha])⟩
    rw [show List.range' i (n + 1) ++ tail = i :: (List.range' (i + 1) n ++ tail) from rfl]
    simp only [wpOpsIn, hoi]
    rcases guard_wanted hg hF h with ⟨hw, hy⟩ | ⟨hw, hno⟩
    · rw [if_pos hw]
      refine op_in (hnd _ (List.getElem_mem hlt)) (op_wp hx hR hF hy (fun v u φ' H' w' k1 k2 k3 k4 => ?_) (fun v u φ' H' w' k1 k2 k3 k4 => ?_))
      · have hF' := (FR.step k4 hF).put (ops.toList[i]).dst k2
        rw [hd] at k1
        have := hcont φ' H' w' k4 (a.put (ops.toList[i]).dst u) (put_defers _ _ _)
        exact runOps_partY hnd n (i + 1) s _ H' φ' w' _ (by omega) hs k3 hF' k1 this.1 this.2
      · exact hp v u ts a φ' H' w' k1 k2 (FR.step k4 hF) k3 k4 rfl
    · rw [if_neg (by rw [hw]; simp)]
      refine ⟨fun f _ => Fv_fn f, ?_⟩
      have hF' := hF.put (ops.toList[i]).dst (vr_undef (φ := φ) (O := Own φ H) (w := w))
      rw [hd] at hno
      have := hcont φ H w (Step.refl _ _ _) (a.put (ops.toList[i]).dst undef) (put_defers _ _ _)
      exact runOps_partY hnd n (i + 1) s _ H φ w _ (by omega) hs hR hF' hno this.1 this.2

/-- The call of the way in. -/
theorem yop_in {o : Oper} {t : Tmp} {as : Array Operand} {ats : Array TypeId} {xs : List X} (ho : o.op = .call { callee := .value (.tmp t), args := as, argTypes := ats }) (hxs : ofXs as = some xs) {φ : Phi} {H : AHeap} {w : World} {ts : List AV} {a : Act} (hR : Rel φ H w) (hF : FR φ (Own φ H) w ts a) {K Kp : AV → AHeap → Prop}
    (h : yldK P K Kp (xs.map (X.ev ts)) H ((X.t t).ev ts)) {next : Act → World → Prop} {Q : Exit → Act → World → Prop}
    (hn : ∀ v u φ' H' w', K v H' → VR φ' (Own φ' H') w' v u → Rel φ' H' w' → Step φ H w φ' H' w' → next (a.put o.dst u) w')
    (hp : ∀ v u φ' H' w', Kp v H' → ChR φ' (Own φ' H') w' v u → Rel φ' H' w' → Step φ H w φ' H' w' → Q (.panic u) a w') : o.wpIn (Fv ro) 0 P a w next Q := by
  refine ⟨fun f _ => Fv_fn f, ?_⟩
  rw [Oper.semAt_eq _ _ _ (fun c e => by rw [ho] at e; cases e)]
  have hv : VR φ (Own φ H) w ((X.t t).ev ts) (a.eval (.tmp t)) := ofX_spec hF rfl
  unfold yldK at h
  split at h
  case h_2 => exact h.elim
  rename_i k id j f he
  obtain ⟨⟨rfl, rfl⟩, e, H', hD, hK⟩ := h
  rw [he] at hv
  obtain ⟨b, g1, g2⟩ := VR_ptr hv
  obtain ⟨f, tmps, asg, body, hy, hr⟩ := hD.2 φ w b (as.map a.eval) hR g1 (by simpa using Rt_map hF hxs)
  have hrun : (execOp a.eval o).run P w = .ok (.round b f tmps asg body) w := by
    have e1 : a.eval (.tmp t) = .func (.yield b) #[] #[] := g2
    simp only [execOp, ho, resolve, e1, Deferred.ofValue, invoke, Sem.run_bind, Sem.run_pure, Result.andThen_ok, Array.empty_append]
    exact hy
  rw [hrun, Oper.uponIn_round]
  refine ⟨Fv_depth, ?_⟩
  have hrn : RoundIn (Fv ro) (0 - 1) P b f tmps asg body w fun en w' => ∃ φ', EndR φ' (Own φ' H') w' e en ∧ Rel φ' H' w' ∧ Step φ H w φ' H' w' := by
    cases ro with
    | none => exact hr
    | some l => exact hr
  refine hrn.mono ?_
  rintro en w' ⟨φ', h1, h2, h3⟩
  cases e with
  | ret v =>
    cases en with
    | returned u => exact hn _ _ _ _ _ hK h1 h2 h3
    | panicked c => exact h1.elim
    | outgrown => exact h1.elim
  | pan v =>
    cases en with
    | returned u => exact h1.elim
    | panicked c => exact hp _ _ _ _ _ hK h1 h2 h3
    | outgrown => exact h1.elim

theorem region_yld {b : Bool} {id : Nat} {ops : Array Oper} (hnd : ∀ o ∈ ops.toList, notDefer o.op = true) {ic : IC} (hc : compYld P b ops = some ic) {Q : Exit → Act → World → Prop} {K : Post} {φ : Phi} {H : AHeap} {w : World} {ts : List AV} {a : Act}
    (hR : Rel φ H w) (hF : FR φ (Own φ H) w ts a) (h : E P ic K ts H) (hk : ContOk Q (K .normal) φ H w a.defers) (hp : PanOk Q (fun v ts' H' => K (.pan v) ts' H') φ H w a.defers) : (Code.region id ops false).wpIn (Fv ro) 0 P Q a w := by
  unfold compYld at hc
  split at hc
  case h_2 => simp at hc
  rename_i la o t as lc hsp
  split at hc
  case h_2 => simp at hc
  rename_i l1 g xs l2 h1 h2 h3 h4
  cases hc
  obtain ⟨hops, ats, ho⟩ := splitY_spec hsp
  have hsz : ops.size = la.length + (1 + lc.length) := by rw [← Array.length_toList, hops]; simp; omega
  have htk : (ops.toList.drop 0).take la.length = la := by rw [hops]; simp
  have hdr : (ops.toList.drop (la.length + 1)).take lc.length = lc := by
    rw [hops, show la ++ o :: lc = (la ++ [o]) ++ lc by simp, List.drop_left' (by simp)]
    simp
  have hoi : ops[la.length]? = some o := by rw [← Array.getElem?_toList, hops]; simp
  refine wpIn_region ?_
  have hrange : List.range ops.size = List.range' 0 la.length ++ (la.length :: (List.range' (la.length + 1) lc.length ++ [])) := by
    rw [hsz, List.range_eq_range', ← List.range'_append_1, List.append_nil]
    congr 1
    rw [Nat.add_comm 1, List.range'_succ, Nat.zero_add]
  rw [hrange]
  have fin : ∀ {d : Option Nat} {v : AV} {ts1 : List AV} {a1 : Act} {φ1 : Phi} {H1 : AHeap} {w1 : World}, runOps P (K .normal) (fun v ts' H' => K (.pan v) ts' H') l2 ts1 H1 → FR φ1 (Own φ1 H1) w1 ts1 a1 → Rel φ1 H1 w1 → Step φ H w φ1 H1 w1 → a1.defers = a.defers → wpOpsIn (Fv ro) 0 P ops Q (List.range' (la.length + 1) lc.length ++ []) a1 w1 := by
    intro d v ts1 a1 φ1 H1 w1 k1 k2 k3 k4 k5
    refine runOps_partY hnd lc.length (la.length + 1) l2 ts1 H1 φ1 w1 a1 (by omega) (by rw [hdr]; exact h4) k3 k2 k1 (fun ts2 a2 φ2 H2 w2 m1 m2 m3 m4 m5 => ?_) (fun v u ts2 a2 φ2 H2 w2 m1 m2 m3 m4 m5 m6 => hp v u ts2 a2 φ2 H2 w2 m1 m2 m3 m4 (k4.trans m5) (by rw [m6, k5]))
    exact hk ts2 a2 φ2 H2 w2 m1 m2 m3 (k4.trans m4) (by rw [m5, k5])
  refine runOps_partY hnd la.length 0 l1 ts H φ w a (by omega) (by rw [htk]; exact h1) hR hF h (fun ts1 a1 φ1 H1 w1 k1 k2 k3 k4 k5 => ?_) hp
  simp only [wpOpsIn, hoi]
  rcases guard_wanted h2 k2 k1 with ⟨hw, hy⟩ | ⟨hw, hno⟩
  · rw [if_pos hw]
    refine yop_in ho h3 k3 k2 hy (fun v u φ2 H2 w2 m1 m2 m3 m4 => ?_) (fun v u φ2 H2 w2 m1 m2 m3 m4 => ?_)
    · exact fin (d := none) (v := .top) m1 ((FR.step m4 k2).put o.dst m2) m3 (k4.trans m4) (by rw [put_defers, k5])
    · exact hp v u ts1 a1 φ2 H2 w2 m1 m2 (FR.step m4 k2) m3 (k4.trans m4) k5
  · rw [if_neg (by rw [hw]; simp)]
    exact ⟨fun f _ => Fv_fn f, fin (d := none) (v := .top) hno (k2.put o.dst vr_undef) k3 k4 (by rw [put_defers, k5])⟩

/-! ### Code -/
def opsOkY (ops : Array Oper) : Bool := ops.toList.all fun o => notDefer o.op
theorem opsOkY_spec {ops : Array Oper} (h : opsOkY ops = true) : ∀ o ∈ ops.toList, notDefer o.op = true := fun o ho => List.all_eq_true.1 h o ho

def compY (top : Bool) (P : Program) (vecs ys : List Nat) : Code → Option IC
  | .skip => some .skip
  | .label _ => some .skip
  | .region id ops draw => if opsOkY ops then (if ys.contains id then (if draw then none else compYld P (vecs.contains id) ops) else compC P vecs (.region id ops draw)) else none
  | .seq a b => match compY top P vecs ys a, compY top P vecs ys b with
    | some x, some y => some (.seq x y)
    | _, _ => none
  | .cond c a b => match ofX c, compY top P vecs ys a, compY top P vecs ys b with
    | some c, some x, some y => some (.cond c x y)
    | _, _, _ => none
  | .block id c => (compY top P vecs ys c).map (.block id)
  | .loop c => (compY top P vecs ys c).map .loop
  | .exit id => some (.exit id)
  | .ret => some .ret
  | .refuse _ => some deadC
  | .rangeFunc g ps asg body => if top then (ofX g).map fun x => .rng x ps asg body else none
  | _ => none

/-- Where the code comes out. -/
def CKY (n0 : Nat) (K : Post) (φ : Phi) (H : AHeap) (w : World) : Exit → Act → World → Prop := fun e a' w' =>
  ∃ x ts' H' φ', XR φ' (Own φ' H') w' x e ∧ K x ts' H' ∧ FR φ' (Own φ' H') w' ts' a' ∧ Rel φ' H' w' ∧ Step φ H w φ' H' w' ∧ MD n0 φ' H' w' a'.defers
theorem CKY.step {n0 : Nat} {K : Post} {φ φ' : Phi} {H H' : AHeap} {w w' : World} {e : Exit} {a : Act} {w2 : World} (hs : Step φ H w φ' H' w') (h : CKY n0 K φ' H' w' e a w2) : CKY n0 K φ H w e a w2 := by
  obtain ⟨x, ts, H2, φ2, h1, h2, h3, h4, h5, h6⟩ := h
  exact ⟨x, ts, H2, φ2, h1, h2, h3, h4, hs.trans h5, h6⟩
theorem CKY.stays {n0 : Nat} {K : Post} {φ : Phi} {H : AHeap} {w : World} : ¬ LetsOut (CKY n0 K φ H w) := by
  rintro ⟨a, w', x, ts, H2, φ2, h1, _⟩
  cases x <;> exact h1.elim

theorem region_Y {vecs : List Nat} {id : Nat} {ops : Array Oper} {draw : Bool} (hnd : ∀ o ∈ ops.toList, notDefer o.op = true) {ic : IC} (hc : compC P vecs (.region id ops draw) = some ic) {Q : Exit → Act → World → Prop} (hq : ¬ LetsOut Q) {K : Post} {φ : Phi} {H : AHeap} {w : World} {ts : List AV} {a : Act}
    (hR : Rel φ H w) (hF : FR φ (Own φ H) w ts a) (h : E P ic K ts H) (hk : ContOk Q (K .normal) φ H w a.defers) (hp : PanOk Q (fun v ts' H' => K (.pan v) ts' H') φ H w a.defers) : (Code.region id ops draw).wpIn (Fv ro) 0 P Q a w := by
  simp only [compC] at hc
  split at hc
  · simp at hc
  rename_i l hl
  cases draw with
  | false =>
    simp only [Bool.false_eq_true, if_false] at hc
    cases hc
    refine wpIn_region (ops_in hnd hq _ _ _ ?_)
    rw [List.range_eq_range']
    exact runOps_sound ops.size 0 l ts H φ w a (by omega) (by simpa using hl) hR hF h hk hp
  | true =>
    simp only [if_true] at hc
    split at hc
    case isFalse =>
      unfold hoistC at hc
      simp only at hc
      split at hc
      · simp at hc
      rename_i l2 hl2
      split at hc
      case isFalse => simp at hc
      rename_i hcond
      simp only [Bool.and_eq_true] at hcond
      cases hc
      exact wpIn_region_any hcond.2 (any_in hnd hq _ _ _ _ (region_hoistA hcond.2 hcond.1.1.1 hl2 hcond.1.1.2 hcond.1.2 hR hF h hk hp))
    rename_i hcond
    simp only [Bool.and_eq_true] at hcond
    cases hc
    exact wpIn_region_any hcond.2 (any_in hnd hq _ _ _ _ (region_any hl hcond.1.1 hcond.1.2 hR hF h hk hp))

/-- A range over a function, entered. -/
theorem rng_in {g : Operand} {x : X} {ps : Array Tmp} {asg body : Code} (hx : ofX g = some x) {K : Post} {φ : Phi} {H : AHeap} {w : World} {ts : List AV} {a : Act} {n0 : Nat} (hR : Rel φ H w) (hF : FR φ (Own φ H) w ts a) (hM : MD n0 φ H w a.defers) (hn : n0 ≤ w.heap.size) (h : rngK P ps asg body K ts H (x.ev ts)) :
    (Code.rangeFunc g ps asg body).wpIn (Fv none) 0 P (CKY n0 K φ H w) a w := by
  have hv := ofX_spec hF hx
  unfold rngK at h
  split at h
  case h_2 => exact h.elim
  rename_i f caps he
  rw [he] at hv
  obtain ⟨us, ws, hu, hus, hws⟩ := VR_fn hv
  have hus' : us = #[] := by
    have : us.toList = [] := hus
    cases us; simp_all
  subst hus'
  obtain ⟨hcl, h⟩ := h
  obtain ⟨fn', c1, c2, c3⟩ := callable_spec hcl
  refine wpIn_rangeFunc fun fn _ => ?_
  obtain ⟨v, H', r, ts', hD, hf, hbusy, hj⟩ := h fn w.heap.size
  -- the block for deferred calls; the record
  obtain ⟨hnew0, hold0⟩ := MapKept.heap_alloc w (.deferred (some []))
  have hR0 : Rel φ H (w.alloc (.deferred (some []))) := hR.grow (by simp) hold0
  have hS0 : Step φ H w φ H (w.alloc (.deferred (some []))) := grow_step rfl rfl rfl (by simp) hold0
  have hF0 := FR.step hS0 hF
  obtain ⟨w0, hw0⟩ : ∃ w0, w0 = w.alloc (.deferred (some [])) := ⟨_, rfl⟩
  rw [← hw0] at hR0 hS0 hF0 hnew0
  have hz0 : w0.heap.size = w.heap.size + 1 := by rw [hw0]; simp
  obtain ⟨hR1, hS1⟩ := hR0.allocO (lpB (recB fn w.heap.size ps asg body) ts) (.loop { state := .ready, pending := none, fn, tmps := a.tmps, params := ps, assign := asg, body, defers := w.heap.size }) fun hl =>
    .inr (.inr ⟨rfl, rfl, recB fn w.heap.size ps asg body, ts, a.tmps, rfl, (MapKept.heap_alloc w0 _).1, Rt_later hl _ _ (AV.idsL_true _) (FR_Rt hF0)⟩)
  obtain ⟨hnew1, hold1⟩ := MapKept.heap_alloc w0 (.loop { state := .ready, pending := none, fn, tmps := a.tmps, params := ps, assign := asg, body, defers := w.heap.size })
  obtain ⟨w1, hw1⟩ : ∃ w1, w1 = w0.alloc (.loop { state := .ready, pending := none, fn, tmps := a.tmps, params := ps, assign := asg, body, defers := w.heap.size }) := ⟨_, rfl⟩
  rw [← hw1] at hR1 hS1 hnew1 hold1
  obtain ⟨φ1, hφ1⟩ : ∃ φ1, φ1 = φ.add H.length w0.heap.size := ⟨_, rfl⟩
  rw [← hφ1] at hR1 hS1
  have hid : φ1 H.length = some (w.heap.size + 1) := by rw [hφ1, hz0]; simp [Phi.add]
  have hb1 : w1.heap[w.heap.size]? = some (.deferred (some [])) := by rw [hold1 _ (by omega)]; exact hnew0
  have hno : ¬ Own φ1 (some (lpB (recB fn w.heap.size ps asg body) ts) :: H) w.heap.size := by
    intro ho
    rw [hφ1] at ho
    rcases own_add (fun id b hm => (hR.dom id b hm).1) ho with h1 | h1
    · obtain ⟨i, k, g1, g2⟩ := h1
      have := (hR.dom i _ g1).2
      omega
    · omega
  refine ⟨w.heap.size + 1, [Mk w.heap.size], w1, { target := .fn (.func f) ws, args := #[.func (.yield (w.heap.size + 1)) #[] #[]] }, w1, f, #[.func (.yield (w.heap.size + 1)) #[] #[]] ++ ws, w1, ?_, ?_, fun f' _ => Fv_fn f', ?_, Fv_depth, ?_⟩
  · rw [hw1, hw0]; exact run_enterLoop_outer _ _ _ _ _
  · simp only [resolve, hu]
    simp [go_sem]
  · simp only [invoke]
    exact callFunc_run c1 c2 c3 _ _
  · refine callsV (ro := none) ((hD.2 φ1 w1 _ hR1 ?_).mono ?_)
    · have hp := ptr_VR (O := Own φ1 (some (lpB (recB fn w.heap.size ps asg body) ts) :: H)) (w := w1) (k := 0) (j := 0) (f := 1) hid
      have hc := Rt_later (hS0.trans hS1).toLater _ _ (AV.idsL_true _) hws
      exact ⟨ptrV 0 0 1 (w.heap.size + 1), ws.toList, by simp [ptrV], hp.1, hp.2, hc⟩
    rintro en w3 ⟨φ3, he3, hR3, hS3⟩
    cases en with
    | panicked c => exact he3.elim
    | outgrown => exact he3.elim
    | returned u =>
      have hid3 : φ3 H.length = some (w.heap.size + 1) := hS3.map _ _ trivial hid
      obtain ⟨tm, hl3, ht3⟩ := own_rec hR3 hid3 hf
      obtain ⟨hR4, hS4⟩ := hR3.killL (r' := { r with tmps := tm, state := .exhausted }) hid3 hf hl3
      obtain ⟨w4, hw4⟩ : ∃ w4, w4 = w3.putObj (w.heap.size + 1) (.loop { r with tmps := tm, state := .exhausted }) := ⟨_, rfl⟩
      rw [← hw4] at hR4 hS4
      have hend : (Instr.endLoop (w.heap.size + 1)).run P w3 = .ok r.pending w4 := by rw [hw4]; exact run_endLoop hl3 hbusy
      have hS := ((hS0.trans hS1).trans hS3).trans hS4
      have hM3 : MD n0 φ3 H' w3 ([Mk w.heap.size] ++ a.defers) := by
        refine MD.step hS3 ?_
        obtain ⟨ms, e1, e2, e3⟩ := (hM.step (hS0.trans hS1))
        have hold : ∀ m ∈ ms, m < w.heap.size := by
          obtain ⟨ms', e1', e2', e3'⟩ := hM
          have : ms' = ms := by
            have h0 := e1'.symm.trans e1
            have inj : ∀ {l l' : List Nat}, l.map Mk = l'.map Mk → l = l' := by
              intro l
              induction l with
              | nil => intro l' h; cases l' <;> first | rfl | simp at h
              | cons x r ih =>
                intro l' h
                cases l' with
                | nil => simp at h
                | cons y s =>
                  simp only [List.map_cons, List.cons.injEq, Mk, Deferred.mk.injEq, Target.collected.injEq, and_true] at h
                  rw [h.1, ih h.2]
            exact inj h0
          subst this
          exact fun m hm => heap_lt (e3' m hm).2.1
        refine ⟨w.heap.size :: ms, by rw [e1]; rfl, List.nodup_cons.2 ⟨fun hm => by have := hold _ hm; omega, e2⟩, fun m hm => ?_⟩
        rcases List.mem_cons.1 hm with rfl | hm
        · exact ⟨hn, hb1, hno⟩
        · exact e3 m hm
      have hM4 := hM3.step hS4
      have hF4 : FR φ3 (Own φ3 (AHeap.set H' H.length none)) w4 ts { a with defers := [Mk w.heap.size] ++ a.defers } := FR.step hS hF
      refine ⟨r.pending, _, hend, ?_⟩
      unfold jmpK at hj
      split at hj
      · rename_i hpe
        rw [hpe]
        exact ⟨.normal, ts, _, φ3, trivial, hj, hF4, hR4, hS, hM4⟩
      · rename_i hpe
        rw [hpe]
        exact wpIn_ret ⟨.ret, ts, _, φ3, trivial, hj, hF4, hR4, hS, hM4⟩
      · rename_i i hpe
        rw [hpe]
        exact wpIn_exit ⟨.exit i, ts, _, φ3, rfl, hj, hF4, hR4, hS, hM4⟩
      · exact hj.elim
end
end Go.Proofs.Ytigmpablpmanpaa
