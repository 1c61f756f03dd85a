/- Operations that only compute: what they make of abstract values, and that the model makes the same. -/
import Derived.Test.YtddhdlfafaobhaaV2
namespace Go.Proofs.Ytddhdlfafaobhaa
open Go.RowKit
set_option linter.unusedVariables false

section cells
variable {φ : Phi} {O : Nat → Prop} {w : World}

theorem R_zero {x : AV} (hx : x.isAgg = false) {g g' : Nat → Option Value} (h : R φ O w x g) (h0 : g' 0 = g 0) : R φ O w x g' := by
  cases x <;> first | (simp [AV.isAgg] at hx; done) | (simp only [R, h0] at h ⊢; exact h) | trivial

theorem Rs_congr : ∀ {cs : List AV} {g g' : Nat → Option Value}, (∀ i, i < cs.length → g' i = g i) → Rs φ O w cs g → Rs φ O w cs g'
  | [], _, _, _, _ => trivial
  | x :: r, g, g', hg, h => by
    have h0 := hg 0 (by simp)
    refine ⟨h.1, R_zero h.1 h.2.1 h0, by rw [h0]; exact h.2.2.1, Rs_congr (fun i hi => ?_) h.2.2.2⟩
    exact hg (i + 1) (by simpa using hi)

theorem Rs_cells : ∀ {cs : List AV} {g : Nat → Option Value}, Rs φ O w cs g → ∃ us : List Value, us.length = cs.length ∧ (∀ i, i < cs.length → g i = us[i]?) ∧ ∀ u ∈ us, u.oneCell' = true
  | [], g, _ => ⟨[], rfl, fun i hi => by simp at hi, fun u hu => by simp at hu⟩
  | x :: r, g, h => by
    obtain ⟨u, h1, h2⟩ := h.2.2.1
    obtain ⟨us, h3, h4, h5⟩ := Rs_cells h.2.2.2
    refine ⟨u :: us, by simp [h3], fun i hi => ?_, fun v hv => ?_⟩
    · cases i with
      | zero => simpa using h1
      | succ i => simpa using h4 i (by simpa using hi)
    · rcases List.mem_cons.1 hv with rfl | hv
      · exact h2
      · exact h5 v hv

theorem Rs_nth : ∀ {cs : List AV} {g : Nat → Option Value} {i : Nat} {x : AV}, Rs φ O w cs g → cs[i]? = some x →
    x.isAgg = false ∧ R φ O w x (fun j => g (i + j)) ∧ ∃ u, g i = some u ∧ u.oneCell' = true
  | [], _, _, _, _, h => by simp at h
  | y :: r, g, 0, x, h, hi => by
    simp at hi
    subst hi
    exact ⟨h.1, R_zero h.1 h.2.1 (by simp), h.2.2.1⟩
  | y :: r, g, i + 1, x, h, hi => by
    have := Rs_nth h.2.2.2 (by simpa using hi)
    refine ⟨this.1, R_zero this.1 this.2.1 (by simp), this.2.2⟩

theorem Rs_drop : ∀ {f : Nat} {cs : List AV} {g : Nat → Option Value}, Rs φ O w cs g → Rs φ O w (cs.drop f) (fun j => g (f + j))
  | 0, cs, g, h => by simpa using h
  | f + 1, [], g, h => by simp [Rs]
  | f + 1, x :: r, g, h => by
    have := Rs_drop (f := f) h.2.2.2
    simp only [List.drop_succ_cons]
    exact Rs_congr (fun i _ => by congr 1; omega) this

theorem Rs_take : ∀ {n : Nat} {cs : List AV} {g : Nat → Option Value}, Rs φ O w cs g → Rs φ O w (cs.take n) g
  | 0, cs, g, h => by simp [Rs]
  | n + 1, [], g, h => by simp [Rs]
  | n + 1, x :: r, g, h => by
    simp only [List.take_succ_cons]
    exact ⟨h.1, h.2.1, h.2.2.1, Rs_take h.2.2.2⟩

theorem Rs_append : ∀ {a b : List AV} {g : Nat → Option Value}, Rs φ O w a g → Rs φ O w b (fun j => g (a.length + j)) → Rs φ O w (a ++ b) g
  | [], b, g, _, h => by simpa using h
  | x :: r, b, g, h, h' => by
    refine ⟨h.1, h.2.1, h.2.2.1, Rs_append h.2.2.2 (Rs_congr (fun i _ => ?_) h')⟩
    congr 1
    simp
    omega

def AV.cells : AV → List AV
  | .agg cs => cs
  | x => [x]

theorem AV.ncells_eq (x : AV) : x.ncells = x.cells.length := by cases x <;> rfl

/-- The cells of an element. -/
theorem R_Rs {x : AV} {g : Nat → Option Value} (h : R φ O w x g) (h1 : x.isAgg = false → ∃ u, g 0 = some u ∧ u.oneCell' = true) : Rs φ O w x.cells g := by
  cases x <;> first | exact h | exact ⟨rfl, h, h1 rfl, trivial⟩

theorem VR_Rs {x : AV} {v : Value} (h : VR φ O w x v) (ht : x.isTop = false) : Rs φ O w x.cells (cget v) := by
  refine R_Rs h.2 fun hx => ?_
  have h1 : v.oneCell' = true := by
    have := h.1
    cases x <;> first | (simp [AV.isAgg] at hx; done) | (simp [AV.isTop] at ht; done) | exact this
  refine ⟨v, ?_, h1⟩
  cases v <;> first | rfl | (simp [Value.oneCell'] at h1)

theorem VR_agg {cs : List AV} {us : Array Value} (h : Rs φ O w cs (fun i => us[i]?)) (hs : us.size = cs.length) : VR φ O w (.agg cs) (.agg us) :=
  ⟨⟨us, rfl, hs⟩, h⟩

theorem VR_one {x : AV} {v : Value} (hx : x.isAgg = false) (hv : v.oneCell' = true) {g : Nat → Option Value} (h : R φ O w x g) (h0 : g 0 = some v) : VR φ O w x v := by
  have hc : cget v 0 = some v := by cases v <;> first | rfl | (simp [Value.oneCell'] at hv)
  refine ⟨?_, R_zero hx h (by rw [hc, h0])⟩
  cases x <;> first | (simp [AV.isAgg] at hx; done) | exact hv | trivial | skip
  obtain ⟨us, h1, _⟩ := h
  rw [h0] at h1
  exact ⟨us, Option.some.inj h1⟩

theorem VR_get {x : AV} {v : Value} (hx : x.isAgg = false) (ht : x.isTop = false) (h : VR φ O w x v) : cget v 0 = some v ∧ v.oneCell' = true := by
  have h1 : v.oneCell' = true := by
    have := h.1
    cases x <;> first | (simp [AV.isAgg] at hx; done) | (simp [AV.isTop] at ht; done) | exact this
  refine ⟨?_, h1⟩
  cases v <;> first | rfl | (simp [Value.oneCell'] at h1)

theorem VR_sc {u v : Value} (h : VR φ O w (.sc u) v) : v = u := by
  have h1 := (VR_get rfl rfl h).1
  have h2 := h.2
  simp only [R] at h2
  rw [h1] at h2
  exact Option.some.inj h2

theorem sc_VR {u : Value} (h : u.oneCell' = true) : VR φ O w (.sc u) u :=
  ⟨h, by cases u <;> first | rfl | (simp [Value.oneCell'] at h)⟩

theorem VR_aggI {cs : List AV} {v : Value} (h : VR φ O w (.agg cs) v) : ∃ us : Array Value, v = .agg us ∧ us.size = cs.length ∧ Rs φ O w cs (fun i => us[i]?) := by
  obtain ⟨us, rfl, hs⟩ := h.1
  exact ⟨us, rfl, hs, h.2⟩

theorem Rt_nth : ∀ {l : List AV} {us : List Value} {i : Nat} {x : AV}, Rt φ O w l us → l[i]? = some x → ∃ u, us[i]? = some u ∧ VR φ O w x u
  | [], _, _, _, _, h => by simp at h
  | y :: r, us, 0, x, h, hi => by
    obtain ⟨v, s, rfl, h1, h2, _⟩ := h
    simp at hi
    subst hi
    exact ⟨v, rfl, h1, h2⟩
  | y :: r, us, i + 1, x, h, hi => by
    obtain ⟨v, s, rfl, _, _, h3⟩ := h
    obtain ⟨u, h4, h5⟩ := Rt_nth h3 (by simpa using hi)
    exact ⟨u, by simpa using h4, h5⟩

theorem Rt_len : ∀ {l : List AV} {us : List Value}, Rt φ O w l us → us.length = l.length
  | [], us, h => by simp only [Rt] at h; subst h; rfl
  | y :: r, us, h => by
    obtain ⟨v, s, rfl, _, _, h3⟩ := h
    simp [Rt_len h3]

theorem Rt_map {ts : List AV} {a : Act} (hr : FR φ O w ts a) : ∀ {l : List Operand} {xs : List X}, l.mapM ofX = some xs → Rt φ O w (xs.map (X.ev ts)) (l.map a.eval)
  | [], xs, h => by simp at h; subst h; rfl
  | o :: r, xs, h => by
    rw [List.mapM_cons] at h
    cases h1 : ofX o with
    | none => rw [h1] at h; simp at h
    | some x =>
      cases h2 : r.mapM ofX with
      | none => rw [h1, h2] at h; simp at h
      | some ys =>
        rw [h1, h2] at h
        simp at h
        subst h
        have hv := ofX_spec hr h1
        exact ⟨_, _, rfl, hv.1, hv.2, Rt_map hr h2⟩

end cells

/-- A part of a value: from cell f on, n cells. -/
def AV.sub (x : AV) (f n : Nat) (ag : Bool) : AV := if ag then .agg ((x.cells.drop f).take n) else x.cells.getD f .top
def AV.subOk (x : AV) (f n : Nat) (ag : Bool) : Prop := if ag then f + n ≤ x.cells.length else f < x.cells.length

/-- Short enough for a text. (A test that the kernel does not unroll.) -/
def fits (n : Nat) : Bool := Nat.ble n 9223372036854775807
theorem fits_le {n : Nat} (h : n ≤ 9223372036854775807) : fits n = true := Nat.ble_eq_true_of_le h
theorem fits_not {n : Nat} (h : fits n = true) : ¬ ((n : Nat) : Int) > IntKind.i64.max := by
  have h1 : n ≤ 9223372036854775807 := Nat.le_of_ble_eq_true h
  have h2 : IntKind.i64.max = 9223372036854775807 := by decide
  rw [h2]
  omega

/-- Operators on numbers and texts. -/
def binV : BinOp → Value → Value → Option Value
  | op, .int k a, .int k' b =>
    if k = k' then
      match op with
      | .add => some (.int k (k.wrap (a + b)))
      | .sub => some (.int k (k.wrap (a - b)))
      | .mul => some (.int k (k.wrap (a * b)))
      | .quo => if b = 0 then none else some (.int k (k.wrap (a.tdiv b)))
      | .rem => if b = 0 then none else some (.int k (a.tmod b))
      | .eql => some (.bool (a == b))
      | .neq => some (.bool (a != b))
      | .lss => some (.bool (a < b))
      | .leq => some (.bool (a ≤ b))
      | .gtr => some (.bool (a > b))
      | .geq => some (.bool (a ≥ b))
      | .and => some (.int k (k.wrap (BitVec.ofInt k.bits a &&& BitVec.ofInt k.bits b).toNat))
      | .or => some (.int k (k.wrap (BitVec.ofInt k.bits a ||| BitVec.ofInt k.bits b).toNat))
      | .xor => some (.int k (k.wrap (BitVec.ofInt k.bits a ^^^ BitVec.ofInt k.bits b).toNat))
      | .andNot => some (.int k (k.wrap (BitVec.ofInt k.bits a &&& ~~~BitVec.ofInt k.bits b).toNat))
      | _ => none
    else none
  | op, .string s, .string t =>
    match op with
    | .add => if fits (s.size + t.size) = true then some (.string (s ++ t)) else none
    | .eql => some (.bool (s.toList == t.toList))
    | .neq => some (.bool !(s.toList == t.toList))
    | .lss => some (.bool (Op.bytesLess s.toList t.toList))
    | .leq => some (.bool (Op.bytesLess s.toList t.toList || s.toList == t.toList))
    | .gtr => some (.bool !(Op.bytesLess s.toList t.toList || s.toList == t.toList))
    | .geq => some (.bool !(Op.bytesLess s.toList t.toList))
    | _ => none
  | _, _, _ => none

def shV (op : BinOp) : Value → Value → Option Value
  | .int k a, .int _ y => if y < 0 then none else
    match op with
    | .shl => some (.int k (k.wrap (a * 2 ^ (min y.toNat k.bits))))
    | .shr => some (.int k (a.fdiv (2 ^ (min y.toNat k.bits))))
    | _ => none
  | _, _ => none

def unV (op : UnOp) : Value → Option Value
  | .bool b => match op with | .not => some (.bool !b) | _ => none
  | .int k n => match op with
    | .neg => some (.int k (k.wrap (0 - n)))
    | .xor => some (.int k (k.wrap (BitVec.ofInt k.bits (if k.signed then -1 else k.max) ^^^ BitVec.ofInt k.bits n).toNat))
    | _ => none
  | _ => none

theorem binV_run {op : BinOp} {x y r : Value} (h : binV op x y = some r) (P : Program) (t : TypeId) (w : World) : (binOp op t x y).run P w = .ok r w ∧ r.oneCell' = true := by
  unfold binV at h
  split at h
  · rename_i k a k' b
    split at h
    · rename_i hk
      subst hk
      unfold binOp
      cases op <;> simp only at h <;> first
        | (cases h; simp [Op.intArith, Op.intBits, Op.intCmp, Value.oneCell']; done)
        | (split at h
           · simp at h
           · rename_i hb
             cases h
             simp [Op.intDiv, hb, Value.oneCell'])
        | (simp at h; done)
    · simp at h
  · rename_i s t
    unfold binOp
    cases op <;> simp only at h <;> first
      | (cases h; simp [Op.stringOp, Value.oneCell']; done)
      | (split at h
         · rename_i hb
           cases h
           simp only [Op.stringOp]
           rw [if_neg (fits_not hb)]
           exact ⟨rfl, rfl⟩
         · simp at h)
      | (simp at h; done)
  · simp at h

theorem binV_guard {op : BinOp} {x y r : Value} (h : binV op x y = some r) (P : Program) (t : TypeId) (xo yo : Operand) (w : World) : (eqGuard op t xo yo x y).run P w = .ok () w := by
  unfold binV at h
  unfold eqGuard
  split at h
  · split <;> simp
  · split <;> simp
  · simp at h

theorem shV_run {op : BinOp} {x y r : Value} (h : shV op x y = some r) (P : Program) (t : TypeId) (w : World) : (binOp op t x y).run P w = .ok r w ∧ r.oneCell' = true ∧ ∀ xo yo, (eqGuard op t xo yo x y).run P w = .ok () w := by
  unfold shV at h
  split at h
  · rename_i k a k' y
    split at h
    · simp at h
    · rename_i hy
      split at h
      · cases h
        simp [binOp, Op.shift, hy, Value.oneCell', eqGuard]
      · cases h
        simp [binOp, Op.shift, hy, Value.oneCell', eqGuard]
      · simp at h
  · simp at h

theorem unV_run {op : UnOp} {x r : Value} (h : unV op x = some r) (P : Program) (w : World) : (Op.unary op x).run P w = .ok r w ∧ r.oneCell' = true := by
  unfold unV at h
  split at h
  · split at h
    · cases h; simp [Op.unary, Value.oneCell']
    · simp at h
  · split at h
    · cases h; simp [Op.unary, Op.intArith, Value.oneCell']
    · cases h; simp [Op.unary, Op.intBits, Value.oneCell']
    · simp at h
  · simp at h

end Go.Proofs.Ytddhdlfafaobhaa
