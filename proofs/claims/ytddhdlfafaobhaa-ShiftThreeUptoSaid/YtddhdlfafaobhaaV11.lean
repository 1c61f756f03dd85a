/- The operations that read or change memory, or call; what a function does to own memory. -/
import Derived.Test.YtddhdlfafaobhaaV10
namespace Go.Proofs.Ytddhdlfafaobhaa
open Go.RowKit
set_option linter.unusedVariables false
set_option linter.unusedSimpArgs false

/-- How a call ends. -/
inductive AEnd where
  | ret (v : AV)
  | pan (v : AV)

def AEnd.post (K Kp : AV → AHeap → Prop) (H' : AHeap) : AEnd → Prop
  | .ret v => K v H'
  | .pan v => Kp v H'

def EndR (φ : Phi) (O : Nat → Prop) (w : World) : AEnd → Ending → Prop
  | .ret x, .returned v => VR φ O w x v
  | .pan x, .panicked c => ∃ v, c = [{ v := v, recovered := false }] ∧ VR φ O w x v
  | _, _ => False

/-- What a function tells and does, in whatever world. -/
def D (P : Program) (f : FuncId) (args : List AV) (H : AHeap) (e : AEnd) (H' : AHeap) : Prop :=
  H.length ≤ H'.length ∧ ∀ (φ : Phi) (w : World) (vs : Array Value), Rel φ H w → Rt φ (Own φ H) w args vs.toList →
    Calls P f vs w fun en w' => ∃ φ', EndR φ' (Own φ' H') w' e en ∧ Rel φ' H' w' ∧ Step φ H w φ' H' w'

inductive HO where
  | load (n : Nat) (ag : Bool) (a : X)
  | alloc (z : AV) (ty : TypeId)
  | box (k : Nat) (ty : TypeId) (x : X)
  | bsl (k : Nat) (ty : TypeId) (z : AV) (ln : Nat) (parts : List (Nat × X))
  | bslV (k : Nat) (ty : TypeId) (z : AV) (ln : Nat) (parts : List (Nat × X))
  | store (n : Nat) (a x : X)
  | mksl (k : Nat) (ty : TypeId) (z : AV) (l c : X)
  | app (k : Nat) (ty : TypeId) (s x : X)
  | call (f : FuncId) (args : List X)
  | callv (f : X) (args : List X)
  | pan (x : X)

/-- A value's elements. -/
def lsOf (H : AHeap) (k : Nat) : AV → (List AV → Prop) → Prop
  | .lst k' ys _, K => (k' = k ∨ ys = []) ∧ K ys
  | .vec k' id off n _, K => ∃ blk, AHeap.find H id = some blk ∧ (k' = k ∧ blk.k = k ∧ off + n ≤ blk.es.length) ∧ K ((blk.es.drop off).take n)
  | _, _ => False

def AV.upd (e : AV) (f : Nat) (x : AV) : AV :=
  match e with
  | .agg cs => .agg (cs.take f ++ x.cells ++ cs.drop (f + x.ncells))
  | _ => x

def elsA (ev : X → AV) (k : Nat) : List AV → List (Nat × X) → (List AV → Prop) → Prop
  | es, [], K => K es
  | es, (i, x) :: r, K => ((ev x).isTop = false ∧ (ev x).ncells = k ∧ i < es.length) ∧ elsA ev k (es.set i (ev x)) r K

def HO.sem (P : Program) (ev : X → AV) (H : AHeap) (K Kp : AV → AHeap → Prop) : HO → Prop
  | .load n ag a => match ev a with
    | .ptr k id j f => ∃ blk e, AHeap.find H id = some blk ∧ blk.es[j]? = some e ∧ (blk.k = k ∧ AV.subOk e f n ag) ∧ K (AV.sub e f n ag) H
    | .lp x f => AV.subOk x f n ag ∧ K (AV.sub x f n ag) H
    | _ => False
  | .alloc z ty => K (.ptr z.ncells H.length 0 0) (some ⟨z.ncells, [z], true, ty⟩ :: H)
  | .box k ty x => ((ev x).isTop = false ∧ (ev x).ncells = k) ∧ K (.ptr k H.length 0 0) (some ⟨k, [ev x], true, ty⟩ :: H)
  | .bsl k ty z ln parts => elsA ev k (List.replicate ln z) parts fun es => K (.lst k es (some [])) H
  | .bslV k ty z ln parts => elsA ev k (List.replicate ln z) parts fun es => K (.vec k H.length 0 ln (some ln)) (some ⟨k, es, true, ty⟩ :: H)
  | .store n a x => match ev a with
    | .ptr k id j f => ∃ blk e, AHeap.find H id = some blk ∧ blk.es[j]? = some e ∧ (blk.k = k ∧ (ev x).isTop = false ∧ (ev x).ncells = n ∧ f + n ≤ e.ncells ∧ (e.isAgg = false → (ev x).isAgg = false)) ∧
        K .top (AHeap.set H id (some { blk with es := blk.es.set j (AV.upd e f (ev x)) }))
    | _ => False
  | .mksl k ty z l c => match ev l, ev c with
    | .sc (.int _ n), .sc (.int _ m) => (0 ≤ n ∧ n ≤ m ∧ m ≤ 100000000) ∧ K (.vec k H.length 0 n.toNat (some m.toNat)) (some ⟨k, List.replicate m.toNat z, true, ty⟩ :: H)
    | _, _ => False
  | .app k ty s x => lsOf H k (ev x) fun ys => match ev s with
    | .lst k' xs (some []) => ((k' = k ∨ xs = []) ∧ xs.length + ys.length ≤ 100000000) ∧ (ys = [] → K (.lst k' xs (some [])) H) ∧
        (ys ≠ [] → K (.vec k H.length 0 (xs.length + ys.length) none) (some ⟨k, xs ++ ys, false, ty⟩ :: H))
    | .vec k' id off n c => ∃ blk, AHeap.find H id = some blk ∧ (k' = k ∧ blk.k = k ∧ blk.ty = ty ∧ off = 0 ∧ n + ys.length ≤ 100000000) ∧
        match c with
        | none => (blk.exact = false ∧ n = blk.es.length) ∧ K (.vec k H.length 0 (n + ys.length) none) (some ⟨k, blk.es ++ ys, false, ty⟩ :: AHeap.set H id none)
        | some m => (blk.exact = true ∧ m = blk.es.length ∧ n ≤ m) ∧
            (n + ys.length ≤ m → K (.vec k id 0 (n + ys.length) (some m)) (AHeap.set H id (some { blk with es := blk.es.take n ++ ys ++ blk.es.drop (n + ys.length) }))) ∧
            (m < n + ys.length → K (.vec k H.length 0 (n + ys.length) none) (some ⟨k, blk.es.take n ++ ys, false, ty⟩ :: H))
    | _ => False
  | .call f args => ∃ e H', D P f (args.map ev) H e H' ∧ AEnd.post K Kp H' e
  | .callv f args => match ev f with
    | .fn (.func g) a b => (∃ fn, P.funcs[g]? = some fn ∧ fn.body.isSome ∧ fn.name ≠ "runtime.NumGoroutine") ∧ ∃ e H', D P g (a ++ args.map ev ++ b) H e H' ∧ AEnd.post K Kp H' e
    | _ => False
  | .pan x => match ev x with
    | .ifc t v => Kp (.ifc t v) H
    | _ => False

def callable (P : Program) (f : FuncId) : Bool :=
  match P.funcs[f]? with
  | some fn => fn.body.isSome && !(fn.name == "runtime.NumGoroutine")
  | none => false

def elPartsOf : List (Nat × Operand) → Option (List (Nat × X))
  | [] => some []
  | (i, o) :: r => match ofX o, elPartsOf r with
    | some x, some s => some ((i, x) :: s)
    | _, _ => none

def compH (P : Program) (vecs : Bool) (o : Oper) : Option HO :=
  match o.op with
  | .load t a => match sizeAgg P t, ofX a with
    | some (n, ag), some a => some (.load n ag a)
    | _, _ => none
  | .alloc t => match (P.info? t).bind (·.zero) with
    | some z => match ofConst z with
      | some z' => if z'.isTop = false then some (.alloc z' t) else none
      | none => none
    | none => none
  | .box t x => match P.info? t, ofX x with
    | some i, some x => some (.box i.size t x)
    | _, _ => none
  | .buildSlice t ln parts => match P.underlying t with
    | some (.slice e) => match P.info? e with
      | some i => match i.zero.bind ofConst, elPartsOf parts.toList with
        | some z, some ps => if z.ncells = i.size ∧ 0 < i.size ∧ ln * i.size ≤ 1000000 ∧ z.isTop = false then some (if vecs then .bslV i.size e z ln ps else .bsl i.size e z ln ps) else none
        | _, _ => none
      | none => none
    | _ => none
  | .store t a x => match P.info? t, ofX a, ofX x with
    | some i, some a, some x => some (.store i.size a x)
    | _, _, _ => none
  | .makeSlice t l c => match P.underlying t with
    | some (.slice e) => match P.info? e, ofX l, ofX c with
      | some i, some l, some c => match i.zero.bind ofConst with
        | some z => if z.ncells = i.size ∧ 0 < i.size ∧ i.bytes ≤ 1000 ∧ z.isTop = false then some (.mksl i.size e z l c) else none
        | none => none
      | _, _, _ => none
    | _ => none
  | .call { callee := .builtin .append, args, argTypes } => match args.toList, argTypes.toList with
    | [s, x], [t, t'] => if t = t' then match P.underlying t with
      | some (.slice e) => match P.info? e, ofX s, ofX x with
        | some i, some s, some x => match i.zero with
          | some z => if z.cells.size = i.size ∧ 0 < i.size ∧ i.bytes ≤ 1000 then some (.app i.size e s x) else none
          | none => none
        | _, _, _ => none
      | _ => none
      else none
    | _, _ => none
  | .call { callee := .value (.func f), args, .. } => if callable P f then (ofXs args).map (.call f) else none
  | .call { callee := .value (.tmp t), args, .. } => (ofXs args).map (.callv (.t t))
  | .panic x => (ofX x).map .pan
  | _ => none

/-- What the walk needs of an operation. -/
def HSound (P : Program) (o : Oper) (op : HO) : Prop :=
  ∀ (φ : Phi) (H : AHeap) (w : World) (ts : List AV) (a : Act), Rel φ H w → FR φ (Own φ H) w ts a → ∀ K Kp : AV → AHeap → Prop, HO.sem P (X.ev ts) H K Kp op →
    ∀ (next : Act → World → Prop) (Q : Exit → Act → World → Prop),
    (∀ v u φ' H' w', K v H' → VR φ' (Own φ' H') w' v u → Rel φ' H' w' → Step φ H w φ' H' w' → next (a.put o.dst u) w') →
    (∀ v u φ' H' w', Kp v H' → VR φ' (Own φ' H') w' v u → Rel φ' H' w' → Step φ H w φ' H' w' → Q (.panic [{ v := u, recovered := false }]) a w') →
    o.wp P a w next Q

section
variable {P : Program}

theorem wp_value {o : Oper} {a : Act} {w w' : World} {next : Act → World → Prop} {Q : Exit → Act → World → Prop} {u : Value} (hr : (execOp a.eval o).run P w = .ok (.value u) w') (h : next (a.put o.dst u) w') : o.wp P a w next Q := by
  unfold Oper.wp
  rw [hr]
  exact h
theorem wp_skip' {o : Oper} {a : Act} {w w' : World} {next : Act → World → Prop} {Q : Exit → Act → World → Prop} (hr : (execOp a.eval o).run P w = .ok .skip w') (h : next (a.put o.dst undef) w') : o.wp P a w next Q := by
  unfold Oper.wp
  rw [hr]
  exact h

theorem hs_load {o : Oper} {t : TypeId} {n : Nat} {ag : Bool} {x : Operand} {x' : X} (ho : o.op = .load t x) (hs : sizeAgg P t = some (n, ag)) (hx : ofX x = some x') : HSound P o (.load n ag x') := by
  intro φ H w ts a hR hr K Kp h next Q hn hp
  have hv := ofX_spec hr hx
  simp only [HO.sem] at h
  cases he : X.ev ts x' <;> rw [he] at h hv <;> try exact False.elim h
  · obtain ⟨blk, e, h1, h2, ⟨rfl, h3⟩, h4⟩ := h
    obtain ⟨b, h5, h6⟩ := VR_ptr hv
    obtain ⟨h7, h8⟩ := hR.elem h5 h1 h2
    obtain ⟨u, h9, h10⟩ := load_run hs h8 h3
    exact wp_value (by simp [execOp, ho, h6, Instr.loadAt, Instr.sureAddr, h9]) (hn _ _ _ _ _ h4 h10 hR (Step.refl _ _ _))
  · obtain ⟨h1, h2⟩ := h
    obtain ⟨b, off, h3, h4, h5, h6, h7⟩ := VR_lp hv
    obtain ⟨u, h9, h10⟩ := load_run hs (R_Rs h7 h6) h1
    exact wp_value (by simp [execOp, ho, h3, Instr.loadAt, Instr.sureAddr, h9]) (hn _ _ _ _ _ h2 h10 hR (Step.refl _ _ _))

theorem ptr_new {φ : Phi} {O : Nat → Prop} {w : World} {H : AHeap} {k b : Nat} : VR (φ.add H.length b) O w (.ptr k H.length 0 0) (.pointer (some ⟨b, 0, none⟩)) :=
  ⟨rfl, b, by simp [Phi.add], by simp [cget, Value.cells]⟩

theorem newVar_run {φ : Phi} {H : AHeap} {w : World} (hR : Rel φ H w) {x : AV} {v : Value} (hv : VR φ (Own φ H) w x v) (ht : x.isTop = false) {k : Nat} (hk : x.ncells = k) (t : TypeId) :
    (newVar t v).run P w = .ok ⟨w.heap.size, 0, none⟩ (w.alloc (.cells v.cells t)) ∧
    Rel (φ.add H.length w.heap.size) (some ⟨k, [x], true, t⟩ :: H) (w.alloc (.cells v.cells t)) ∧ Step φ H w (φ.add H.length w.heap.size) (some ⟨k, [x], true, t⟩ :: H) (w.alloc (.cells v.cells t)) := by
  have hsz := cells_size hv ht
  have := hR.alloc ⟨k, [x], true, t⟩ v.cells 1 (by simp [hsz, hk]) (by simp) (by simp) (by unfold maxLen; omega) (by simp [hk]) (by simp only [flat, List.flatMap_cons, List.flatMap_nil, List.append_nil]; exact VR_Rs hv ht)
  exact ⟨by simp [newVar, newRow], this.1, this.2⟩

theorem hs_alloc {o : Oper} {t : TypeId} {i : TypeInfo} {zv : Value} {z : AV} (ho : o.op = .alloc t) (hi : P.info? t = some i) (hz : i.zero = some zv) (hc : ofConst zv = some z) (ht : z.isTop = false) : HSound P o (.alloc z t) := by
  intro φ H w ts a hR hr K Kp h next Q hn hp
  have hv : VR φ (Own φ H) w z zv := ofConst_spec hc
  obtain ⟨h1, h2, h3⟩ := newVar_run (P := P) hR hv ht rfl t
  refine wp_value (u := .pointer (some ⟨w.heap.size, 0, none⟩)) ?_ (hn _ _ _ _ _ h ptr_new h2 h3)
  simp only [execOp, ho, Instr.alloc, zeroValue, typeInfo, Sem.run_bind, run_program, hi, Result.andThen_ok, Sem.run_pure, hz, h1]

theorem hs_box {o : Oper} {t : TypeId} {k : Nat} {x : Operand} {x' : X} (ho : o.op = .box t x) (hx : ofX x = some x') : HSound P o (.box k t x') := by
  intro φ H w ts a hR hr K Kp h next Q hn hp
  have hv := ofX_spec hr hx
  obtain ⟨⟨g1, g2⟩, h⟩ := h
  obtain ⟨h1, h2, h3⟩ := newVar_run (P := P) hR hv g1 g2 t
  refine wp_value (u := .pointer (some ⟨w.heap.size, 0, none⟩)) ?_ (hn _ _ _ _ _ h ptr_new h2 h3)
  simp only [execOp, ho, Instr.box, Sem.run_bind, h1, Result.andThen_ok, Sem.run_pure]

theorem upd_cells {e x : AV} {f n : Nat} (hx : x.ncells = n) (hf : f + n ≤ e.ncells) (ha : e.isAgg = false → x.isAgg = false) :
    (AV.upd e f x).cells = e.cells.take f ++ x.cells ++ e.cells.drop (f + n) ∧ (AV.upd e f x).ncells = e.ncells := by
  have hxl : x.cells.length = n := by rw [← AV.ncells_eq, hx]
  have key : e.isAgg = false → (AV.upd e f x).cells = e.cells.take f ++ x.cells ++ e.cells.drop (f + n) ∧ (AV.upd e f x).ncells = e.ncells := by
    intro he
    have hu : AV.upd e f x = x := by cases e <;> first | rfl | (simp [AV.isAgg] at he)
    have hx1 : n = 1 := by
      have := ha he
      cases x <;> first | (simp [AV.isAgg] at this; done) | (simpa [AV.ncells] using hx.symm)
    have he1 : e.ncells = 1 := by cases e <;> first | rfl | (simp [AV.isAgg] at he)
    have hf0 : f = 0 := by omega
    subst hf0
    subst hx1
    rw [hu, he1, hx]
    have hl : e.cells.length = 1 := by rw [← AV.ncells_eq, he1]
    simp [List.drop_of_length_le (l := e.cells) (i := 1) (by omega)]
  cases e with
  | agg cs =>
    subst hx
    refine ⟨rfl, ?_⟩
    show (cs.take f ++ x.cells ++ cs.drop (f + x.ncells)).length = cs.length
    have hf' : f + x.ncells ≤ cs.length := hf
    simp only [List.length_append, List.length_take, List.length_drop, hxl]
    omega
  | _ => exact key rfl

theorem flat_set {k : Nat} {es : List AV} (hk : ∀ x ∈ es, x.ncells = k) {j : Nat} {e e' : AV} (hj : es[j]? = some e) : flat (es.set j e') = (flat es).take (j * k) ++ e'.cells ++ (flat es).drop (j * k + k) := by
  have hlt : j < es.length := (List.getElem?_eq_some_iff.1 hj).1
  rw [List.set_eq_take_append_cons_drop, if_pos hlt, flat_append, flat_cons, flat_take hk, flat_drop hk]
  rw [show (j + 1) * k = j * k + k from by rw [Nat.add_mul, Nat.one_mul]]
  simp

theorem splice {α : Type} {L X : List α} {p k f n : Nat} (hX : X.length = n) (hf : f + n ≤ k) (hp : p + k ≤ L.length) :
    L.take p ++ (((L.drop p).take k).take f ++ X ++ ((L.drop p).take k).drop (f + n)) ++ L.drop (p + k) = L.take (p + f) ++ X ++ L.drop (p + f + n) := by
  have h1 : L.take (p + f) = L.take p ++ (L.drop p).take f := List.take_add
  have h2 : ((L.drop p).take k).take f = (L.drop p).take f := by rw [List.take_take]; congr 1; omega
  have h3 : L.drop (p + f + n) = ((L.drop p).take k).drop (f + n) ++ L.drop (p + k) := by
    have h5 : L.drop (p + f + n) = (L.drop p).drop (f + n) := by rw [List.drop_drop]; congr 1; omega
    have h6 : L.drop (p + k) = (L.drop p).drop k := by rw [List.drop_drop]
    have h4 : ((L.drop p).take k ++ (L.drop p).drop k).drop (f + n) = ((L.drop p).take k).drop (f + n) ++ (L.drop p).drop k := by
      rw [List.drop_append_of_le_length]
      simp
      omega
    rw [h5, h6, ← h4, List.take_append_drop]
  rw [h1, h2, h3]
  simp

theorem hs_store {o : Oper} {t : TypeId} {i : TypeInfo} {x y : Operand} {x' y' : X} (ho : o.op = .store t x y) (hi : P.info? t = some i) (hx : ofX x = some x') (hy : ofX y = some y') : HSound P o (.store i.size x' y') := by
  intro φ H w ts a hR hr K Kp h next Q hn hp
  have hv := ofX_spec hr hx
  have hw := ofX_spec hr hy
  simp only [HO.sem] at h
  cases he : X.ev ts x' <;> rw [he] at h hv <;> try exact False.elim h
  rename_i k id j f
  obtain ⟨blk, e, h1, h2, ⟨rfl, h3, h4, h5, h6⟩, h7⟩ := h
  obtain ⟨b, h8, h9⟩ := VR_ptr hv
  obtain ⟨cur, cap, a1, a2, a3, a4, a5, a6⟩ := hR.blk id b blk h8 h1
  obtain ⟨f1, f2⟩ := Rl_flat a6
  have hlt : j < blk.es.length := (List.getElem?_eq_some_iff.1 h2).1
  have hek : e.ncells = blk.k := f1 e (List.mem_of_getElem? h2)
  have hsz := cells_size hw h3
  have hcs := VR_Rs hw h3
  obtain ⟨u1, u2⟩ := upd_cells (e := e) (x := X.ev ts y') h4 h5 h6
  have hone : ∀ v ∈ (a.eval y).cells.toList, v.oneCell' = true := by
    obtain ⟨us, c1, c2, c3⟩ := Rs_cells hcs
    intro v hv'
    refine c3 v ?_
    obtain ⟨q, hq⟩ := List.getElem?_of_mem hv'
    have hq' : q < (X.ev ts y').cells.length := by
      have := (List.getElem?_eq_some_iff.1 hq).1
      rw [← AV.ncells_eq, ← hsz]
      simpa using this
    have := c2 q hq'
    unfold cget at this
    rw [← Array.getElem?_toList, hq] at this
    exact List.mem_of_getElem? this.symm
  have hjk : j * blk.k + blk.k ≤ cap * blk.k := by
    have := Nat.mul_le_mul_right blk.k (show j + 1 ≤ cap from by omega)
    rwa [Nat.add_mul, Nat.one_mul] at this
  have hvl : (a.eval y).cells.toList.length = i.size := by simp [hsz, h4]
  have hst := run_storeCells_at P b (j * blk.k + f) blk.ty (a.eval y).cells.toList 0 cur w a1 (by rw [hvl]; omega) hone
  have hrun : (execOp a.eval o).run P w = .ok .skip (w.setRow b (cur.toList.take (j * blk.k + f) ++ (a.eval y).cells.toList ++ cur.toList.drop (j * blk.k + f + i.size)).toArray) := by
    rw [Nat.add_zero, hvl] at hst
    have hsz' : (a.eval y).cells.size = i.size := by rw [hsz, h4]
    simp only [execOp, ho, h9, Instr.storeAt, Instr.sureAddr, storeVar, Sem.run_bind, Sem.run_pure, Result.andThen_ok, rn_size hi, hsz', ne_eq, not_true_eq_false, if_false, hst]
  have hfl : (flat blk.es).length = blk.es.length * blk.k := flat_length f1
  have hcl : blk.es.length * blk.k ≤ cap * blk.k := Nat.mul_le_mul_right _ a3
  have hjl : j * blk.k + blk.k ≤ blk.es.length * blk.k := by
    have := Nat.mul_le_mul_right blk.k (show j + 1 ≤ blk.es.length from by omega)
    rwa [Nat.add_mul, Nat.one_mul] at this
  have hfk : f + i.size ≤ blk.k := by omega
  have hxl : (X.ev ts y').cells.length = i.size := by rw [← AV.ncells_eq, h4]
  have hec : e.cells = ((flat blk.es).drop (j * blk.k)).take blk.k := by
    rw [← flat_drop f1, List.drop_eq_getElem_cons hlt, flat_cons]
    have : blk.es[j] = e := by
      have := List.getElem?_eq_some_iff.1 h2
      exact this.2
    rw [this, ← hek, AV.ncells_eq, List.take_left]
  have hflat : flat (blk.es.set j (AV.upd e f (X.ev ts y'))) = (flat blk.es).take (j * blk.k + f) ++ (X.ev ts y').cells ++ (flat blk.es).drop (j * blk.k + f + i.size) := by
    rw [flat_set f1 h2, u1, hec]
    exact splice hxl hfk (by omega)
  have hwr := hR.write h8 h1 a1 a2 (blk.es.set j (AV.upd e f (X.ev ts y'))) (cur' := (cur.toList.take (j * blk.k + f) ++ (a.eval y).cells.toList ++ cur.toList.drop (j * blk.k + f + i.size)).toArray)
    (by simp only [List.size_toArray, List.length_append, List.length_take, List.length_drop, Array.length_toList, hsz, h4]; omega) (by simpa using a3) a5 (by simpa using a4)
    (fun q hq => by
      rcases List.mem_or_eq_of_mem_set hq with hq | rfl
      · exact f1 q hq
      · rw [u2]; exact hek)
    (by
      rw [hflat]
      refine Rs_append (Rs_append (Rs_congr (fun q hq => ?_) (Rs_take (n := j * blk.k + f) f2)) (Rs_congr (fun q hq => ?_) hcs)) (Rs_congr (fun q hq => ?_) (Rs_drop (f := j * blk.k + f + i.size) f2))
      · have hq' : q < j * blk.k + f := by simp at hq; omega
        simp only [List.getElem?_toArray]
        rw [List.getElem?_append_left (by simp; omega), List.getElem?_append_left (by simp; omega), List.getElem?_take_of_lt hq']
        simp [memAt, World.cell?, a1]
      · have hl : ((flat blk.es).take (j * blk.k + f)).length = j * blk.k + f := by simp [hfl]; omega
        rw [hl]
        simp only [List.getElem?_toArray]
        have hl2 : (cur.toList.take (j * blk.k + f)).length = j * blk.k + f := by simp; omega
        rw [List.getElem?_append_left (by simp [hsz, h4]; omega), List.getElem?_append_right (by omega), hl2]
        simp [cget]
      · have hl : ((flat blk.es).take (j * blk.k + f) ++ (X.ev ts y').cells).length = j * blk.k + f + i.size := by simp [hfl, hxl]; omega
        rw [hl]
        simp only [List.getElem?_toArray]
        have hl2 : (cur.toList.take (j * blk.k + f) ++ (a.eval y).cells.toList).length = j * blk.k + f + i.size := by simp [hsz, h4]; omega
        rw [List.getElem?_append_right (by omega), hl2]
        simp [memAt, World.cell?, a1])
  exact wp_skip' hrun (hn _ _ _ _ _ h7 (vr_top _) hwr.1 hwr.2)
end
end Go.Proofs.Ytddhdlfafaobhaa
