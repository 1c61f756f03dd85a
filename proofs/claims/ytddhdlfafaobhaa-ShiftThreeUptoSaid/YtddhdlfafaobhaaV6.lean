/- The operations that only compute: the model makes the same (one lemma each, then all). -/
import Derived.Test.YtddhdlfafaobhaaV5
namespace Go.Proofs.Ytddhdlfafaobhaa
open Go.RowKit
set_option linter.unusedVariables false
set_option linter.unusedSimpArgs false

def PSound (P : Program) (o : Oper) (op : PO) : Prop :=
  ∀ (φ : Phi) (O : Nat → Prop) (w : World) (ts : List AV) (a : Act), FR φ O w ts a → ∀ K : AV → Prop, PO.sem (X.ev ts) K op →
    ∃ v u, K v ∧ VR φ O w v u ∧ (execOp a.eval o).run P w = .ok (.value u) w

section
variable {P : Program}

theorem ps_mv {o : Oper} {x : Operand} {x' : X} (ho : o.op = .move x ∨ o.op = .assign x) (hx : ofX x = some x') : PSound P o (.mv x') := by
  intro φ O w ts a hr K h
  refine ⟨_, _, h, ofX_spec hr hx, ?_⟩
  rcases ho with ho | ho <;> simp [execOp, ho]

theorem ps_pick {o : Oper} {c x y : Operand} {c' x' y' : X} (ho : o.op = .pick c x y) (hc : ofX c = some c') (hx : ofX x = some x') (hy : ofX y = some y') : PSound P o (.pick c' x' y') := by
  intro φ O w ts a hr K h
  have hv := ofX_spec hr hc
  simp only [PO.sem] at h
  cases he : X.ev ts c' <;> rw [he] at h hv <;> try exact False.elim h
  rename_i u
  cases u <;> try exact False.elim h
  rename_i t
  have hu := VR_sc hv
  cases t with
  | true => exact ⟨_, _, h.1 rfl, ofX_spec hr hx, by simp [execOp, ho, hu, asBool]⟩
  | false => exact ⟨_, _, h.2 rfl, ofX_spec hr hy, by simp [execOp, ho, hu, asBool]⟩

theorem ps_bin {o : Oper} {op : BinOp} {t ty : TypeId} {x y : Operand} {x' y' : X} (ho : o.op = .binOp op t x y ty) (hx : ofX x = some x') (hy : ofX y = some y') : PSound P o (.bin op x' y') := by
  intro φ O w ts a hr K h
  have hv := ofX_spec hr hx
  have hw := ofX_spec hr hy
  simp only [PO.sem] at h
  cases he : X.ev ts x' <;> cases hf : X.ev ts y' <;> rw [he, hf] at h <;> try exact False.elim h
  rw [he] at hv
  rw [hf] at hw
  obtain ⟨r, h1, h2⟩ := h
  obtain ⟨h3, h4⟩ := binV_run h1 P t w
  refine ⟨_, _, h2, sc_VR h4, ?_⟩
  simp [execOp, ho, VR_sc hv, VR_sc hw, binV_guard h1 P t x y w, h3]

theorem ps_shf {o : Oper} {op : BinOp} {t ty : TypeId} {x y : Operand} {x' y' : X} (ho : o.op = .binOp op t x y ty) (hx : ofX x = some x') (hy : ofX y = some y') : PSound P o (.shf op x' y') := by
  intro φ O w ts a hr K h
  have hv := ofX_spec hr hx
  have hw := ofX_spec hr hy
  simp only [PO.sem] at h
  cases he : X.ev ts x' <;> cases hf : X.ev ts y' <;> rw [he, hf] at h <;> try exact False.elim h
  rw [he] at hv
  rw [hf] at hw
  obtain ⟨r, h1, h2⟩ := h
  obtain ⟨h3, h4, h5⟩ := shV_run h1 P t w
  refine ⟨_, _, h2, sc_VR h4, ?_⟩
  simp [execOp, ho, VR_sc hv, VR_sc hw, h5, h3]

theorem eqB_run {t : TypeId} (ht : P.underlying t = some .bool) (x y : Bool) (w : World) : (Op.equal t (.bool x) (.bool y)).run P w = .ok (x == y) w := by
  show (Op.equalIn (9999 + 1) t _ _).run P w = _
  rw [Op.equalIn]
  simp only [Sem.run_bind, rn_under ht, Result.andThen_ok]
  rfl
theorem eqN_run {t : TypeId} {ms : Array (String × TypeId)} (ht : P.underlying t = some (.interface ms)) (w : World) : (Op.equal t .nilIface .nilIface).run P w = .ok true w := by
  show (Op.equalIn (9999 + 1) t _ _).run P w = _
  rw [Op.equalIn]
  simp only [Sem.run_bind, rn_under ht, Result.andThen_ok]
  rfl
theorem eqM_run {t u : TypeId} {v : Value} {ms : Array (String × TypeId)} (ht : P.underlying t = some (.interface ms)) (w : World) : (Op.equal t (.iface u v) .nilIface).run P w = .ok false w := by
  show (Op.equalIn (9999 + 1) t _ _).run P w = _
  rw [Op.equalIn]
  simp only [Sem.run_bind, rn_under ht, Result.andThen_ok]
  rfl
theorem lp_VR {φ : Phi} {O : Nat → Prop} {w : World} {x : AV} {f b off p : Nat} (h1 : ¬ O b) (h2 : b < w.heap.size) (h4 : x.isAgg = false → ∃ u, memAt w b off 0 = some u ∧ u.oneCell' = true) (h3 : R φ O w x (memAt w b off)) (hp : p = off + f) : VR φ O w (.lp x f) (.pointer (some ⟨b, p, none⟩)) :=
  ⟨rfl, b, off, by rw [hp]; rfl, h1, h2, h4, h3⟩

theorem ps_eqB {o : Oper} {op : BinOp} {t ty : TypeId} {x y : Operand} {x' y' : X} {pos : Bool} (ho : o.op = .binOp op t x y ty) (ht : P.underlying t = some .bool) (hop : op = if pos then .eql else .neq) (hx : ofX x = some x') (hy : ofX y = some y') : PSound P o (.eqB pos x' y') := by
  intro φ O w ts a hr K h
  have hv := ofX_spec hr hx
  have hw := ofX_spec hr hy
  simp only [PO.sem] at h
  split at h
  case h_2 => exact h.elim
  rename_i u v he hf
  rw [he] at hv
  rw [hf] at hw
  refine ⟨_, _, h, sc_VR rfl, ?_⟩
  cases pos <;> simp at hop <;> subst hop
  · simp only [execOp, ho, VR_sc hv, VR_sc hw]
    have e : ∀ u v, binOp .neq t (.bool u) (.bool v) = (do pure (.bool (!(← Op.equal t (.bool u) (.bool v))))) := fun _ _ => rfl
    rw [e]
    simp [eqGuard, eqB_run ht]
  · simp only [execOp, ho, VR_sc hv, VR_sc hw]
    have e : ∀ u v, binOp .eql t (.bool u) (.bool v) = (do pure (.bool (← Op.equal t (.bool u) (.bool v)))) := fun _ _ => rfl
    rw [e]
    simp [eqGuard, eqB_run ht]

theorem ps_eqN {o : Oper} {op : BinOp} {t ty : TypeId} {x : Operand} {x' : X} {pos : Bool} {ms : Array (String × TypeId)} (ho : o.op = .binOp op t x (.const .nilIface) ty) (ht : P.underlying t = some (.interface ms)) (hop : op = if pos then .eql else .neq) (hx : ofX x = some x') : PSound P o (.eqN pos x') := by
  intro φ O w ts a hr K h
  have hv := ofX_spec hr hx
  have hc : a.eval (.const .nilIface) = .nilIface := rfl
  simp only [PO.sem] at h
  cases he : X.ev ts x' <;> rw [he] at h hv <;> try exact False.elim h
  · rename_i u
    cases u <;> try exact False.elim h
    refine ⟨_, _, h, sc_VR rfl, ?_⟩
    have e1 : binOp .neq t .nilIface .nilIface = (do pure (.bool (!(← Op.equal t .nilIface .nilIface)))) := rfl
    have e2 : binOp .eql t .nilIface .nilIface = (do pure (.bool (← Op.equal t .nilIface .nilIface))) := rfl
    cases pos <;> simp at hop <;> subst hop <;> simp only [execOp, ho, VR_sc hv, hc, e1, e2] <;> simp [eqGuard, eqN_run ht]
  · obtain ⟨u, hu, _⟩ := VR_ifc hv
    refine ⟨_, _, h, sc_VR rfl, ?_⟩
    have e1 : ∀ a b, binOp .neq t (.iface a b) .nilIface = (do pure (.bool (!(← Op.equal t (.iface a b) .nilIface)))) := fun _ _ => rfl
    have e2 : ∀ a b, binOp .eql t (.iface a b) .nilIface = (do pure (.bool (← Op.equal t (.iface a b) .nilIface))) := fun _ _ => rfl
    cases pos <;> simp at hop <;> subst hop <;> simp only [execOp, ho, hu, hc, e1, e2] <;> simp [eqGuard, eqM_run ht]

theorem eqS_run {t e : TypeId} (ht : P.underlying t = some (.slice e)) (a : Option Addr) (n c : Nat) (w : World) : (Op.equal t (.slice a n c) (.slice none 0 0)).run P w = .ok a.isNone w := by
  show (Op.equalIn (9999 + 1) t _ _).run P w = _
  rw [Op.equalIn]
  simp only [Sem.run_bind, rn_under ht, Result.andThen_ok]
  cases a <;> rfl
theorem ub_VR {φ : Phi} {O : Nat → Prop} {w : World} {b : Bool} : VR φ O w .ub (.bool b) := ⟨rfl, b, rfl⟩
theorem ps_nilS {o : Oper} {op : BinOp} {t ty e : TypeId} {x : Operand} {x' : X} {pos : Bool} (ho : o.op = .binOp op t x (.const (.slice none 0 0)) ty) (ht : P.underlying t = some (.slice e)) (hop : op = if pos then .eql else .neq) (hx : ofX x = some x') : PSound P o (.nilS pos x') := by
  intro φ O w ts a hr K h
  have hv := ofX_spec hr hx
  have hc : a.eval (.const (.slice none 0 0)) = .slice none 0 0 := rfl
  have e1 : ∀ a n c, binOp .neq t (.slice a n c) (.slice none 0 0) = (do pure (.bool (!(← Op.equal t (.slice a n c) (.slice none 0 0))))) := fun _ _ _ => rfl
  have e2 : ∀ a n c, binOp .eql t (.slice a n c) (.slice none 0 0) = (do pure (.bool (← Op.equal t (.slice a n c) (.slice none 0 0)))) := fun _ _ _ => rfl
  have key : ∀ {z : Option Addr} {n c : Nat}, a.eval x = .slice z n c → (execOp a.eval o).run P w = .ok (.value (.bool (if pos then z.isNone else !z.isNone))) w := by
    intro z n c hz
    cases pos <;> simp at hop <;> subst hop <;> simp only [execOp, ho, hz, hc, e1, e2] <;> simp [eqGuard, eqS_run ht]
  have key' : ∀ {z : Option Addr} {n c : Nat} {v : Value}, a.eval x = .slice z n c → v = .bool (if pos then z.isNone else !z.isNone) → (execOp a.eval o).run P w = .ok (.value v) w := fun h1 h2 => by rw [h2]; exact key h1
  simp only [PO.sem] at h
  split at h
  · rename_i k room he
    rw [he] at hv
    obtain ⟨z, c, hz, _⟩ := VR_lst hv
    exact ⟨_, _, h, ub_VR, key' hz rfl⟩
  · rename_i k y ys room he
    rw [he] at hv
    obtain ⟨z, c, hz, h1, h2, h3, h4, _⟩ := VR_lst hv
    obtain ⟨b, off, rfl, _⟩ := h4 (by simp)
    exact ⟨_, _, h, sc_VR rfl, key' hz (by cases pos <;> rfl)⟩
  · rename_i he
    rw [he] at hv
    obtain ⟨b, c', cur, e, fr, h1, hz, _⟩ := VR_vec hv
    exact ⟨_, _, h, sc_VR rfl, key' hz (by cases pos <;> rfl)⟩
  · exact h.elim

theorem ps_un {o : Oper} {op : UnOp} {t : TypeId} {x : Operand} {x' : X} (ho : o.op = .unOp op t x) (hx : ofX x = some x') : PSound P o (.un op x') := by
  intro φ O w ts a hr K h
  have hv := ofX_spec hr hx
  simp only [PO.sem] at h
  cases he : X.ev ts x' <;> rw [he] at h hv <;> try exact False.elim h
  obtain ⟨r, h1, h2⟩ := h
  obtain ⟨h3, h4⟩ := unV_run h1 P w
  exact ⟨_, _, h2, sc_VR h4, by simp [execOp, ho, VR_sc hv, h3]⟩

theorem ps_conv {o : Oper} {s d : TypeId} {x : Operand} {x' : X} {k k' : IntKind} (ho : o.op = .convert s d x) (hs : P.underlying s = some (.int k')) (hd : P.underlying d = some (.int k)) (hx : ofX x = some x') : PSound P o (.conv k x') := by
  intro φ O w ts a hr K h
  have hv := ofX_spec hr hx
  simp only [PO.sem] at h
  cases he : X.ev ts x' <;> rw [he] at h hv <;> try exact False.elim h
  rename_i u
  cases u <;> try exact False.elim h
  exact ⟨_, _, h, sc_VR rfl, by simp [execOp, ho, VR_sc hv, convert, rn_under hs, rn_under hd, Conv.intToInt]⟩

theorem ps_convS {o : Oper} {s d : TypeId} {x : Operand} {x' : X} (ho : o.op = .convert s d x) (hs : P.underlying s = some .string) (hd : P.underlying d = some .string) (hx : ofX x = some x') : PSound P o (.slcS x' none none) := by
  intro φ O w ts a hr K h
  have hv := ofX_spec hr hx
  simp only [PO.sem] at h
  cases he : X.ev ts x' <;> rw [he] at h hv <;> try exact False.elim h
  rename_i u
  cases u <;> try exact False.elim h
  rename_i s'
  refine ⟨_, _, h.2, sc_VR rfl, ?_⟩
  have e : s'.extract 0 s'.size = s' := by
    have := ByteArray.extract_zero_size (b := s')
    exact this
  simp [execOp, ho, VR_sc hv, convert, rn_under hs, rn_under hd, e]

theorem ps_nilck {o : Oper} {x : Operand} {x' : X} (ho : o.op = .nilCheck x) (hx : ofX x = some x') : PSound P o (.nilck x') := by
  intro φ O w ts a hr K h
  have hv := ofX_spec hr hx
  simp only [PO.sem] at h
  cases he : X.ev ts x' <;> rw [he] at h hv <;> try exact False.elim h
  · obtain ⟨b, h1, h2⟩ := VR_ptr hv
    exact ⟨_, _, h, hv, by simp [execOp, ho, h2]⟩
  · obtain ⟨b, off, h1, h2⟩ := VR_lp hv
    exact ⟨_, _, h, hv, by simp [execOp, ho, h1]⟩
  · rename_i f _ _
    cases f <;> try exact False.elim h
    obtain ⟨us, ws, h1, h2⟩ := VR_fn hv
    exact ⟨_, _, h, hv, by simp [execOp, ho, h1]⟩

theorem ps_faddr {o : Oper} {s : TypeId} {x : Operand} {x' : X} {f : Nat} {fs : Array Field} {fd : Field} {i : TypeInfo} (ho : o.op = .fieldAddr s x f) (hs : P.underlying s = some (.struct fs)) (hf : fs[f]? = some fd) (hi : P.info? fd.type = some i) (hz : i.size ≠ 0) (hx : ofX x = some x') : PSound P o (.faddr fd.offset x') := by
  intro φ O w ts a hr K h
  have hv := ofX_spec hr hx
  simp only [PO.sem] at h
  cases he : X.ev ts x' <;> rw [he] at h hv <;> try exact False.elim h
  · obtain ⟨b, h1, h2⟩ := VR_ptr hv
    refine ⟨_, _, h, ptr_VR h1, ?_⟩
    simp [execOp, ho, h2, Instr.fieldAt, rn_under hs, hf, Instr.sureAddr, fieldPlace, rn_size hi, hz, addr_add, Nat.add_assoc]
  · obtain ⟨b, off, h1, h2, h3, h3', h4⟩ := VR_lp hv
    refine ⟨_, _, h, lp_VR h2 h3 h3' h4 rfl, ?_⟩
    simp [execOp, ho, h1, Instr.fieldAt, rn_under hs, hf, Instr.sureAddr, fieldPlace, rn_size hi, hz, addr_add, Nat.add_assoc]

theorem ps_field {o : Oper} {t : TypeId} {x : Operand} {x' : X} {f n : Nat} {ag : Bool} {fs : Array Field} {fd : Field} (ho : o.op = .field t x f) (hs : P.underlying t = some (.struct fs)) (hf : fs[f]? = some fd) (hi : sizeAgg P fd.type = some (n, ag)) (hx : ofX x = some x') : PSound P o (.field fd.offset n ag x') := by
  intro φ O w ts a hr K h
  have hv := ofX_spec hr hx
  simp only [PO.sem] at h
  cases he : X.ev ts x' <;> rw [he] at h hv <;> try exact False.elim h
  obtain ⟨us, h1, h2, h3⟩ := VR_aggI hv
  obtain ⟨u, h4, h5⟩ := part_run hi h3 h2 h.1
  exact ⟨_, _, h.2, h5, by simp [execOp, ho, h1, Instr.field, rn_under hs, hf, asAgg, h4]⟩

theorem ps_iaddr {o : Oper} {t e : TypeId} {x i : Operand} {x' i' : X} {inf : TypeInfo} (ho : o.op = .indexAddr t x i) (ht : P.underlying t = some (.slice e)) (hi : P.info? e = some inf) (hx : ofX x = some x') (hj : ofX i = some i') : PSound P o (.iaddr inf.size x' i') := by
  intro φ O w ts a hr K h
  have hv := ofX_spec hr hx
  have hw := ofX_spec hr hj
  simp only [PO.sem] at h
  cases he : X.ev ts x' <;> cases hf : X.ev ts i' <;> rw [he, hf] at h <;> try exact False.elim h
  all_goals
    rename_i u
    rw [he] at hv
    rw [hf] at hw
    cases u <;> try exact False.elim h
    rename_i kk n
    obtain ⟨⟨h0, h1, hk⟩, h2⟩ := h
    subst hk
    have hi' := VR_sc hw
  · rename_i xs _
    obtain ⟨ad, c, h3, h4, h5, h6, h7, h8⟩ := VR_lst hv
    have hpos : 0 < xs.length := by omega
    obtain ⟨b, off, rfl, h9, h10, h11⟩ := h7 hpos
    have hn : n.toNat < xs.length := by omega
    have hg : xs[n.toNat]? = some (xs.getD n.toNat .top) := by simp [List.getD, hn]
    obtain ⟨a1, a2, a3⟩ := Rl_nth h11 hg
    refine ⟨_, _, h2, lp_VR h9 h10 a2 a3 rfl, ?_⟩
    simp [execOp, ho, h3, hi', Instr.indexAt, asIntOf, rn_under ht, h0, h1, rn_size hi, addr_add]
  · obtain ⟨b, c', cur, e', fr, h3, h4, h5, _⟩ := VR_vec hv
    refine ⟨_, _, h2, ptr_VR h3, ?_⟩
    simp [execOp, ho, h4, hi', Instr.indexAt, asIntOf, rn_under ht, h0, h1, rn_size hi, addr_add, Nat.add_mul]

theorem ps_iaddrA {o : Oper} {t e : TypeId} {x i : Operand} {x' i' : X} {ln : Nat} {inf : TypeInfo} (ho : o.op = .indexAddr t x i) (ht : P.underlying t = some (.array ln e)) (hi : P.info? e = some inf) (hx : ofX x = some x') (hj : ofX i = some i') : PSound P o (.iaddrA ln inf.size x' i') := by
  intro φ O w ts a hr K h
  have hv := ofX_spec hr hx
  have hw := ofX_spec hr hj
  simp only [PO.sem] at h
  cases he : X.ev ts x' <;> cases hf : X.ev ts i' <;> rw [he, hf] at h <;> try exact False.elim h
  all_goals
    rename_i u
    rw [he] at hv
    rw [hf] at hw
    cases u <;> try exact False.elim h
    rename_i kk n
    obtain ⟨⟨h0, h1⟩, h2⟩ := h
    have hi' := VR_sc hw
  · obtain ⟨b, h3, h4⟩ := VR_ptr hv
    refine ⟨_, _, h2, ptr_VR h3, ?_⟩
    simp [execOp, ho, h4, hi', Instr.indexAt, asIntOf, rn_under ht, h0, h1, rn_size hi, addr_add, Instr.sureAddr, Nat.add_assoc]
  · obtain ⟨b, off, h3, h4, h5, h5', h6⟩ := VR_lp hv
    refine ⟨_, _, h2, lp_VR h4 h5 h5' h6 rfl, ?_⟩
    simp [execOp, ho, h3, hi', Instr.indexAt, asIntOf, rn_under ht, h0, h1, rn_size hi, addr_add, Instr.sureAddr, Nat.add_assoc]

theorem ps_idxS {o : Oper} {t : TypeId} {x i : Operand} {x' i' : X} (ho : o.op = .index t x i) (ht : P.underlying t = some .string) (hx : ofX x = some x') (hj : ofX i = some i') : PSound P o (.idxS x' i') := by
  intro φ O w ts a hr K h
  have hv := ofX_spec hr hx
  have hw := ofX_spec hr hj
  simp only [PO.sem] at h
  split at h
  case h_2 => exact h.elim
  rename_i s kk n he hf
  rw [he] at hv
  rw [hf] at hw
  obtain ⟨⟨h0, h1⟩, h2⟩ := h
  refine ⟨_, _, h2, sc_VR rfl, ?_⟩
  have hn : n.toNat < s.size := by omega
  have hd : n.toNat < s.data.size := hn
  have hs : s[n.toNat]? = some (s.data.getD n.toNat 0) := by
    rw [getElem?_pos s n.toNat hn]
    rw [Array.getD, dif_pos hd]
    rfl
  simp [execOp, ho, VR_sc hv, VR_sc hw, Instr.index, asIntOf, rn_under ht, h0, hs]

theorem ps_idxA {o : Oper} {t e : TypeId} {x i : Operand} {x' i' : X} {ln n : Nat} {ag : Bool} (ho : o.op = .index t x i) (ht : P.underlying t = some (.array ln e)) (hi : sizeAgg P e = some (n, ag)) (hx : ofX x = some x') (hj : ofX i = some i') : PSound P o (.idxA ln n ag x' i') := by
  intro φ O w ts a hr K h
  have hv := ofX_spec hr hx
  have hw := ofX_spec hr hj
  simp only [PO.sem] at h
  cases he : X.ev ts x' <;> cases hf : X.ev ts i' <;> rw [he, hf] at h <;> try exact False.elim h
  rename_i v
  rw [he] at hv
  rw [hf] at hw
  cases v <;> try exact False.elim h
  rename_i kk m
  obtain ⟨⟨h0, h1⟩, h2, h3⟩ := h
  obtain ⟨us, h4, h5, h6⟩ := VR_aggI hv
  obtain ⟨u, h7, h8⟩ := part_run hi h6 h5 h2
  refine ⟨_, _, h3, h8, ?_⟩
  have hsz : ∃ inf, P.info? e = some inf ∧ inf.size = n := by
    unfold sizeAgg at hi
    split at hi
    · rename_i h9; cases hi; exact ⟨_, h9, rfl⟩
    · simp at hi
  obtain ⟨inf, hi1, rfl⟩ := hsz
  simp [execOp, ho, h4, VR_sc hw, Instr.index, asIntOf, rn_under ht, h0, h1, rn_size hi1, h7]

theorem ps_lenL {o : Oper} {t e : TypeId} {x : Operand} {x' : X} {args : Array Operand} {ats : Array TypeId} (ho : o.op = .call { callee := .builtin .len, args, argTypes := ats }) (ha : args.toList = [x]) (hat : ats.toList = [t]) (ht : P.underlying t = some (.slice e)) (hx : ofX x = some x') : PSound P o (.len x') := by
  intro φ O w ts a hr K h
  obtain rfl : args = #[x] := by apply Array.toList_inj.1; simpa using ha
  obtain rfl : ats = #[t] := by apply Array.toList_inj.1; simpa using hat
  have hv := ofX_spec hr hx
  simp only [PO.sem] at h
  cases he : X.ev ts x' <;> rw [he] at h hv <;> try exact False.elim h
  · obtain ⟨ad, c, h3, _⟩ := VR_lst hv
    exact ⟨_, _, h, sc_VR rfl, by simp [execOp, ho, resolve, invoke, builtin, h3, Builtin.len_, rn_under ht, goInt]⟩
  · obtain ⟨b, c', cur, e', fr, h3, h4, h5, _⟩ := VR_vec hv
    exact ⟨_, _, h, sc_VR rfl, by simp [execOp, ho, resolve, invoke, builtin, h4, Builtin.len_, rn_under ht, goInt]⟩

theorem ps_lenS {o : Oper} {t : TypeId} {x : Operand} {x' : X} {args : Array Operand} {ats : Array TypeId} (ho : o.op = .call { callee := .builtin .len, args, argTypes := ats }) (ha : args.toList = [x]) (hat : ats.toList = [t]) (ht : P.underlying t = some .string) (hx : ofX x = some x') : PSound P o (.lenS x') := by
  intro φ O w ts a hr K h
  obtain rfl : args = #[x] := by apply Array.toList_inj.1; simpa using ha
  obtain rfl : ats = #[t] := by apply Array.toList_inj.1; simpa using hat
  have hv := ofX_spec hr hx
  simp only [PO.sem] at h
  cases he : X.ev ts x' <;> rw [he] at h hv <;> try exact False.elim h
  rename_i u
  cases u <;> try exact False.elim h
  exact ⟨_, _, h, sc_VR rfl, by simp [execOp, ho, resolve, invoke, builtin, VR_sc hv, Builtin.len_, rn_under ht, goInt]⟩

theorem ps_lenA {o : Oper} {t e : TypeId} {x : Operand} {n : Nat} {args : Array Operand} {ats : Array TypeId} (ho : o.op = .call { callee := .builtin .len, args, argTypes := ats }) (ha : args.toList = [x]) (hat : ats.toList = [t]) (ht : P.underlying t = some (.array n e)) : PSound P o (.mv (.k (.sc (.int .i64 n)))) := by
  intro φ O w ts a hr K h
  obtain rfl : args = #[x] := by apply Array.toList_inj.1; simpa using ha
  obtain rfl : ats = #[t] := by apply Array.toList_inj.1; simpa using hat
  exact ⟨_, _, h, sc_VR rfl, by simp [execOp, ho, resolve, invoke, builtin, Builtin.len_, rn_under ht, goInt]⟩

theorem ps_mm {o : Oper} {x y : Operand} {x' y' : X} {mx : Bool} {args : Array Operand} {ats : Array TypeId} (ho : o.op = .call { callee := .builtin (if mx then .max else .min), args, argTypes := ats }) (ha : args.toList = [x, y]) (hx : ofX x = some x') (hy : ofX y = some y') : PSound P o (.mm mx x' y') := by
  intro φ O w ts a hr K h
  obtain rfl : args = #[x, y] := by apply Array.toList_inj.1; simpa using ha
  have hv := ofX_spec hr hx
  have hw := ofX_spec hr hy
  simp only [PO.sem] at h
  split at h
  case h_2 => exact h.elim
  rename_i kk a1 kk2 b1 he hf
  rw [he] at hv
  rw [hf] at hw
  refine ⟨_, _, h, sc_VR rfl, ?_⟩
  cases mx <;> simp [execOp, ho, resolve, invoke, builtin, VR_sc hv, VR_sc hw, Builtin.max_, Builtin.min_, Builtin.max2, Builtin.min2]

theorem ps_ext {o : Oper} {x : Operand} {x' : X} {i : Nat} (ho : o.op = .extract x i) (hx : ofX x = some x') : PSound P o (.ext x' i) := by
  intro φ O w ts a hr K h
  have hv := ofX_spec hr hx
  simp only [PO.sem] at h
  cases he : X.ev ts x' <;> rw [he] at h hv <;> try exact False.elim h
  rename_i vs
  obtain ⟨us, h1, h2⟩ := VR_tup hv
  obtain ⟨u, h3, h4⟩ := Rt_nth h2 (i := i) (x := vs.getD i .top) (by simp [List.getD, h.1])
  exact ⟨_, _, h.2, h4, by simp at h3; simp [execOp, ho, h1, Instr.extract, h3]⟩

theorem ps_mkfn {o : Oper} {f : Fn} {A B : Array Operand} {A' B' : List X} (ho : o.op = .makeFunc f A B) (hA : ofXs A = some A') (hB : ofXs B = some B') : PSound P o (.mkfn f A' B') := by
  intro φ O w ts a hr K h
  refine ⟨_, .func f (A.map a.eval) (B.map a.eval), h, ⟨rfl, _, _, rfl, ?_, ?_⟩, by simp [execOp, ho, Instr.makeFunc]⟩
  · have := Rt_map hr hA
    simpa using this
  · have := Rt_map hr hB
    simpa using this

theorem ps_mkif {o : Oper} {t : TypeId} {d : TypeDesc} {x : Operand} {x' : X} (ho : o.op = .makeInterface t x) (ht : P.underlying t = some d) (hd : ∀ ms, d ≠ .interface ms) (hx : ofX x = some x') : PSound P o (.mkif t x') := by
  intro φ O w ts a hr K h
  have hv := ofX_spec hr hx
  refine ⟨_, .iface t (a.eval x), h, ⟨rfl, _, rfl, hv.1, hv.2⟩, ?_⟩
  cases d <;> first | (exact absurd rfl (hd _)) | simp [execOp, ho, Instr.makeInterface, rn_under ht]

theorem ps_tass {o : Oper} {t xt : TypeId} {d : TypeDesc} {i : TypeInfo} {zv : Value} {z : AV} {x : Operand} {x' : X} (ho : o.op = .typeAssert x xt t true) (ht : P.underlying t = some d) (hd : ∀ ms, d ≠ .interface ms) (hi : P.info? t = some i) (hz : i.zero = some zv) (hz' : ofConst zv = some z) (hx : ofX x = some x') : PSound P o (.tass t z x') := by
  intro φ O w ts a hr K h
  have hv := ofX_spec hr hx
  have hzv : VR φ O w z zv := ofConst_spec hz'
  simp only [PO.sem] at h
  cases he : X.ev ts x' <;> rw [he] at h hv <;> try exact False.elim h
  · rename_i u
    cases u <;> try exact False.elim h
    refine ⟨_, .tuple #[zv, .bool false], h, ⟨⟨_, rfl⟩, _, rfl, _, _, rfl, hzv.1, hzv.2, _, _, rfl, rfl, rfl, rfl⟩, ?_⟩
    cases d <;> first | (exact absurd rfl (hd _)) | simp [execOp, ho, Instr.typeAssert, rn_under ht, VR_sc hv, zeroValue, typeInfo, hi, hz]
  · rename_i u v
    obtain ⟨y, h1, h2⟩ := VR_ifc hv
    by_cases hu : u = t
    · subst hu
      refine ⟨_, .tuple #[y, .bool true], h.1 rfl, ⟨⟨_, rfl⟩, _, rfl, _, _, rfl, h2.1, h2.2, _, _, rfl, rfl, rfl, rfl⟩, ?_⟩
      cases d <;> first | (exact absurd rfl (hd _)) | simp [execOp, ho, Instr.typeAssert, rn_under ht, h1]
    · refine ⟨_, .tuple #[zv, .bool false], h.2 hu, ⟨⟨_, rfl⟩, _, rfl, _, _, rfl, hzv.1, hzv.2, _, _, rfl, rfl, rfl, rfl⟩, ?_⟩
      cases d <;> first | (exact absurd rfl (hd _)) | simp [execOp, ho, Instr.typeAssert, rn_under ht, h1, hu, zeroValue, typeInfo, hi, hz]

end
end Go.Proofs.Ytddhdlfafaobhaa
