/- The operations that read or change memory, or call: the model does the same. -/
import Derived.Test.YtddhdlfafaobhaaV11
namespace Go.Proofs.Ytddhdlfafaobhaa
open Go.RowKit
set_option linter.unusedVariables false
set_option linter.unusedSimpArgs false

section
variable {P : Program} {φ : Phi} {O : Nat → Prop} {w : World}

theorem elsA_fill {ev : X → AV} {k : Nat} {K : List AV → Prop} : ∀ {ps : List (Nat × X)} {es : List AV}, elsA ev k es ps K → (∀ x ∈ es, x.ncells = k) →
    fillA ev (flat es) (ps.map fun (i, x) => (i * k, k, x)) (fun cs => ∃ es', cs = flat es' ∧ (∀ x ∈ es', x.ncells = k) ∧ es'.length = es.length ∧ K es')
  | [], es, h, hk => ⟨es, rfl, hk, rfl, h⟩
  | (i, x) :: r, es, h, hk => by
    obtain ⟨⟨h1, h2, h3⟩, h4⟩ := h
    have hj : es[i]? = some es[i] := by simp [h3]
    have hk' : ∀ y ∈ es.set i (ev x), y.ncells = k := fun y hy => by
      rcases List.mem_or_eq_of_mem_set hy with hy | rfl
      · exact hk y hy
      · exact h2
    have ih := elsA_fill h4 hk'
    rw [flat_set hk hj] at ih
    refine ⟨⟨h1, h2, ?_⟩, ?_⟩
    · rw [flat_length hk]
      have := Nat.mul_le_mul_right k (show i + 1 ≤ es.length from h3)
      rwa [Nat.add_mul, Nat.one_mul] at this
    · simpa using ih

theorem elParts_parts {k : Nat} : ∀ {l : List (Nat × Operand)} {ps : List (Nat × X)}, elPartsOf l = some ps → partsOf (fun i => some (i * k, k)) l = some (ps.map fun (i, x) => (i * k, k, x))
  | [], ps, h => by simp [elPartsOf] at h; subst h; rfl
  | (i, o) :: r, ps, h => by
    unfold elPartsOf at h
    split at h
    case h_2 => simp at h
    rename_i x s h1 h2
    cases h
    simp [partsOf, h1, elParts_parts h2]

theorem Rs_replicate {z : AV} {zc : Array Value} {k : Nat} (hz : Rs φ O w z.cells (fun i => zc[i]?)) (hk : z.ncells = k) (hk0 : 0 < k) : ∀ (n : Nat) (g : Nat → Option Value), (∀ i, i < n * k → g i = zc[i % k]?) → Rs φ O w (flat (List.replicate n z)) g
  | 0, g, _ => by simp [flat, Rs]
  | n + 1, g, h => by
    rw [List.replicate_succ, flat_cons]
    have hl : z.cells.length = k := by rw [← AV.ncells_eq, hk]
    refine Rs_append (Rs_congr (fun i hi => ?_) hz) (Rs_replicate hz hk hk0 n _ fun i hi => ?_)
    · rw [hl] at hi
      rw [h i (by rw [Nat.add_mul]; omega), Nat.mod_eq_of_lt hi]
    · rw [hl, h (k + i) (by rw [Nat.add_mul]; omega), Nat.add_mod_left]

theorem zeros_get {zc : Array Value} {k n i : Nat} (hk : zc.size = k) (hk0 : 0 < k) (hi : i < n * k) : ((Array.range (n * k)).map (zc[· % zc.size]!))[i]? = zc[i % k]? := by
  have hm : i % k < zc.size := by rw [hk]; exact Nat.mod_lt _ hk0
  rw [Array.getElem?_map, Array.getElem?_range, if_pos hi, Option.map_some, hk]
  rw [getElem!_pos zc (i % k) hm, getElem?_pos zc (i % k) hm]

/-- A slice literal: its elements lie in a block of their own. -/
theorem bsl_run {H : AHeap} {ts : List AV} {a : Act} (hr : FR φ O w ts a) {t e : TypeId} {i : TypeInfo} {zv : Value} {z : AV} {ln : Nat} {parts : Array (Nat × Operand)} {ps : List (Nat × X)}
    (ht : P.underlying t = some (.slice e)) (hi : P.info? e = some i) (hz : i.zero = some zv) (hc : ofConst zv = some z) (hp : elPartsOf parts.toList = some ps) (hk : z.ncells = i.size) (hk0 : 0 < i.size) (hsm : ln * i.size ≤ 1000000) (ht0 : z.isTop = false)
    {K : List AV → Prop} (h : elsA (X.ev ts) i.size (List.replicate ln z) ps K) :
    ∃ es cells, K es ∧ es.length = ln ∧ (∀ x ∈ es, x.ncells = i.size) ∧ cells.size = ln * i.size ∧ Rs φ O w (flat es) (fun i => (cells : Array Value)[i]?) ∧
      (Instr.buildSlice t ln (parts.map fun (i, x) => (i, a.eval x))).run P w = .ok (.slice (some ⟨w.heap.size, 0, none⟩) ln ln) (w.alloc (.cells cells e)) := by
  have hzv : VR φ O w z zv := ofConst_spec hc
  have hzs := cells_size hzv ht0
  rw [hk] at hzs
  have hzr := VR_Rs hzv ht0
  have hks : ∀ x ∈ List.replicate ln z, x.ncells = i.size := fun x hx => by rw [List.eq_of_mem_replicate hx]; exact hk
  have hinit := Rs_replicate (zc := zv.cells) hzr hk hk0 ln (fun j => ((Array.range (ln * i.size)).map (zv.cells[· % zv.cells.size]!))[j]?) (fun j hj => zeros_get hzs hk0 hj)
  obtain ⟨cs, cells, ⟨es, rfl, h1, h2, h3⟩, h4, h5, h6⟩ := fill_run hr (elParts_parts (k := i.size) hp) (cells := (Array.range (ln * i.size)).map (zv.cells[· % zv.cells.size]!)) hinit
    (by rw [flat_length hks]; simp) (elsA_fill h hks)
  have hlen : es.length = ln := by simpa using h2
  refine ⟨es, cells, h3, hlen, h1, by rw [h5, flat_length h1, hlen], h6, ?_⟩
  by_cases hl0 : ln = 0
  · subst hl0
    have h0 : ∀ g : Nat → Value, (Array.range (0 * i.size)).map g = #[] := fun g => by
      have : (0 * i.size) = 0 := Nat.zero_mul _
      rw [this, show Array.range 0 = #[] by simp, Array.map_empty]
    rw [h0] at h4
    have h4' : Instr.fill (fun j => some (j * i.size, i.size)) #[] (parts.map fun (i, x) => (i, a.eval x)).toList = some cells := by simpa using h4
    simp only [Instr.buildSlice, Sem.run_bind, rn_under ht, Result.andThen_ok, rn_size hi, Sem.run_pure, h0]
    simp [newRow]
    have h5' : Instr.fill (fun j => some (j * i.size, i.size)) #[] (List.map (fun x => (x.fst, a.eval x.snd)) parts.toList) = some cells := by simpa using h4'
    rw [h5']
    simp
  · have h7 : ¬ ln * i.size = 0 := by
      have := Nat.mul_pos (Nat.pos_of_ne_zero hl0) hk0
      omega
    exact run_buildSlice w t e ln _ cells i zv ht hi hz (by omega) h7 (by simpa using h4)

theorem hs_bsl {o : Oper} {t e : TypeId} {i : TypeInfo} {zv : Value} {z : AV} {ln : Nat} {parts : Array (Nat × Operand)} {ps : List (Nat × X)} (ho : o.op = .buildSlice t ln parts)
    (ht : P.underlying t = some (.slice e)) (hi : P.info? e = some i) (hz : i.zero = some zv) (hc : ofConst zv = some z) (hp : elPartsOf parts.toList = some ps) (hk : z.ncells = i.size) (hk0 : 0 < i.size) (hsm : ln * i.size ≤ 1000000) (ht0 : z.isTop = false) :
    HSound P o (.bsl i.size e z ln ps) := by
  intro φ H w ts a hR hr K Kp h next Q hn hpp
  obtain ⟨es, cells, h1, h2, h3, h4, h5, h6⟩ := bsl_run (H := H) hr ht hi hz hc hp hk hk0 hsm ht0 h
  have hold : ∀ b, b < w.heap.size → (w.alloc (.cells cells e)).heap[b]? = w.heap[b]? := fun b hb => heap_alloc_old w _ hb
  have hs : Step φ H w φ H (w.alloc (.cells cells e)) := grow_step rfl rfl rfl (by simp) hold
  have hno : ¬ Own φ H w.heap.size := by
    rintro ⟨id, k, g1, _⟩
    have := (hR.dom id _ g1).2
    omega
  have hrl : Rl φ (Own φ H) (w.alloc (.cells cells e)) w.heap.size i.size es 0 := by
    refine flat_Rl h3 (Rs_later hs.toLater _ _ _ (AV.idsL_true _) (fun j v hv => ?_) h5)
    unfold memAt
    rw [Nat.zero_add, World.cell?_alloc_at _ _ _ _ rfl]
    exact hv
  refine wp_value (u := .slice (some ⟨w.heap.size, 0, none⟩) ln ln) (w' := w.alloc (.cells cells e)) ?_ (hn _ _ _ _ _ h1 ⟨rfl, _, ln, by rw [h2]; rfl, by omega, ?_, fun h => by simp at h, fun _ => ⟨_, _, rfl, hno, by simp, hrl⟩, ?_, fun h => by simp at h⟩ (hR.grow (by simp) hold) hs)
  · simp only [execOp, ho, Sem.run_bind, h6, Result.andThen_ok, Sem.run_pure]
  · have : ln * 1 ≤ ln * i.size := Nat.mul_le_mul_left _ hk0
    unfold maxLen
    omega
  · simp [h2]

theorem hs_bslV {o : Oper} {t e : TypeId} {i : TypeInfo} {zv : Value} {z : AV} {ln : Nat} {parts : Array (Nat × Operand)} {ps : List (Nat × X)} (ho : o.op = .buildSlice t ln parts)
    (ht : P.underlying t = some (.slice e)) (hi : P.info? e = some i) (hz : i.zero = some zv) (hc : ofConst zv = some z) (hp : elPartsOf parts.toList = some ps) (hk : z.ncells = i.size) (hk0 : 0 < i.size) (hsm : ln * i.size ≤ 1000000) (ht0 : z.isTop = false) :
    HSound P o (.bslV i.size e z ln ps) := by
  intro φ H w ts a hR hr K Kp h next Q hn hpp
  obtain ⟨es, cells, h1, h2, h3, h4, h5, h6⟩ := bsl_run (H := H) hr ht hi hz hc hp hk hk0 hsm ht0 h
  have hmx : ln ≤ maxLen := by
    have : ln * 1 ≤ ln * i.size := Nat.mul_le_mul_left _ hk0
    unfold maxLen
    omega
  have hal := hR.alloc ⟨i.size, es, true, e⟩ cells ln h4 (by simp [h2]) (fun _ => by simp [h2]) hmx h3 h5
  refine wp_value (u := .slice (some ⟨w.heap.size, 0, none⟩) ln ln) (w' := w.alloc (.cells cells e)) ?_ (hn _ _ _ _ _ h1 ⟨rfl, w.heap.size, ln, cells, e, (0, 0), by simp [Phi.add], by simp [cget, Value.cells], Nat.le_refl _, hmx, fun m hm => by simpa using hm, heap_alloc_new w _, by simpa using h4⟩ hal.1 hal.2)
  simp only [execOp, ho, Sem.run_bind, h6, Result.andThen_ok, Sem.run_pure]

theorem makeSlice_run {t e : TypeId} {i : TypeInfo} {zv : Value} (ht : P.underlying t = some (.slice e)) (hi : P.info? e = some i) (hz : i.zero = some zv) (hby : i.bytes ≤ 1000) {k k' : IntKind} {n m : Int} (h0 : 0 ≤ n) (h1 : n ≤ m) (h2 : m ≤ 100000000) :
    (Instr.makeSlice t (.int k n) (.int k' m)).run P w = .ok (.slice (some ⟨w.heap.size, 0, none⟩) n.toNat m.toNat) (w.alloc (.cells ((Array.range (m.toNat * i.size)).map (zv.cells[· % zv.cells.size]!)) e)) := by
  have w1 : IntKind.i64.wrap n = n := IntWalk.i64_in _ (by omega)
  have w2 : IntKind.i64.wrap m = m := IntWalk.i64_in _ (by omega)
  have hb : (i.bytes : Int) * m ≤ 1000 * 100000000 := by
    have e1 : (i.bytes : Int) * m ≤ (i.bytes : Int) * 100000000 := Int.mul_le_mul_of_nonneg_left h2 (by omega)
    have e2 : (i.bytes : Int) * 100000000 ≤ 1000 * 100000000 := Int.mul_le_mul_of_nonneg_right (by omega) (by omega)
    omega
  have hb' : (i.bytes : Int) * n ≤ 1000 * 100000000 := by
    have e1 : (i.bytes : Int) * n ≤ (i.bytes : Int) * m := Int.mul_le_mul_of_nonneg_left h1 (by omega)
    omega
  have c1 : ¬ (m < 0) := by omega
  have c2 : ¬ ((i.bytes : Int) * m > 2 ^ 48) := by omega
  have c3 : ¬ (n < 0) := by omega
  have c4 : ¬ (n > m) := by omega
  have hcond : (decide (m < 0) || decide ((i.bytes : Int) * m > 2 ^ 48) || decide (n < 0) || decide (n > m)) = false := by simp [c1, c2, c3, c4]; omega
  by_cases hz0 : m.toNat * i.size = 0
  · simp only [Instr.makeSlice, Sem.run_bind, rn_under ht, Result.andThen_ok, asInt, asIntOf, Sem.run_pure, typeInfo, run_program, hi, w1, w2]
    simp [c1, c2, c3, c4, hz0, sizeOf, typeInfo, hi, newRow]
    rw [if_neg (by omega)]
    have hr0 : Array.range 0 = #[] := by simp
    rw [hr0]
    simp
  · simp only [Instr.makeSlice, Sem.run_bind, rn_under ht, Result.andThen_ok, asInt, asIntOf, Sem.run_pure, typeInfo, run_program, hi, w1, w2]
    simp [c1, c2, c3, c4, hz0, sizeOf, typeInfo, hi, newRow, zeroValue, hz]
    intro hbad
    exfalso
    omega

theorem hs_mksl {o : Oper} {t e : TypeId} {i : TypeInfo} {zv : Value} {z : AV} {l c : Operand} {l' c' : X} (ho : o.op = .makeSlice t l c)
    (ht : P.underlying t = some (.slice e)) (hi : P.info? e = some i) (hz : i.zero = some zv) (hc : ofConst zv = some z) (hl : ofX l = some l') (hcc : ofX c = some c') (hk : z.ncells = i.size) (hk0 : 0 < i.size) (hby : i.bytes ≤ 1000) (ht0 : z.isTop = false) :
    HSound P o (.mksl i.size e z l' c') := by
  intro φ H w ts a hR hr K Kp h next Q hn hpp
  have hv := ofX_spec hr hl
  have hw := ofX_spec hr hcc
  simp only [HO.sem] at h
  split at h
  case h_2 => exact h.elim
  rename_i k1 n k2 m he hf
  rw [he] at hv
  rw [hf] at hw
  obtain ⟨⟨h0, h1, h2⟩, h3⟩ := h
  have hzv : VR φ (Own φ H) w z zv := ofConst_spec hc
  have hzs := cells_size hzv ht0
  rw [hk] at hzs
  have hks : ∀ x ∈ List.replicate m.toNat z, x.ncells = i.size := fun x hx => by rw [List.eq_of_mem_replicate hx]; exact hk
  have hinit := Rs_replicate (zc := zv.cells) (VR_Rs hzv ht0) hk hk0 m.toNat (fun j => ((Array.range (m.toNat * i.size)).map (zv.cells[· % zv.cells.size]!))[j]?) (fun j hj => zeros_get hzs hk0 hj)
  have hmx : m.toNat ≤ maxLen := by unfold maxLen; omega
  have hal := hR.alloc ⟨i.size, List.replicate m.toNat z, true, e⟩ ((Array.range (m.toNat * i.size)).map (zv.cells[· % zv.cells.size]!)) m.toNat (by simp) (by simp) (fun _ => by simp) hmx hks hinit
  refine wp_value (u := .slice (some ⟨w.heap.size, 0, none⟩) n.toNat m.toNat) ?_ (hn _ _ _ _ _ h3 ⟨rfl, w.heap.size, m.toNat, _, e, (0, 0), by simp [Phi.add], by simp [cget, Value.cells], by omega, hmx, fun q hq => by simpa using hq, heap_alloc_new w _, by simp⟩ hal.1 hal.2)
  simp only [execOp, ho, VR_sc hv, VR_sc hw, Sem.run_bind, makeSlice_run ht hi hz hby h0 h1 h2, Result.andThen_ok, Sem.run_pure]

end
end Go.Proofs.Ytddhdlfafaobhaa
