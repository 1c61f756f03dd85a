/- Values built of parts; then: all operations that only compute, by what they were made of. -/
import Derived.Test.YtddhdlfafaobhaaV7
namespace Go.Proofs.Ytddhdlfafaobhaa
open Go.RowKit
set_option linter.unusedVariables false
set_option linter.unusedSimpArgs false

section
variable {P : Program} {φ : Phi} {O : Nat → Prop} {w : World}

theorem foldl_set (off : Nat) : ∀ (l : List Value) (i : Nat) (cs : Array Value),
    ((l.zipIdx i).foldl (fun cs (c, j) => cs.setIfInBounds (off + j) c) cs).size = cs.size ∧
    ∀ k, k < cs.size → ((l.zipIdx i).foldl (fun cs (c, j) => cs.setIfInBounds (off + j) c) cs)[k]? = if off + i ≤ k ∧ k < off + i + l.length then l[k - (off + i)]? else cs[k]?
  | [], i, cs => ⟨rfl, fun k hk => by
      have : ¬ (off + i ≤ k ∧ k < off + i + ([] : List Value).length) := by rw [List.length_nil]; omega
      rw [if_neg this]; rfl⟩
  | v :: r, i, cs => by
    obtain ⟨h1, h2⟩ := foldl_set off r (i + 1) (cs.setIfInBounds (off + i) v)
    simp only [List.zipIdx_cons, List.foldl_cons]
    refine ⟨by rw [h1]; simp, fun k hk => ?_⟩
    rw [h2 k (by simpa using hk)]
    by_cases e : off + i = k
    · subst e
      have c1 : ¬ (off + (i + 1) ≤ off + i ∧ off + i < off + (i + 1) + r.length) := by omega
      have c2 : off + i ≤ off + i ∧ off + i < off + i + (v :: r).length := by simp
      rw [if_neg c1, if_pos c2]
      simp [hk]
    · by_cases c1 : off + (i + 1) ≤ k ∧ k < off + (i + 1) + r.length
      · have c2 : off + i ≤ k ∧ k < off + i + (v :: r).length := by simp; omega
        rw [if_pos c1, if_pos c2, show k - (off + i) = (k - (off + (i + 1))) + 1 from by omega]
        simp
      · have c2 : ¬ (off + i ≤ k ∧ k < off + i + (v :: r).length) := by simp; omega
        rw [if_neg c1, if_neg c2, Array.getElem?_setIfInBounds_ne e]

theorem cells_size {x : AV} {v : Value} (h : VR φ O w x v) (ht : x.isTop = false) : v.cells.size = x.ncells := by
  have h1 := h.1
  cases x <;> first
    | (simp [AV.isTop] at ht; done)
    | (obtain ⟨us, rfl, hs⟩ := h1; exact hs)
    | (cases v <;> first | rfl | (simp [okA, Value.oneCell'] at h1))

theorem fill_run {ts : List AV} {a : Act} (hr : FR φ O w ts a) {pl : Nat → Option (Nat × Nat)} {K : List AV → Prop} : ∀ {l : List (Nat × Operand)} {ps : List (Nat × Nat × X)}, partsOf pl l = some ps → ∀ {zs : List AV} {cells : Array Value},
    Rs φ O w zs (fun i => cells[i]?) → cells.size = zs.length → fillA (X.ev ts) zs ps K →
    ∃ cs cells', K cs ∧ Instr.fill pl cells (l.map fun (i, x) => (i, a.eval x)) = some cells' ∧ cells'.size = cs.length ∧ Rs φ O w cs (fun i => cells'[i]?)
  | [], ps, h, zs, cells, hz, hs, hf => by
    simp [partsOf] at h
    subst h
    exact ⟨zs, cells, hf, rfl, hs, hz⟩
  | (i, o) :: r, ps, h, zs, cells, hz, hs, hf => by
    unfold partsOf at h
    split at h
    case h_2 => simp at h
    rename_i off n x s h1 h2 h3
    cases h
    obtain ⟨⟨g1, g2, g3⟩, hf⟩ := hf
    have hv := ofX_spec hr h2
    have hsz := cells_size hv g1
    have hcs := VR_Rs hv g1
    rw [g2] at hsz
    have hln : (X.ev ts x).cells.length = n := by rw [← AV.ncells_eq, g2]
    obtain ⟨k1, k2⟩ := foldl_set off (a.eval o).cells.toList 0 cells
    have hfold : (a.eval o).cells.zipIdx.foldl (fun cs (c, j) => cs.setIfInBounds (off + j) c) cells = ((a.eval o).cells.toList.zipIdx 0).foldl (fun cs (c, j) => cs.setIfInBounds (off + j) c) cells := by
      rw [← Array.foldl_toList, Array.toList_zipIdx]
    have hnew : Rs φ O w (zs.take off ++ (X.ev ts x).cells ++ zs.drop (off + n)) (fun i => ((a.eval o).cells.zipIdx.foldl (fun cs (c, j) => cs.setIfInBounds (off + j) c) cells)[i]?) := by
      rw [hfold]
      refine Rs_append (Rs_append (Rs_congr (fun j hj => ?_) (Rs_take (n := off) hz)) (Rs_congr (fun j hj => ?_) hcs)) (Rs_congr (fun j hj => ?_) (Rs_drop (f := off + n) hz))
      · have hj' : j < off := by simp at hj; omega
        rw [k2 j (by omega), if_neg (by omega)]
      · have hl : (zs.take off).length = off := by simp; omega
        rw [hl]
        have hj' : j < n := by omega
        have hjs : j < (a.eval o).cells.size := by omega
        rw [k2 (off + j) (by omega), if_pos (by simp; omega)]
        simp [cget]
      · have hl : (zs.take off ++ (X.ev ts x).cells).length = off + n := by simp [hln]; omega
        rw [hl]
        have hj' : j < zs.length - (off + n) := by simpa using hj
        rw [k2 (off + n + j) (by omega), if_neg (by simp; omega)]
    have hsize : ((a.eval o).cells.zipIdx.foldl (fun cs (c, j) => cs.setIfInBounds (off + j) c) cells).size = (zs.take off ++ (X.ev ts x).cells ++ zs.drop (off + n)).length := by
      rw [hfold, k1]
      simp [hln]
      omega
    obtain ⟨cs, cells', e1, e2, e3, e4⟩ := fill_run hr h3 hnew hsize hf
    refine ⟨cs, cells', e1, ?_, e3, e4⟩
    simp only [List.map_cons, Instr.fill, h1]
    rw [if_neg (by simp [hsz]; omega)]
    exact e2

theorem ps_build {o : Oper} {t : TypeId} {parts : Array (Nat × Operand)} {pl : Nat → Option (Nat × Nat)} {zs : Array Value} {cs : List AV} {ps : List (Nat × Nat × X)} (ho : o.op = .build t parts)
    (hz : ofCells zs.toList = some cs) (hps : partsOf pl parts.toList = some ps) (hb : ∀ l cells, Instr.fill pl zs l = some cells → P.built t l = some cells) : PSound P o (.build cs ps) := by
  intro φ O w ts a hr K h
  obtain ⟨h1, h2⟩ := ofCells_spec (φ := φ) (O := O) (w := w) hz
  obtain ⟨cs', cells', e1, e2, e3, e4⟩ := fill_run hr hps (zs := cs) (cells := zs) (h2 _ fun i => by simp) (by simp [h1]) h
  refine ⟨_, _, e1, VR_agg e4 e3, ?_⟩
  have hbt := hb _ _ e2
  have hrun := run_build (P := P) w t (parts.map fun (i, x) => (i, a.eval x)) cells' (by simpa using hbt)
  simp only [execOp, ho, Sem.run_bind, hrun, Result.andThen_ok, Sem.run_pure]
end

theorem compP_sound {P : Program} {o : Oper} {op : PO} (h : compP P o = some op) : PSound P o op := by
  unfold compP at h
  split at h
  · rename_i x ho
    simp at h; obtain ⟨x', h1, rfl⟩ := h
    exact ps_mv (.inl ho) h1
  · rename_i x ho
    simp at h; obtain ⟨x', h1, rfl⟩ := h
    exact ps_mv (.inr ho) h1
  · rename_i c a b ho
    split at h <;> cases h
    exact ps_pick ho (by assumption) (by assumption) (by assumption)
  · rename_i op' t x y ty ho
    unfold compBin at h
    split at h
    case h_2 => simp at h
    rename_i x' y' hx hy
    have hs : ∀ q, some q = some op → (q = .bin op' x' y' ∨ q = .shf op' x' y') → PSound P o op := by
      intro q hq h2
      cases hq
      rcases h2 with rfl | rfl
      · exact ps_bin ho hx hy
      · exact ps_shf ho hx hy
    split at h
    · exact hs _ h (.inr rfl)
    · exact hs _ h (.inr rfl)
    · split at h
      · rename_i ht
        split at h
        · cases h; exact ps_eqB ho ht rfl hx hy
        · cases h; exact ps_eqB ho ht rfl hx hy
        · simp at h
      · rename_i ms ht
        split at h
        · cases h; exact ps_eqN ho ht rfl hx
        · cases h; exact ps_eqN ho ht rfl hx
        · simp at h
      · rename_i e ht
        split at h
        · cases h; exact ps_nilS ho ht rfl hx
        · cases h; exact ps_nilS ho ht rfl hx
        · simp at h
      · exact hs _ h (.inl rfl)
      · exact hs _ h (.inl rfl)
      · simp at h
  · rename_i op' t x ho
    simp at h; obtain ⟨x', h1, rfl⟩ := h
    exact ps_un ho h1
  · rename_i s d x ho
    split at h <;> cases h
    · exact ps_conv ho (by assumption) (by assumption) (by assumption)
    · exact ps_convS ho (by assumption) (by assumption) (by assumption)
  · rename_i x ho
    simp at h; obtain ⟨x', h1, rfl⟩ := h
    exact ps_nilck ho h1
  · rename_i s x f ho
    split at h
    case h_2 => simp at h
    rename_i fs x' h1 h2
    split at h
    case h_2 => simp at h
    rename_i fd h3
    split at h
    case h_2 => simp at h
    rename_i i h4
    split at h
    · simp at h
    · rename_i h5
      cases h
      exact ps_faddr ho h1 h3 h4 h5 h2
  · rename_i t x f ho
    split at h
    case h_2 => simp at h
    rename_i fs x' h1 h2
    split at h
    case h_2 => simp at h
    rename_i fd h3
    split at h
    case h_2 => simp at h
    rename_i n ag h4
    cases h
    exact ps_field ho h1 h3 h4 h2
  · rename_i t x i ho
    split at h
    · simp at h; obtain ⟨inf, h1, rfl⟩ := h
      exact ps_iaddr ho (by assumption) h1 (by assumption) (by assumption)
    · simp at h; obtain ⟨inf, h1, rfl⟩ := h
      exact ps_iaddrA ho (by assumption) h1 (by assumption) (by assumption)
    · simp at h
  · rename_i t x i ho
    split at h
    · cases h
      exact ps_idxS ho (by assumption) (by assumption) (by assumption)
    · rw [Option.map_eq_some_iff] at h
      obtain ⟨⟨n, ag⟩, h1, rfl⟩ := h
      exact ps_idxA ho (by assumption) h1 (by assumption) (by assumption)
    · simp at h
  · rename_i t x lo hi mx ho
    split at h
    · simp at h; obtain ⟨inf, h1, rfl⟩ := h
      exact ps_slc ho (by assumption) h1 (by assumption) (by assumption) (by assumption) (by assumption)
    · rename_i hmx
      cases h
      have : mx = none := by
        cases mx with
        | none => rfl
        | some p => simp [ofXo] at hmx
      subst this
      exact ps_slcS ho (by assumption) (by assumption) (by assumption) (by assumption)
    · simp at h
  · rename_i x i ho
    simp at h; obtain ⟨x', h1, rfl⟩ := h
    exact ps_ext ho h1
  · rename_i f a b ho
    split at h <;> cases h
    exact ps_mkfn ho (by assumption) (by assumption)
  · rename_i t x ho
    split at h
    · simp at h
    · rename_i hd h1 h2
      cases h
      exact ps_mkif ho h1 (fun ms e => hd ms e) h2
    · simp at h
  · rename_i x xt t ho
    split at h
    · simp at h
    · rename_i hd h1 h2 h3
      rw [Option.map_eq_some_iff] at h
      obtain ⟨z, hz, rfl⟩ := h
      rw [Option.bind_eq_some_iff] at hz
      obtain ⟨zv, h4, h5⟩ := hz
      exact ps_tass ho h1 (fun ms e => hd ms e) h2 h4 h5 h3
    · simp at h
  · rename_i t parts ho
    split at h
    · rename_i fs zs h1 h2
      split at h
      case h_2 => simp at h
      rename_i pl cs h3 h4
      simp at h
      obtain ⟨ps, h5, rfl⟩ := h
      simp [Option.bind_eq_some_iff] at h2
      obtain ⟨it, h6, h7⟩ := h2
      refine ps_build ho h4 h5 fun l cells hl => ?_
      unfold Program.built
      rw [h6, h1]
      simp only [h7]
      unfold placesOf at h3
      rw [h3]
      simpa [Value.cells] using hl
    · rename_i n e zs h1 h2
      split at h
      case h_2 => simp at h
      rename_i inf cs h3 h4
      simp at h
      obtain ⟨ps, h5, rfl⟩ := h
      simp [Option.bind_eq_some_iff] at h2
      obtain ⟨it, h6, h7⟩ := h2
      refine ps_build ho h4 h5 fun l cells hl => ?_
      unfold Program.built
      rw [h6, h1]
      simp only [h7, h3]
      simpa [Value.cells] using hl
    · simp at h
  · rename_i args ats ho
    split at h
    case h_2 => simp at h
    rename_i x t ha hat
    split at h
    · cases h; exact ps_lenL ho ha hat (by assumption) (by assumption)
    · cases h; exact ps_lenS ho ha hat (by assumption) (by assumption)
    · cases h; exact ps_lenA ho ha hat (by assumption)
    · simp at h
  · rename_i args ats ho
    split at h
    case h_2 => simp at h
    split at h <;> cases h
    exact ps_mm (mx := false) ho (by assumption) (by assumption) (by assumption)
  · rename_i args ats ho
    split at h
    case h_2 => simp at h
    split at h <;> cases h
    exact ps_mm (mx := true) ho (by assumption) (by assumption) (by assumption)
  · simp at h
end Go.Proofs.Ytddhdlfafaobhaa
