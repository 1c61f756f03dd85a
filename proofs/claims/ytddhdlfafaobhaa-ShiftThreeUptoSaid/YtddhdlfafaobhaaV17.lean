/- Regions whose order is drawn: the rule. -/
import Derived.Test.YtddhdlfafaobhaaV16
namespace Go.Proofs.Ytddhdlfafaobhaa
open Go.RowKit
set_option linter.unusedVariables false
set_option linter.unusedSimpArgs false

def xTmp : X → Option Nat
  | .t n => some n
  | .k _ => none

/-- The slots that an operation looks at. -/
def opTmps (o : IO') : List Nat := o.op.xs.filterMap xTmp ++ (o.guard.map (·.1)).toList

/-- The operations' form: slots are written once; who reads a slot stands behind who writes it; what acts on memory stands in one row. -/
def okD (l : List IO') (A : List (List Nat)) : Bool := l.zipIdx.all fun (o, i) =>
  (A.getD i []).all (fun j => decide (j < i)) &&
  l.zipIdx.all fun (o', j) =>
    (o'.dst == none || j == i || o'.dst != o.dst) &&
    (match o'.dst with | some d => !(opTmps o).contains d || anc A i j | none => true) &&
    (!(decide (j < i) && ((o.op.isChain && (o'.op.isChain || o'.op.isAlloc)) || (o.op.isAlloc && o'.op.isChain))) || anc A i j)

/-- Who stands ahead of whom: each by an edge, or through one. -/
def okE (ops : Array Oper) (A : List (List Nat)) : Bool := ops.toList.zipIdx.all fun (o, i) =>
  (A.getD i []).all (fun j => o.after.toList.any fun e => Region.binds .any e && (e.on == j || anc A e.on j)) &&
  o.after.toList.all fun e => decide (e.on < i) || !Region.binds .any e

def ancsOf (ops : Array Oper) : List (List Nat) := ops.toList.foldl (fun A o => A ++ [((o.after.toList.filter (Region.binds .any)).flatMap fun e => e.on :: A.getD e.on []).eraseDups]) []

def blankT (l : List IO') (ts : List AV) : List AV := l.foldl (fun ts o => putT ts o.dst .top) ts

section
variable {P : Program}

theorem okD_spec {l : List IO'} {A : List (List Nat)} (h : okD l A = true) {i j : Nat} {o o' : IO'} (ho : l[i]? = some o) (ho' : l[j]? = some o') :
    (∀ k, anc A i k = true → k < i) ∧ (∀ d, o'.dst = some d → o.dst = some d → j = i) ∧ (∀ d, o'.dst = some d → d ∈ opTmps o → anc A i j = true) ∧
    (j < i → (o.op.isChain = true ∧ (o'.op.isChain = true ∨ o'.op.isAlloc = true) ∨ o.op.isAlloc = true ∧ o'.op.isChain = true) → anc A i j = true) := by
  unfold okD at h
  rw [List.all_eq_true] at h
  have h1 := h (o, i) (List.mem_zipIdx_iff_getElem?.2 ho)
  simp only [Bool.and_eq_true] at h1
  have h2 := List.all_eq_true.1 h1.2 (o', j) (List.mem_zipIdx_iff_getElem?.2 ho')
  simp only [Bool.and_eq_true] at h2
  refine ⟨fun k hk => ?_, fun d e1 e2 => ?_, fun d e1 e2 => ?_, fun hlt hc => ?_⟩
  · have := List.all_eq_true.1 h1.1 k (by unfold anc at hk; simpa using hk)
    simpa using this
  · have h3 := h2.1.1
    rw [e1, e2] at h3
    simpa using h3
  · have h3 := h2.1.2
    rw [e1] at h3
    simp only [Bool.or_eq_true, Bool.not_eq_true'] at h3
    rcases h3 with h3 | h3
    · have : (opTmps o).contains d = true := by simpa using e2
      rw [this] at h3
      simp at h3
    · exact h3
  · have h3 := h2.2
    simp only [Bool.or_eq_true, Bool.not_eq_true', Bool.and_eq_false_iff] at h3
    rcases h3 with h3 | h3
    · rcases h3 with h3 | h3
      · simp at h3; omega
      · rcases hc with ⟨c1, c2⟩ | ⟨c1, c2⟩
        · rcases c2 with c2 | c2 <;> simp [c1, c2] at h3
        · simp [c1, c2] at h3
    · exact h3

/-- What is listed is closed under the edges: so all that stands ahead of what may be taken is listed. -/
theorem okE_spec {ops : Array Oper} {A : List (List Nat)} (h : okE ops A = true) {listed : Array Bool} (hcl : ∀ (j : Nat) (o : Oper), ops[j]? = some o → listed.getD j false = true → ∀ e ∈ o.after.toList, Region.binds .any e = true → listed.getD e.on false = true) :
    ∀ (n i : Nat) (o : Oper), i < n → ops[i]? = some o → (∀ e ∈ o.after.toList, Region.binds .any e = true → listed.getD e.on false = true) → ∀ j, anc A i j = true → listed.getD j false = true := by
  unfold okE at h
  rw [List.all_eq_true] at h
  intro n
  induction n with
  | zero => intro i o hi; omega
  | succ n ih =>
    intro i o hi ho hr j hj
    have h1 := h (o, i) (by rw [List.mem_zipIdx_iff_getElem?]; simpa using ho)
    simp only [Bool.and_eq_true] at h1
    have h2 := List.all_eq_true.1 h1.1 j (by unfold anc at hj; simpa using hj)
    rw [List.any_eq_true] at h2
    obtain ⟨e, he, h3⟩ := h2
    simp only [Bool.and_eq_true, Bool.or_eq_true, beq_iff_eq] at h3
    have hl := hr e he h3.1
    rcases h3.2 with h4 | h4
    · rw [← h4]; exact hl
    · have h5 := List.all_eq_true.1 h1.2 e he
      rw [h3.1] at h5
      simp at h5
      have : e.on < ops.size := by have := (Array.getElem?_eq_some_iff.1 ho).1; omega
      exact ih e.on ops[e.on] (by omega) (by simp [this]) (hcl e.on _ (by simp [this]) hl) j h4

theorem okE_back {ops : Array Oper} {A : List (List Nat)} (h : okE ops A = true) {i : Nat} {o : Oper} (ho : ops[i]? = some o) : ∀ e ∈ o.after.toList, Region.binds .any e = true → e.on < i := by
  unfold okE at h
  rw [List.all_eq_true] at h
  have h1 := h (o, i) (by rw [List.mem_zipIdx_iff_getElem?]; simpa using ho)
  simp only [Bool.and_eq_true] at h1
  intro e he hb
  have h5 := List.all_eq_true.1 h1.2 e he
  rw [hb] at h5
  simpa using h5

theorem all_listed {ops : Array Oper} {A : List (List Nat)} (h : okE ops A = true) {listed : Array Bool} (hsz : listed.size = ops.size) (hr : Region.ready .any ops listed = []) : ∀ n i, i < n → i < ops.size → listed.getD i false = true := by
  intro n
  induction n with
  | zero => intro i hi; omega
  | succ n ih =>
    intro i hi hil
    by_cases hin : i < n
    · exact ih i hin hil
    · have hin' : i = n := by omega
      subst hin'
      apply Classical.byContradiction
      intro hno
      have : i ∈ Region.ready .any ops listed := by
        unfold Region.ready
        simp only [List.mem_filter, List.mem_range, Bool.and_eq_true, Bool.not_eq_true']
        refine ⟨hil, ?_, ?_⟩
        · have h1 : i < listed.size := by omega
          simp [Array.getD, h1] at hno ⊢
          exact hno
        · have ho : ops[i]? = some ops[i] := by simp [hil]
          rw [ho]
          simp only [Option.map_some, Option.getD_some, Array.all_eq_true_iff_forall_mem]
          intro e he
          cases hb : Region.binds .any e with
          | false => simp
          | true =>
            have hlt := okE_back h ho e (by simpa using he) hb
            simp [ih e.on hlt (by omega)]
      rw [hr] at this
      simp at this

/-- Memory that is there stays; more may be. -/
def Ext (H H' : AHeap) : Prop := H.length ≤ H'.length ∧ ∀ id, id < H.length → AHeap.find H' id = AHeap.find H id
theorem Ext.refl (H : AHeap) : Ext H H := ⟨Nat.le_refl _, fun _ _ => rfl⟩
theorem Ext.trans {G H K : AHeap} (h : Ext G H) (k : Ext H K) : Ext G K := ⟨Nat.le_trans h.1 k.1, fun id hid => (k.2 id (Nat.lt_of_lt_of_le hid h.1)).trans (h.2 id hid)⟩
theorem Ext.cons (H : AHeap) (b : Option ABlk) : Ext H (b :: H) := ⟨by simp, fun id hid => AHeap.find_cons hid⟩

theorem Rel.ext {φ : Phi} {H H' : AHeap} {w : World} (h : Rel φ H w) (he : Ext H H') : Rel φ H' w ∧ Step φ H w φ H' w := by
  have hown : ∀ b, Own φ H' b ↔ Own φ H b := by
    intro b
    constructor
    · rintro ⟨i, k, h1, h2⟩
      rw [he.2 i (h.dom i b h1).1] at h2
      exact ⟨i, k, h1, h2⟩
    · rintro ⟨i, k, h1, h2⟩
      exact ⟨i, k, h1, by rw [he.2 i (h.dom i b h1).1]; exact h2⟩
  have hl : Later (fun _ => True) φ φ (Own φ H) (Own φ H') w w := ⟨fun _ _ _ h => h, Nat.le_refl _, fun b _ ho ho' => ho ((hown b).1 ho'), fun _ _ _ => rfl, fun _ _ => rfl⟩
  refine ⟨⟨fun i b hi => ⟨Nat.lt_of_lt_of_le (h.dom i b hi).1 he.1, (h.dom i b hi).2⟩, fun i j b hi hj hfi hfj => ?_, fun i b k h1 h2 => ?_⟩, ⟨hl, rfl, rfl, rfl, he.1, fun _ _ => rfl⟩⟩
  · rw [he.2 i (h.dom i b hi).1] at hfi
    rw [he.2 j (h.dom j b hj).1] at hfj
    exact h.inj i j b hi hj hfi hfj
  · rw [he.2 i (h.dom i b h1).1] at h2
    obtain ⟨c1, c2, a1, a2, a3, a4, a5, a6⟩ := h.blk i b k h1 h2
    exact ⟨c1, c2, a1, a2, a3, a4, a5, Rl_later hl b rfl _ _ _ (AV.idsL_true _) a6⟩

/-- A block that is told of already is laid. -/
theorem Rel.allocAt {φ : Phi} {T : AHeap} {w : World} (h : Rel φ T w) {id : Nat} {blk : ABlk} (hid : φ id = none) (hf : AHeap.find T id = some blk) (cur : Array Value) (cap : Nat) (hsz : cur.size = cap * blk.k)
    (hcap : blk.es.length ≤ cap) (hex : blk.exact = true → cap = blk.es.length) (hm : cap ≤ maxLen) (hk : ∀ x ∈ blk.es, x.ncells = blk.k) (hr : Rs φ (Own φ T) w (flat blk.es) (fun i => cur[i]?)) :
    Rel (φ.add id w.heap.size) T (w.alloc (.cells cur blk.ty)) ∧ Later (fun _ => True) φ (φ.add id w.heap.size) (Own φ T) (Own (φ.add id w.heap.size) T) w (w.alloc (.cells cur blk.ty)) := by
  have hold : ∀ b, b < w.heap.size → (w.alloc (.cells cur blk.ty)).heap[b]? = w.heap[b]? := fun b hb => heap_alloc_old w _ hb
  have hsize : w.heap.size ≤ (w.alloc (.cells cur blk.ty)).heap.size := by simp
  have hmap : ∀ i b, φ i = some b → i ≠ id := fun i b hi e => by rw [e, hid] at hi; simp at hi
  have hl2 : Later (fun _ => True) φ (φ.add id w.heap.size) (Own φ T) (Own (φ.add id w.heap.size) T) w (w.alloc (.cells cur blk.ty)) := by
    refine ⟨fun i b _ hm' => ?_, hsize, fun b hb ho ho' => ?_, fun b hb _ => hold b hb, fun b hb => by unfold World.shape?; rw [hold b hb]⟩
    · unfold Phi.add
      rw [if_neg (hmap i b hm')]
      exact hm'
    · obtain ⟨i, k, h1, h2⟩ := ho'
      unfold Phi.add at h1
      split at h1
      · cases h1; omega
      · exact ho ⟨i, k, h1, h2⟩
  refine ⟨⟨fun i b' hm' => ?_, fun i j b' hi hj hfi hfj => ?_, fun i b' k h1 h2 => ?_⟩, hl2⟩
  · unfold Phi.add at hm'
    split at hm'
    · rename_i e
      cases hm'
      exact ⟨by rw [e]; exact AHeap.find_lt hf, by simp⟩
    · have := h.dom i b' hm'
      exact ⟨this.1, by simp; omega⟩
  · unfold Phi.add at hi hj
    split at hi <;> split at hj
    · omega
    · cases hi; have := (h.dom j _ hj).2; omega
    · cases hj; have := (h.dom i _ hi).2; omega
    · exact h.inj i j b' hi hj hfi hfj
  · unfold Phi.add at h1
    split at h1
    · rename_i e
      cases h1
      subst e
      rw [hf] at h2
      cases h2
      refine ⟨cur, cap, heap_alloc_new w _, hsz, hcap, hex, hm, flat_Rl hk (Rs_later hl2 _ _ _ (AV.idsL_true _) (fun i v hv => ?_) hr)⟩
      unfold memAt
      rw [Nat.zero_add, World.cell?_alloc_at _ _ _ _ rfl]
      exact hv
    · have l2 := (h.dom i b' h1).2
      obtain ⟨cur', cap', a1, a2, a3, a4, a5, a6⟩ := h.blk i b' k h1 h2
      exact ⟨cur', cap', by rw [hold b' l2]; exact a1, a2, a3, a4, a5, Rl_later hl2 b' (hold b' l2) _ _ _ (AV.idsL_true _) a6⟩

/-- What an operation that lays a block does, whatever other blocks are told of. -/
theorem alloc_at {b : Bool} {o : Oper} {q : HO} (hc : compH P b o = some q) (ha : q.isAlloc = true) {φ : Phi} {T : AHeap} {w : World} {ts : List AV} {a : Act} (hF : FR φ (Own φ T) w ts a) {Hi H1 : AHeap} {v : AV} {F : AV → AHeap → Prop}
    (h : HO.sem P (X.ev ts) Hi (fun v' H'' => v' = v ∧ H'' = H1) F q) :
    ∃ blk cur cap u, H1 = some blk :: Hi ∧ (execOp a.eval o).run P w = .ok (.value u) (w.alloc (.cells cur blk.ty)) ∧ cur.size = cap * blk.k ∧ blk.es.length ≤ cap ∧ (blk.exact = true → cap = blk.es.length) ∧ cap ≤ maxLen ∧
      (∀ x ∈ blk.es, x.ncells = blk.k) ∧ Rs φ (Own φ T) w (flat blk.es) (fun i => (cur : Array Value)[i]?) ∧
      ∀ (φ' : Phi) (O' : Nat → Prop) (w' : World), φ' Hi.length = some w.heap.size → w'.heap[w.heap.size]? = some (.cells cur blk.ty (0, 0)) → VR φ' O' w' v u := by
  have hone : ∀ {x : AV} {u : Value} {k : Nat} {t : TypeId}, VR φ (Own φ T) w x u → x.isTop = false → x.ncells = k → (execOp a.eval o).run P w = .ok (.value (.pointer (some ⟨w.heap.size, 0, none⟩))) (w.alloc (.cells u.cells t)) → v = .ptr k Hi.length 0 0 → H1 = some ⟨k, [x], true, t⟩ :: Hi →
      ∃ blk cur cap u, H1 = some blk :: Hi ∧ (execOp a.eval o).run P w = .ok (.value u) (w.alloc (.cells cur blk.ty)) ∧ cur.size = cap * blk.k ∧ blk.es.length ≤ cap ∧ (blk.exact = true → cap = blk.es.length) ∧ cap ≤ maxLen ∧
      (∀ x ∈ blk.es, x.ncells = blk.k) ∧ Rs φ (Own φ T) w (flat blk.es) (fun i => (cur : Array Value)[i]?) ∧
      ∀ (φ' : Phi) (O' : Nat → Prop) (w' : World), φ' Hi.length = some w.heap.size → w'.heap[w.heap.size]? = some (.cells cur blk.ty (0, 0)) → VR φ' O' w' v u := by
    intro x u k t hv ht hk hrun hve hHe
    refine ⟨⟨k, [x], true, t⟩, u.cells, 1, _, hHe, hrun, by simp [cells_size hv ht, hk], by simp, by simp, by unfold maxLen; omega, by simp [hk], by simp only [flat, List.flatMap_cons, List.flatMap_nil, List.append_nil]; exact VR_Rs hv ht, fun φ' O' w' h1 h2 => ?_⟩
    rw [hve]
    exact ⟨rfl, _, h1, by simp [cget, Value.cells]⟩
  unfold compH at hc
  split at hc
  · split at hc <;> cases hc
    simp [HO.isAlloc] at ha
  · rename_i t ho
    split at hc
    case h_2 => simp at hc
    rename_i z hz
    split at hc
    case h_2 => simp at hc
    rename_i z' hcc
    split at hc
    case isFalse => simp at hc
    rename_i ht
    cases hc
    rw [Option.bind_eq_some_iff] at hz
    obtain ⟨i, h1, h2⟩ := hz
    obtain ⟨e1, e2⟩ := h
    refine hone (ofConst_spec hcc) ht rfl ?_ e1.symm e2.symm
    simp only [execOp, ho, Instr.alloc, zeroValue, typeInfo, Sem.run_bind, run_program, h1, Result.andThen_ok, Sem.run_pure, h2, newVar, newRow, run_newObj]
    rfl
  · rename_i t x ho
    split at hc <;> cases hc
    rename_i x' hi hx
    obtain ⟨⟨g1, g2⟩, e1, e2⟩ := h
    refine hone (ofX_spec hF hx) g1 g2 ?_ e1.symm e2.symm
    simp only [execOp, ho, Instr.box, Sem.run_bind, newVar, newRow, run_newObj, Result.andThen_ok, Sem.run_pure]
    rfl
  · rename_i t ln parts ho
    split at hc
    case h_2 => simp at hc
    rename_i e ht
    split at hc
    case h_2 => simp at hc
    rename_i i hi
    split at hc
    case h_2 => simp at hc
    rename_i z ps hz hps
    split at hc
    case isFalse => simp at hc
    rename_i hcc
    obtain ⟨c1, c2, c3, c5⟩ := hcc
    cases hc
    rw [Option.bind_eq_some_iff] at hz
    obtain ⟨zv, h1, h2⟩ := hz
    cases b with
    | false => simp [HO.isAlloc] at ha
    | true =>
      obtain ⟨es, cells, k1, k2, k3, k4, k5, k6⟩ := bsl_run (H := T) hF ht hi h1 h2 hps c1 c2 c3 c5 h
      have hmx : ln ≤ maxLen := by
        have : ln * 1 ≤ ln * i.size := Nat.mul_le_mul_left _ c2
        unfold maxLen
        omega
      refine ⟨⟨i.size, es, true, e⟩, cells, ln, .slice (some ⟨w.heap.size, 0, none⟩) ln ln, k1.2.symm, ?_, k4, by simp [k2], fun _ => by simp [k2], hmx, k3, k5, fun φ' O' w' g1 g2 => ?_⟩
      · simp only [execOp, ho, Sem.run_bind, k6, Result.andThen_ok, Sem.run_pure]
      · rw [← k1.1]
        exact vr_vec_of g1 (Nat.le_refl _) hmx (fun m hm => by simpa using hm) g2 k4
  · split at hc <;> cases hc
    simp [HO.isAlloc] at ha
  · rename_i t l c ho
    split at hc
    case h_2 => simp at hc
    rename_i e ht
    split at hc
    case h_2 => simp at hc
    rename_i i l' c' hi hl hcx
    split at hc
    case h_2 => simp at hc
    rename_i z hz
    split at hc
    case isFalse => simp at hc
    rename_i hcc
    obtain ⟨c1, c2, c3, c4⟩ := hcc
    cases hc
    rw [Option.bind_eq_some_iff] at hz
    obtain ⟨zv, h1, h2⟩ := hz
    have hv := ofX_spec hF hl
    have hw := ofX_spec hF hcx
    simp only [HO.sem] at h
    split at h
    case h_2 => exact h.elim
    rename_i k1 n k2 m he hf
    rw [he] at hv
    rw [hf] at hw
    obtain ⟨⟨m0, m1, m2⟩, e1, e2⟩ := h
    have hzv : VR φ (Own φ T) w z zv := ofConst_spec h2
    have hzs := cells_size hzv c4
    rw [c1] at hzs
    have hks : ∀ x ∈ List.replicate m.toNat z, x.ncells = i.size := fun x hx => by rw [List.eq_of_mem_replicate hx]; exact c1
    have hinit := Rs_replicate (zc := zv.cells) (VR_Rs hzv c4) c1 c2 m.toNat (fun j => ((Array.range (m.toNat * i.size)).map (zv.cells[· % zv.cells.size]!))[j]?) (fun j hj => zeros_get hzs c2 hj)
    have hmx : m.toNat ≤ maxLen := by unfold maxLen; omega
    refine ⟨⟨i.size, List.replicate m.toNat z, true, e⟩, _, m.toNat, .slice (some ⟨w.heap.size, 0, none⟩) n.toNat m.toNat, e2.symm, ?_, by simp, by simp, fun _ => by simp, hmx, hks, hinit, fun φ' O' w' g1 g2 => ?_⟩
    · simp only [execOp, ho, VR_sc hv, VR_sc hw, Sem.run_bind, makeSlice_run ht hi h1 c3 m0 m1 m2, Result.andThen_ok, Sem.run_pure]
    · rw [← e1]
      exact vr_vec_of g1 (by omega) hmx (fun q hq => by simpa using hq) g2 (by simp)
  · split at hc
    case h_2 => simp at hc
    split at hc
    case isFalse => simp at hc
    split at hc
    case h_2 => simp at hc
    split at hc
    case h_2 => simp at hc
    split at hc
    case h_2 => simp at hc
    split at hc <;> cases hc
    simp [HO.isAlloc] at ha
  · split at hc
    case isFalse => simp at hc
    rw [Option.map_eq_some_iff] at hc
    obtain ⟨as, h1, rfl⟩ := hc
    simp [HO.isAlloc] at ha
  · rw [Option.map_eq_some_iff] at hc
    obtain ⟨as, h1, rfl⟩ := hc
    simp [HO.isAlloc] at ha
  · rw [Option.map_eq_some_iff] at hc
    obtain ⟨as, h1, rfl⟩ := hc
    simp [HO.isAlloc] at ha
  · simp at hc
end
end Go.Proofs.Ytddhdlfafaobhaa
