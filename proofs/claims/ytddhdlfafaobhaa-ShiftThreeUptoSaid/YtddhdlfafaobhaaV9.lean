/- Own memory: how it is read, laid anew, written. -/
import Derived.Test.YtddhdlfafaobhaaV8
import Derived.Laws.CopyRow
namespace Go.Proofs.Ytddhdlfafaobhaa
open Go.RowKit
set_option linter.unusedVariables false
set_option linter.unusedSimpArgs false

section
variable {P : Program} {φ : Phi} {O : Nat → Prop} {w : World}

/-- The cells of elements, one behind the other. -/
def flat (es : List AV) : List AV := es.flatMap AV.cells

theorem flat_cons (x : AV) (r : List AV) : flat (x :: r) = x.cells ++ flat r := by simp [flat]
theorem flat_append (a b : List AV) : flat (a ++ b) = flat a ++ flat b := by simp [flat]
theorem flat_length {k : Nat} : ∀ {es : List AV}, (∀ x ∈ es, x.ncells = k) → (flat es).length = es.length * k
  | [], _ => by simp [flat]
  | x :: r, h => by
    rw [flat_cons, List.length_append, ← AV.ncells_eq, h x (by simp), flat_length (fun y hy => h y (by simp [hy])), List.length_cons, Nat.add_mul]
    omega

theorem memAt_add (w : World) (b off : Nat) : (fun j => memAt w b 0 (off + j)) = memAt w b off := by
  funext j; simp [memAt]
theorem memAt_add' (w : World) (b off k : Nat) : (fun j => memAt w b off (k + j)) = memAt w b (off + k) := by
  funext j; simp [memAt, Nat.add_assoc]

theorem Rl_flat {b k : Nat} : ∀ {es : List AV} {off : Nat}, Rl φ O w b k es off → (∀ x ∈ es, x.ncells = k) ∧ Rs φ O w (flat es) (memAt w b off)
  | [], off, _ => ⟨by simp, trivial⟩
  | x :: r, off, h => by
    obtain ⟨h1, h2⟩ := Rl_flat h.2.2.2
    refine ⟨fun y hy => ?_, ?_⟩
    · rcases List.mem_cons.1 hy with rfl | hy
      · exact h.1
      · exact h1 y hy
    · rw [flat_cons]
      refine Rs_append (R_Rs h.2.2.1 h.2.1) ?_
      rw [← AV.ncells_eq, h.1, memAt_add']
      exact h2

theorem Rs_head {x : AV} {r : List AV} {g : Nat → Option Value} (h : Rs φ O w (x.cells ++ r) g) : R φ O w x g ∧ (x.isAgg = false → ∃ u, g 0 = some u ∧ u.oneCell' = true) := by
  have h1 := Rs_take (n := x.cells.length) h
  rw [List.take_left] at h1
  cases x <;> first
    | exact ⟨h1, fun h => by simp [AV.isAgg] at h⟩
    | exact ⟨h1.2.1, fun _ => h1.2.2.1⟩

theorem flat_Rl {b k : Nat} : ∀ {es : List AV} {off : Nat}, (∀ x ∈ es, x.ncells = k) → Rs φ O w (flat es) (memAt w b off) → Rl φ O w b k es off
  | [], off, _, _ => trivial
  | x :: r, off, hk, h => by
    rw [flat_cons] at h
    obtain ⟨h1, h2⟩ := Rs_head h
    refine ⟨hk x (by simp), h2, h1, flat_Rl (fun y hy => hk y (by simp [hy])) ?_⟩
    have h3 := Rs_drop (f := x.cells.length) h
    rw [List.drop_left, ← AV.ncells_eq, hk x (by simp), memAt_add'] at h3
    exact h3

theorem flat_take {k : Nat} {es : List AV} (hk : ∀ x ∈ es, x.ncells = k) : ∀ j, flat (es.take j) = (flat es).take (j * k) := by
  induction es with
  | nil => intro j; simp [flat]
  | cons x r ih =>
    intro j
    cases j with
    | zero => simp [flat]
    | succ j =>
      have hx : x.cells.length = k := by rw [← AV.ncells_eq]; exact hk x (by simp)
      rw [List.take_succ_cons, flat_cons, flat_cons, ih (fun y hy => hk y (by simp [hy])), Nat.add_mul, Nat.one_mul, List.take_append, hx]
      rw [List.take_of_length_le (l := x.cells) (by omega)]
      congr 2
      omega
theorem flat_drop {k : Nat} {es : List AV} (hk : ∀ x ∈ es, x.ncells = k) : ∀ j, flat (es.drop j) = (flat es).drop (j * k) := by
  induction es with
  | nil => intro j; simp [flat]
  | cons x r ih =>
    intro j
    cases j with
    | zero => simp [flat]
    | succ j =>
      have hx : x.cells.length = k := by rw [← AV.ncells_eq]; exact hk x (by simp)
      rw [List.drop_succ_cons, flat_cons, ih (fun y hy => hk y (by simp [hy])), Nat.add_mul, Nat.one_mul, List.drop_append, hx]
      rw [List.drop_of_length_le (l := x.cells) (by omega), List.nil_append]
      congr 1
      omega

/-- A part of an element in memory. -/
theorem load_run {t : TypeId} {n : Nat} {ag : Bool} (hs : sizeAgg P t = some (n, ag)) {x : AV} {b off f : Nat} (h : Rs φ O w x.cells (memAt w b off)) (hok : AV.subOk x f n ag) :
    ∃ u, (loadVar t ⟨b, off + f, none⟩).run P w = .ok u w ∧ VR φ O w (AV.sub x f n ag) u := by
  unfold sizeAgg at hs
  split at hs
  case h_2 => simp at hs
  rename_i d i h1 h2
  cases hs
  unfold loadVar
  simp only [Sem.run_bind, rn_isAgg h1, Result.andThen_ok]
  cases hd : isAggT d with
  | true =>
    simp only [AV.subOk, hd, if_true] at hok
    simp only [if_true, Sem.run_bind, rn_size h2, Result.andThen_ok, Sem.run_pure, AV.sub, hd]
    have h3 := Rs_take (n := i.size) (Rs_drop (f := f) h)
    rw [memAt_add'] at h3
    obtain ⟨us, h4, h5, h6⟩ := Rs_cells h3
    have hl : ((x.cells.drop f).take i.size).length = i.size := by simp; omega
    rw [hl] at h4 h5
    have hld := run_loadCells_list (P := P) w ⟨b, off + f, none⟩ us (fun j v hv => by
      have hj : j < us.length := (List.getElem?_eq_some_iff.1 hv).1
      rw [addr_add]
      have := h5 j (by omega)
      rw [hv] at this
      exact this)
    rw [h4] at hld
    rw [hld]
    refine ⟨_, rfl, VR_agg (Rs_congr (fun j hj => ?_) h3) (by simp [h4, hl])⟩
    rw [hl] at hj
    rw [h5 j hj]
    simp
  | false =>
    simp only [AV.subOk, hd] at hok
    have hf : f < x.cells.length := by simpa using hok
    obtain ⟨a1, a2, u, a3, a4⟩ := Rs_nth h (i := f) (x := x.cells[f]) (by simp [hf])
    refine ⟨u, ?_, ?_⟩
    · have hc : w.cell? ⟨b, off + f, none⟩ = some u := a3
      simp [hc]
    · have e : x.cells.getD f AV.top = x.cells[f] := by simp [List.getD, hf]
      simp only [AV.sub, hd, Bool.false_eq_true, if_false, e]
      exact VR_one a1 a4 a2 (by simpa using a3)

theorem Rel.elem {H : AHeap} (h : Rel φ H w) {id b j : Nat} {blk : ABlk} {e : AV} (hm : φ id = some b) (hf : AHeap.find H id = some blk) (he : blk.es[j]? = some e) :
    e.ncells = blk.k ∧ Rs φ (Own φ H) w e.cells (memAt w b (j * blk.k)) := by
  obtain ⟨cur, cap, a1, a2, a3, a4, a5, a6⟩ := h.blk id b blk hm hf
  obtain ⟨b1, b2, b3⟩ := Rl_nth a6 he
  rw [Nat.zero_add] at b2 b3
  exact ⟨b1, R_Rs b3 b2⟩

/-- A world that has grown: own memory is there as it was. -/
theorem Rel.grow {H : AHeap} (h : Rel φ H w) {w' : World} (hs : w.heap.size ≤ w'.heap.size) (hb : ∀ b, b < w.heap.size → w'.heap[b]? = w.heap[b]?) : Rel φ H w' := by
  have hl : Later (fun _ => True) φ φ (Own φ H) (Own φ H) w w' := ⟨fun _ _ _ h => h, hs, fun _ _ h => h, fun b hb' _ => hb b hb', fun b hb' => by unfold World.shape?; rw [hb b hb']⟩
  refine ⟨fun id b hm => ⟨(h.dom id b hm).1, Nat.lt_of_lt_of_le (h.dom id b hm).2 hs⟩, h.inj, fun id b k h1 h2 => ?_⟩
  obtain ⟨cur, cap, a1, a2, a3, a4, a5, a6⟩ := h.blk id b k h1 h2
  have hlt := (h.dom id b h1).2
  exact ⟨cur, cap, by rw [hb b hlt]; exact a1, a2, a3, a4, a5, Rl_later hl b (hb b hlt) _ _ _ (AV.idsL_true _) a6⟩

theorem grow_step {H : AHeap} {w' : World} (ho : w'.os = w.os) (ht : w'.tape = w.tape) (hu : w'.output = w.output) (hs : w.heap.size ≤ w'.heap.size) (hb : ∀ b, b < w.heap.size → w'.heap[b]? = w.heap[b]?) : Step φ H w φ H w' :=
  ⟨⟨fun _ _ _ h => h, hs, fun _ _ h => h, fun b hb' _ => hb b hb', fun b hb' => by unfold World.shape?; rw [hb b hb']⟩, ho, ht, hu, Nat.le_refl _, fun _ _ => rfl⟩

def Phi.add (φ : Phi) (id b : Nat) : Phi := fun i => if i = id then some b else φ i

theorem own_add {H : AHeap} {b b' : Nat} {blk : ABlk} (hd : ∀ id b, φ id = some b → id < H.length) (h : Own (φ.add H.length b) (some blk :: H) b') : Own φ H b' ∨ b' = b := by
  obtain ⟨id, k, h1, h2⟩ := h
  unfold Phi.add at h1
  split at h1
  · cases h1; exact .inr rfl
  · have l1 := hd id b' h1
    rw [AHeap.find_cons l1] at h2
    exact .inl ⟨id, k, h1, h2⟩

/-- A new block: laid, and own. -/
theorem Rel.alloc {H : AHeap} (h : Rel φ H w) (blk : ABlk) (cur : Array Value) (cap : Nat) (hsz : cur.size = cap * blk.k)
    (hcap : blk.es.length ≤ cap) (hex : blk.exact = true → cap = blk.es.length) (hm : cap ≤ maxLen) (hk : ∀ x ∈ blk.es, x.ncells = blk.k) (hr : Rs φ (Own φ H) w (flat blk.es) (fun i => cur[i]?)) :
    Rel (φ.add H.length w.heap.size) (some blk :: H) (w.alloc (.cells cur blk.ty)) ∧ Step φ H w (φ.add H.length w.heap.size) (some blk :: H) (w.alloc (.cells cur blk.ty)) := by
  have hold : ∀ b, b < w.heap.size → (w.alloc (.cells cur blk.ty)).heap[b]? = w.heap[b]? := fun b hb => heap_alloc_old w _ hb
  have hsize : w.heap.size ≤ (w.alloc (.cells cur blk.ty)).heap.size := by simp
  have hg := h.grow hsize hold
  have hs : Step φ H w φ H (w.alloc (.cells cur blk.ty)) := grow_step rfl rfl rfl hsize hold
  have hdom : ∀ id b, φ id = some b → id < H.length := fun id b hm => (h.dom id b hm).1
  have hl2 : Later (fun _ => True) φ (φ.add H.length w.heap.size) (Own φ H) (Own (φ.add H.length w.heap.size) (some blk :: H)) w (w.alloc (.cells cur blk.ty)) := by
    refine ⟨fun id b _ hm' => ?_, hsize, fun b hb ho ho' => ?_, fun b hb _ => hold b hb, fun b hb => by unfold World.shape?; rw [hold b hb]⟩
    · unfold Phi.add
      rw [if_neg (by have := hdom id b hm'; omega)]
      exact hm'
    · rcases own_add hdom ho' with h1 | h1
      · exact ho h1
      · omega
  have hstep : Step φ H w (φ.add H.length w.heap.size) (some blk :: H) (w.alloc (.cells cur blk.ty)) := ⟨hl2, rfl, rfl, rfl, by simp, fun id hid => by unfold Phi.add; rw [if_neg (by omega)]⟩
  have hRs : ∀ {l : List AV} {g g' : Nat → Option Value}, (∀ i v, g i = some v → g' i = some v) → Rs φ (Own φ H) w l g → Rs (φ.add H.length w.heap.size) (Own (φ.add H.length w.heap.size) (some blk :: H)) (w.alloc (.cells cur blk.ty)) l g' :=
    fun hg' hl => Rs_later hl2 _ _ _ (AV.idsL_true _) hg' hl
  refine ⟨⟨fun id b' hm' => ?_, fun i j b' hi hj hfi hfj => ?_, fun id b' k h1 h2 => ?_⟩, hstep⟩
  · unfold Phi.add at hm'
    split at hm'
    · rename_i e
      cases hm'
      exact ⟨by simp [e], by simp⟩
    · have := h.dom id b' hm'
      exact ⟨by simp; omega, by simp; omega⟩
  · unfold Phi.add at hi hj
    split at hi <;> split at hj
    · omega
    · cases hi; have := (h.dom j _ hj).2; omega
    · cases hj; have := (h.dom i _ hi).2; omega
    · have l1 := (h.dom i b' hi).1
      have l2 := (h.dom j b' hj).1
      rw [AHeap.find_cons l1] at hfi
      rw [AHeap.find_cons l2] at hfj
      exact h.inj i j b' hi hj hfi hfj
  · unfold Phi.add at h1
    split at h1
    · rename_i e
      cases h1
      subst e
      rw [AHeap.find_new] at h2
      cases h2
      refine ⟨cur, cap, heap_alloc_new w _, hsz, hcap, hex, hm, flat_Rl hk (hRs (fun i v hv => ?_) hr)⟩
      unfold memAt
      rw [Nat.zero_add, World.cell?_alloc_at _ _ _ _ rfl]
      exact hv
    · have l1 := (h.dom id b' h1).1
      have l2 := (h.dom id b' h1).2
      rw [AHeap.find_cons l1] at h2
      obtain ⟨cur', cap', a1, a2, a3, a4, a5, a6⟩ := h.blk id b' k h1 h2
      exact ⟨cur', cap', by rw [hold b' l2]; exact a1, a2, a3, a4, a5, Rl_later hl2 b' (hold b' l2) _ _ _ (AV.idsL_true _) a6⟩
end
end Go.Proofs.Ytddhdlfafaobhaa
