/- Own rows that are marked, grown and looked at: what is known of them in own memory. Nothing of the program is named here. -/
import Derived.Test.YtigmpablpmanpaaV31
namespace Go.Proofs.Ytigmpablpmanpaa
open Go.RowKit
set_option linter.unusedVariables false
set_option linter.unusedSimpArgs false

/-- A row that was handed out: nil, or a slice of an own block, with a room. -/
structure FRow where
  nil : Bool
  n : Nat
  id : Nat
  c : Nat
instance : Inhabited FRow := ⟨⟨true, 0, 0, 0⟩⟩
def FRow.av (k : Nat) (r : FRow) : AV := if r.nil then .lst 0 [] (some []) else .vec k r.id 0 r.n (some r.c)
theorem FRow.av_nil {k : Nat} {r : FRow} (h : r.nil = true) : r.av k = .lst 0 [] (some []) := by simp [FRow.av, h]
theorem FRow.av_vec {k : Nat} {r : FRow} (h : r.nil = false) : r.av k = .vec k r.id 0 r.n (some r.c) := by simp [FRow.av, h]
theorem FRow.av_top {k : Nat} {r : FRow} : (r.av k).isTop = false := by unfold FRow.av; split <;> rfl
theorem FRow.av_ncells {k : Nat} {r : FRow} : (r.av k).ncells = 1 := by unfold FRow.av; split <;> rfl
theorem FRow.av_isAgg {k : Nat} {r : FRow} : (r.av k).isAgg = false := by unfold FRow.av; split <;> rfl
theorem FRow.av_cells {k : Nat} {r : FRow} : (r.av k).cells = [r.av k] := by unfold FRow.av; split <;> rfl
theorem FRow.av_lenOk {k : Nat} {r : FRow} : lenOk (r.av k) = True := by unfold FRow.av; split <;> rfl
theorem FRow.av_lenN {k : Nat} {r : FRow} (h : r.nil = true → r.n = 0) : lenN (r.av k) = r.n := by
  cases e : r.nil with
  | true => rw [FRow.av_nil e, h e]; rfl
  | false => rw [FRow.av_vec e]; rfl
def rowsV (k : Nat) (rs : List FRow) : List AV := rs.map (FRow.av k)
theorem rowsV_length {k : Nat} {rs : List FRow} : (rowsV k rs).length = rs.length := by simp [rowsV]
def nthR (rs : List FRow) (i : Nat) : FRow := rs.getD i default
theorem rowsV_get {k : Nat} {rs : List FRow} {i : Nat} (h : i < rs.length) : (rowsV k rs).getD i .top = (nthR rs i).av k := by
  simp [rowsV, nthR, List.getD, h]

/-- What is asked of a row's block: its room; its elements' shape; how many of its elements are marked. -/
def capOK (n c : Nat) (es : List AV) (ex : Bool) : Prop := (ex = true ∧ c = es.length ∧ n ≤ c) ∨ (ex = false ∧ n ≤ es.length)
structure Shape where
  k : Nat
  ty : TypeId
  ag : Bool
def Shape.is (s : Shape) (x : AV) : Prop := x.isTop = false ∧ x.ncells = s.k ∧ x.isAgg = s.ag
def RowR (s : Shape) (mk : Nat → AV) (F : AHeap) (id n c m : Nat) : Prop :=
  ∃ es ex, AHeap.find F id = some ⟨s.k, es, ex, s.ty⟩ ∧ capOK n c es ex ∧ (∀ x ∈ es, s.is x) ∧ ∀ i, i < m → es[i]? = some (mk i)
/-- A block whose first elements are known. -/
def Reads (k : Nat) (mk : Nat → AV) (F : AHeap) (id m : Nat) : Prop := ∃ blk, AHeap.find F id = some blk ∧ blk.k = k ∧ m ≤ blk.es.length ∧ ∀ i, i < m → blk.es.getD i .top = mk i

section
variable {s : Shape} {mk : Nat → AV} {F G : AHeap} {id n c m : Nat}

theorem capOK_le {es : List AV} {ex : Bool} (h : capOK n c es ex) : n ≤ es.length := by
  rcases h with ⟨_, h1, h2⟩ | ⟨_, h⟩
  · omega
  · exact h
theorem getD_of_some {l : List AV} {i : Nat} {x : AV} (h : l[i]? = some x) : l.getD i .top = x := by simp [List.getD, h]
theorem RowR.keep (h : RowR s mk F id n c m) (e : AHeap.find G id = AHeap.find F id) : RowR s mk G id n c m := by
  unfold RowR at h ⊢
  rw [e]
  exact h
theorem Reads.keep {k : Nat} (h : Reads k mk F id m) (e : AHeap.find G id = AHeap.find F id) : Reads k mk G id m := by
  unfold Reads at h ⊢
  rw [e]
  exact h
theorem RowR.less {m' : Nat} (h : RowR s mk F id n c m) (hm : m' ≤ m) : RowR s mk F id n c m' := by
  obtain ⟨es, ex, h1, h2, h3, h4⟩ := h
  exact ⟨es, ex, h1, h2, h3, fun i hi => h4 i (by omega)⟩
theorem RowR.shrink {n' : Nat} (h : RowR s mk F id n c m) (hn : n' ≤ n) : RowR s mk F id n' c m := by
  obtain ⟨es, ex, h1, h2, h3, h4⟩ := h
  refine ⟨es, ex, h1, ?_, h3, h4⟩
  rcases h2 with ⟨e1, e2, e3⟩ | ⟨e1, e2⟩
  · exact .inl ⟨e1, e2, by omega⟩
  · exact .inr ⟨e1, by omega⟩
theorem RowR.reads (h : RowR s mk F id n c m) (hm : m ≤ n) : Reads s.k mk F id m := by
  obtain ⟨es, ex, h1, h2, h3, h4⟩ := h
  have := capOK_le h2
  exact ⟨_, h1, rfl, by simp only; omega, fun i hi => getD_of_some (h4 i hi)⟩
theorem Reads.less {k m' : Nat} (h : Reads k mk F id m) (hm : m' ≤ m) : Reads k mk F id m' := by
  obtain ⟨blk, h1, h2, h3, h4⟩ := h
  exact ⟨blk, h1, h2, by omega, fun i hi => h4 i (by omega)⟩
/-- One mark more is stored. -/
theorem RowR.store {es : List AV} {ex : Bool} (hf : AHeap.find F id = some ⟨s.k, es, ex, s.ty⟩) (h2 : capOK n c es ex) (h3 : ∀ x ∈ es, s.is x) (h4 : ∀ i, i < m → es[i]? = some (mk i)) (hm : m < n) (hs : s.is (mk m)) :
    RowR s mk (AHeap.set F id (some ⟨s.k, es.set m (mk m), ex, s.ty⟩)) id n c (m + 1) := by
  have hlt := AHeap.find_lt hf
  have hle := capOK_le h2
  refine ⟨_, _, AHeap.find_set_same hlt, ?_, fun x hx => ?_, fun i hi => ?_⟩
  · simpa [capOK] using h2
  · rcases List.mem_or_eq_of_mem_set hx with h | rfl
    · exact h3 x h
    · exact hs
  · rw [List.getElem?_set]
    by_cases e : m = i
    · subst e; simp; omega
    · rw [if_neg e]; exact h4 i (by omega)
/-- Marks are appended in place. -/
theorem RowR.app {es ys : List AV} {ex : Bool} (hf : AHeap.find F id = some ⟨s.k, es, ex, s.ty⟩) (h2 : capOK n c es ex) (h3 : ∀ x ∈ es, s.is x) (h4 : ∀ i, i < n → es[i]? = some (mk i)) (hr : n + ys.length ≤ c) (hs : ∀ x ∈ ys, s.is x) (hy : ∀ i, i < ys.length → ys[i]? = some (mk (n + i))) :
    RowR s mk (AHeap.set F id (some ⟨s.k, es.take n ++ ys ++ es.drop (n + ys.length), ex, s.ty⟩)) id (n + ys.length) c (n + ys.length) := by
  have hlt := AHeap.find_lt hf
  have hle := capOK_le h2
  have hl : (es.take n ++ ys).length = n + ys.length := by simp; omega
  refine ⟨_, _, AHeap.find_set_same hlt, ?_, fun x hx => ?_, fun i hi => ?_⟩
  · rcases h2 with ⟨e1, e2, e3⟩ | ⟨e1, e2⟩
    · refine .inl ⟨e1, ?_, hr⟩
      simp; omega
    · refine .inr ⟨e1, ?_⟩
      rw [List.length_append, hl]; omega
  · rcases List.mem_append.1 hx with hx | hx
    · rcases List.mem_append.1 hx with hx | hx
      · exact h3 x (List.mem_of_mem_take hx)
      · exact hs x hx
    · exact h3 x (List.mem_of_mem_drop hx)
  · rw [List.getElem?_append_left (by omega)]
    by_cases e : i < n
    · rw [List.getElem?_append_left (by simp; omega), List.getElem?_take_of_lt e]
      exact h4 i e
    · rw [List.getElem?_append_right (by simp; omega)]
      have : i - (es.take n).length = i - n := by simp; omega
      rw [this, hy _ (by omega)]
      congr 2
      omega
/-- Other marks are appended in place: the row stays as it was. -/
theorem RowR.app2 {es ys : List AV} {ex : Bool} (hf : AHeap.find F id = some ⟨s.k, es, ex, s.ty⟩) (h2 : capOK n c es ex) (h3 : ∀ x ∈ es, s.is x) (h4 : ∀ i, i < n → es[i]? = some (mk i)) (hr : n + ys.length ≤ c) (hs : ∀ x ∈ ys, s.is x) :
    RowR s mk (AHeap.set F id (some ⟨s.k, es.take n ++ ys ++ es.drop (n + ys.length), ex, s.ty⟩)) id n c n := by
  have hlt := AHeap.find_lt hf
  have hle := capOK_le h2
  refine ⟨_, _, AHeap.find_set_same hlt, ?_, fun x hx => ?_, fun i hi => ?_⟩
  · rcases h2 with ⟨e1, e2, e3⟩ | ⟨e1, e2⟩
    · refine .inl ⟨e1, ?_, by omega⟩
      simp; omega
    · refine .inr ⟨e1, ?_⟩
      simp; omega
  · rcases List.mem_append.1 hx with hx | hx
    · rcases List.mem_append.1 hx with hx | hx
      · exact h3 x (List.mem_of_mem_take hx)
      · exact hs x hx
    · exact h3 x (List.mem_of_mem_drop hx)
  · rw [List.append_assoc, List.getElem?_append_left (by simp; omega), List.getElem?_take_of_lt hi]
    exact h4 i hi
theorem take_marks {es : List AV} (hl : n ≤ es.length) (h4 : ∀ i, i < n → es[i]? = some (mk i)) : es.take n = (List.range n).map mk := by
  apply List.ext_getElem?
  intro i
  by_cases e : i < n
  · rw [List.getElem?_take_of_lt e, h4 i e]; simp [e]
  · rw [List.getElem?_eq_none (by simp; omega), List.getElem?_eq_none (by simp; omega)]
end

/-- The rows' numbers. -/
def rowIds (rs : List FRow) : List Nat := (rs.filter fun r => !r.nil).map (·.id)
theorem mem_rowIds {rs : List FRow} {k : Nat} (h : k < rs.length) (hn : (nthR rs k).nil = false) : (nthR rs k).id ∈ rowIds rs := by
  refine List.mem_map.2 ⟨nthR rs k, List.mem_filter.2 ⟨?_, by simp [hn]⟩, rfl⟩
  unfold nthR
  rw [List.getD_eq_getElem?_getD, List.getElem?_eq_getElem h]
  exact List.getElem_mem h

/-- Rows that lie apart. -/
structure RowsOK (s : Shape) (F : AHeap) (rs : List FRow) : Prop where
  nil : ∀ k, k < rs.length → (nthR rs k).nil = true → (nthR rs k).n = 0
  blk : ∀ k, k < rs.length → (nthR rs k).nil = false → ∃ es ex, AHeap.find F (nthR rs k).id = some ⟨s.k, es, ex, s.ty⟩ ∧ capOK (nthR rs k).n (nthR rs k).c es ex ∧ ∀ x ∈ es, s.is x
  apart : ∀ k l, k < rs.length → l < rs.length → (nthR rs k).nil = false → (nthR rs l).nil = false → (nthR rs k).id = (nthR rs l).id → k = l
  small : ∀ k, k < rs.length → (nthR rs k).n ≤ 10000000

/-- Rows in own memory, each marked as far as is said. -/
def RowsM (s : Shape) (mk : Nat → Nat → AV) (F : AHeap) (rs : List FRow) (m : Nat → Nat) : Prop :=
  ∀ k, k < rs.length → (nthR rs k).nil = false → RowR s (mk k) F (nthR rs k).id (nthR rs k).n (nthR rs k).c (m k)
/-- What is not one of the rows lies as it lay. -/
def Beside (H F : AHeap) (rs : List FRow) : Prop := ∀ id, id < H.length → id ∉ rowIds rs → AHeap.find F id = AHeap.find H id
/-- Other slices of the rows, up to the K-th: where they lie; what is read there. -/
def Seconds (k0 : Nat) (mk : Nat → Nat → AV) (F : AHeap) (rs : List FRow) (g0 B : Nat) (gvs : List AV) (K : Nat) (x : Nat → Nat) : Prop :=
  ∀ k, k < K → ∃ gid gc, gvs.getD k .top = .vec k0 gid 0 ((nthR rs k).n + 64) gc ∧ Reads k0 (mk k) F gid (x k) ∧ ((gid = (nthR rs k).id ∧ (nthR rs k).nil = false) ∨ g0 < gid) ∧ gid < B

section
variable {s : Shape} {mk : Nat → Nat → AV} {H F G : AHeap} {rs : List FRow} {m m' : Nat → Nat}

theorem RowsOK.start (h : RowsOK s H rs) : RowsM s mk H rs (fun _ => 0) := fun k hk hn => by
  obtain ⟨es, ex, h1, h2, h3⟩ := h.blk k hk hn
  exact ⟨es, ex, h1, h2, h3, fun i hi => absurd hi (Nat.not_lt_zero _)⟩
theorem Beside.refl : Beside H H rs := fun _ _ _ => rfl
theorem Beside.set (h : Beside H F rs) {K : Nat} {b : Option ABlk} (hK : K < rs.length) (hn : (nthR rs K).nil = false) : Beside H (AHeap.set F (nthR rs K).id b) rs := fun id hid hni => by
  have hne : id ≠ (nthR rs K).id := fun e => hni (by rw [e]; exact mem_rowIds hK hn)
  rw [AHeap.find_set_ne hne]
  exact h id hid hni
theorem Beside.set2 (h : Beside H F rs) {i : Nat} {b : Option ABlk} (hi : H.length ≤ i) : Beside H (AHeap.set F i b) rs := fun id hid hni => by
  rw [AHeap.find_set_ne (by omega)]
  exact h id hid hni
theorem Beside.cons (h : Beside H F rs) (hl : H.length ≤ F.length) {b : Option ABlk} : Beside H (b :: F) rs := fun id hid hni => by
  rw [AHeap.find_cons (by omega)]
  exact h id hid hni
/-- One row is written. -/
theorem RowsM.put (h : RowsM s mk F rs m) (ok : RowsOK s H rs) {K : Nat} {b : Option ABlk} (hK : K < rs.length) (hn : (nthR rs K).nil = false) (hr : RowR s (mk K) (AHeap.set F (nthR rs K).id b) (nthR rs K).id (nthR rs K).n (nthR rs K).c (m' K)) (hm : ∀ k, k ≠ K → m' k ≤ m k) :
    RowsM s mk (AHeap.set F (nthR rs K).id b) rs m' := fun k hk hkn => by
  by_cases e : k = K
  · subst e; exact hr
  · exact ((h k hk hkn).less (hm k e)).keep (AHeap.find_set_ne (fun e' => e (ok.apart k K hk hK hkn hn e')))
theorem RowsM.less (h : RowsM s mk F rs m) (hm : ∀ k, k < rs.length → m' k ≤ m k) : RowsM s mk F rs m' := fun k hk hkn => (h k hk hkn).less (hm k hk)
theorem RowsM.far (h : RowsM s mk F rs m) (ok : RowsOK s H rs) {i : Nat} {b : Option ABlk} (hi : H.length ≤ i) : RowsM s mk (AHeap.set F i b) rs m := fun k hk hkn => by
  obtain ⟨es, ex, h1, _⟩ := ok.blk k hk hkn
  have := AHeap.find_lt h1
  exact (h k hk hkn).keep (AHeap.find_set_ne (by omega))
theorem RowsM.cons (h : RowsM s mk F rs m) {b : Option ABlk} : RowsM s mk (b :: F) rs m := fun k hk hkn => by
  obtain ⟨es, ex, h1, _⟩ := h k hk hkn
  exact (h k hk hkn).keep (AHeap.find_cons (AHeap.find_lt h1))
theorem Seconds.keep {k0 g0 B K : Nat} {gvs : List AV} {x : Nat → Nat} (h : Seconds k0 mk F rs g0 B gvs K x) (h1 : ∀ id, g0 < id → id < B → AHeap.find G id = AHeap.find F id) (h2 : ∀ k, k < K → (nthR rs k).nil = false → AHeap.find G (nthR rs k).id = AHeap.find F (nthR rs k).id) : Seconds k0 mk G rs g0 B gvs K x := fun k hk => by
  obtain ⟨gid, gc, a1, a2, a3, a4⟩ := h k hk
  refine ⟨gid, gc, a1, a2.keep ?_, a3, a4⟩
  rcases a3 with ⟨rfl, hn⟩ | h
  · exact h2 k hk hn
  · exact h1 gid h a4
theorem Seconds.more {k0 g0 B B' K : Nat} {gvs : List AV} {x : Nat → Nat} (h : Seconds k0 mk F rs g0 B gvs K x) (hB : B ≤ B') : Seconds k0 mk F rs g0 B' gvs K x := fun k hk => by
  obtain ⟨gid, gc, a1, a2, a3, a4⟩ := h k hk
  exact ⟨gid, gc, a1, a2, a3, by omega⟩
theorem Seconds.less {k0 g0 B K : Nat} {gvs : List AV} {x y : Nat → Nat} (h : Seconds k0 mk F rs g0 B gvs K x) (hy : ∀ k, k < K → y k ≤ x k) : Seconds k0 mk F rs g0 B gvs K y := fun k hk => by
  obtain ⟨gid, gc, a1, a2, a3, a4⟩ := h k hk
  exact ⟨gid, gc, a1, a2.less (hy k hk), a3, a4⟩
theorem Seconds.next {k0 g0 B B' K : Nat} {gvs : List AV} {x : Nat → Nat} {gid : Nat} {gc : Option Nat} (h : Seconds k0 mk F rs g0 B gvs K x) (hB : B ≤ B') (hK : K < gvs.length) (hr : Reads k0 (mk K) F gid (x K)) (ho : (gid = (nthR rs K).id ∧ (nthR rs K).nil = false) ∨ g0 < gid) (hb : gid < B') :
    Seconds k0 mk F rs g0 B' (gvs.set K (.vec k0 gid 0 ((nthR rs K).n + 64) gc)) (K + 1) x := fun k hk => by
  by_cases e : k = K
  · subst e
    exact ⟨gid, gc, by simp [List.getD, hK], hr, ho, hb⟩
  · obtain ⟨gid', gc', a1, a2, a3, a4⟩ := h k (by omega)
    refine ⟨gid', gc', ?_, a2, a3, by omega⟩
    rw [← a1]
    simp only [List.getD_eq_getElem?_getD]
    rw [List.getElem?_set_ne (by omega)]
theorem Seconds.zero {k0 g0 B : Nat} {gvs : List AV} {x : Nat → Nat} : Seconds k0 mk F rs g0 B gvs 0 x := fun k hk => by omega
end

theorem mk_next {n : Nat → Nat} {K j : Nat} (hj : n K ≤ j) (k : Nat) : (if k < K + 1 then n k else 0) ≤ (if k < K then n k else if k = K then j else 0) := by
  by_cases e : k < K
  · rw [if_pos e, if_pos (by omega)]; exact Nat.le_refl _
  · by_cases e2 : k = K
    · subst e2; rw [if_neg e, if_pos rfl, if_pos (by omega)]; exact hj
    · rw [if_neg (by omega)]; exact Nat.zero_le _
theorem mk_zero {n : Nat → Nat} {K : Nat} (k : Nat) : (if k < K then n k else if k = K then 0 else 0) ≤ (if k < K then n k else 0) := by
  by_cases e : k < K <;> simp [e]
theorem mk_up {n : Nat → Nat} {K j : Nat} (k : Nat) (e : k ≠ K) : (if k < K then n k else if k = K then j + 1 else 0) ≤ (if k < K then n k else if k = K then j else 0) := by
  by_cases e1 : k < K <;> simp [e, e1]

theorem upd_flat {e x : AV} {f : Nat} (h : e.isAgg = false) : AV.upd e f x = x := by
  cases e <;> first | rfl | (simp [AV.isAgg] at h)
theorem upd_full {e x : AV} {n : Nat} (h : e.ncells = n) (hx : x.ncells = n) (hx2 : x.isAgg = true) : AV.upd e 0 x = x := by
  cases x with
  | agg xs =>
    cases e with
    | agg cs =>
      simp only [AV.ncells] at h hx
      have : cs.drop (0 + xs.length) = [] := List.drop_of_length_le (by omega)
      simp only [AV.upd, AV.cells, AV.ncells, List.take_zero, List.nil_append, this, List.append_nil]
    | _ => rfl
  | _ => simp [AV.isAgg] at hx2

/-- A row that grows by marks, one by one. -/
inductive Grow (s : Shape) (mk : Nat → AV) (F : AHeap) (r : FRow) (B j : Nat) : AV → Prop where
  | nil : r.nil = true → j = 0 → Grow s mk F r B j (.lst 0 [] (some []))
  | room : r.nil = false → RowR s mk F r.id (r.n + j) r.c (r.n + j) → Grow s mk F r B j (.vec s.k r.id 0 (r.n + j) (some r.c))
  | new {gid : Nat} : B ≤ gid → gid < F.length → AHeap.find F gid = some ⟨s.k, (List.range (r.n + j)).map mk, false, s.ty⟩ → Grow s mk F r B j (.vec s.k gid 0 (r.n + j) none)
theorem marks_succ {mk : Nat → AV} {n : Nat} : (List.range n).map mk ++ [mk n] = (List.range (n + 1)).map mk := by simp [List.range_succ]
theorem marks_len {mk : Nat → AV} {n : Nat} : ((List.range n).map mk).length = n := by simp
theorem Reads.marks {k : Nat} {mk : Nat → AV} {F : AHeap} {gid n : Nat} {ex : Bool} {ty : TypeId} (h : AHeap.find F gid = some ⟨k, (List.range n).map mk, ex, ty⟩) : Reads k mk F gid n :=
  ⟨_, h, rfl, by simp, fun i hi => by simp [List.getD, hi]⟩

/-- Cells that are no aggregates. -/
def Ones (l : List AV) : Prop := ∀ x ∈ l, x.ncells = 1 ∧ x.isAgg = false
theorem Ones.get {l : List AV} (h : Ones l) {i : Nat} (hi : i < l.length) : (l.getD i .top).ncells = 1 ∧ ∀ f x, AV.upd (l.getD i .top) f x = x := by
  have e : l.getD i .top = l[i] := by simp [List.getD, hi]
  have := h _ (List.getElem_mem hi)
  rw [e]
  exact ⟨this.1, fun f x => upd_flat this.2⟩
theorem Ones.set {l : List AV} (h : Ones l) {i : Nat} {x : AV} (hx : x.ncells = 1 ∧ x.isAgg = false) : Ones (l.set i x) := fun y hy => by
  rcases List.mem_or_eq_of_mem_set hy with hy | rfl
  · exact h y hy
  · exact hx
theorem Ones.rep {n : Nat} {x : AV} (hx : x.ncells = 1 ∧ x.isAgg = false) : Ones (List.replicate n x) := fun y hy => by rw [List.eq_of_mem_replicate hy]; exact hx

/-- Blocks given up. -/
def killIds (ids : List Nat) (H : AHeap) : AHeap := ids.foldl (fun G i => AHeap.set G i none) H
theorem killIds_length : ∀ (ids : List Nat) (H : AHeap), (killIds ids H).length = H.length
  | [], H => rfl
  | i :: r, H => by
    have := killIds_length r (AHeap.set H i none)
    rw [AHeap.set_length] at this
    exact this
theorem find_killIds {i : Nat} {k : ABlk} : ∀ {ids : List Nat} {H : AHeap}, AHeap.find (killIds ids H) i = some k → i ∉ ids ∧ AHeap.find H i = some k
  | [], H, h => ⟨by simp, h⟩
  | j :: r, H, h => by
    obtain ⟨h1, h2⟩ := find_killIds (ids := r) (H := AHeap.set H j none) h
    obtain ⟨h3, h4⟩ := find_kill h2
    exact ⟨by simp; exact ⟨h3, h1⟩, h4⟩
theorem killIds_other {i : Nat} : ∀ {ids : List Nat} {H : AHeap}, i ∉ ids → AHeap.find (killIds ids H) i = AHeap.find H i
  | [], H, h => rfl
  | j :: r, H, h => by
    have := killIds_other (ids := r) (H := AHeap.set H j none) (i := i) (by simp at h; exact h.2)
    have e : AHeap.find (AHeap.set H j none) i = AHeap.find H i := AHeap.find_set_ne (by simp at h; exact h.1)
    exact this.trans e
theorem weak_killIds {H F : AHeap} {ids : List Nat} {v : Value} (h : ∀ id, id < H.length → id ∉ ids → AHeap.find F id = AHeap.find H id) : Weak H (.ret (.sc v)) F (.ret (.sc v)) (killIds ids H) := by
  refine weak_gen [] (by simp [killIds_length]) (by simp) (by simp) (fun id k hid hk => .inl ?_) (fun i s k hs => by simp at hs) (.same trivial)
  obtain ⟨h1, h2⟩ := find_killIds hk
  exact ⟨h2, by rw [h id hid h1]; exact h2⟩
end Go.Proofs.Ytigmpablpmanpaa
