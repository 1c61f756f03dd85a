/- Rows that calls hand out, flat: from rows of a known room to own rows. Nothing of the program is named here. -/
import Derived.Test.YtigmpablpmanpaaV32
namespace Go.Proofs.Ytigmpablpmanpaa
open Go.RowKit
set_option linter.unusedVariables false
set_option linter.unusedSimpArgs false

theorem gzl_same {H1 : AHeap} {n0 : Nat} {src : List Nat} : ∀ {xs : List AV}, AV.idsL (· < n0) xs → GzL H1 n0 src xs xs
  | [], _ => .nil
  | x :: r, h => .cons (.same (AV.ids_mono (fun i hi => newId_old hi) x h.1)) (gzl_same h.2)
theorem idsL_append {p : Nat → Prop} {a b : List AV} : AV.idsL p (a ++ b) ↔ AV.idsL p a ∧ AV.idsL p b := by
  simp only [AV.idsL_iff, List.mem_append]
  exact ⟨fun h => ⟨fun x hx => h x (.inl hx), fun x hx => h x (.inr hx)⟩, fun h x hx => hx.elim (h.1 x) (h.2 x)⟩
theorem OwnV_ids {p : Nat → Prop} {k : Nat} {xs : List AV} {id : Nat} (h : xs ≠ [] → p id) : (OwnV k xs id).ids p := by
  cases xs with
  | nil => exact ⟨trivial, trivial⟩
  | cons x r => exact h (by simp)
theorem find_killO_some {xs : List AV} {id i : Nat} {H : AHeap} {k : ABlk} (h : AHeap.find (killO xs id H) i = some k) : AHeap.find H i = some k := by
  cases xs with
  | nil => exact h
  | cons x r => exact (find_kill h).2

theorem find_killO_ne {xs : List AV} {id i : Nat} {H : AHeap} {k : ABlk} (h : AHeap.find (killO xs id H) i = some k) (hx : xs ≠ []) : i ≠ id := by
  rw [killO_ne hx] at h
  exact (find_kill h).1
theorem find_killO_other {xs : List AV} {id i : Nat} {H : AHeap} (h : xs ≠ [] → i ≠ id) : AHeap.find (killO xs id H) i = AHeap.find H i := by
  cases xs with
  | nil => rfl
  | cons x r => exact AHeap.find_set_ne (h (by simp))
theorem idsL_mono' {n m : Nat} (h : n ≤ m) {l : List AV} (hl : AV.idsL (· < n) l) : AV.idsL (· < m) l := AV.idsL_mono (fun i hi => Nat.lt_of_lt_of_le hi h) l hl

/-- Own rows: elements, and where they lie. -/
abbrev ORow := List AV × Nat
def ownRows (k : Nat) (os : List ORow) : List AV := os.map fun o => OwnV k o.1 o.2
theorem ownRows_length {k : Nat} {os : List ORow} : (ownRows k os).length = os.length := by simp [ownRows]
def nthO (os : List ORow) (i : Nat) : ORow := os.getD i ([], 0)
def ownIds (os : List ORow) : List Nat := (os.filter fun o => !o.1.isEmpty).map (·.2)
theorem mem_ownIds {os : List ORow} {k : Nat} (h : k < os.length) (hn : (nthO os k).1 ≠ []) : (nthO os k).2 ∈ ownIds os := by
  refine List.mem_map.2 ⟨nthO os k, List.mem_filter.2 ⟨?_, by simpa using hn⟩, rfl⟩
  unfold nthO
  rw [List.getD_eq_getElem?_getD, List.getElem?_eq_getElem h]
  exact List.getElem_mem h
theorem of_mem_ownIds {os : List ORow} {i : Nat} (h : i ∈ ownIds os) : ∃ k, k < os.length ∧ (nthO os k).1 ≠ [] ∧ (nthO os k).2 = i := by
  obtain ⟨o, h1, rfl⟩ := List.mem_map.1 h
  obtain ⟨h2, h3⟩ := List.mem_filter.1 h1
  obtain ⟨k, hk, e⟩ := List.getElem_of_mem h2
  have e2 : nthO os k = o := by
    unfold nthO
    rw [List.getD_eq_getElem?_getD, List.getElem?_eq_getElem hk]
    exact e
  exact ⟨k, hk, by rw [e2]; simpa using h3, by rw [e2]⟩

/-- Own rows that lie apart. -/
structure OwnsOK (s : Shape) (H : AHeap) (os : List ORow) : Prop where
  blk : ∀ k, k < os.length → (nthO os k).1 ≠ [] → AHeap.find H (nthO os k).2 = OwnB s.k s.ty (nthO os k).1
  shape : ∀ k, k < os.length → ∀ x ∈ (nthO os k).1, s.is x
  apart : ∀ k l, k < os.length → l < os.length → (nthO os k).1 ≠ [] → (nthO os l).1 ≠ [] → (nthO os k).2 = (nthO os l).2 → k = l
  small : ∀ k, k < os.length → (nthO os k).1.length ≤ 10000000

theorem open_rows {k : Nat} : ∀ {os : List ORow} {es : List AV}, OpenedL (ownRows k os) es →
    ∃ rs : List FRow, es = rowsV k rs ∧ rs.length = os.length ∧ ∀ i, i < os.length → (nthR rs i).n = (nthO os i).1.length ∧ ((nthR rs i).nil = true ↔ (nthO os i).1 = []) ∧ ((nthR rs i).nil = false → (nthR rs i).id = (nthO os i).2)
  | [], es, h => by
    cases h
    exact ⟨[], rfl, rfl, fun i hi => by simp at hi⟩
  | (xs, id) :: r, es, h => by
    have h' : OpenedL (OwnV k xs id :: ownRows k r) es := h
    cases h' with
    | @cons _ y0 _ s0 hx hr =>
      obtain ⟨rs, e1, e2, e3⟩ := open_rows hr
      have key : ∀ (f : FRow) (y : AV), y = f.av k → f.n = xs.length → (f.nil = true ↔ xs = []) → (f.nil = false → f.id = id) →
          ∃ rs' : List FRow, y :: s0 = rowsV k rs' ∧ rs'.length = ((xs, id) :: r).length ∧ ∀ i, i < ((xs, id) :: r).length → (nthR rs' i).n = (nthO ((xs, id) :: r) i).1.length ∧ ((nthR rs' i).nil = true ↔ (nthO ((xs, id) :: r) i).1 = []) ∧ ((nthR rs' i).nil = false → (nthR rs' i).id = (nthO ((xs, id) :: r) i).2) := by
        intro f y hy h1 h2 h3
        refine ⟨f :: rs, by rw [hy, e1]; rfl, by simp [e2], fun i hi => ?_⟩
        cases i with
        | zero => exact ⟨h1, h2, h3⟩
        | succ i => exact e3 i (by simpa using hi)
      cases xs with
      | nil => exact key ⟨true, 0, 0, 0⟩ _ hx rfl (by simp) (by simp)
      | cons x xr =>
        obtain ⟨c, _, rfl⟩ := hx
        exact key ⟨false, xr.length + 1, id, c⟩ _ (by simp [FRow.av]) (by simp) (by simp) (fun _ => rfl)

theorem flat_own {P : Program} {f : FuncId} (s : Shape) (hcore : ∀ (H : AHeap) (rs : List FRow) (lid : Nat) (exl : Bool) (lty : TypeId) (cl : Option Nat), AHeap.find H lid = some ⟨1, rowsV s.k rs, exl, lty⟩ → RowsOK s H rs → lid ∉ rowIds rs → rs.length ≤ 1000000 →
      D P f [.vec 1 lid 0 rs.length cl] H (.ret (.sc (.bool true))) (killIds (rowIds rs) H))
    {H : AHeap} {os : List ORow} {lid : Nat} {exl : Bool} {lty : TypeId} {cl : Option Nat} (hls : AHeap.find H lid = some ⟨1, ownRows s.k os, exl, lty⟩) (ok : OwnsOK s H os) (hlid : lid ∉ ownIds os) (hN : os.length ≤ 1000000) :
    D P f [.vec 1 lid 0 os.length cl] H (.ret (.sc (.bool true))) (killIds (lid :: ownIds os) H) := by
  have hlt := AHeap.find_lt hls
  refine D_open hls (by rw [killIds_length]; exact Nat.le_refl _) fun es hes => ?_
  obtain ⟨rs, rfl, h1, h2⟩ := open_rows hes
  have hne : ∀ k, k < os.length → (nthR rs k).nil = false → (nthO os k).1 ≠ [] := fun k hk hn e => by
    have := (h2 k hk).2.1.2 e
    rw [hn] at this; simp at this
  have hidne : ∀ k, k < os.length → (nthR rs k).nil = false → (nthR rs k).id ≠ lid := fun k hk hn e => by
    rw [(h2 k hk).2.2 hn] at e
    exact hlid (e ▸ mem_ownIds hk (hne k hk hn))
  have ok2 : RowsOK s (AHeap.set H lid (some ⟨1, rowsV s.k rs, exl, lty⟩)) rs := by
    refine ⟨fun k hk hn => ?_, fun k hk hn => ?_, fun k l hk hl hn hn2 e => ?_, fun k hk => ?_⟩
    · rw [(h2 k (by omega)).1, (h2 k (by omega)).2.1.1 hn]; rfl
    · have hk' : k < os.length := by omega
      have hb := ok.blk k hk' (hne k hk' hn)
      rw [OwnB_ne (hne k hk' hn)] at hb
      refine ⟨(nthO os k).1, false, ?_, .inr ⟨rfl, by rw [(h2 k hk').1]; exact Nat.le_refl _⟩, ok.shape k hk'⟩
      rw [AHeap.find_set_ne (hidne k hk' hn), (h2 k hk').2.2 hn]
      exact hb
    · refine ok.apart k l (by omega) (by omega) (hne k (by omega) hn) (hne l (by omega) hn2) ?_
      rw [← (h2 k (by omega)).2.2 hn, ← (h2 l (by omega)).2.2 hn2]
      exact e
    · rw [(h2 k (by omega)).1]; exact ok.small k (by omega)
  have hids : ∀ i, i ∈ rowIds rs → i ∈ ownIds os := fun i hi => by
    obtain ⟨r, e1, rfl⟩ := List.mem_map.1 hi
    obtain ⟨e2, e3⟩ := List.mem_filter.1 e1
    obtain ⟨k, hk, e⟩ := List.getElem_of_mem e2
    have e4 : nthR rs k = r := by
      unfold nthR
      rw [List.getD_eq_getElem?_getD, List.getElem?_eq_getElem hk]
      exact e
    have hn : (nthR rs k).nil = false := by rw [e4]; simpa using e3
    have hk' : k < os.length := by omega
    rw [← e4, (h2 k hk').2.2 hn]
    exact mem_ownIds hk' (hne k hk' hn)
  have hD := hcore (AHeap.set H lid (some ⟨1, rowsV s.k rs, exl, lty⟩)) rs lid exl lty cl (AHeap.find_set_same hlt) ok2 (fun h => hlid (hids _ h)) (by omega)
  rw [h1] at hD
  refine hD.weak (by rw [killIds_length, AHeap.set_length]; exact Nat.le_refl _) ?_
  refine weak_gen [] (by simp [killIds_length, AHeap.set_length]) (by simp) (by simp) (fun id k hid hk => .inl ?_) (fun i s k hs => by simp at hs) (.same trivial)
  obtain ⟨g1, g2⟩ := find_killIds hk
  have g3 : id ≠ lid := fun e => g1 (by simp [e])
  have g4 : id ∉ ownIds os := fun e => g1 (by simp [e])
  have g5 : AHeap.find (AHeap.set H lid (some ⟨1, rowsV s.k rs, exl, lty⟩)) id = some k := by rw [AHeap.find_set_ne g3]; exact g2
  exact ⟨g5, by rw [killIds_other (fun e => g4 (hids _ e))]; exact g5⟩
end Go.Proofs.Ytigmpablpmanpaa
