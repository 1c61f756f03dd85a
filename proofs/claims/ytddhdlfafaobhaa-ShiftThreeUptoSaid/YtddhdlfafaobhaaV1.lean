/- Abstract values: lists as values, own memory as numbered blocks; what they say of the model's values. Nothing of the program is named here. -/
import Derived.WalkKit
import Derived.WalkSpells
import Derived.WalkLawsBesides
import Derived.Lib.Hide
import Derived.Laws.AppendOwnNone
import Derived.Orders
namespace Go.Proofs.Ytddhdlfafaobhaa
open Go.RowKit
set_option linter.unusedVariables false

/-- Abstract values. 'lst': a list that nobody changes (k cells an element; what stands behind it, where that is known). 'vec': a slice into an own block; 'ptr': an address in one; 'lp': an address within what nobody changes. -/
inductive AV where
  | sc (v : Value)
  | lst (k : Nat) (xs : List AV) (room : Option (List AV))
  | vec (k id off n : Nat) (c : Option Nat)
  | ptr (k id j f : Nat)
  | lp (x : AV) (f : Nat)
  | agg (cs : List AV)
  | tup (vs : List AV)
  | fn (f : Fn) (first caps : List AV)
  | ifc (t : TypeId) (v : AV)
  | ub
  | top

def AV.ncells : AV → Nat
  | .agg cs => cs.length
  | _ => 1

def AV.isAgg : AV → Bool
  | .agg _ => true
  | _ => false

/-- No value of cells. -/
def AV.isTop : AV → Bool
  | .top => true
  | .tup _ => true
  | _ => false

/-- An own block: its elements, of k cells each; 'exact': nothing stands behind them. -/
structure ABlk where
  k : Nat
  es : List AV
  exact : Bool
  ty : TypeId

/-- Own memory: the newest block first; a block's number is how many lie below it. -/
abbrev AHeap := List (Option ABlk)

def AHeap.find : AHeap → Nat → Option ABlk
  | [], _ => none
  | b :: r, i => if i = r.length then b else AHeap.find r i

def AHeap.set : AHeap → Nat → Option ABlk → AHeap
  | [], _, _ => []
  | b :: r, i, x => if i = r.length then x :: r else b :: AHeap.set r i x

theorem AHeap.find_lt {H : AHeap} {i : Nat} {b : ABlk} (h : AHeap.find H i = some b) : i < H.length := by
  induction H with
  | nil => simp [AHeap.find] at h
  | cons x r ih =>
    simp only [AHeap.find] at h
    split at h
    · simp; omega
    · have := ih h; simp; omega
theorem AHeap.find_ge {H : AHeap} {i : Nat} (h : H.length ≤ i) : AHeap.find H i = none := by
  cases hf : AHeap.find H i with
  | none => rfl
  | some b => have := AHeap.find_lt hf; omega
theorem AHeap.find_cons {H : AHeap} {i : Nat} {b : Option ABlk} (h : i < H.length) : AHeap.find (b :: H) i = AHeap.find H i := by
  simp only [AHeap.find]; rw [if_neg (by omega)]
theorem AHeap.find_new {H : AHeap} {b : Option ABlk} : AHeap.find (b :: H) H.length = b := by simp [AHeap.find]
theorem AHeap.set_length (H : AHeap) (i : Nat) (x : Option ABlk) : (AHeap.set H i x).length = H.length := by
  induction H with
  | nil => rfl
  | cons b r ih => simp only [AHeap.set]; split <;> simp [ih]
theorem AHeap.find_set_same {H : AHeap} {i : Nat} {x : Option ABlk} (h : i < H.length) : AHeap.find (AHeap.set H i x) i = x := by
  induction H with
  | nil => simp at h
  | cons b r ih =>
    simp only [AHeap.set]
    split
    · rename_i e; simp [AHeap.find, e]
    · rename_i e
      have : i < r.length := by simp at h; omega
      simp only [AHeap.find, AHeap.set_length]
      rw [if_neg e, ih this]
theorem AHeap.find_set_ne {H : AHeap} {i j : Nat} {x : Option ABlk} (h : j ≠ i) : AHeap.find (AHeap.set H i x) j = AHeap.find H j := by
  induction H with
  | nil => rfl
  | cons b r ih =>
    simp only [AHeap.set]
    split
    · rename_i e; simp only [AHeap.find]; rw [if_neg (by omega), if_neg (by omega)]
    · simp only [AHeap.find, AHeap.set_length, ih]
theorem AHeap.find_append {G H : AHeap} {i : Nat} (h : i < H.length) : AHeap.find (G ++ H) i = AHeap.find H i := by
  induction G with
  | nil => rfl
  | cons b r ih => rw [List.cons_append, AHeap.find_cons (by simp; omega), ih]

abbrev Phi := Nat → Option Nat

def Own (φ : Phi) (H : AHeap) (b : Nat) : Prop := ∃ id blk, φ id = some b ∧ AHeap.find H id = some blk

def cget (v : Value) : Nat → Option Value := fun i => v.cells[i]?
def memAt (w : World) (b off : Nat) : Nat → Option Value := fun i => w.cell? ⟨b, off + i, none⟩

def okA : AV → Value → Prop
  | .agg cs, u => ∃ us, u = .agg us ∧ us.size = cs.length
  | .tup _, u => ∃ us, u = .tuple us
  | .top, _ => True
  | _, u => u.oneCell' = true

mutual
/-- What is read cell by cell is this value. -/
def R (φ : Phi) (O : Nat → Prop) (w : World) : AV → (Nat → Option Value) → Prop
  | .sc v, g => g 0 = some v
  | .lst k xs room, g => ∃ a c, g 0 = some (.slice a xs.length c) ∧ xs.length ≤ c ∧ c ≤ maxLen ∧ (a = none → c = 0) ∧
      (0 < xs.length → ∃ b off, a = some ⟨b, off, none⟩ ∧ ¬ O b ∧ b < w.heap.size ∧ Rl φ O w b k xs off) ∧ Rm φ O w k xs.length a c room
  | .vec k id off n c, g => ∃ b c' cur e fr, φ id = some b ∧ g 0 = some (.slice (some ⟨b, off * k, none⟩) n c') ∧ n ≤ c' ∧ c' ≤ maxLen ∧ (∀ m, c = some m → c' = m) ∧
      w.heap[b]? = some (.cells cur e fr) ∧ cur.size = (off + c') * k
  | .ptr k id j f, g => ∃ b, φ id = some b ∧ g 0 = some (.pointer (some ⟨b, j * k + f, none⟩))
  | .lp x f, g => ∃ b off, g 0 = some (.pointer (some ⟨b, off + f, none⟩)) ∧ ¬ O b ∧ b < w.heap.size ∧ (x.isAgg = false → ∃ u, memAt w b off 0 = some u ∧ u.oneCell' = true) ∧ R φ O w x (memAt w b off)
  | .agg cs, g => Rs φ O w cs g
  | .tup vs, g => ∃ us, g 0 = some (.tuple us) ∧ Rt φ O w vs us.toList
  | .fn f first caps, g => ∃ us ws, g 0 = some (.func f us ws) ∧ Rt φ O w first us.toList ∧ Rt φ O w caps ws.toList
  | .ifc t x, g => ∃ u, g 0 = some (.iface t u) ∧ okA x u ∧ R φ O w x (cget u)
  | .ub, g => ∃ b, g 0 = some (.bool b)
  | .top, _ => True
/-- What is known to stand behind a list. -/
def Rm (φ : Phi) (O : Nat → Prop) (w : World) (k n : Nat) (a : Option Addr) (c : Nat) : Option (List AV) → Prop
  | none => True
  | some ys => c = n + ys.length ∧ (0 < ys.length → ∃ b off, a = some ⟨b, off, none⟩ ∧ ¬ O b ∧ b < w.heap.size ∧ Rl φ O w b k ys (off + n * k))
/-- Elements in memory, one behind the other. -/
def Rl (φ : Phi) (O : Nat → Prop) (w : World) (b k : Nat) : List AV → Nat → Prop
  | [], _ => True
  | x :: r, off => x.ncells = k ∧ (x.isAgg = false → ∃ u, memAt w b off 0 = some u ∧ u.oneCell' = true) ∧ R φ O w x (memAt w b off) ∧ Rl φ O w b k r (off + k)
/-- Cells, one behind the other. -/
def Rs (φ : Phi) (O : Nat → Prop) (w : World) : List AV → (Nat → Option Value) → Prop
  | [], _ => True
  | x :: r, g => x.isAgg = false ∧ R φ O w x g ∧ (∃ u, g 0 = some u ∧ u.oneCell' = true) ∧ Rs φ O w r (fun i => g (i + 1))
/-- Values, one by one. -/
def Rt (φ : Phi) (O : Nat → Prop) (w : World) : List AV → List Value → Prop
  | [], us => us = []
  | x :: r, us => ∃ v s, us = v :: s ∧ okA x v ∧ R φ O w x (cget v) ∧ Rt φ O w r s
end

def VR (φ : Phi) (O : Nat → Prop) (w : World) (x : AV) (v : Value) : Prop := okA x v ∧ R φ O w x (cget v)

mutual
/-- The own blocks that a value names are all so. -/
def AV.ids (ok : Nat → Prop) : AV → Prop
  | .sc _ => True
  | .lst _ xs room => AV.idsL ok xs ∧ AV.idsM ok room
  | .vec _ id _ _ _ => ok id
  | .ptr _ id _ _ => ok id
  | .lp x _ => AV.ids ok x
  | .agg cs => AV.idsL ok cs
  | .tup vs => AV.idsL ok vs
  | .fn _ first caps => AV.idsL ok first ∧ AV.idsL ok caps
  | .ifc _ x => AV.ids ok x
  | .ub => True
  | .top => True
def AV.idsM (ok : Nat → Prop) : Option (List AV) → Prop
  | none => True
  | some ys => AV.idsL ok ys
def AV.idsL (ok : Nat → Prop) : List AV → Prop
  | [] => True
  | x :: r => AV.ids ok x ∧ AV.idsL ok r
end

theorem AV.idsL_iff {ok : Nat → Prop} : ∀ {l : List AV}, AV.idsL ok l ↔ ∀ x ∈ l, AV.ids ok x
  | [] => by simp [AV.idsL]
  | x :: r => by simp [AV.idsL, AV.idsL_iff (l := r)]

mutual
theorem AV.ids_mono {p q : Nat → Prop} (h : ∀ i, p i → q i) : ∀ (x : AV), x.ids p → x.ids q
  | .sc _, _ => trivial
  | .lst _ xs none, hx => ⟨AV.idsL_mono h xs hx.1, trivial⟩
  | .lst _ xs (some ys), hx => ⟨AV.idsL_mono h xs hx.1, AV.idsL_mono h ys hx.2⟩
  | .vec .., hx => h _ hx
  | .ptr .., hx => h _ hx
  | .lp x _, hx => AV.ids_mono h x hx
  | .agg cs, hx => AV.idsL_mono h cs hx
  | .tup vs, hx => AV.idsL_mono h vs hx
  | .fn _ a b, hx => ⟨AV.idsL_mono h a hx.1, AV.idsL_mono h b hx.2⟩
  | .ifc _ x, hx => AV.ids_mono h x hx
  | .ub, _ => trivial
  | .top, _ => trivial
theorem AV.idsL_mono {p q : Nat → Prop} (h : ∀ i, p i → q i) : ∀ (l : List AV), AV.idsL p l → AV.idsL q l
  | [], _ => trivial
  | x :: r, hx => ⟨AV.ids_mono h x hx.1, AV.idsL_mono h r hx.2⟩
end
mutual
theorem AV.ids_true : ∀ (x : AV), x.ids (fun _ => True)
  | .sc _ => trivial
  | .lst _ xs none => ⟨AV.idsL_true xs, trivial⟩
  | .lst _ xs (some ys) => ⟨AV.idsL_true xs, AV.idsL_true ys⟩
  | .vec .. => trivial
  | .ptr .. => trivial
  | .lp x _ => AV.ids_true x
  | .agg cs => AV.idsL_true cs
  | .tup vs => AV.idsL_true vs
  | .fn _ a b => ⟨AV.idsL_true a, AV.idsL_true b⟩
  | .ifc _ x => AV.ids_true x
  | .ub => trivial
  | .top => trivial
theorem AV.idsL_true : ∀ (l : List AV), AV.idsL (fun _ => True) l
  | [] => trivial
  | x :: r => ⟨AV.ids_true x, AV.idsL_true r⟩
end

/-- From one world to a later one: own blocks that the values name go on; what is not own stays, and stays not own. -/
structure Later (ok : Nat → Prop) (φ φ' : Phi) (O O' : Nat → Prop) (w w' : World) : Prop where
  map : ∀ id b, ok id → φ id = some b → φ' id = some b
  size : w.heap.size ≤ w'.heap.size
  own : ∀ b, b < w.heap.size → ¬ O b → ¬ O' b
  same : ∀ b, b < w.heap.size → ¬ O b → w'.heap[b]? = w.heap[b]?
  shape : ∀ b, b < w.heap.size → w'.shape? b = w.shape? b

theorem heap_lt {w : World} {b : Nat} {o : Obj} (h : w.heap[b]? = some o) : b < w.heap.size := (Array.getElem?_eq_some_iff.1 h).1

theorem Later.cells {ok : Nat → Prop} {φ φ' : Phi} {O O' : Nat → Prop} {w w' : World} (h : Later ok φ φ' O O' w w') {b : Nat} {cur : Array Value} {e : TypeId} {fr : Nat × Nat} (hb : w.heap[b]? = some (.cells cur e fr)) :
    ∃ cur' fr', w'.heap[b]? = some (.cells cur' e fr') ∧ cur'.size = cur.size := by
  have hs := h.shape b (heap_lt hb)
  unfold World.shape? at hs
  rw [hb] at hs
  simp only at hs
  split at hs
  · rename_i c e' fr' hh
    simp at hs
    exact ⟨c, fr', by rw [hh, hs.1], hs.2⟩
  · simp at hs

mutual
theorem R_later {ok : Nat → Prop} {φ φ' : Phi} {O O' : Nat → Prop} {w w' : World} (h : Later ok φ φ' O O' w w') :
    ∀ (x : AV) (g g' : Nat → Option Value), x.ids ok → (∀ i v, g i = some v → g' i = some v) → R φ O w x g → R φ' O' w' x g'
  | .sc v, g, g', _, hg, hr => hg _ _ hr
  | .lst k xs room, g, g', hi, hg, hr => by
    obtain ⟨a, c, h1, h2, h3, h4, h5, h6⟩ := hr
    refine ⟨a, c, hg _ _ h1, h2, h3, h4, fun hn => ?_, ?_⟩
    · obtain ⟨b, off, ha, ho, hb, hl⟩ := h5 hn
      exact ⟨b, off, ha, h.own b hb ho, Nat.lt_of_lt_of_le hb h.size, Rl_later h b (h.same b hb ho) k xs off hi.1 hl⟩
    · cases room with
      | none => trivial
      | some ys =>
        refine ⟨h6.1, fun hn => ?_⟩
        obtain ⟨b, off, ha, ho, hb, hl⟩ := h6.2 hn
        exact ⟨b, off, ha, h.own b hb ho, Nat.lt_of_lt_of_le hb h.size, Rl_later h b (h.same b hb ho) k ys _ hi.2 hl⟩
  | .vec k id off n c, g, g', hi, hg, hr => by
    obtain ⟨b, c', cur, e, fr, h1, h2, h3, h4, h5, h6, h7⟩ := hr
    obtain ⟨cur', fr', h8, h9⟩ := h.cells h6
    exact ⟨b, c', cur', e, fr', h.map id b hi h1, hg _ _ h2, h3, h4, h5, h8, by rw [h9]; exact h7⟩
  | .ptr k id j f, g, g', hi, hg, hr => by
    obtain ⟨b, h1, h2⟩ := hr
    exact ⟨b, h.map id b hi h1, hg _ _ h2⟩
  | .lp x f, g, g', hi, hg, hr => by
    obtain ⟨b, off, h1, ho, hb, h3, h2⟩ := hr
    have hm : ∀ i v, memAt w b off i = some v → memAt w' b off i = some v := fun i v hv => by
      unfold memAt at hv ⊢
      rw [World.cell?_of_block (h.same b hb ho)]
      exact hv
    refine ⟨b, off, hg _ _ h1, h.own b hb ho, Nat.lt_of_lt_of_le hb h.size, fun hx => ?_, R_later h x _ _ hi hm h2⟩
    obtain ⟨u, h4, h5⟩ := h3 hx
    exact ⟨u, hm _ _ h4, h5⟩
  | .agg cs, g, g', hi, hg, hr => Rs_later h cs g g' hi hg hr
  | .tup vs, g, g', hi, hg, hr => by
    obtain ⟨us, h1, h2⟩ := hr
    exact ⟨us, hg _ _ h1, Rt_later h vs _ hi h2⟩
  | .fn f a b, g, g', hi, hg, hr => by
    obtain ⟨us, ws, h1, h2, h3⟩ := hr
    exact ⟨us, ws, hg _ _ h1, Rt_later h a _ hi.1 h2, Rt_later h b _ hi.2 h3⟩
  | .ifc t x, g, g', hi, hg, hr => by
    obtain ⟨u, h1, h2, h3⟩ := hr
    exact ⟨u, hg _ _ h1, h2, R_later h x _ _ hi (fun _ _ h => h) h3⟩
  | .ub, g, g', hi, hg, hr => by
    obtain ⟨b, h1⟩ := hr
    exact ⟨b, hg _ _ h1⟩
  | .top, _, _, _, _, _ => trivial
theorem Rl_later {ok : Nat → Prop} {φ φ' : Phi} {O O' : Nat → Prop} {w w' : World} (h : Later ok φ φ' O O' w w') (b : Nat) (hs : w'.heap[b]? = w.heap[b]?) (k : Nat) :
    ∀ (l : List AV) (off : Nat), AV.idsL ok l → Rl φ O w b k l off → Rl φ' O' w' b k l off
  | [], _, _, _ => trivial
  | x :: r, off, hi, hr => by
    have hm : ∀ i v, memAt w b off i = some v → memAt w' b off i = some v := fun i v hv => by
      unfold memAt at hv ⊢
      rw [World.cell?_of_block hs]
      exact hv
    refine ⟨hr.1, fun hx => ?_, R_later h x _ _ hi.1 hm hr.2.2.1, Rl_later h b hs k r _ hi.2 hr.2.2.2⟩
    obtain ⟨u, h1, h2⟩ := hr.2.1 hx
    exact ⟨u, hm _ _ h1, h2⟩
theorem Rs_later {ok : Nat → Prop} {φ φ' : Phi} {O O' : Nat → Prop} {w w' : World} (h : Later ok φ φ' O O' w w') :
    ∀ (l : List AV) (g g' : Nat → Option Value), AV.idsL ok l → (∀ i v, g i = some v → g' i = some v) → Rs φ O w l g → Rs φ' O' w' l g'
  | [], _, _, _, _, _ => trivial
  | x :: r, g, g', hi, hg, hr => ⟨hr.1, R_later h x _ _ hi.1 hg hr.2.1, by
      obtain ⟨u, h1, h2⟩ := hr.2.2.1
      exact ⟨u, hg _ _ h1, h2⟩, Rs_later h r _ _ hi.2 (fun i v => hg (i + 1) v) hr.2.2.2⟩
theorem Rt_later {ok : Nat → Prop} {φ φ' : Phi} {O O' : Nat → Prop} {w w' : World} (h : Later ok φ φ' O O' w w') :
    ∀ (l : List AV) (us : List Value), AV.idsL ok l → Rt φ O w l us → Rt φ' O' w' l us
  | [], _, _, hr => hr
  | x :: r, us, hi, hr => by
    obtain ⟨v, s, h1, h2, h3, h4⟩ := hr
    exact ⟨v, s, h1, h2, R_later h x _ _ hi.1 (fun _ _ h => h) h3, Rt_later h r _ hi.2 h4⟩
end

theorem VR_later {ok : Nat → Prop} {φ φ' : Phi} {O O' : Nat → Prop} {w w' : World} (h : Later ok φ φ' O O' w w') {x : AV} {v : Value} (hi : x.ids ok) (hr : VR φ O w x v) : VR φ' O' w' x v :=
  ⟨hr.1, R_later h x _ _ hi (fun _ _ h => h) hr.2⟩

end Go.Proofs.Ytddhdlfafaobhaa
