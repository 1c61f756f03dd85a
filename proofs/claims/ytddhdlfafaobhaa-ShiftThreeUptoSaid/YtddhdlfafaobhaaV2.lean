/- Own memory and frames: what they say of the model's world; how they go on. -/
import Derived.Test.YtddhdlfafaobhaaV1
namespace Go.Proofs.Ytddhdlfafaobhaa
open Go.RowKit
set_option linter.unusedVariables false

/-- An own block in the world. -/
def BlkR (φ : Phi) (O : Nat → Prop) (w : World) (k : ABlk) (b : Nat) : Prop :=
  ∃ cur cap, w.heap[b]? = some (.cells cur k.ty (0, 0)) ∧ cur.size = cap * k.k ∧ k.es.length ≤ cap ∧ (k.exact = true → cap = k.es.length) ∧ cap ≤ maxLen ∧ Rl φ O w b k.k k.es 0

structure Rel (φ : Phi) (H : AHeap) (w : World) : Prop where
  dom : ∀ id b, φ id = some b → id < H.length ∧ b < w.heap.size
  inj : ∀ i j b, φ i = some b → φ j = some b → (AHeap.find H i).isSome → (AHeap.find H j).isSome → i = j
  blk : ∀ id b k, φ id = some b → AHeap.find H id = some k → BlkR φ (Own φ H) w k b

structure Step (φ : Phi) (H : AHeap) (w : World) (φ' : Phi) (H' : AHeap) (w' : World) : Prop extends Later (fun _ => True) φ φ' (Own φ H) (Own φ' H') w w' where
  os : w'.os = w.os
  tape : w'.tape = w.tape
  output : w'.output = w.output
  len : H.length ≤ H'.length
  old : ∀ id, id < H.length → φ' id = φ id

theorem Later.refl {φ : Phi} {O : Nat → Prop} {w : World} {ok : Nat → Prop} : Later ok φ φ O O w w :=
  ⟨fun _ _ _ h => h, Nat.le_refl _, fun _ _ h => h, fun _ _ _ => rfl, fun _ _ => rfl⟩
theorem Later.trans {φ ψ χ : Phi} {O P Q : Nat → Prop} {u v w : World} (h : Later (fun _ => True) φ ψ O P u v) (k : Later (fun _ => True) ψ χ P Q v w) : Later (fun _ => True) φ χ O Q u w where
  map := fun id b _ e => k.map id b trivial (h.map id b trivial e)
  size := Nat.le_trans h.size k.size
  own := fun b hb ho => k.own b (Nat.lt_of_lt_of_le hb h.size) (h.own b hb ho)
  same := fun b hb ho => (k.same b (Nat.lt_of_lt_of_le hb h.size) (h.own b hb ho)).trans (h.same b hb ho)
  shape := fun b hb => (k.shape b (Nat.lt_of_lt_of_le hb h.size)).trans (h.shape b hb)

theorem Step.refl (φ : Phi) (H : AHeap) (w : World) : Step φ H w φ H w := ⟨Later.refl, rfl, rfl, rfl, Nat.le_refl _, fun _ _ => rfl⟩
theorem Step.trans {φ ψ χ : Phi} {G H K : AHeap} {u v w : World} (h : Step φ G u ψ H v) (k : Step ψ H v χ K w) : Step φ G u χ K w :=
  ⟨h.toLater.trans k.toLater, k.os.trans h.os, k.tape.trans h.tape, k.output.trans h.output, Nat.le_trans h.len k.len, fun id hid => (k.old id (Nat.lt_of_lt_of_le hid h.len)).trans (h.old id hid)⟩

theorem Step.vr {φ φ' : Phi} {H H' : AHeap} {w w' : World} (h : Step φ H w φ' H' w') {x : AV} {v : Value} (hr : VR φ (Own φ H) w x v) : VR φ' (Own φ' H') w' x v :=
  VR_later h.toLater (AV.ids_true x) hr

/-- The draw of an order changes nothing that is read. -/
theorem drew_rel {φ : Phi} {H : AHeap} {w : World} (h : Rel φ H w) : Rel φ H { w with drawn := w.drawn + 1 } := by
  have hl : Later (fun _ => True) φ φ (Own φ H) (Own φ H) w { w with drawn := w.drawn + 1 } := ⟨fun _ _ _ h => h, Nat.le_refl _, fun _ _ h => h, fun _ _ _ => rfl, fun _ _ => rfl⟩
  refine ⟨h.dom, h.inj, fun id b k h1 h2 => ?_⟩
  obtain ⟨cur, cap, a1, a2, a3, a4, a5, a6⟩ := h.blk id b k h1 h2
  exact ⟨cur, cap, a1, a2, a3, a4, a5, Rl_later hl b rfl _ _ _ (AV.idsL_true _) a6⟩
theorem drew_step (φ : Phi) (H : AHeap) (w : World) : Step φ H w φ H { w with drawn := w.drawn + 1 } :=
  ⟨⟨fun _ _ _ h => h, Nat.le_refl _, fun _ _ h => h, fun _ _ _ => rfl, fun _ _ => rfl⟩, rfl, rfl, rfl, Nat.le_refl _, fun _ _ => rfl⟩

/-- A frame's slots. -/
def FR (φ : Phi) (O : Nat → Prop) (w : World) (ts : List AV) (a : Act) : Prop :=
  a.tmps.size = ts.length ∧ ∀ i, VR φ O w (ts.getD i .top) (a.tmps.getD i undef)

theorem FR.step {φ φ' : Phi} {H H' : AHeap} {w w' : World} (h : Step φ H w φ' H' w') {ts : List AV} {a : Act} (hr : FR φ (Own φ H) w ts a) : FR φ' (Own φ' H') w' ts a :=
  ⟨hr.1, fun i => h.vr (hr.2 i)⟩

def putT (ts : List AV) (d : Option Tmp) (v : AV) : List AV :=
  match d with
  | some d => ts.set d v
  | none => ts

theorem vr_top {φ : Phi} {O : Nat → Prop} {w : World} (v : Value) : VR φ O w .top v := ⟨trivial, trivial⟩

theorem FR.put {φ : Phi} {O : Nat → Prop} {w : World} {ts : List AV} {a : Act} (hr : FR φ O w ts a) (d : Option Tmp) {x : AV} {v : Value} (hv : VR φ O w x v) : FR φ O w (putT ts d x) (a.put d v) := by
  cases d with
  | none => exact hr
  | some d =>
    refine ⟨by simp [putT, Act.put, hr.1], fun i => ?_⟩
    have h0 := hr.2 i
    simp only [putT, Act.put, List.getD, Array.getD_eq_getD_getElem?, List.getElem?_set, Array.getElem?_setIfInBounds] at h0 ⊢
    by_cases e : d = i
    · subst e
      simp only [if_true]
      by_cases hl : d < ts.length
      · have hl' : d < a.tmps.size := by rw [hr.1]; exact hl
        simp [hl, hl']
        exact hv
      · simp [hl]
        exact vr_top _
    · simp only [if_neg e]
      exact h0

/-- An operand. -/
inductive X where
  | t (n : Nat)
  | k (v : AV)

def X.ev (ts : List AV) : X → AV
  | .t n => ts.getD n .top
  | .k v => v

def ofCell : Value → Option AV
  | .slice none 0 0 => some (.lst 0 [] (some []))
  | .slice _ _ _ => none
  | .agg _ => none
  | .tuple _ => none
  | .func .. => none
  | .iface .. => none
  | v => some (.sc v)

def ofCells : List Value → Option (List AV)
  | [] => some []
  | v :: r => match ofCell v, ofCells r with
    | some x, some s => some (x :: s)
    | _, _ => none

def ofConst : Value → Option AV
  | .agg cs => (ofCells cs.toList).map .agg
  | .tuple _ => some .top
  | .func f a b => if a.isEmpty && b.isEmpty then some (.fn f [] []) else none
  | v => ofCell v

def ofX : Operand → Option X
  | .tmp t => some (.t t)
  | .const v => (ofConst v).map .k
  | .global g => some (.k (.sc (.pointer (some ⟨g, 0, none⟩))))
  | .func f => some (.k (.fn (.func f) [] []))

theorem ofCell_spec {φ : Phi} {O : Nat → Prop} {w : World} {v : Value} {x : AV} (h : ofCell v = some x) :
    x.isAgg = false ∧ v.oneCell' = true ∧ okA x v ∧ ∀ g : Nat → Option Value, g 0 = some v → R φ O w x g := by
  unfold ofCell at h
  split at h
  · cases h
    exact ⟨rfl, rfl, rfl, fun g hg => ⟨none, 0, hg, Nat.le_refl _, by simp, fun _ => rfl, fun h => by simp at h, rfl, fun h => by simp at h⟩⟩
  all_goals first
    | (simp at h; done)
    | skip
  rename_i h1 h2 h3 h4 h5 h6
  cases h
  have hv : v.oneCell' = true := by
    cases v <;> first | rfl | (exact absurd rfl (h3 _)) | (exact absurd rfl (h4 _))
  exact ⟨rfl, hv, hv, fun g hg => hg⟩

theorem ofCells_spec {φ : Phi} {O : Nat → Prop} {w : World} : ∀ {l : List Value} {xs : List AV}, ofCells l = some xs →
    xs.length = l.length ∧ ∀ g : Nat → Option Value, (∀ i, g i = l[i]?) → Rs φ O w xs g
  | [], xs, h => by
    simp [ofCells] at h
    subst h
    exact ⟨rfl, fun _ _ => trivial⟩
  | v :: r, xs, h => by
    unfold ofCells at h
    split at h
    · rename_i x s h1 h2
      cases h
      obtain ⟨a1, a2, a3, a4⟩ := ofCell_spec (φ := φ) (O := O) (w := w) h1
      obtain ⟨b1, b2⟩ := ofCells_spec (φ := φ) (O := O) (w := w) h2
      exact ⟨by simp [b1], fun g hg => ⟨a1, a4 g (by simpa using hg 0), ⟨v, by simpa using hg 0, a2⟩, b2 _ fun i => by simpa using hg (i + 1)⟩⟩
    · simp at h

theorem ofConst_spec {φ : Phi} {O : Nat → Prop} {w : World} {v : Value} {x : AV} (h : ofConst v = some x) : VR φ O w x v := by
  unfold ofConst at h
  split at h
  · rename_i cs
    cases hc : ofCells cs.toList with
    | none => rw [hc] at h; simp at h
    | some xs =>
      rw [hc] at h
      simp at h
      subst h
      obtain ⟨b1, b2⟩ := ofCells_spec (φ := φ) (O := O) (w := w) hc
      exact ⟨⟨cs, rfl, by simp [b1]⟩, b2 _ fun i => by simp [cget, Value.cells]⟩
  · cases h
    exact vr_top _
  · rename_i f a b
    split at h
    · rename_i he
      simp at he
      obtain ⟨rfl, rfl⟩ := he
      cases h
      exact ⟨rfl, ⟨#[], #[], rfl, rfl, rfl⟩⟩
    · simp at h
  · obtain ⟨a1, a2, a3, a4⟩ := ofCell_spec (φ := φ) (O := O) (w := w) h
    refine ⟨a3, a4 _ ?_⟩
    cases v <;> first | rfl | (simp [Value.oneCell'] at a2)

theorem ofX_spec {φ : Phi} {O : Nat → Prop} {w : World} {ts : List AV} {a : Act} (hr : FR φ O w ts a) {o : Operand} {x : X} (h : ofX o = some x) : VR φ O w (x.ev ts) (a.eval o) := by
  cases o with
  | tmp t => cases h; exact hr.2 t
  | const v =>
    simp [ofX] at h
    obtain ⟨y, h1, h2⟩ := h
    subst h2
    exact ofConst_spec h1
  | global g => cases h; exact ⟨rfl, rfl⟩
  | func f => cases h; exact ⟨rfl, ⟨#[], #[], rfl, rfl, rfl⟩⟩

end Go.Proofs.Ytddhdlfafaobhaa
