/- Reading: typed data that came in, as abstract values. Nothing of the program is named here. -/
import Derived.Test.YtddhdlfafaobhaaV24
import Derived.ChangeOld
import Derived.Below
import Derived.Carry
import Derived.OpenShut
namespace Go.Proofs.Ytddhdlfafaobhaa
open Go.RowKit
set_option linter.unusedVariables false
set_option linter.unusedSimpArgs false

def phi0 : Phi := fun _ => none
abbrev O0 : Nat → Prop := Own phi0 []
theorem own0 {b : Nat} : ¬ Own phi0 [] b := by rintro ⟨id, blk, h, _⟩; simp [phi0] at h
theorem rel0 (w : World) : Rel phi0 [] w := ⟨fun id b h => by simp [phi0] at h, fun i j b h => by simp [phi0] at h, fun id b k h => by simp [phi0] at h⟩

section
variable {φ : Phi} {O : Nat → Prop} {w : World}
theorem Rs_mono {l : List AV} {g g' : Nat → Option Value} (h : ∀ i v, g i = some v → g' i = some v) (hr : Rs φ O w l g) : Rs φ O w l g' :=
  Rs_later (ok := fun _ => True) Later.refl l g g' (AV.idsL_true l) h hr
theorem Rs_app {l m : List AV} : ∀ {g : Nat → Option Value}, Rs φ O w l g → Rs φ O w m (fun i => g (l.length + i)) → Rs φ O w (l ++ m) g := by
  induction l with
  | nil => intro g _ h; simpa using h
  | cons x r ih =>
    intro g h1 h2
    refine ⟨h1.1, h1.2.1, h1.2.2.1, ih h1.2.2.2 ?_⟩
    refine Rs_mono (fun i v hv => ?_) h2
    rw [← hv]
    show g _ = g _
    congr 1
    simp only [List.length_cons]
    omega
theorem Rs_one {x : AV} {g : Nat → Option Value} (ha : x.isAgg = false) {u : Value} (hu : g 0 = some u) (h1 : u.oneCell' = true) (hr : R φ O w x g) : Rs φ O w x.cells g := by
  have : x.cells = [x] := by cases x <;> first | rfl | (simp [AV.isAgg] at ha)
  rw [this]
  exact ⟨ha, hr, ⟨u, hu, h1⟩, trivial⟩
theorem Rl_of_nth {b k : Nat} : ∀ {l : List AV} {off : Nat}, (∀ i x, l[i]? = some x → x.ncells = k ∧ Rs φ O w x.cells (memAt w b (off + i * k))) → Rl φ O w b k l off
  | [], _, _ => trivial
  | x :: r, off, h => by
    obtain ⟨h1, h2⟩ := h 0 x rfl
    have h3 := Rs_head (r := []) (by rw [List.append_nil]; exact h2)
    simp only [Nat.zero_mul, Nat.add_zero] at h3
    refine ⟨h1, h3.2, h3.1, Rl_of_nth fun i y hy => ?_⟩
    have := h (i + 1) y (by simpa using hy)
    rw [Nat.add_mul, Nat.one_mul, Nat.add_comm (i * k) k, ← Nat.add_assoc] at this
    exact this
end

/-- Two lists, element by element. -/
inductive All2 {α β : Type} (p : α → β → Prop) : List α → List β → Prop where
  | nil : All2 p [] []
  | cons {a : α} {b : β} {r : List α} {s : List β} : p a b → All2 p r s → All2 p (a :: r) (b :: s)
theorem All2.length {α β : Type} {p : α → β → Prop} {l : List α} {m : List β} (h : All2 p l m) : l.length = m.length := by
  induction h with
  | nil => rfl
  | cons _ _ ih => simp [ih]
theorem All2.of_nth {α β : Type} {p : α → β → Prop} : ∀ {l : List α} {m : List β}, l.length = m.length → (∀ (i : Nat) (a : α) (b : β), l[i]? = some a → m[i]? = some b → p a b) → All2 p l m
  | [], [], _, _ => .nil
  | [], _ :: _, h, _ => by simp at h
  | _ :: _, [], h, _ => by simp at h
  | a :: r, b :: s, h, hp => .cons (hp 0 a b rfl rfl) (All2.of_nth (by simpa using h) fun i x y hx hy => hp (i + 1) x y (by simpa using hx) (by simpa using hy))
theorem All2.mono {α β : Type} {p q : α → β → Prop} (hq : ∀ a b, p a b → q a b) {l : List α} {m : List β} (h : All2 p l m) : All2 q l m := by
  induction h with
  | nil => exact .nil
  | cons h1 _ ih => exact .cons (hq _ _ h1) ih

theorem list_of {α : Type} {p : Nat → α → Prop} : ∀ (n : Nat), (∀ i, i < n → ∃ a, p i a) → ∃ l : List α, l.length = n ∧ ∀ i a, l[i]? = some a → p i a
  | 0, _ => ⟨[], rfl, fun i a h => by simp at h⟩
  | n + 1, h => by
    obtain ⟨l, h1, h2⟩ := list_of n fun i hi => h i (by omega)
    obtain ⟨a, ha⟩ := h n (by omega)
    refine ⟨l ++ [a], by simp [h1], fun i x hx => ?_⟩
    by_cases e : i < l.length
    · rw [List.getElem?_append_left e] at hx
      exact h2 i x hx
    · rw [List.getElem?_append_right (by omega)] at hx
      have : i - l.length = 0 := by
        have := (List.getElem?_eq_some_iff.1 hx).1
        simp at this
        omega
      rw [this] at hx
      simp at hx
      subst hx
      have : i = n := by omega
      rw [this]
      exact ha

section
variable {Hh : Type} {enc : TypeId × Value → Hh} {P : Program} {w : World} {n : Nat} {t : TypeId}

/-- What is read at a type is such a value. -/
def Rdr (enc : TypeId × Value → Hh) (P : Program) (w : World) (n : Nat) (t : TypeId) {α : Type} (en : α → AV) (good : α → DataW Hh → Prop) : Prop :=
  ∀ cs d ps, DataW.trod enc P w 0 (fun _ => true) true n t cs = some (d, ps) → ∃ a, cs.length = (en a).ncells ∧ Rs phi0 O0 w (en a).cells (fun i => cs[i]?) ∧ good a d

/-- Fields, one behind the other. -/
def FRdr (enc : TypeId × Value → Hh) (P : Program) (w : World) (n : Nat) (off : Nat) (fs : List Field) {α : Type} (en : α → List AV) (good : α → List (DataW Hh) → Prop) : Prop :=
  ∀ (cs : List Value) (xs : List (DataW Hh × List MemPlace)), xs.length = fs.length → (∀ (i : Nat) (f : Field), fs[i]? = some f → DataW.trod enc P w 0 (fun _ => true) true n f.type ((cs.drop f.offset).take (P.cellsOf f.type)) = xs[i]?) →
    ∃ a, Rs phi0 O0 w (en a) (fun i => cs[off + i]?) ∧ good a (xs.map (·.1))

theorem Rdr.zero {α : Type} {en : α → AV} {good : α → DataW Hh → Prop} : Rdr enc P w 0 t en good := fun cs d ps h => by simp [DataW.trod] at h

theorem Rdr.map {α β : Type} {en : α → AV} {good : α → DataW Hh → Prop} (h : Rdr enc P w n t en good) (f : α → β) {en' : β → AV} {good' : β → DataW Hh → Prop} (he : ∀ a d, good a d → en' (f a) = en a ∧ good' (f a) d) : Rdr enc P w n t en' good' := by
  intro cs d ps hd
  obtain ⟨a, h1, h2, h3⟩ := h cs d ps hd
  obtain ⟨h4, h5⟩ := he a d h3
  exact ⟨f a, by rw [h4]; exact h1, by rw [h4]; exact h2, h5⟩

theorem Rdr.int {k : IntKind} (ht : P.underlying t = some (.int k)) : Rdr enc P w n t (fun i : Int => .sc (.int k i)) (fun i d => d = .lit (.int k i) ∧ (Lit.int k i).wf = true) := by
  intro cs d ps h
  obtain ⟨a, rfl, h2, h3⟩ := DataW.trod_int ht h
  cases h2
  exact ⟨a, rfl, Rs_one rfl (u := .int k a) rfl rfl rfl, rfl, h3⟩
theorem Rdr.bool (ht : P.underlying t = some .bool) : Rdr enc P w n t (fun i : Bool => .sc (.bool i)) (fun i d => d = .lit (.bool i)) := by
  intro cs d ps h
  obtain ⟨a, rfl, h2⟩ := DataW.trod_bool ht h
  cases h2
  exact ⟨a, rfl, Rs_one rfl (u := .bool a) rfl rfl rfl, rfl⟩
theorem Rdr.str (ht : P.underlying t = some .string) : Rdr enc P w n t (fun s : ByteArray => .sc (.string s)) (fun s d => d = .lit (.string s.data.toList)) := by
  intro cs d ps h
  obtain ⟨a, rfl, h2, _⟩ := DataW.trod_string ht h
  cases h2
  exact ⟨a, rfl, Rs_one rfl (u := .string a) rfl rfl rfl, rfl⟩

theorem FRdr.nil {off : Nat} : FRdr enc P w n off [] (fun _ : Unit => []) (fun _ l => l = []) := fun cs xs hl _ => ⟨(), trivial, by
  have : xs = [] := List.length_eq_zero_iff.1 hl
  rw [this]; rfl⟩
theorem FRdr.cons {off k : Nat} {f : Field} {fs : List Field} {α β : Type} {e1 : α → AV} {g1 : α → DataW Hh → Prop} {e2 : β → List AV} {g2 : β → List (DataW Hh) → Prop} (ho : f.offset = off) (hk : P.cellsOf f.type = k) (hn : ∀ a, (e1 a).ncells = k)
    (h1 : Rdr enc P w n f.type e1 g1) (h2 : FRdr enc P w n (off + k) fs e2 g2) : FRdr enc P w n off (f :: fs) (fun p : α × β => (e1 p.1).cells ++ e2 p.2) (fun p l => ∃ d r, l = d :: r ∧ g1 p.1 d ∧ g2 p.2 r) := by
  intro cs xs hl hf
  cases xs with
  | nil => simp at hl
  | cons x xs =>
    have hx := hf 0 f rfl
    rw [hk, ho] at hx
    obtain ⟨a, a1, a2, a3⟩ := h1 _ x.1 x.2 hx
    obtain ⟨b, b1, b2⟩ := h2 cs xs (by simpa using hl) fun i g hg => by
      have := hf (i + 1) g (by simpa using hg)
      simpa using this
    refine ⟨(a, b), Rs_app (Rs_mono (fun i v hv => ?_) a2) ?_, x.1, _, rfl, a3, b2⟩
    · rw [List.getElem?_take] at hv
      split at hv
      · rw [List.getElem?_drop] at hv; exact hv
      · simp at hv
    · have e : (e1 a).cells.length = k := by rw [← AV.ncells_eq, hn]
      rw [e]
      refine Rs_mono (fun i v hv => ?_) b1
      rw [← hv]
      show cs[off + (k + i)]? = cs[off + k + i]?
      rw [Nat.add_assoc]

theorem Rdr.struct {fs : Array Field} {α : Type} {en : α → List AV} {good : α → List (DataW Hh) → Prop} (ht : P.underlying t = some (.struct fs)) (hl : ∀ a, (en a).length = P.cellsOf t) (h : FRdr enc P w n 0 fs.toList en good) :
    Rdr enc P w (n + 1) t (fun a => .agg (en a)) (fun a d => ∃ l, d = .agg l ∧ good a l) := by
  intro cs d ps hd
  obtain ⟨xs, m, hm, hx, hc, hs, hf⟩ := DataW.trod_struct ht hd
  have hmn : m = n := by omega
  subst hmn
  obtain ⟨a, a1, a2⟩ := h cs xs (by simpa using hs) fun i f hi => hf i f (by simpa using hi)
  cases hx
  refine ⟨a, ?_, ?_, _, rfl, a2⟩
  · show cs.length = (en a).length
    rw [hl, hc]
  · refine Rs_mono (fun i v hv => ?_) a1
    simpa using hv

theorem Rdr.slice {e : TypeId} {k : Nat} {α : Type} {en : α → AV} {good : α → DataW Hh → Prop} (ht : P.underlying t = some (.slice e)) (hk : P.cellsOf e = k) (h0 : 0 < k) (hn : ∀ a, (en a).ncells = k) (h : Rdr enc P w n e en good) :
    Rdr enc P w (n + 1) t (fun l : List α => .lst k (l.map en) none) (fun l d => (d = .nil ∧ l = []) ∨ ∃ ds r, d = .slice ds r ∧ All2 good l ds) := by
  intro cs d ps hd
  rcases DataW.trod_slice ht hd with ⟨rfl, h2⟩ | ⟨a, len, cap, elems, rest, m, hm, rfl, hx, _, hlc, hcm, hel, hnth, _, _⟩
  · cases h2
    exact ⟨[], rfl, Rs_one rfl (u := .slice none 0 0) rfl rfl ⟨none, 0, rfl, Nat.le_refl _, by decide, fun _ => rfl, fun h => by simp at h, trivial⟩, .inl ⟨rfl, rfl⟩⟩
  · have hmn : m = n := by omega
    subst hmn
    have hk' : ∀ i, i < len → ∃ x : α, ∃ y cs', elems[i]? = some y ∧ w.cells? 0 (a.add (i * k)) k = some cs' ∧ cs'.length = (en x).ncells ∧ Rs phi0 O0 w (en x).cells (fun j => cs'[j]?) ∧ good x y.1 := by
      intro i hi
      have := hnth i hi
      rw [hk] at this
      have he : ∃ y, elems[i]? = some y := ⟨elems[i]'(by omega), by simp [hel, hi]⟩
      obtain ⟨y, hy⟩ := he
      rw [hy] at this
      obtain ⟨cs', c1, c2⟩ := Option.bind_eq_some_iff.1 this
      obtain ⟨x, x1, x2, x3⟩ := h cs' y.1 y.2 c2
      exact ⟨x, y, cs', hy, c1, x1, x2, x3⟩
    obtain ⟨l, l1, l2⟩ := list_of len hk'
    cases hx
    refine ⟨l, rfl, Rs_one rfl (u := .slice (some a) len cap) rfl rfl ⟨some a, cap, by simp [l1], by simpa [l1] using hlc, hcm, fun h => by simp at h, fun hp => ?_, trivial⟩, .inr ⟨_, _, rfl, All2.of_nth (by simp [l1, hel]) fun i x y hx hy => ?_⟩⟩
    · have hp' : 0 < len := by simpa [l1] using hp
      obtain ⟨x0, y0, cs0, _, c0, c1, _⟩ := hk' 0 hp'
      obtain ⟨b, off, spot⟩ := a
      obtain ⟨_, _, g2⟩ := World.cells?_some c0
      have hs : spot = none := by
        have hc : w.cell? ((⟨b, off, spot⟩ : Addr).add (0 * k)) = cs0[0]? := by
          have := g2 0 h0
          simpa [Addr.add] using this
        rw [hn] at c1
        rw [List.getElem?_eq_getElem (by omega : 0 < cs0.length)] at hc
        have := World.cell?_spot hc
        simp only [Addr.add] at this
        split at this <;> simp_all
      subst hs
      refine ⟨b, off, rfl, own0, ?_, Rl_of_nth fun i x hx => ?_⟩
      · have := World.cells?_block c0 h0
        simpa [Addr.add] using this
      · rw [List.getElem?_map] at hx
        obtain ⟨z, hz, rfl⟩ := Option.map_eq_some_iff.1 hx
        obtain ⟨y, cs', z1, z2, z3, z4, z5⟩ := l2 i z hz
        obtain ⟨_, q1, q2⟩ := World.cells?_some z2
        refine ⟨hn z, Rs_mono (fun j v hv => ?_) z4⟩
        have hj : j < k := by
          have := (List.getElem?_eq_some_iff.1 hv).1
          rw [z3, hn] at this
          exact this
        have := q2 j hj
        rw [addr_add, addr_add] at this
        unfold memAt
        rw [this]
        exact hv
    · obtain ⟨y', cs', z1, z2, z3, z4, z5⟩ := l2 i x hx
      rw [List.getElem?_map, z1] at hy
      cases hy
      exact z5

/-- An argument, as it came in. -/
theorem arg_one {α : Type} {en : α → AV} {good : α → DataW Hh → Prop} (hr : ∀ n, Rdr enc P w n t en good) {v : Value} {d : DataW Hh} {ps : List MemPlace} (h : DataW.Trod enc P w 0 (fun _ => true) true t v d ps) (ha : ∀ a, (en a).isAgg = false) (ht : ∀ a, (en a).isTop = false) (hv : v.oneCell' = true) :
    ∃ a, VR phi0 O0 w (en a) v ∧ good a d := by
  obtain ⟨m, hm⟩ := h
  obtain ⟨a, h1, h2, h3⟩ := hr m _ _ _ hm
  refine ⟨a, ⟨?_, ?_⟩, h3⟩
  · have e1 := ha a
    have e2 := ht a
    cases he : en a <;> rw [he] at e1 e2 <;> first | exact hv | (simp [AV.isAgg] at e1; done) | (simp [AV.isTop] at e2; done)
  · have := (Rs_head (r := []) (by rw [List.append_nil]; exact h2)).1
    have e : (fun i => v.cells.toList[i]?) = cget v := by funext i; simp [cget]
    rwa [e] at this
theorem arg_agg {α : Type} {en : α → List AV} {good : α → DataW Hh → Prop} (hr : ∀ n, Rdr enc P w n t (fun a => .agg (en a)) good) {cs : Array Value} {d : DataW Hh} {ps : List MemPlace} (h : DataW.Trod enc P w 0 (fun _ => true) true t (.agg cs) d ps) :
    ∃ a, VR phi0 O0 w (.agg (en a)) (.agg cs) ∧ good a d := by
  obtain ⟨m, hm⟩ := h
  obtain ⟨a, h1, h2, h3⟩ := hr m _ _ _ hm
  refine ⟨a, ⟨⟨cs, rfl, by simpa [Value.cells, AV.ncells] using h1⟩, ?_⟩, h3⟩
  have := (Rs_head (x := .agg (en a)) (r := []) (by rw [List.append_nil]; exact h2)).1
  have e : (fun i => (Value.agg cs).cells.toList[i]?) = cget (.agg cs) := by funext i; simp [cget]
  rwa [e] at this
end

/-- What the arguments held, they hold. -/
theorem trodAll_below {Hh : Type} {enc : TypeId × Value → Hh} {P : Program} {W W' : World} (hl : laidOutB P = true) (hb : Below W.heap.size W W') : ∀ {ts : List TypeId} {vs : List Value} {ds : List (DataW Hh)} {ps : List MemPlace}, (ts.all fun t => P.readableRec t && decide (t < P.types.size)) = true →
    DataW.TrodAll enc P W 0 (fun _ => true) true ts vs ds ps → DataW.TrodAll enc P W' 0 (fun b => decide (b < W.heap.size)) true ts vs ds ps
  | [], vs, ds, ps, _, h => by
    cases vs <;> cases ds <;> first | exact h | (simp [DataW.TrodAll] at h)
  | t :: ts, vs, ds, ps, hr, h => by
    obtain ⟨v, vs', d, ds', p, q, rfl, rfl, rfl, h1, h2⟩ := Go.ChangeShapes.trodAll_cons h
    simp only [List.all_cons, Bool.and_eq_true, decide_eq_true_eq] at hr
    have lt1 : ∀ x ∈ p, x.block < W.heap.size := by obtain ⟨m, hm⟩ := h1; exact DataW.trod_lt m _ _ _ hm
    exact ⟨p, q, Below.trod hl hr.1.1 hr.1.2 h1 hb lt1, trodAll_below hl hb hr.2 h2, rfl⟩

theorem below_of_step {w w' : World} {φ : Phi} (h : Step phi0 [] w φ [] w') : Below w.heap.size w w' := ⟨h.os, h.tape, h.output, h.size, fun k hk => h.same k hk own0⟩
/-- What a law's function does to its caller, told in the model's words. -/
theorem calls_of_D {P : Program} {f : FuncId} {args : List AV} {b : Bool} (h : D P f args [] (.ret (.sc (.bool b))) []) {w : World} {vs : Array Value} (ha : Rt phi0 O0 w args vs.toList) : Calls P f vs w fun e w' => e = .returned (.bool b) ∧ Below w.heap.size w w' :=
  (h.2 phi0 w vs (rel0 w) ha).mono fun e w' ⟨φ', h1, h2, h3⟩ => by
    cases e with
    | returned v => exact ⟨by rw [VR_sc h1], below_of_step h3⟩
    | panicked c => exact h1.elim
    | outgrown => exact h1.elim

/-- A law's end. -/
theorem law_post {Hh : Type} {enc : TypeId × Value → Hh} {P : Program} {f : FuncId} {fn : Func} {W : World} {args : Array Value} {ds gs : List (DataW Hh)} {before : List MemPlace} {avs : List AV} {tb : TypeId} {s : ChangeSpec} (hl : laidOutB P = true)
    (hp : (fn.params.toList.all fun t => P.readableRec t && decide (t < P.types.size)) = true) (hres : fn.resultTypes = #[tb]) (htb : P.underlying tb = some .bool)
    (hvars : s.vars = []) (hfn : s.fn Hh (ds ++ gs) = { results := [.lit (.bool true)], args := ds })
    (hW : DataW.Whole enc P fn.params.toList s.vars false W args.toList ds gs before) (ha : Rt phi0 O0 W avs args.toList) (h : D P f avs [] (.ret (.sc (.bool true))) []) :
    Calls P f args W fun e W' => ∃ v, e = .returned v ∧ s.post enc P fn false true false false W args v W' := by
  refine (calls_of_D h ha).mono fun e W' ⟨he, bel⟩ => ?_
  subst he
  have hW' := hW
  obtain ⟨p, q, hA, hV, rfl, hfz, hnd⟩ := hW
  rw [hvars] at hV
  obtain ⟨rfl, rfl⟩ := Go.ChangeShapes.trodVars_none hV
  refine ⟨_, rfl, ds, [], _, [], p, [], hW', ?_, ?_, ?_, bel.frame _, fun h => by cases h⟩
  · rw [hfn, hres]
    exact Go.ChangeShapes.trodAll_mk1 (shut_bool htb _)
  · rw [hfn]
    exact trodAll_below hl bel hp hA
  · rw [hvars, hfn]
    rfl
end Go.Proofs.Ytddhdlfafaobhaa
