/- A callee that only reads may be lent own memory, and what it lays comes on top of that. Nothing of the program is named here. -/
import Derived.Test.YtigmpablpmanpaaVC
namespace Go.Proofs.Ytigmpablpmanpaa
open Go.RowKit
set_option linter.unusedVariables false
set_option linter.unusedSimpArgs false

mutual
/-- A value, its blocks' numbers n higher. -/
def AV.up (n : Nat) : AV → AV
  | .vec k id off m c => .vec k (n + id) off m c
  | .ptr k id j f => .ptr k (n + id) j f
  | .agg cs => .agg (AV.upL n cs)
  | .tup cs => .tup (AV.upL n cs)
  | x => x
def AV.upL (n : Nat) : List AV → List AV
  | [] => []
  | x :: r => AV.up n x :: AV.upL n r
end
def ABlk.up (n : Nat) (b : ABlk) : ABlk := { b with es := AV.upL n b.es }
def AHeap.up (n : Nat) (G : AHeap) : AHeap := G.map fun b => b.map (ABlk.up n)

mutual
/-- Values that name own memory alone. -/
def AV.op : AV → Bool
  | .sc _ => true
  | .ub => true
  | .top => true
  | .lst _ [] none => true
  | .lst _ [] (some []) => true
  | .vec _ _ _ _ _ => true
  | .ptr _ _ _ _ => true
  | .agg cs => AV.opL cs
  | .tup cs => AV.opL cs
  | _ => false
def AV.opL : List AV → Bool
  | [] => true
  | x :: r => AV.op x && AV.opL r
end
def AHeap.op (G : AHeap) : Prop := ∀ id b, AHeap.find G id = some b → AV.opL b.es = true

theorem AV.upL_length {n : Nat} : ∀ {l : List AV}, (AV.upL n l).length = l.length
  | [] => rfl
  | _ :: r => by simp [AV.upL, AV.upL_length (l := r)]
theorem AV.up_isAgg {n : Nat} (x : AV) : (x.up n).isAgg = x.isAgg := by cases x <;> simp [AV.up, AV.isAgg]
theorem AV.up_ncells {n : Nat} (x : AV) : (x.up n).ncells = x.ncells := by cases x <;> simp [AV.up, AV.ncells, AV.upL_length]
theorem AV.up_okA {n : Nat} {x : AV} {u : Value} (h : okA x u) : okA (x.up n) u := by
  cases x <;> first | exact h | skip
  obtain ⟨us, h1, h2⟩ := h
  exact ⟨us, h1, by rw [h2, AV.upL_length]⟩

section
variable {φ ψ : Phi} {O O' : Nat → Prop} {w : World} {n : Nat}
mutual
theorem R_up (hm : ∀ id b, φ id = some b → ψ (n + id) = some b) : ∀ {x : AV} {g : Nat → Option Value}, x.op = true → R φ O w x g → R ψ O' w (x.up n) g
  | .sc _, _, _, h => h
  | .ub, _, _, h => h
  | .top, _, _, _ => trivial
  | .lst _ [] none, _, _, h => by
    obtain ⟨a, c, h1, h2, h3, h4, h5, h6⟩ := h
    exact ⟨a, c, h1, h2, h3, h4, fun hp => by simp at hp, trivial⟩
  | .lst _ [] (some []), _, _, h => by
    obtain ⟨a, c, h1, h2, h3, h4, h5, h6⟩ := h
    exact ⟨a, c, h1, h2, h3, h4, fun hp => by simp at hp, ⟨h6.1, fun hp => by simp at hp⟩⟩
  | .lst _ [] (some (_ :: _)), _, ho, _ => by simp [AV.op] at ho
  | .lst _ (_ :: _) _, _, ho, _ => by simp [AV.op] at ho
  | .lp _ _, _, ho, _ => by simp [AV.op] at ho
  | .fn _ _ _, _, ho, _ => by simp [AV.op] at ho
  | .ifc _ _, _, ho, _ => by simp [AV.op] at ho
  | .rcd _, _, ho, _ => by simp [AV.op] at ho
  | .vec k id off m c, _, _, h => by
    obtain ⟨b, c', cur, e, fr, v1, v2⟩ := h
    exact ⟨b, c', cur, e, fr, hm _ _ v1, v2⟩
  | .ptr k id j f, _, _, h => by
    obtain ⟨b, g1, g2⟩ := h
    exact ⟨b, hm _ _ g1, g2⟩
  | .agg cs, _, ho, h => Rs_up hm (by simpa [AV.op] using ho) h
  | .tup cs, _, ho, h => by
    obtain ⟨us, h1, h2⟩ := h
    exact ⟨us, h1, Rt_up hm (by simpa [AV.op] using ho) h2⟩
theorem Rs_up (hm : ∀ id b, φ id = some b → ψ (n + id) = some b) : ∀ {l : List AV} {g : Nat → Option Value}, AV.opL l = true → Rs φ O w l g → Rs ψ O' w (AV.upL n l) g
  | [], _, _, _ => trivial
  | x :: r, _, ho, h => by
    simp only [AV.opL, Bool.and_eq_true] at ho
    exact ⟨by rw [AV.up_isAgg]; exact h.1, R_up hm ho.1 h.2.1, h.2.2.1, Rs_up hm ho.2 h.2.2.2⟩
theorem Rt_up (hm : ∀ id b, φ id = some b → ψ (n + id) = some b) : ∀ {l : List AV} {us : List Value}, AV.opL l = true → Rt φ O w l us → Rt ψ O' w (AV.upL n l) us
  | [], _, _, h => h
  | x :: r, us, ho, h => by
    simp only [AV.opL, Bool.and_eq_true] at ho
    obtain ⟨v, s, h1, h2, h3, h4⟩ := h
    exact ⟨v, s, h1, AV.up_okA h2, R_up hm ho.1 h3, Rt_up hm ho.2 h4⟩
end
theorem Rl_up (hm : ∀ id b, φ id = some b → ψ (n + id) = some b) {b k : Nat} : ∀ {l : List AV} {off : Nat}, AV.opL l = true → Rl φ O w b k l off → Rl ψ O' w b k (AV.upL n l) off
  | [], _, _, _ => trivial
  | x :: r, off, ho, h => by
    simp only [AV.opL, Bool.and_eq_true] at ho
    exact ⟨by rw [AV.up_ncells]; exact h.1, by rw [AV.up_isAgg]; exact h.2.1, R_up hm ho.1 h.2.2.1, Rl_up hm ho.2 h.2.2.2⟩
end

theorem RE_up {φ ψ : Phi} {O O' : Nat → Prop} {w : World} {n : Nat} (hm : ∀ id b, φ id = some b → ψ (n + id) = some b) : ∀ {l : List AV} {es : List MapEntry}, AV.opL l = true → RE φ O w l es → RE ψ O' w (AV.upL n l) es
  | [], _, _, h => h
  | x :: r, _, ho, h => by
    simp only [AV.opL, Bool.and_eq_true] at ho
    obtain ⟨e, s, h1, h2, h3⟩ := h
    exact ⟨e, s, h1, ⟨AV.up_okA h2.1, R_up hm ho.1 h2.2⟩, RE_up hm ho.2 h3⟩

theorem AHeap.find_high {A H : AHeap} {i : Nat} : AHeap.find (A ++ H) (H.length + i) = AHeap.find A i := by
  induction A with
  | nil => rw [List.nil_append, AHeap.find_ge (by omega)]; rfl
  | cons b r ih =>
    simp only [List.cons_append, AHeap.find, List.length_append]
    by_cases e : i = r.length
    · rw [if_pos e, if_pos (by omega)]
    · rw [if_neg e, if_neg (by omega), ih]
theorem AHeap.up_length {n : Nat} {G : AHeap} : (AHeap.up n G).length = G.length := by simp [AHeap.up]
theorem AHeap.find_up {n : Nat} {G : AHeap} {i : Nat} : AHeap.find (AHeap.up n G) i = (AHeap.find G i).map (ABlk.up n) := by
  induction G with
  | nil => rfl
  | cons b r ih =>
    show AHeap.find (b.map (ABlk.up n) :: AHeap.up n r) i = _
    simp only [AHeap.find, AHeap.up_length]
    split
    · rfl
    · exact ih

/-- What a callee tells, and lays, that is lent own memory and reads it. -/
theorem D_viewO {P : Program} {f : FuncId} {args args' : List AV} {v : AV} {H G : AHeap} (hv : ViewL H args args') (hp : v.op = true) (hg : AHeap.op G) (h : D P f args' [] (.ret v) G) : D P f args H (.ret (v.up H.length)) (AHeap.up H.length G ++ H) := by
  refine ⟨by simp, fun φ w vs hR ha => (h.2 phi0 w vs (rel0 w) (hv.Rt hR ha)).mono fun en w' ⟨χ, h1, h2, h3⟩ => ?_⟩
  have hblk : ∀ b, b < w.heap.size → w'.heap[b]? = w.heap[b]? := fun b hb => h3.same b hb own0
  have hown : ∀ b, b < w.heap.size → ¬ Own χ G b := fun b hb => h3.own b hb own0
  let ψ : Phi := fun id => if id < H.length then φ id else χ (id - H.length)
  have p1 : ∀ id, id < H.length → ψ id = φ id := fun id hi => if_pos hi
  have p2 : ∀ id, ψ (H.length + id) = χ id := fun id => by
    show (if _ then _ else _) = _
    rw [if_neg (by omega), show H.length + id - H.length = id from by omega]
  have q1 : ∀ id, id < H.length → AHeap.find (AHeap.up H.length G ++ H) id = AHeap.find H id := fun id hi => AHeap.find_append hi
  have q2 : ∀ id, AHeap.find (AHeap.up H.length G ++ H) (H.length + id) = (AHeap.find G id).map (ABlk.up H.length) := fun id => by rw [AHeap.find_high, AHeap.find_up]
  have o1 : ∀ b, Own ψ (AHeap.up H.length G ++ H) b → Own φ H b ∨ Own χ G b := by
    rintro b ⟨id, blk, e1, e2⟩
    by_cases hi : id < H.length
    · rw [p1 id hi] at e1
      rw [q1 id hi] at e2
      exact .inl ⟨id, blk, e1, e2⟩
    · obtain ⟨j, rfl⟩ : ∃ j, id = H.length + j := ⟨id - H.length, by omega⟩
      rw [p2] at e1
      rw [q2] at e2
      cases hf : AHeap.find G j with
      | none => rw [hf] at e2; simp at e2
      | some k => exact .inr ⟨j, k, e1, hf⟩
  have hm : ∀ id b, φ id = some b → ψ id = some b := fun id b e => by rw [p1 id (hR.dom id b e).1]; exact e
  have hl : Later (fun _ => True) φ ψ (Own φ H) (Own ψ (AHeap.up H.length G ++ H)) w w' := by
    refine ⟨fun id b _ e => hm id b e, h3.size, fun b hb hn ho => ?_, fun b hb _ => hblk b hb, fun b hb => h3.shape b hb⟩
    rcases o1 b ho with e | e
    · exact hn e
    · exact hown b hb e
  have hu : ∀ id b, χ id = some b → ψ (H.length + id) = some b := fun id b e => by rw [p2]; exact e
  refine ⟨ψ, ?_, ⟨fun id b e => ?_, fun i j b e1 e2 s1 s2 => ?_, fun id b k e1 e2 => ?_⟩, ⟨hl, h3.os, h3.tape, h3.output, by simp, fun id hi => p1 id hi⟩⟩
  · cases en with
    | returned u => exact ⟨AV.up_okA h1.1, R_up hu hp h1.2⟩
    | _ => exact h1.elim
  · by_cases hi : id < H.length
    · rw [p1 id hi] at e
      have := hR.dom id b e
      have h9 := h3.size
      exact ⟨by simp; omega, by omega⟩
    · obtain ⟨j, rfl⟩ : ∃ j, id = H.length + j := ⟨id - H.length, by omega⟩
      rw [p2] at e
      have := h2.dom j b e
      exact ⟨by simp [AHeap.up_length]; omega, this.2⟩
  · by_cases hi : i < H.length
    · rw [p1 i hi] at e1
      rw [q1 i hi] at s1
      have hb := (hR.dom i b e1).2
      by_cases hj : j < H.length
      · rw [p1 j hj] at e2
        rw [q1 j hj] at s2
        exact hR.inj i j b e1 e2 s1 s2
      · obtain ⟨t, rfl⟩ : ∃ t, j = H.length + t := ⟨j - H.length, by omega⟩
        rw [p2] at e2
        rw [q2] at s2
        cases hf : AHeap.find G t with
        | none => rw [hf] at s2; simp at s2
        | some k => exact (hown b hb ⟨t, k, e2, hf⟩).elim
    · obtain ⟨s, rfl⟩ : ∃ s, i = H.length + s := ⟨i - H.length, by omega⟩
      rw [p2] at e1
      rw [q2] at s1
      by_cases hj : j < H.length
      · rw [p1 j hj] at e2
        have hb := (hR.dom j b e2).2
        cases hf : AHeap.find G s with
        | none => rw [hf] at s1; simp at s1
        | some k => exact (hown b hb ⟨s, k, e1, hf⟩).elim
      · obtain ⟨t, rfl⟩ : ∃ t, j = H.length + t := ⟨j - H.length, by omega⟩
        rw [p2] at e2
        rw [q2] at s2
        have := h2.inj s t b e1 e2 (by simpa using s1) (by simpa using s2)
        omega
  · by_cases hi : id < H.length
    · rw [p1 id hi] at e1
      rw [q1 id hi] at e2
      have hb := (hR.dom id b e1).2
      exact (hR.blk id b k e1 e2).on hl (hblk b hb)
    · obtain ⟨j, rfl⟩ : ∃ j, id = H.length + j := ⟨id - H.length, by omega⟩
      rw [p2] at e1
      rw [q2] at e2
      cases hf : AHeap.find G j with
      | none => rw [hf] at e2; simp at e2
      | some k0 =>
        rw [hf] at e2
        simp at e2
        subst e2
        rcases h2.blk j b k0 e1 hf with ⟨h0, cur, cap, a1, a2, a3, a4, a5, a6⟩ | ⟨h0, hty, ents, clock, a1, a2, a3, a4⟩ | ⟨h0, hty, r, ts, tm, e, _⟩
        · exact .inl ⟨h0, cur, cap, a1, a2, by simpa [ABlk.up, AV.upL_length] using a3, by simpa [ABlk.up, AV.upL_length] using a4, a5, Rl_up hu (hg j k0 hf) a6⟩
        · exact .inr (.inl ⟨h0, hty, ents, clock, a1, a2, a3, RE_up hu (hg j k0 hf) a4⟩)
        · have := hg j k0 hf; rw [e] at this; simp [AV.opL, AV.op] at this

theorem OwnV_up {n k id : Nat} {xs : List AV} : (OwnV k xs id).up n = OwnV k xs (n + id) := by cases xs <;> rfl
theorem OwnV_op {k id : Nat} {xs : List AV} : (OwnV k xs id).op = true := by cases xs <;> rfl
end Go.Proofs.Ytigmpablpmanpaa
