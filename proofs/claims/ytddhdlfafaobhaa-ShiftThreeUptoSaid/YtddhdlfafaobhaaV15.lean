/- Regions whose order is drawn: a general rule by an invariant; operands, and what an operation looks at. -/
import Derived.Test.YtddhdlfafaobhaaV14
namespace Go.Proofs.Ytddhdlfafaobhaa
open Go.RowKit
set_option linter.unusedVariables false
set_option linter.unusedSimpArgs false

section inv
theorem mem_ready' {ops : Array Oper} {j : Nat} {listed : Array Bool} (h : j ∈ Region.ready .any ops listed) :
    j < ops.size ∧ listed.getD j true = false ∧ ∀ o, ops[j]? = some o → ∀ e ∈ o.after.toList, Region.binds .any e = true → listed.getD e.on false = true := by
  unfold Region.ready at h
  simp only [List.mem_filter, List.mem_range, Bool.and_eq_true, Bool.not_eq_true'] at h
  obtain ⟨h1, h2, h3⟩ := h
  refine ⟨h1, h2, fun o ho e he hb => ?_⟩
  rw [ho] at h3
  simp only [Option.map_some, Option.getD_some, Array.all_eq_true_iff_forall_mem] at h3
  have := h3 e (by simpa using he)
  simpa [hb] using this

def cnt (listed : Array Bool) : Nat := listed.toList.count true

theorem cnt_set {listed : Array Bool} {i : Nat} (hi : i < listed.size) (h : listed.getD i true = false) : cnt (listed.setIfInBounds i true) = cnt listed + 1 := by
  unfold cnt
  rw [Array.toList_setIfInBounds]
  have h' : listed.toList[i]'(by simpa using hi) = false := by
    simpa [Array.getD, hi] using h
  rw [List.count_set (by simpa using hi)]
  simp [h']

theorem all_of_cnt {listed : Array Bool} (h : cnt listed = listed.size) (i : Nat) (hi : i < listed.size) : listed.getD i false = true := by
  unfold cnt at h
  rw [← Array.length_toList] at h
  have := List.count_eq_length.1 h
  have hm := this (listed.toList[i]'(by simpa using hi)) (List.getElem_mem _)
  simpa [Array.getD, hi] using hm.symm

theorem wpAny_inv {P : Program} {ops : Array Oper} {Q : Exit → Act → World → Prop} (I : Array Bool → Act → World → Prop)
    (hsz : ∀ listed a w, I listed a w → listed.size = ops.size) (hdone : ∀ listed a w, I listed a w → Region.ready .any ops listed = [] → Q .normal a w)
    (hstep : ∀ listed a w i, I listed a w → i ∈ Region.ready .any ops listed → wpOp P ops Q i (fun a' w' => I (listed.setIfInBounds i true) a' w') a w) :
    ∀ (fuel : Nat) (listed : Array Bool) (a : Act) (w : World), I listed a w → ops.size ≤ cnt listed + fuel → wpAny P .any ops Q fuel listed a w
  | 0, listed, a, w, hI, hf => by
    have h0 := hsz _ _ _ hI
    have hle : cnt listed ≤ listed.size := by unfold cnt; rw [← Array.length_toList]; exact List.count_le_length
    have hall := all_of_cnt (listed := listed) (by omega)
    have hr : Region.ready .any ops listed = [] := by
      rw [List.eq_nil_iff_forall_not_mem]
      intro i hi
      obtain ⟨h1, h2, _⟩ := mem_ready' hi
      have h1' : i < listed.size := by omega
      have := hall i h1'
      simp [Array.getD, h1'] at this h2
      rw [this] at h2
      simp at h2
    exact ⟨hr, hdone _ _ _ hI hr⟩
  | fuel + 1, listed, a, w, hI, hf => by
    refine ⟨hdone _ _ _ hI, fun i hi => ?_⟩
    obtain ⟨h1, h2, _⟩ := mem_ready' hi
    have h0 := hsz _ _ _ hI
    refine wpOp_mono (fun a' w' hI' => ?_) (hstep listed a w i hI hi)
    refine wpAny_inv I hsz hdone hstep fuel _ a' w' hI' ?_
    rw [cnt_set (by omega) h2]
    omega
end inv

/-- What an operation looks at. -/
def PO.xs : PO → List X
  | .mv x => [x]
  | .pick c a b => [c, a, b]
  | .bin _ x y => [x, y]
  | .shf _ x y => [x, y]
  | .eqB _ x y => [x, y]
  | .eqN _ x => [x]
  | .nilS _ x => [x]
  | .un _ x => [x]
  | .conv _ x => [x]
  | .nilck x => [x]
  | .faddr _ x => [x]
  | .field _ _ _ x => [x]
  | .iaddr _ x i => [x, i]
  | .iaddrA _ _ x i => [x, i]
  | .idxS x i => [x, i]
  | .idxA _ _ _ x i => [x, i]
  | .slc _ x lo hi mx => x :: (lo.toList ++ hi.toList ++ mx.toList)
  | .slcS x lo hi => x :: (lo.toList ++ hi.toList)
  | .len x => [x]
  | .lenS x => [x]
  | .mm _ x y => [x, y]
  | .ext x _ => [x]
  | .mkfn _ a b => a ++ b
  | .mkif _ x => [x]
  | .tass _ _ x => [x]
  | .build _ ps => ps.map fun (_, _, x) => x

def HO.xs : HO → List X
  | .load _ _ a => [a]
  | .alloc _ _ => []
  | .box _ _ x => [x]
  | .bsl _ _ _ _ ps => ps.map fun (_, x) => x
  | .bslV _ _ _ _ ps => ps.map fun (_, x) => x
  | .store _ a x => [a, x]
  | .mksl _ _ _ l c => [l, c]
  | .app _ _ s x => [s, x]
  | .call _ as => as
  | .callv f as => f :: as
  | .pan x => [x]

theorem bnd_congr {ev ev' : X → AV} {d : Nat} {K : Nat → Prop} {o : Option X} (h : ∀ x ∈ o.toList, ev x = ev' x) : bnd ev d o K = bnd ev' d o K := by
  cases o with
  | none => rfl
  | some x => simp only [bnd]; rw [h x (by simp)]

theorem fillA_congr {ev ev' : X → AV} {K : List AV → Prop} : ∀ {ps : List (Nat × Nat × X)} {zs : List AV}, (∀ x ∈ ps.map (fun (_, _, x) => x), ev x = ev' x) → fillA ev zs ps K = fillA ev' zs ps K
  | [], _, _ => rfl
  | (o, n, x) :: r, zs, h => by
    simp only [fillA]
    rw [h x (by simp), fillA_congr (ps := r) fun y hy => h y (by simp only [List.map_cons, List.mem_cons]; exact .inr hy)]

theorem elsA_congr {ev ev' : X → AV} {k : Nat} {K : List AV → Prop} : ∀ {ps : List (Nat × X)} {es : List AV}, (∀ x ∈ ps.map (fun (_, x) => x), ev x = ev' x) → elsA ev k es ps K = elsA ev' k es ps K
  | [], _, _ => rfl
  | (o, x) :: r, es, h => by
    simp only [elsA]
    rw [h x (by simp), elsA_congr (ps := r) fun y hy => h y (by simp only [List.map_cons, List.mem_cons]; exact .inr hy)]

theorem PO.sem_congr {ev ev' : X → AV} {K : AV → Prop} : ∀ {q : PO}, (∀ x ∈ q.xs, ev x = ev' x) → PO.sem ev K q = PO.sem ev' K q := by
  intro q h
  cases q with
  | slc k x lo hi mx =>
    have hx := h x (by simp [PO.xs])
    have hb : ∀ (o : Option X), (∀ y ∈ o.toList, y ∈ (PO.slc k x lo hi mx).xs) → ∀ d (L : Nat → Prop), bnd ev d o L = bnd ev' d o L := fun o ho d L => bnd_congr fun y hy => h y (ho y hy)
    have h1 := hb lo (fun y hy => by simp [PO.xs] at hy ⊢; exact .inr (.inl hy))
    have h2 := hb hi (fun y hy => by simp [PO.xs] at hy ⊢; exact .inr (.inr (.inl hy)))
    have h3 := hb mx (fun y hy => by simp [PO.xs] at hy ⊢; exact .inr (.inr (.inr hy)))
    simp only [PO.sem, hx, h1, h2]
    cases mx with
    | none => rfl
    | some m => simp only [h3]
  | slcS x lo hi =>
    have hx := h x (by simp [PO.xs])
    have h1 : ∀ d (L : Nat → Prop), bnd ev d lo L = bnd ev' d lo L := fun d L => bnd_congr fun y hy => h y (by simp [PO.xs] at hy ⊢; exact .inr (.inl hy))
    have h2 : ∀ d (L : Nat → Prop), bnd ev d hi L = bnd ev' d hi L := fun d L => bnd_congr fun y hy => h y (by simp [PO.xs] at hy ⊢; exact .inr (.inr hy))
    simp only [PO.sem, hx, h1, h2]
  | mkfn f a b =>
    have h1 : a.map ev = a.map ev' := List.map_congr_left fun x hx => h x (by simp [PO.xs, hx])
    have h2 : b.map ev = b.map ev' := List.map_congr_left fun x hx => h x (by simp [PO.xs, hx])
    simp only [PO.sem, h1, h2]
  | build zs ps => simp only [PO.sem]; exact fillA_congr h
  | _ => simp only [PO.xs, List.mem_cons, List.not_mem_nil, or_false, forall_eq_or_imp, forall_eq] at h; simp only [PO.sem, h]

theorem HO.sem_congr {P : Program} {ev ev' : X → AV} {H : AHeap} {K Kp : AV → AHeap → Prop} : ∀ {q : HO}, (∀ x ∈ q.xs, ev x = ev' x) → HO.sem P ev H K Kp q = HO.sem P ev' H K Kp q := by
  intro q h
  cases q with
  | bsl k ty z ln ps => simp only [HO.sem]; exact elsA_congr h
  | bslV k ty z ln ps => simp only [HO.sem]; exact elsA_congr h
  | call f as =>
    have h1 : as.map ev = as.map ev' := List.map_congr_left fun x hx => h x hx
    simp only [HO.sem, h1]
  | callv f as =>
    have h1 : as.map ev = as.map ev' := List.map_congr_left fun x hx => h x (by simp [HO.xs, hx])
    have h2 := h f (by simp [HO.xs])
    simp only [HO.sem, h1, h2]
  | _ => simp only [HO.xs, List.mem_cons, List.not_mem_nil, or_false, forall_eq_or_imp, forall_eq] at h; simp only [HO.sem, h]

/-- What is told to all that goes on holds of one value. -/
theorem bnd_ex {ev : X → AV} {d : Nat} {K : Nat → Prop} {o : Option X} (h : bnd ev d o K) : ∃ n, K n ∧ ∀ L : Nat → Prop, L n → bnd ev d o L := by
  cases o with
  | none => exact ⟨d, h, fun L h => h⟩
  | some x =>
    simp only [bnd] at h ⊢
    split at h
    · rename_i k n he
      exact ⟨_, h.2, fun L hL => ⟨h.1, hL⟩⟩
    · exact h.elim

theorem fillA_ex {ev : X → AV} {K : List AV → Prop} : ∀ {ps : List (Nat × Nat × X)} {zs : List AV}, fillA ev zs ps K → ∃ cs, K cs ∧ ∀ L : List AV → Prop, L cs → fillA ev zs ps L
  | [], zs, h => ⟨zs, h, fun L h => h⟩
  | (o, n, x) :: r, zs, h => by
    obtain ⟨h1, h2⟩ := h
    obtain ⟨cs, h3, h4⟩ := fillA_ex h2
    exact ⟨cs, h3, fun L hL => ⟨h1, h4 L hL⟩⟩

theorem elsA_ex {ev : X → AV} {k : Nat} {K : List AV → Prop} : ∀ {ps : List (Nat × X)} {es : List AV}, elsA ev k es ps K → ∃ cs, K cs ∧ ∀ L : List AV → Prop, L cs → elsA ev k es ps L
  | [], zs, h => ⟨zs, h, fun L h => h⟩
  | (o, x) :: r, zs, h => by
    obtain ⟨h1, h2⟩ := h
    obtain ⟨cs, h3, h4⟩ := elsA_ex h2
    exact ⟨cs, h3, fun L hL => ⟨h1, h4 L hL⟩⟩

theorem PO.sem_ex {ev : X → AV} {K : AV → Prop} : ∀ {q : PO}, PO.sem ev K q → ∃ v, K v ∧ PO.sem ev (fun u => u = v) q := by
  intro q h
  cases q with
  | build zs ps =>
    obtain ⟨cs, h1, h2⟩ := fillA_ex h
    exact ⟨_, h1, h2 _ rfl⟩
  | pick c a b =>
    simp only [PO.sem] at h ⊢
    split at h
    · rename_i t _
      cases t with
      | true => exact ⟨_, h.1 rfl, fun _ => rfl, fun h => by simp at h⟩
      | false => exact ⟨_, h.2 rfl, fun h => by simp at h, fun _ => rfl⟩
    · exact h.elim
  | tass t z x =>
    simp only [PO.sem] at h ⊢
    split at h
    · rename_i u v _
      by_cases e : u = t
      · exact ⟨_, h.1 e, fun _ => rfl, fun h => absurd e h⟩
      · exact ⟨_, h.2 e, fun h => absurd h e, fun _ => rfl⟩
    · exact ⟨_, h, rfl⟩
    · exact h.elim
  | slcS x lo hi =>
    simp only [PO.sem] at h ⊢
    split at h
    · obtain ⟨n, h1, h2⟩ := bnd_ex h
      obtain ⟨m, h3, h4⟩ := bnd_ex h1
      exact ⟨_, h3.2, h2 _ (h4 _ ⟨h3.1, rfl⟩)⟩
    · exact h.elim
  | slc k x lo hi mx =>
    simp only [PO.sem] at h ⊢
    split at h
    · obtain ⟨h0, h⟩ := h
      split at h
      · obtain ⟨n0, h1, h2⟩ := bnd_ex h
        obtain ⟨n1, h3, h4⟩ := bnd_ex h1
        obtain ⟨n2, h5, h6⟩ := bnd_ex h3
        exact ⟨_, h5.2, h0, h2 _ (h4 _ (h6 _ ⟨h5.1, rfl⟩))⟩
      · split at h
        · obtain ⟨n1, h3, h4⟩ := bnd_ex h
          obtain ⟨n2, h5, h6⟩ := bnd_ex h3
          exact ⟨_, h5.2, h0, h4 _ (h6 _ ⟨h5.1, rfl⟩)⟩
        · obtain ⟨n1, h3, h4⟩ := bnd_ex h
          obtain ⟨n2, h5, h6⟩ := bnd_ex h3
          exact ⟨_, h5.2, h0, h4 _ (h6 _ ⟨h5.1, rfl⟩)⟩
    · obtain ⟨g1, g2, h⟩ := h
      obtain ⟨n1, h3, h4⟩ := bnd_ex h
      obtain ⟨n2, h5, h6⟩ := bnd_ex h3
      obtain ⟨h7, h8, h9⟩ := h5
      by_cases e : n2 < n1
      · exact ⟨_, h8 e, g1, g2, h4 _ (h6 _ ⟨h7, fun _ => rfl, fun h => by omega⟩)⟩
      · exact ⟨_, h9 (by omega), g1, g2, h4 _ (h6 _ ⟨h7, fun h => absurd h e, fun _ => rfl⟩)⟩
    · exact h.elim
  | bin op x y =>
    simp only [PO.sem] at h ⊢
    split at h
    · obtain ⟨r, h1, h2⟩ := h; exact ⟨_, h2, r, h1, rfl⟩
    · exact h.elim
  | shf op x y =>
    simp only [PO.sem] at h ⊢
    split at h
    · obtain ⟨r, h1, h2⟩ := h; exact ⟨_, h2, r, h1, rfl⟩
    · exact h.elim
  | un op x =>
    simp only [PO.sem] at h ⊢
    split at h
    · obtain ⟨r, h1, h2⟩ := h; exact ⟨_, h2, r, h1, rfl⟩
    · exact h.elim
  | idxA ln n ag x i =>
    simp only [PO.sem] at h ⊢
    split at h
    · exact ⟨_, h.2.2, h.1, h.2.1, rfl⟩
    · exact h.elim
  | _ =>
    simp only [PO.sem] at h ⊢
    first
      | exact ⟨_, h, rfl⟩
      | (split at h <;> first
          | exact h.elim
          | exact ⟨_, h, rfl⟩
          | exact ⟨_, h.2, h.1, rfl⟩)
end Go.Proofs.Ytddhdlfafaobhaa
