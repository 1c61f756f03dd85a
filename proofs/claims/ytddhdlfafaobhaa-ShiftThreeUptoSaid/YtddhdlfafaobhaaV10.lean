/- Own memory is written, given up, goes on under another number; what an append does. -/
import Derived.Test.YtddhdlfafaobhaaV9
namespace Go.Proofs.Ytddhdlfafaobhaa
open Go.RowKit
set_option linter.unusedVariables false
set_option linter.unusedSimpArgs false

section
variable {P : Program} {φ : Phi} {O : Nat → Prop} {w : World}

theorem setRow_shape (w : World) (g : Nat) (old cs : Array Value) (t : TypeId) (fr : Nat × Nat) (hg : w.heap[g]? = some (.cells old t fr)) (hs : cs.size = old.size) (b : Nat) : (w.setRow g cs).shape? b = w.shape? b := by
  unfold World.shape?
  by_cases e : b = g
  · subst e
    rw [setRow_heap w b old cs t fr hg, hg]
    simp [hs]
  · rw [setRow_other w g b cs e]

/-- An own block is written. -/
theorem Rel.write {H : AHeap} (h : Rel φ H w) {id b : Nat} {blk : ABlk} {cur cur' : Array Value} {cap : Nat} (hm : φ id = some b) (hf : AHeap.find H id = some blk) (hb : w.heap[b]? = some (.cells cur blk.ty (0, 0))) (hsz : cur.size = cap * blk.k)
    (es' : List AV) (hs' : cur'.size = cur.size) (hcap : es'.length ≤ cap) (hmx : cap ≤ maxLen) (hex : blk.exact = true → cap = es'.length) (hk : ∀ x ∈ es', x.ncells = blk.k) (hr : Rs φ (Own φ H) w (flat es') (fun i => cur'[i]?)) :
    Rel φ (AHeap.set H id (some { blk with es := es' })) (w.setRow b cur') ∧ Step φ H w φ (AHeap.set H id (some { blk with es := es' })) (w.setRow b cur') := by
  have hid : id < H.length := AHeap.find_lt hf
  have hown : ∀ b', Own φ (AHeap.set H id (some { blk with es := es' })) b' ↔ Own φ H b' := by
    intro b'
    constructor
    · rintro ⟨i, k, h1, h2⟩
      by_cases e : i = id
      · subst e; exact ⟨i, blk, h1, hf⟩
      · rw [AHeap.find_set_ne e] at h2; exact ⟨i, k, h1, h2⟩
    · rintro ⟨i, k, h1, h2⟩
      by_cases e : i = id
      · subst e; exact ⟨i, _, h1, AHeap.find_set_same hid⟩
      · exact ⟨i, k, h1, by rw [AHeap.find_set_ne e]; exact h2⟩
  have hob : Own φ H b := ⟨id, blk, hm, hf⟩
  have hl : Later (fun _ => True) φ φ (Own φ H) (Own φ (AHeap.set H id (some { blk with es := es' }))) w (w.setRow b cur') := by
    refine ⟨fun _ _ _ h => h, by simp, fun b' hb' ho ho' => ho ((hown b').1 ho'), fun b' hb' ho => ?_, fun b' hb' => setRow_shape w b cur cur' _ _ hb hs' b'⟩
    exact setRow_other w b b' cur' (fun e => ho (e ▸ hob))
  refine ⟨⟨fun i b' hi => ?_, fun i j b' hi hj hfi hfj => ?_, fun i b' k h1 h2 => ?_⟩, ⟨hl, rfl, rfl, rfl, by rw [AHeap.set_length]; exact Nat.le_refl _, fun _ _ => rfl⟩⟩
  · rw [AHeap.set_length]
    simpa using h.dom i b' hi
  · have g1 : (AHeap.find H i).isSome := by
      by_cases e : i = id
      · subst e; rw [hf]; rfl
      · rwa [AHeap.find_set_ne e] at hfi
    have g2 : (AHeap.find H j).isSome := by
      by_cases e : j = id
      · subst e; rw [hf]; rfl
      · rwa [AHeap.find_set_ne e] at hfj
    exact h.inj i j b' hi hj g1 g2
  · by_cases e : i = id
    · subst e
      rw [hm] at h1
      cases h1
      rw [AHeap.find_set_same hid] at h2
      cases h2
      refine ⟨cur', cap, setRow_heap w b cur cur' _ _ hb, by rw [hs', hsz], hcap, hex, hmx, flat_Rl hk (Rs_later hl _ _ _ (AV.idsL_true _) (fun i v hv => ?_) hr)⟩
      unfold memAt
      rw [Nat.zero_add, cell_setRow_same w b i cur cur' _ _ hb]
      exact hv
    · rw [AHeap.find_set_ne e] at h2
      have hne : b' ≠ b := fun eb => by
        subst eb
        exact e (h.inj i id b' h1 hm (by rw [h2]; rfl) (by rw [hf]; rfl))
      obtain ⟨c1, c2, a1, a2, a3, a4, a5, a6⟩ := h.blk i b' k h1 h2
      have hsame := setRow_other w b b' cur' hne
      exact ⟨c1, c2, by rw [hsame]; exact a1, a2, a3, a4, a5, Rl_later hl b' hsame _ _ _ (AV.idsL_true _) a6⟩

theorem own_kill {H : AHeap} {id b : Nat} (h : Own φ (AHeap.set H id none) b) : Own φ H b := by
  obtain ⟨i, k, h1, h2⟩ := h
  by_cases e : i = id
  · subst e
    by_cases hl : i < H.length
    · rw [AHeap.find_set_same hl] at h2; simp at h2
    · rw [AHeap.find_ge (by rw [AHeap.set_length]; omega)] at h2; simp at h2
  · rw [AHeap.find_set_ne e] at h2; exact ⟨i, k, h1, h2⟩

theorem find_kill {H : AHeap} {id i : Nat} {k : ABlk} (h : AHeap.find (AHeap.set H id none) i = some k) : i ≠ id ∧ AHeap.find H i = some k := by
  by_cases e : i = id
  · subst e
    by_cases hl : i < H.length
    · rw [AHeap.find_set_same hl] at h; simp at h
    · rw [AHeap.find_ge (by rw [AHeap.set_length]; omega)] at h; simp at h
  · rw [AHeap.find_set_ne e] at h; exact ⟨e, h⟩

/-- An own block is given up. -/
theorem Rel.kill {H : AHeap} (h : Rel φ H w) (id : Nat) : Rel φ (AHeap.set H id none) w ∧ Step φ H w φ (AHeap.set H id none) w := by
  have hl : Later (fun _ => True) φ φ (Own φ H) (Own φ (AHeap.set H id none)) w w := ⟨fun _ _ _ h => h, Nat.le_refl _, fun b _ ho ho' => ho (own_kill ho'), fun _ _ _ => rfl, fun _ _ => rfl⟩
  refine ⟨⟨fun i b hi => by rw [AHeap.set_length]; exact h.dom i b hi, fun i j b hi hj hfi hfj => ?_, fun i b k h1 h2 => ?_⟩, ⟨hl, rfl, rfl, rfl, by rw [AHeap.set_length]; exact Nat.le_refl _, fun _ _ => rfl⟩⟩
  · obtain ⟨k1, e1⟩ := Option.isSome_iff_exists.1 hfi
    obtain ⟨k2, e2⟩ := Option.isSome_iff_exists.1 hfj
    exact h.inj i j b hi hj (by rw [(find_kill e1).2]; rfl) (by rw [(find_kill e2).2]; rfl)
  · obtain ⟨c1, c2, a1, a2, a3, a4, a5, a6⟩ := h.blk i b k h1 (find_kill h2).2
    exact ⟨c1, c2, a1, a2, a3, a4, a5, Rl_later hl b rfl _ _ _ (AV.idsL_true _) a6⟩

/-- An own block goes on under a new number. -/
theorem Rel.move {H : AHeap} (h : Rel φ H w) {id b : Nat} {blk : ABlk} (hm : φ id = some b) (hf : AHeap.find H id = some blk) :
    Rel (φ.add H.length b) (some blk :: AHeap.set H id none) w ∧ Step φ H w (φ.add H.length b) (some blk :: AHeap.set H id none) w := by
  have hid : id < H.length := AHeap.find_lt hf
  have hdom : ∀ i b', φ i = some b' → i < H.length := fun i b' hi => (h.dom i b' hi).1
  have hown : ∀ b', Own (φ.add H.length b) (some blk :: AHeap.set H id none) b' → Own φ H b' := by
    rintro b' ⟨i, k, h1, h2⟩
    unfold Phi.add at h1
    split at h1
    · cases h1; exact ⟨id, blk, hm, hf⟩
    · have l1 := hdom i b' h1
      rw [AHeap.find_cons (by rw [AHeap.set_length]; exact l1)] at h2
      exact ⟨i, k, h1, (find_kill h2).2⟩
  have hl : Later (fun _ => True) φ (φ.add H.length b) (Own φ H) (Own (φ.add H.length b) (some blk :: AHeap.set H id none)) w w := by
    refine ⟨fun i b' _ hi => ?_, Nat.le_refl _, fun b' _ ho ho' => ho (hown b' ho'), fun _ _ _ => rfl, fun _ _ => rfl⟩
    unfold Phi.add
    rw [if_neg (by have := hdom i b' hi; omega)]
    exact hi
  refine ⟨⟨fun i b' hi => ?_, fun i j b' hi hj hfi hfj => ?_, fun i b' k h1 h2 => ?_⟩, ⟨hl, rfl, rfl, rfl, by simp [AHeap.set_length], fun id hid => by unfold Phi.add; rw [if_neg (by omega)]⟩⟩
  · unfold Phi.add at hi
    split at hi
    · cases hi
      exact ⟨by simp [AHeap.set_length]; omega, (h.dom id b hm).2⟩
    · have := h.dom i b' hi
      exact ⟨by simp [AHeap.set_length]; omega, this.2⟩
  · have key : ∀ i, φ i = some b' → (AHeap.find (some blk :: AHeap.set H id none) i).isSome → i ≠ id ∧ (AHeap.find H i).isSome := by
      intro i hi hfi
      rw [AHeap.find_cons (by rw [AHeap.set_length]; exact hdom i b' hi)] at hfi
      obtain ⟨k1, e1⟩ := Option.isSome_iff_exists.1 hfi
      exact ⟨(find_kill e1).1, by rw [(find_kill e1).2]; rfl⟩
    unfold Phi.add at hi hj
    split at hi <;> split at hj
    · omega
    · cases hi
      obtain ⟨n1, n2⟩ := key j hj hfj
      exact absurd (h.inj j id b hj hm n2 (by rw [hf]; rfl)) n1
    · cases hj
      obtain ⟨n1, n2⟩ := key i hi hfi
      exact absurd (h.inj i id b hi hm n2 (by rw [hf]; rfl)) n1
    · exact h.inj i j b' hi hj (key i hi hfi).2 (key j hj hfj).2
  · have hblk : ∀ i k, φ i = some b' → AHeap.find H i = some k → BlkR (φ.add H.length b) (Own (φ.add H.length b) (some blk :: AHeap.set H id none)) w k b' := by
      intro i k h1 h2
      obtain ⟨c1, c2, a1, a2, a3, a4, a5, a6⟩ := h.blk i b' k h1 h2
      exact ⟨c1, c2, a1, a2, a3, a4, a5, Rl_later hl b' rfl _ _ _ (AV.idsL_true _) a6⟩
    unfold Phi.add at h1
    split at h1
    · rename_i e
      cases h1
      subst e
      have : AHeap.find (some blk :: AHeap.set H id none) H.length = some blk := by
        have := AHeap.find_new (H := AHeap.set H id none) (b := some blk)
        rwa [AHeap.set_length] at this
      rw [this] at h2
      cases h2
      exact hblk id blk hm hf
    · rw [AHeap.find_cons (by rw [AHeap.set_length]; exact hdom i b' h1)] at h2
      exact hblk i k h1 (find_kill h2).2

/-- Values that are read as a list, cell by cell. -/
structure Src (φ : Phi) (O : Nat → Prop) (w : World) (k : Nat) (ys : List AV) (v : Value) : Prop where
  ex : ∃ a c news, v = .slice a ys.length c ∧ news.length = ys.length * k ∧ (∀ x ∈ ys, x.ncells = k) ∧ Rs φ O w (flat ys) (fun i => (news : List Value)[i]?) ∧ (∀ u ∈ news, u.oneCell' = true) ∧
    (0 < ys.length → ∃ ad, a = some ad ∧ ∀ j u, news[j]? = some u → w.cell? (ad.add j) = some u)

theorem Src.of_mem {k : Nat} {ys : List AV} {b off c : Nat} (h : Rl φ O w b k ys off) : Src φ O w k ys (.slice (some ⟨b, off, none⟩) ys.length c) := by
  obtain ⟨h1, h2⟩ := Rl_flat h
  obtain ⟨us, h3, h4, h5⟩ := Rs_cells h2
  refine ⟨_, c, us, rfl, by rw [h3, flat_length h1], h1, Rs_congr (fun i hi => ?_) h2, h5, fun _ => ⟨_, rfl, fun j u hj => ?_⟩⟩
  · exact (h4 i hi).symm
  · have hj' : j < us.length := (List.getElem?_eq_some_iff.1 hj).1
    have := h4 j (by omega)
    rw [hj] at this
    rw [addr_add]
    exact this

theorem Src.of_lst {k : Nat} {ys : List AV} {room : Option (List AV)} {v : Value} (h : VR φ O w (.lst k ys room) v) {k' : Nat} (hk : k = k' ∨ ys = []) : Src φ O w k' ys v := by
  obtain ⟨a, c, rfl, h2, h3, h4, h5, h6⟩ := VR_lst h
  by_cases hn : 0 < ys.length
  · obtain ⟨b, off, rfl, _, _, h7⟩ := h5 hn
    rcases hk with rfl | rfl
    · exact Src.of_mem h7
    · simp at hn
  · have : ys = [] := List.length_eq_zero_iff.1 (by omega)
    subst this
    exact ⟨a, c, [], rfl, by simp, by simp, trivial, by simp, fun h => by simp at h⟩

theorem Src.of_vec {H : AHeap} (hR : Rel φ H w) {k id off n : Nat} {c : Option Nat} {v : Value} (h : VR φ (Own φ H) w (.vec k id off n c) v) {blk : ABlk} (hf : AHeap.find H id = some blk) (hk : blk.k = k) (hl : off + n ≤ blk.es.length) :
    Src φ (Own φ H) w k ((blk.es.drop off).take n) v := by
  obtain ⟨b, c', cur, e, fr, v1, rfl, v3, v4, v5, v6, v7⟩ := VR_vec h
  obtain ⟨cur', cap, a1, a2, a3, a4, a5, a6⟩ := hR.blk id b blk v1 hf
  have h7 := Rl_take (n := n) (Rl_drop (f := off) a6)
  rw [hk, Nat.zero_add] at h7
  have hln : ((blk.es.drop off).take n).length = n := by simp; omega
  have := Src.of_mem (c := c') h7
  rwa [hln] at this

theorem append_zero {t ty e : TypeId} {inf : TypeInfo} (ht : P.underlying t = some (.slice e)) (hi : P.info? e = some inf) {base a : Option Addr} {n c c' : Nat} (hn : n ≤ c) :
    (Builtin.append_ #[t, t] ty #[.slice base n c, .slice a 0 c']).run P w = .ok (.slice base n c) w := by
  cases base <;> cases a <;> simp [Builtin.append_, rn_under ht, rn_size hi, Builtin.lenOf, Builtin.firstCells, hn, loadCells, loadCellsFrom, storeCells]

/-- An append that must lay anew. -/
theorem append_new {H : AHeap} (hR : Rel φ H w) {t ty e : TypeId} {inf : TypeInfo} {z : Value} (ht : P.underlying t = some (.slice e)) (hi : P.info? e = some inf) (hz : inf.zero = some z) (hzs : z.cells.size = inf.size) (hby : inf.bytes ≤ 1000)
    {xs ys : List AV} {s v : Value} (hs : Src φ (Own φ H) w inf.size xs s) (hv : Src φ (Own φ H) w inf.size ys v) (hy : 0 < ys.length) (hb : xs.length + ys.length ≤ 100000000)
    (hc : ∃ a c, s = .slice a xs.length c ∧ c < xs.length + ys.length ∧ (a = none → c = 0)) :
    ∃ c' w', (Builtin.append_ #[t, t] ty #[s, v]).run P w = .ok (.slice (some ⟨w.heap.size, 0, none⟩) (xs.length + ys.length) c') w' ∧
      Rel (φ.add H.length w.heap.size) (some ⟨inf.size, xs ++ ys, false, e⟩ :: H) w' ∧ Step φ H w (φ.add H.length w.heap.size) (some ⟨inf.size, xs ++ ys, false, e⟩ :: H) w' ∧
      VR (φ.add H.length w.heap.size) (Own (φ.add H.length w.heap.size) (some ⟨inf.size, xs ++ ys, false, e⟩ :: H)) w' (.vec inf.size H.length 0 (xs.length + ys.length) none) (.slice (some ⟨w.heap.size, 0, none⟩) (xs.length + ys.length) c') := by
  obtain ⟨a, c, olds, e1, o2, o3, o4, o5, o6⟩ := hs.ex
  obtain ⟨a2, c2, news, e2, n2, n3, n4, n5, n6⟩ := hv.ex
  obtain ⟨a', c', e3, hlt, hn0⟩ := hc
  rw [e1] at e3
  cases e3
  subst e1
  subst e2
  obtain ⟨ad, rfl, hnews⟩ := n6 hy
  have hdr := drew_rel hR
  have hfin : ∀ (cap : Nat) (arr : Array Value), xs.length + ys.length ≤ cap → cap ≤ maxLen → arr.size = cap * inf.size → (∀ i, i < (olds ++ news).length → arr[i]? = (olds ++ news)[i]?) →
      Rel (φ.add H.length w.heap.size) (some ⟨inf.size, xs ++ ys, false, e⟩ :: H) (w.drew.alloc (.cells arr e)) ∧ Step φ H w (φ.add H.length w.heap.size) (some ⟨inf.size, xs ++ ys, false, e⟩ :: H) (w.drew.alloc (.cells arr e)) ∧
      VR (φ.add H.length w.heap.size) (Own (φ.add H.length w.heap.size) (some ⟨inf.size, xs ++ ys, false, e⟩ :: H)) (w.drew.alloc (.cells arr e)) (.vec inf.size H.length 0 (xs.length + ys.length) none) (.slice (some ⟨w.heap.size, 0, none⟩) (xs.length + ys.length) cap) := by
    intro cap arr h1 h2 h3 h4
    have hk : ∀ x ∈ xs ++ ys, x.ncells = inf.size := fun x hx => by
      rcases List.mem_append.1 hx with h | h
      · exact o3 x h
      · exact n3 x h
    have hrs : Rs φ (Own φ H) w.drew (flat (xs ++ ys)) (fun i => arr[i]?) := by
      have hl : Later (fun _ => True) φ φ (Own φ H) (Own φ H) w w.drew := (drew_step φ H w).toLater
      refine Rs_later hl _ _ _ (AV.idsL_true _) (fun i v hv => hv) ?_
      rw [flat_append]
      have hol : (flat xs).length = olds.length := by rw [flat_length o3, o2]
      have hnl : (flat ys).length = news.length := by rw [flat_length n3, n2]
      refine Rs_append (Rs_congr (fun i hi => ?_) o4) (Rs_congr (fun i hi => ?_) n4)
      · rw [h4 i (by simp; omega), List.getElem?_append_left (by omega)]
      · rw [h4 _ (by simp; omega), List.getElem?_append_right (by omega)]
        congr 1
        omega
    have := hdr.alloc ⟨inf.size, xs ++ ys, false, e⟩ arr cap h3 (by simpa using h1) (fun h => by simp at h) h2 hk hrs
    refine ⟨this.1, (drew_step φ H w).trans this.2, rfl, ?_⟩
    refine ⟨w.heap.size, cap, arr, e, (0, 0), by simp [Phi.add], by simp [cget, Value.cells], h1, h2, fun m hm => by simp at hm, heap_alloc_new w.drew _, by simpa using h3⟩
  have hlen : (olds ++ news).length = (xs.length + ys.length) * inf.size := by rw [List.length_append, o2, n2, Nat.add_mul]
  have hbytes : (xs.length + ys.length) * inf.bytes ≤ 100000000 * 1000 := Nat.mul_le_mul hb hby
  cases a with
  | none =>
    have hc0 := hn0 rfl
    have hx : xs = [] := by
      cases xs with
      | nil => rfl
      | cons x r => obtain ⟨_, h, _⟩ := o6 (by simp); simp at h
    subst hc0
    subst hx
    have ho : olds = [] := List.length_eq_zero_iff.1 (by simpa using o2)
    subst ho
    have hr := run_append_nil (P := P) w t ty e inf z ht hi hz ad ys.length c2 news n2 hnews hy (by omega) (by simp at hbytes; omega)
    simp only [List.length_nil, Nat.zero_add, List.nil_append] at hfin hb ⊢
    have hge := grownCap_ge w ys.length 0 e
    obtain ⟨f1, f2, f3⟩ := hfin (grownCap w ys.length 0 e) (news.toArray ++ Builtin.zeroCells z.cells (grownCap w ys.length 0 e - ys.length)) hge (grownCap_le_maxLen w _ _ _ (by unfold maxLen; omega))
      (by simp only [Array.size_append, List.size_toArray, size_zeroCells, hzs, n2, ← Nat.add_mul]; congr 1; omega) (fun i hi => by rw [Array.getElem?_append_left (by simpa using hi)]; simp)
    exact ⟨_, _, hr, f1, f2, f3⟩
  | some b =>
    have holds : ∀ j u, olds[j]? = some u → w.cell? (b.add j) = some u := fun j u hj => by
      have hp : 0 < xs.length := by
        rcases Nat.eq_zero_or_pos xs.length with h | h
        · rw [h] at o2
          have : olds = [] := List.length_eq_zero_iff.1 (by simpa using o2)
          subst this
          simp at hj
        · exact h
      obtain ⟨ad', h, h'⟩ := o6 hp
      cases h
      exact h' j u hj
    have hr := run_append_grow (P := P) w t ty e inf z ht hi hz b xs.length c olds o2 holds ad ys.length c2 news n2 hnews hlt (by omega) (growslice_fits (by omega) (by omega))
    have hge := grownCap_ge w (xs.length + ys.length) c e
    obtain ⟨f1, f2, f3⟩ := hfin (grownCap w (xs.length + ys.length) c e) (olds.toArray ++ news.toArray ++ Builtin.zeroCells z.cells (grownCap w (xs.length + ys.length) c e - (xs.length + ys.length))) hge (grownCap_le_maxLen w _ _ _ (by unfold maxLen; omega))
      (by simp only [Array.size_append, List.size_toArray, size_zeroCells, hzs, n2, o2, ← Nat.add_mul]; congr 1; omega) (fun i hi => by rw [Array.getElem?_append_left (by simpa using hi)]; simp [List.getElem?_append])
    exact ⟨_, _, hr, f1, f2, f3⟩
end
end Go.Proofs.Ytddhdlfafaobhaa
