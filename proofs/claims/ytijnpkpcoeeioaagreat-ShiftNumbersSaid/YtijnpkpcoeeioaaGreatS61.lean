/- ShiftTells tells true. -/
import Derived.Test.YtijnpkpcoeeioaaGreatS24a
import Derived.Test.YtijnpkpcoeeioaaGreatS36
import Derived.Test.YtijnpkpcoeeioaaGreatS42
import Derived.Test.YtijnpkpcoeeioaaGreatS49
import Derived.Test.YtijnpkpcoeeioaaGreatS60
namespace Go.Proofs.YtijnpkpcoeeioaaGreat
open Go.RowKit
set_option maxRecDepth 100000
set_option linter.unusedVariables false
set_option linter.unusedSimpArgs false

theorem opL_strs' : ∀ {l : List ByteArray}, AV.opL (strs l) = true
  | [] => rfl
  | x :: r => by simp [strs, AV.opL, AV.op]; exact opL_strs' (l := r)
theorem upL_strs' {n : Nat} : ∀ {l : List ByteArray}, AV.upL n (strs l) = strs l
  | [] => rfl
  | x :: r => by
    show AV.up n _ :: AV.upL n (strs r) = _
    rw [upL_strs']; rfl
theorem up_outB' {n : Nat} {l : List ByteArray} : (OutB l).map (ABlk.up n) = OutB l := by
  cases l with
  | nil => rfl
  | cons x r => simp only [OutB, OwnB, strs_cons, Option.map_some, ABlk.up]; rw [← strs_cons, upL_strs']
theorem outs2_eq {x y : Hk} {H : AHeap} : outs2 x y H = OutB y.new :: OutB y.old :: OutB x.new :: OutB x.old :: H := rfl
/-- Two hunks that are told of lent ones. -/
theorem two_v {f : FuncId} {H : AHeap} {p q a b : Hk} {e : Int} {x y : AV} (hx : View H x (hk p)) (hy : View H y (hk q)) (h : D Tryz.prog f [hk p, hk q] [] (.ret (tup2 a b e 0)) (outs2 a b [])) :
    D Tryz.prog f [x, y] H (.ret (.tup [hkO a H.length (H.length + 1), hkO b (H.length + 2) (H.length + 3), .sc (.int .i64 e)])) (OutB b.new :: OutB b.old :: OutB a.new :: OutB a.old :: H) := by
  have h1 := D_viewO (H := H) (.cons hx (.cons hy .nil)) ?_ ?_ h
  · simp only [AV.up, AV.upL, OwnV_up, Nat.add_zero, Nat.zero_add, AHeap.up, outs2_eq, List.map_cons, List.map_nil, up_outB', List.cons_append, List.nil_append] at h1
    exact h1
  · simp [AV.op, AV.opL, OwnV_op]
  · intro id k hk
    have hlt := AHeap.find_lt hk
    simp only [outs2_eq, List.length_cons, List.length_nil] at hlt
    have ob : ∀ {l : List ByteArray} {k : ABlk}, OutB l = some k → AV.opL k.es = true := fun h => by
      obtain ⟨_, rfl⟩ := OwnB_some h
      exact opL_strs'
    rcases (by omega : id = 0 ∨ id = 1 ∨ id = 2 ∨ id = 3) with rfl | rfl | rfl | rfl <;> simp [outs2_eq, AHeap.find] at hk <;> exact ob hk
/-- A block is told of as one of which more may stand behind. -/
theorem D_inexact {P : Program} {f : FuncId} {args : List AV} {H H' : AHeap} {e : AEnd} {id : Nat} {blk : ABlk} (hf : AHeap.find H id = some blk) (hl : H.length ≤ H'.length)
    (h : D P f args (AHeap.set H id (some { blk with exact := false })) e H') : D P f args H e H' := by
  have hlt := AHeap.find_lt hf
  have iff : ∀ φ b, Own φ (AHeap.set H id (some { blk with exact := false })) b ↔ Own φ H b := fun φ b => by
    constructor
    · rintro ⟨i, k, h1, h2⟩
      by_cases e : i = id
      · subst e; exact ⟨i, blk, h1, hf⟩
      · rw [AHeap.find_set_ne e] at h2; exact ⟨i, k, h1, h2⟩
    · rintro ⟨i, k, h1, h2⟩
      by_cases e : i = id
      · subst e; exact ⟨i, _, h1, AHeap.find_set_same hlt⟩
      · exact ⟨i, k, h1, by rw [AHeap.find_set_ne e]; exact h2⟩
  refine D_reword (fun H2 => H2 = AHeap.set H id (some { blk with exact := false })) hl (fun φ w hR => ⟨_, rfl, ?_, AHeap.set_length _ _ _, iff φ⟩) (fun H2 e => e ▸ h)
  have hO : Own φ (AHeap.set H id (some { blk with exact := false })) = Own φ H := funext fun b => propext (iff φ b)
  refine ⟨fun i b hb => by rw [AHeap.set_length]; exact hR.dom i b hb, fun i j b h1 h2 h3 h4 => ?_, fun i b k h1 h2 => ?_⟩
  · refine hR.inj i j b h1 h2 ?_ ?_
    · by_cases e : i = id
      · subst e; rw [hf]; rfl
      · rw [AHeap.find_set_ne e] at h3; exact h3
    · by_cases e : j = id
      · subst e; rw [hf]; rfl
      · rw [AHeap.find_set_ne e] at h4; exact h4
  · rw [hO]
    by_cases e : i = id
    · subst e
      rw [AHeap.find_set_same hlt] at h2
      cases h2
      obtain ⟨cur, cap, k1, k2, k3, k4, k5, k6⟩ := hR.blk i b blk h1 hf
      exact ⟨cur, cap, k1, k2, k3, fun h => by simp at h, k5, k6⟩
    · rw [AHeap.find_set_ne e] at h2
      exact hR.blk i b k h1 h2

theorem tcnt_ge' (most : Int) : ∀ (l : List ByteArray) (n : Int), n ≤ tcnt l n most
  | [], n => Int.le_refl _
  | s :: r, n => by
    unfold tcnt
    split
    · have := tcnt_ge' most r (n + s.size / 8)
      omega
    · exact Int.le_refl _
theorem textsOf_ge' (l : List ByteArray) (most : Int) : (l.length : Int) ≤ textsOf l most := tcnt_ge' _ _ _
theorem sameH_refl' (h : Hk) : sameH h h = true := by simp [sameH]
theorem few4 {p q : Hk} (g : ¬ loadH p q > 2000) : (p.old.length ≤ 2000 ∧ p.new.length ≤ 2000) ∧ q.old.length ≤ 2000 ∧ q.new.length ≤ 2000 := by
  unfold loadH at g
  have h1 := textsOf_ge' p.old 2000
  have h2 := textsOf_ge' p.new 2000
  have h3 := textsOf_ge' q.old 2000
  have h4 := textsOf_ge' q.new 2000
  omega

theorem hk_view {H : AHeap} {h : Hk} {a b : Option (List AV)} : View H (hkr h a b) (hk h) := .agg (.cons .sc (.cons (.lst ViewL.scs) (.cons (.lst ViewL.scs) .nil)))
theorem same_v {H : AHeap} {a : Hk} {i j : Nat} (hi : a.old ≠ [] → AHeap.find H i = OutB a.old) (hj : a.new ≠ [] → AHeap.find H j = OutB a.new) (hs : a.short) : D Tryz.prog 12 [hkO a i j, hk a] H (.ret (.sc (.bool true))) H := by
  have h := D_view (H := H) (.cons (hkO_view hi hj) (.cons (hk_view (h := a) (a := none) (b := none)) .nil)) .sc (sameHunk_d a a none none none none [] ⟨hs.1.1, hs.2.1⟩)
  rwa [sameH_refl'] at h
theorem lentH_view {H : AHeap} {h : Hk} {i j : Nat} (hi : AHeap.find H i = lentB h.old) (hj : AHeap.find H j = lentB h.new) : View H (.agg [.sc (.int .i64 h.at_), lentV h.old i, lentV h.new j]) (hk h) :=
  .agg (.cons .sc (.cons (lent_view hi) (.cons (lent_view hj) .nil)))

theorem shT_strs' {l : List ByteArray} : ∀ x ∈ strs l, shT.is x := fun x hx => by
  obtain ⟨s, _, rfl⟩ := List.mem_map.1 hx
  exact ⟨rfl, rfl, rfl⟩
theorem nthO_mem {os : List ORow} {k : Nat} (h : k < os.length) : nthO os k ∈ os := by
  unfold nthO
  rw [List.getD_eq_getElem?_getD, List.getElem?_eq_getElem h]
  exact List.getElem_mem h
theorem ownsOK_of {s : Shape} {H : AHeap} {os : List ORow} (h1 : ∀ o ∈ os, o.1 ≠ [] → AHeap.find H o.2 = OwnB s.k s.ty o.1) (h2 : ∀ o ∈ os, ∀ x ∈ o.1, s.is x) (h3 : (os.map (·.2)).Nodup) (h4 : ∀ o ∈ os, o.1.length ≤ 10000000) : OwnsOK s H os := by
  refine ⟨fun k hk hn => h1 _ (nthO_mem hk) hn, fun k hk => h2 _ (nthO_mem hk), fun k l hk hl _ _ e => ?_, fun k hk => h4 _ (nthO_mem hk)⟩
  have g : ∀ i (h : i < os.length), (os.map (·.2))[i]'(by simpa using h) = (nthO os i).2 := fun i h => by simp [nthO, List.getD, h]
  have := (List.getElem_inj (h₀ := by simpa using hk) (h₁ := by simpa using hl) h3).1 ((g k hk).trans (e.trans (g l hl).symm))
  exact this
/-- One row of hunks, written out where it is handed over. -/
theorem apartOne_d {G : AHeap} {l : List HRow} {r o : Nat} {ty : TypeId} (hne : l ≠ []) (fr : AHeap.find G r = some ⟨3, hks3 l, true, 24⟩) (fo : AHeap.find G o = some ⟨1, [.vec 3 r 0 l.length (some l.length)], true, ty⟩) (ro : r ≠ o)
    (okT : OwnsOK shT G (txs3 l)) (nr : r ∉ ownIds (txs3 l)) (no : o ∉ ownIds (txs3 l)) (few : l.length ≤ 1000) :
    ∃ G2 : AHeap, D Tryz.prog 14 [.vec 1 o 0 1 (some 1)] G (.ret (.sc (.bool true))) G2 ∧ ∀ i, i ≠ o → i ≠ r → i ∉ ownIds (txs3 l) → AHeap.find G2 i = AHeap.find G i := by
  have lr := AHeap.find_lt fr
  have hl3 : hks3 l ≠ [] := fun h => hne (by simpa [hks3] using h)
  have fr2 : AHeap.find (AHeap.set G o none) r = some ⟨3, hks3 l, true, 24⟩ := by rw [AHeap.find_set_ne ro]; exact fr
  have eT : tosOf [(l, r)] = txs3 l := by simp [tosOf]
  have eH : hosOf [(l, r)] = [(hks3 l, r)] := rfl
  have eI : ownIds (hosOf [(l, r)]) = [r] := by
    rw [eH]
    unfold ownIds
    rw [List.filter_cons_of_pos (by simpa using hl3)]
    rfl
  refine ⟨killIds (ownIds (hosOf [(l, r)]) ++ ownIds (tosOf [(l, r)])) (AHeap.set (AHeap.set G o none) r (some ⟨3, hks3 l, false, 24⟩)), ?_, fun i h1 h2 h3 => ?_⟩
  · refine D_frz fo (.vec rfl (by simp) .nil) (D_inexact fr2 (by rw [killIds_length, AHeap.set_length, AHeap.set_length, AHeap.set_length]; exact Nat.le_refl _) ?_)
    refine D_le (args' := [.lst 1 (ownRows 3 (hosOf [(l, r)])) none]) (.cons (.lst ?_) .nil) (apartHunks_d _ [(l, r)] none ?_ ?_ (fun i h1 => ?_) (by simp) (by rw [eT, txs3_length]; omega))
    · rw [eH]
      show LeL [.vec 3 r 0 l.length (some l.length)] [OwnV 3 (hks3 l) r]
      rw [OwnV_ne hl3, hks3_length]
      exact .cons .vec .nil
    · rw [eT]
      refine okT.keep fun i hi => ?_
      rw [AHeap.find_set_ne (fun e => nr (by rw [← e]; exact hi)), AHeap.find_set_ne (fun e => no (by rw [← e]; exact hi))]
    · rw [eH]
      refine ownsOK_of (fun x hx _ => ?_) (fun x hx y hy => ?_) (by simp) (fun x hx => ?_)
      · simp only [List.mem_singleton] at hx
        subst hx
        rw [OwnB_ne hl3]
        exact AHeap.find_set_same (by rw [AHeap.set_length]; exact lr)
      · simp only [List.mem_singleton] at hx
        subst hx
        obtain ⟨z, _, rfl⟩ := List.mem_map.1 hy
        exact ⟨rfl, rfl, rfl⟩
      · simp only [List.mem_singleton] at hx
        subst hx
        simp only [hks3_length]
        omega
    · rw [eI] at h1
      rw [eT]
      simp only [List.mem_singleton] at h1
      subst h1
      exact nr
  · rw [killIds_other (by rw [eI, eT]; simp [h2, h3]), AHeap.find_set_ne h2, AHeap.find_set_ne h1]

theorem firstR_all (T : Hk → Prop) (h0 : T ⟨0, [], []⟩) {p q x1 y1 x2 y2 : Hk} {w1 w2 : Bool} (s1 : T x1 ∧ T y1) (s2 : T x2 ∧ T y2) : T (firstR p q w1 x1 y1 w2 x2 y2).1 ∧ T (firstR p q w1 x1 y1 w2 x2 y2).2.1 := by
  unfold firstR
  split
  · split
    · split
      · exact s1
      · exact ⟨h0, h0⟩
    · split
      · split
        · exact s2
        · exact ⟨h0, h0⟩
      · exact ⟨h0, h0⟩
  · exact ⟨h0, h0⟩
theorem callR_G {P : Program} {K : List AV → AHeap → Prop} {Kp : AV → List AV → AHeap → Prop} {d : Option Nat} {f : FuncId} {args : List AV} {r : List IO'} {ts : List AV} {H : AHeap} (h : ∀ G, G = H → callR P K Kp d f args r ts G) : callR P K Kp d f args r ts H := h H rfl

set_option maxHeartbeats 0 in
theorem shiftTells_d (p q : Hk) (po pn qo qn : Option (List AV)) (hp : p.short) (hq : q.short) :
    D Tryz.prog 3 [hkr p po pn, hkr q qo qn] [] (.ret (.sc (.bool true))) [] := by
  refine D_of_DK (Nat.le_refl _) (dk3v (E_of_ES ?_))
  simp only [ic3v, ux]
  refine ES_seq_gen fun L hL => ?_
  simp -implicitDefEqProofs (maxSteps := 99999999) (disch := first | omega | (simp only [AHeap.set_length, killO_length, List.length_cons, List.length_nil]; first | done | omega)) only [va, vs, vw, Nat.reduceMul, ite_true, ite_false, eq_self, forall_const, implies_true, Nat.reduceAdd, Nat.reduceSub, Nat.reduceLT, Nat.reduceLeDiff, ↓reduceIte, reduceCtorEq, Int.reduceEq, Int.reduceLT, Int.reduceLE, Int.reduceGT, Int.reduceGE, Int.reduceAdd, Int.reduceSub, Int.reduceNeg, Int.reduceToNat, Nat.reduceBEq, Nat.reduceEqDiff]
  refine hL _ _ ?_
  clear hL
  refine ES_seq_gen fun L hL => ?_
  simp -implicitDefEqProofs (maxSteps := 99999999) (disch := first | omega | (simp only [AHeap.set_length, killO_length, List.length_cons, List.length_nil]; first | done | omega)) only [va, vs, vw, Nat.reduceMul, ite_true, ite_false, eq_self, forall_const, implies_true, Nat.reduceAdd, Nat.reduceSub, Nat.reduceLT, Nat.reduceLeDiff, ↓reduceIte, reduceCtorEq, Int.reduceEq, Int.reduceLT, Int.reduceLE, Int.reduceGT, Int.reduceGE, Int.reduceAdd, Int.reduceSub, Int.reduceNeg, Int.reduceToNat, Nat.reduceBEq, Nat.reduceEqDiff]
  refine callR_ret (great_d p q _ _ _ _ _ hp hq) ?_
  by_cases g : loadH p q > 2000
  · simp -implicitDefEqProofs (maxSteps := 99999999) (disch := first | omega | (simp only [AHeap.set_length, killO_length, List.length_cons, List.length_nil]; first | done | omega)) only [g, va, vs, vw, Nat.reduceMul, ite_true, ite_false, eq_self, forall_const, implies_true, Nat.reduceAdd, Nat.reduceSub, Nat.reduceLT, Nat.reduceLeDiff, ↓reduceIte, reduceCtorEq, Int.reduceEq, Int.reduceLT, Int.reduceLE, Int.reduceGT, Int.reduceGE, Int.reduceAdd, Int.reduceSub, Int.reduceNeg, Int.reduceToNat, Nat.reduceBEq, Nat.reduceEqDiff]
    refine callR_ret (awake_d _) ?_
    simp -implicitDefEqProofs (maxSteps := 99999999) (disch := first | omega | (simp only [AHeap.set_length, killO_length, List.length_cons, List.length_nil]; first | done | omega)) only [va, vs, vw, Nat.reduceMul, ite_true, ite_false, eq_self, forall_const, implies_true, Nat.reduceAdd, Nat.reduceSub, Nat.reduceLT, Nat.reduceLeDiff, ↓reduceIte, reduceCtorEq, Int.reduceEq, Int.reduceLT, Int.reduceLE, Int.reduceGT, Int.reduceGE, Int.reduceAdd, Int.reduceSub, Int.reduceNeg, Int.reduceToNat, Nat.reduceBEq, Nat.reduceEqDiff]
    exact weak_end
  obtain ⟨⟨f1, f2⟩, f3, f4⟩ := few4 g
  simp -implicitDefEqProofs (maxSteps := 99999999) (disch := first | omega | (simp only [AHeap.set_length, killO_length, List.length_cons, List.length_nil]; first | done | omega)) only [g, va, vs, vw, Nat.reduceMul, ite_true, ite_false, eq_self, forall_const, implies_true, Nat.reduceAdd, Nat.reduceSub, Nat.reduceLT, Nat.reduceLeDiff, ↓reduceIte, reduceCtorEq, Int.reduceEq, Int.reduceLT, Int.reduceLE, Int.reduceGT, Int.reduceGE, Int.reduceAdd, Int.reduceSub, Int.reduceNeg, Int.reduceToNat, Nat.reduceBEq, Nat.reduceEqDiff]
  refine hL _ _ ?_
  clear hL
  refine ES_seq_gen fun L hL => ?_
  simp -implicitDefEqProofs (maxSteps := 99999999) (disch := first | omega | (simp only [AHeap.set_length, killO_length, List.length_cons, List.length_nil]; first | done | omega)) only [va, vs, vw, Nat.reduceMul, ite_true, ite_false, eq_self, forall_const, implies_true, Nat.reduceAdd, Nat.reduceSub, Nat.reduceLT, Nat.reduceLeDiff, ↓reduceIte, reduceCtorEq, Int.reduceEq, Int.reduceLT, Int.reduceLE, Int.reduceGT, Int.reduceGE, Int.reduceAdd, Int.reduceSub, Int.reduceNeg, Int.reduceToNat, Nat.reduceBEq, Nat.reduceEqDiff]
  refine callD_ret (lentHunk_d p _ _ _ (by omega) (by omega)) (chS_grow (G := [_, _]) (by simp <;> omega)) ?_
  simp -implicitDefEqProofs (maxSteps := 99999999) (disch := first | omega | (simp only [AHeap.set_length, killO_length, List.length_cons, List.length_nil]; first | done | omega)) only [va, vs, vw, Nat.reduceMul, ite_true, ite_false, eq_self, forall_const, implies_true, Nat.reduceAdd, Nat.reduceSub, Nat.reduceLT, Nat.reduceLeDiff, ↓reduceIte, reduceCtorEq, Int.reduceEq, Int.reduceLT, Int.reduceLE, Int.reduceGT, Int.reduceGE, Int.reduceAdd, Int.reduceSub, Int.reduceNeg, Int.reduceToNat, Nat.reduceBEq, Nat.reduceEqDiff]
  refine callD_ret (lentHunk_d q _ _ _ (by omega) (by omega)) (chS_grow (G := [_, _]) (by simp <;> omega)) ?_
  simp -implicitDefEqProofs (maxSteps := 99999999) (disch := first | omega | (simp only [AHeap.set_length, killO_length, List.length_cons, List.length_nil]; first | done | omega)) only [va, vs, vw, Nat.reduceMul, ite_true, ite_false, eq_self, forall_const, implies_true, Nat.reduceAdd, Nat.reduceSub, Nat.reduceLT, Nat.reduceLeDiff, ↓reduceIte, reduceCtorEq, Int.reduceEq, Int.reduceLT, Int.reduceLE, Int.reduceGT, Int.reduceGE, Int.reduceAdd, Int.reduceSub, Int.reduceNeg, Int.reduceToNat, Nat.reduceBEq, Nat.reduceEqDiff]
  have sC : (commR p q).1.short ∧ (commR p q).2.1.short := firstR_short ⟨hq, hp⟩ ⟨hq, hp⟩
  have sM : (mergR p q).1.short ∧ (mergR p q).2.1.short := firstR_short ⟨hp, hq⟩ ⟨hp, hq⟩
  have mv : ∀ {h : Hk} {d : Int}, h.old.length ≤ 10000000 ∧ h.new.length ≤ 10000000 → (h.mv d).old.length ≤ 10000000 ∧ (h.mv d).new.length ≤ 10000000 := fun h => h
  have jp : p.old.length ≤ 10000000 ∧ p.new.length ≤ 10000000 := by omega
  have jq : q.old.length ≤ 10000000 ∧ q.new.length ≤ 10000000 := by omega
  have lC : ((commR p q).1.old.length ≤ 10000000 ∧ (commR p q).1.new.length ≤ 10000000) ∧ (commR p q).2.1.old.length ≤ 10000000 ∧ (commR p q).2.1.new.length ≤ 10000000 := firstR_all (fun h => h.old.length ≤ 10000000 ∧ h.new.length ≤ 10000000) (by simp) ⟨mv jq, mv jp⟩ ⟨mv jq, mv jp⟩
  have lM : ((mergR p q).1.old.length ≤ 10000000 ∧ (mergR p q).1.new.length ≤ 10000000) ∧ (mergR p q).2.1.old.length ≤ 10000000 ∧ (mergR p q).2.1.new.length ≤ 10000000 := firstR_all (fun h => h.old.length ≤ 10000000 ∧ h.new.length ≤ 10000000) (by simp) ⟨mv jp, mv jq⟩ ⟨mv jp, mv jq⟩
  clear mv jp jq
  have dC := commute_o p q none none none none [] hp hq
  have dM := merge_o p q none none none none [] hp hq
  have rC := fun H => refCommute_r p q po pn qo qn H hp hq
  have rM := fun H => refMerge_r p q po pn qo qn H hp hq
  generalize commR p q = cr at sC dC rC lC
  generalize mergR p q = mr at sM dM rM lM
  obtain ⟨ca, cb, ce⟩ := cr
  obtain ⟨ma, mb, me⟩ := mr
  obtain ⟨s1, s2⟩ := sC
  obtain ⟨s3, s4⟩ := sM
  simp only at s1 s2 s3 s4 lC lM
  obtain ⟨⟨l1, l2⟩, l3, l4⟩ := lC
  obtain ⟨⟨l5, l6⟩, l7, l8⟩ := lM
  have hF : ∃ F : AHeap, F.length = 8 ∧ AHeap.find F 0 = some ⟨3, [hkr p po pn], true, 24⟩ ∧ AHeap.find F 1 = some ⟨3, [hkr q qo qn], true, 24⟩ ∧ AHeap.find F 2 = some ⟨3, [.agg [.sc (.int .i64 p.at_), lentV p.old 4, lentV p.new 5]], true, 24⟩ ∧ AHeap.find F 3 = some ⟨3, [.agg [.sc (.int .i64 q.at_), lentV q.old 6, lentV q.new 7]], true, 24⟩ ∧
      AHeap.find F 4 = lentB p.old ∧ AHeap.find F 5 = lentB p.new ∧ AHeap.find F 6 = lentB q.old ∧ AHeap.find F 7 = lentB q.new ∧
      F = [lentB q.new, lentB q.old, lentB p.new, lentB p.old, some ⟨3, [.agg [.sc (.int .i64 q.at_), lentV q.old 6, lentV q.new 7]], true, 24⟩, some ⟨3, [.agg [.sc (.int .i64 p.at_), lentV p.old 4, lentV p.new 5]], true, 24⟩, some ⟨3, [hkr q qo qn], true, 24⟩, some ⟨3, [hkr p po pn], true, 24⟩] := ⟨_, rfl, rfl, rfl, rfl, rfl, rfl, rfl, rfl, rfl, rfl⟩
  obtain ⟨F, z, b0, b1, b2, b3, b4, b5, b6, b7, hF⟩ := hF
  rw [← hF]
  clear hF
  refine hL _ _ ?_
  clear hL
  refine ES_seq_gen fun L hL => ?_
  simp -implicitDefEqProofs (maxSteps := 99999999) (disch := first | omega | (simp only [AHeap.set_length, killO_length, List.length_cons, List.length_nil]; first | done | omega)) only [b2, b3, z, va, vs, vw, Nat.reduceMul, ite_true, ite_false, eq_self, forall_const, implies_true, Nat.reduceAdd, Nat.reduceSub, Nat.reduceLT, Nat.reduceLeDiff, ↓reduceIte, reduceCtorEq, Int.reduceEq, Int.reduceLT, Int.reduceLE, Int.reduceGT, Int.reduceGE, Int.reduceAdd, Int.reduceSub, Int.reduceNeg, Int.reduceToNat, Nat.reduceBEq, Nat.reduceEqDiff]
  refine callR_ret (two_v (lentH_view b4 b5) (lentH_view b6 b7) dC) ?_
  simp -implicitDefEqProofs (maxSteps := 99999999) (disch := first | omega | (simp only [AHeap.set_length, killO_length, List.length_cons, List.length_nil]; first | done | omega)) only [z, va, vs, vw, Nat.reduceMul, ite_true, ite_false, eq_self, forall_const, implies_true, Nat.reduceAdd, Nat.reduceSub, Nat.reduceLT, Nat.reduceLeDiff, ↓reduceIte, reduceCtorEq, Int.reduceEq, Int.reduceLT, Int.reduceLE, Int.reduceGT, Int.reduceGE, Int.reduceAdd, Int.reduceSub, Int.reduceNeg, Int.reduceToNat, Nat.reduceBEq, Nat.reduceEqDiff]
  refine hL _ _ ?_
  clear hL
  refine ES_seq_gen fun L hL => ?_
  simp -implicitDefEqProofs (maxSteps := 99999999) (disch := first | omega | (simp only [AHeap.set_length, killO_length, List.length_cons, List.length_nil]; first | done | omega)) only [b2, b3, z, va, vs, vw, Nat.reduceMul, ite_true, ite_false, eq_self, forall_const, implies_true, Nat.reduceAdd, Nat.reduceSub, Nat.reduceLT, Nat.reduceLeDiff, ↓reduceIte, reduceCtorEq, Int.reduceEq, Int.reduceLT, Int.reduceLE, Int.reduceGT, Int.reduceGE, Int.reduceAdd, Int.reduceSub, Int.reduceNeg, Int.reduceToNat, Nat.reduceBEq, Nat.reduceEqDiff]
  refine callR_ret (two_v (lentH_view (by simp -implicitDefEqProofs (maxSteps := 99999999) (disch := first | omega | (simp only [AHeap.set_length, killO_length, List.length_cons, List.length_nil]; first | done | omega)) only [b4, z, va, vs, vw, Nat.reduceMul, ite_true, ite_false, eq_self, forall_const, implies_true, Nat.reduceAdd, Nat.reduceSub, Nat.reduceLT, Nat.reduceLeDiff, ↓reduceIte, reduceCtorEq, Int.reduceEq, Int.reduceLT, Int.reduceLE, Int.reduceGT, Int.reduceGE, Int.reduceAdd, Int.reduceSub, Int.reduceNeg, Int.reduceToNat, Nat.reduceBEq, Nat.reduceEqDiff]) (by simp -implicitDefEqProofs (maxSteps := 99999999) (disch := first | omega | (simp only [AHeap.set_length, killO_length, List.length_cons, List.length_nil]; first | done | omega)) only [b5, z, va, vs, vw, Nat.reduceMul, ite_true, ite_false, eq_self, forall_const, implies_true, Nat.reduceAdd, Nat.reduceSub, Nat.reduceLT, Nat.reduceLeDiff, ↓reduceIte, reduceCtorEq, Int.reduceEq, Int.reduceLT, Int.reduceLE, Int.reduceGT, Int.reduceGE, Int.reduceAdd, Int.reduceSub, Int.reduceNeg, Int.reduceToNat, Nat.reduceBEq, Nat.reduceEqDiff])) (lentH_view (by simp -implicitDefEqProofs (maxSteps := 99999999) (disch := first | omega | (simp only [AHeap.set_length, killO_length, List.length_cons, List.length_nil]; first | done | omega)) only [b6, z, va, vs, vw, Nat.reduceMul, ite_true, ite_false, eq_self, forall_const, implies_true, Nat.reduceAdd, Nat.reduceSub, Nat.reduceLT, Nat.reduceLeDiff, ↓reduceIte, reduceCtorEq, Int.reduceEq, Int.reduceLT, Int.reduceLE, Int.reduceGT, Int.reduceGE, Int.reduceAdd, Int.reduceSub, Int.reduceNeg, Int.reduceToNat, Nat.reduceBEq, Nat.reduceEqDiff]) (by simp -implicitDefEqProofs (maxSteps := 99999999) (disch := first | omega | (simp only [AHeap.set_length, killO_length, List.length_cons, List.length_nil]; first | done | omega)) only [b7, z, va, vs, vw, Nat.reduceMul, ite_true, ite_false, eq_self, forall_const, implies_true, Nat.reduceAdd, Nat.reduceSub, Nat.reduceLT, Nat.reduceLeDiff, ↓reduceIte, reduceCtorEq, Int.reduceEq, Int.reduceLT, Int.reduceLE, Int.reduceGT, Int.reduceGE, Int.reduceAdd, Int.reduceSub, Int.reduceNeg, Int.reduceToNat, Nat.reduceBEq, Nat.reduceEqDiff])) dM) ?_
  simp -implicitDefEqProofs (maxSteps := 99999999) (disch := first | omega | (simp only [AHeap.set_length, killO_length, List.length_cons, List.length_nil]; first | done | omega)) only [z, va, vs, vw, Nat.reduceMul, ite_true, ite_false, eq_self, forall_const, implies_true, Nat.reduceAdd, Nat.reduceSub, Nat.reduceLT, Nat.reduceLeDiff, ↓reduceIte, reduceCtorEq, Int.reduceEq, Int.reduceLT, Int.reduceLE, Int.reduceGT, Int.reduceGE, Int.reduceAdd, Int.reduceSub, Int.reduceNeg, Int.reduceToNat, Nat.reduceBEq, Nat.reduceEqDiff]
  refine hL _ _ ?_
  clear hL
  refine ES_seq_gen fun L hL => ?_
  simp -implicitDefEqProofs (maxSteps := 99999999) (disch := first | omega | (simp only [AHeap.set_length, killO_length, List.length_cons, List.length_nil]; first | done | omega)) only [b0, b1, z, va, vs, vw, Nat.reduceMul, ite_true, ite_false, eq_self, forall_const, implies_true, Nat.reduceAdd, Nat.reduceSub, Nat.reduceLT, Nat.reduceLeDiff, ↓reduceIte, reduceCtorEq, Int.reduceEq, Int.reduceLT, Int.reduceLE, Int.reduceGT, Int.reduceGE, Int.reduceAdd, Int.reduceSub, Int.reduceNeg, Int.reduceToNat, Nat.reduceBEq, Nat.reduceEqDiff]
  refine callR_ret (rC _) ?_
  simp -implicitDefEqProofs (maxSteps := 99999999) (disch := first | omega | (simp only [AHeap.set_length, killO_length, List.length_cons, List.length_nil]; first | done | omega)) only [z, tupR, va, vs, vw, Nat.reduceMul, ite_true, ite_false, eq_self, forall_const, implies_true, Nat.reduceAdd, Nat.reduceSub, Nat.reduceLT, Nat.reduceLeDiff, ↓reduceIte, reduceCtorEq, Int.reduceEq, Int.reduceLT, Int.reduceLE, Int.reduceGT, Int.reduceGE, Int.reduceAdd, Int.reduceSub, Int.reduceNeg, Int.reduceToNat, Nat.reduceBEq, Nat.reduceEqDiff]
  refine hL _ _ ?_
  clear hL
  refine ES_seq_gen fun L hL => ?_
  simp -implicitDefEqProofs (maxSteps := 99999999) (disch := first | omega | (simp only [AHeap.set_length, killO_length, List.length_cons, List.length_nil]; first | done | omega)) only [b0, b1, z, va, vs, vw, Nat.reduceMul, ite_true, ite_false, eq_self, forall_const, implies_true, Nat.reduceAdd, Nat.reduceSub, Nat.reduceLT, Nat.reduceLeDiff, ↓reduceIte, reduceCtorEq, Int.reduceEq, Int.reduceLT, Int.reduceLE, Int.reduceGT, Int.reduceGE, Int.reduceAdd, Int.reduceSub, Int.reduceNeg, Int.reduceToNat, Nat.reduceBEq, Nat.reduceEqDiff]
  refine callR_ret (rM _) ?_
  simp -implicitDefEqProofs (maxSteps := 99999999) (disch := first | omega | (simp only [AHeap.set_length, killO_length, List.length_cons, List.length_nil]; first | done | omega)) only [z, tupR, va, vs, vw, Nat.reduceMul, ite_true, ite_false, eq_self, forall_const, implies_true, Nat.reduceAdd, Nat.reduceSub, Nat.reduceLT, Nat.reduceLeDiff, ↓reduceIte, reduceCtorEq, Int.reduceEq, Int.reduceLT, Int.reduceLE, Int.reduceGT, Int.reduceGE, Int.reduceAdd, Int.reduceSub, Int.reduceNeg, Int.reduceToNat, Nat.reduceBEq, Nat.reduceEqDiff]
  refine hL _ _ ?_
  clear hL
  refine ES_seq_gen fun L hL => ?_
  simp -implicitDefEqProofs (maxSteps := 99999999) (disch := first | omega | (simp only [AHeap.set_length, killO_length, List.length_cons, List.length_nil]; first | done | omega)) only [z, va, vs, vw, Nat.reduceMul, ite_true, ite_false, eq_self, forall_const, implies_true, Nat.reduceAdd, Nat.reduceSub, Nat.reduceLT, Nat.reduceLeDiff, ↓reduceIte, reduceCtorEq, Int.reduceEq, Int.reduceLT, Int.reduceLE, Int.reduceGT, Int.reduceGE, Int.reduceAdd, Int.reduceSub, Int.reduceNeg, Int.reduceToNat, Nat.reduceBEq, Nat.reduceEqDiff]
  refine callR_ret (same_v (fun _ => ?_) (fun _ => ?_) s1) ?_
  · simp -implicitDefEqProofs (maxSteps := 99999999) (disch := first | omega | (simp only [AHeap.set_length, killO_length, List.length_cons, List.length_nil]; first | done | omega)) only [z, va, vs, vw, Nat.reduceMul, ite_true, ite_false, eq_self, forall_const, implies_true, Nat.reduceAdd, Nat.reduceSub, Nat.reduceLT, Nat.reduceLeDiff, ↓reduceIte, reduceCtorEq, Int.reduceEq, Int.reduceLT, Int.reduceLE, Int.reduceGT, Int.reduceGE, Int.reduceAdd, Int.reduceSub, Int.reduceNeg, Int.reduceToNat, Nat.reduceBEq, Nat.reduceEqDiff]
  · simp -implicitDefEqProofs (maxSteps := 99999999) (disch := first | omega | (simp only [AHeap.set_length, killO_length, List.length_cons, List.length_nil]; first | done | omega)) only [z, va, vs, vw, Nat.reduceMul, ite_true, ite_false, eq_self, forall_const, implies_true, Nat.reduceAdd, Nat.reduceSub, Nat.reduceLT, Nat.reduceLeDiff, ↓reduceIte, reduceCtorEq, Int.reduceEq, Int.reduceLT, Int.reduceLE, Int.reduceGT, Int.reduceGE, Int.reduceAdd, Int.reduceSub, Int.reduceNeg, Int.reduceToNat, Nat.reduceBEq, Nat.reduceEqDiff]
  simp -implicitDefEqProofs (maxSteps := 99999999) (disch := first | omega | (simp only [AHeap.set_length, killO_length, List.length_cons, List.length_nil]; first | done | omega)) only [z, va, vs, vw, Nat.reduceMul, ite_true, ite_false, eq_self, forall_const, implies_true, Nat.reduceAdd, Nat.reduceSub, Nat.reduceLT, Nat.reduceLeDiff, ↓reduceIte, reduceCtorEq, Int.reduceEq, Int.reduceLT, Int.reduceLE, Int.reduceGT, Int.reduceGE, Int.reduceAdd, Int.reduceSub, Int.reduceNeg, Int.reduceToNat, Nat.reduceBEq, Nat.reduceEqDiff]
  refine callR_ret (same_v (fun _ => ?_) (fun _ => ?_) s2) ?_
  · simp -implicitDefEqProofs (maxSteps := 99999999) (disch := first | omega | (simp only [AHeap.set_length, killO_length, List.length_cons, List.length_nil]; first | done | omega)) only [z, va, vs, vw, Nat.reduceMul, ite_true, ite_false, eq_self, forall_const, implies_true, Nat.reduceAdd, Nat.reduceSub, Nat.reduceLT, Nat.reduceLeDiff, ↓reduceIte, reduceCtorEq, Int.reduceEq, Int.reduceLT, Int.reduceLE, Int.reduceGT, Int.reduceGE, Int.reduceAdd, Int.reduceSub, Int.reduceNeg, Int.reduceToNat, Nat.reduceBEq, Nat.reduceEqDiff]
  · simp -implicitDefEqProofs (maxSteps := 99999999) (disch := first | omega | (simp only [AHeap.set_length, killO_length, List.length_cons, List.length_nil]; first | done | omega)) only [z, va, vs, vw, Nat.reduceMul, ite_true, ite_false, eq_self, forall_const, implies_true, Nat.reduceAdd, Nat.reduceSub, Nat.reduceLT, Nat.reduceLeDiff, ↓reduceIte, reduceCtorEq, Int.reduceEq, Int.reduceLT, Int.reduceLE, Int.reduceGT, Int.reduceGE, Int.reduceAdd, Int.reduceSub, Int.reduceNeg, Int.reduceToNat, Nat.reduceBEq, Nat.reduceEqDiff]
  simp -implicitDefEqProofs (maxSteps := 99999999) (disch := first | omega | (simp only [AHeap.set_length, killO_length, List.length_cons, List.length_nil]; first | done | omega)) only [z, va, vs, vw, Nat.reduceMul, ite_true, ite_false, eq_self, forall_const, implies_true, Nat.reduceAdd, Nat.reduceSub, Nat.reduceLT, Nat.reduceLeDiff, ↓reduceIte, reduceCtorEq, Int.reduceEq, Int.reduceLT, Int.reduceLE, Int.reduceGT, Int.reduceGE, Int.reduceAdd, Int.reduceSub, Int.reduceNeg, Int.reduceToNat, Nat.reduceBEq, Nat.reduceEqDiff]
  refine callR_ret (same_v (fun _ => ?_) (fun _ => ?_) s3) ?_
  · simp -implicitDefEqProofs (maxSteps := 99999999) (disch := first | omega | (simp only [AHeap.set_length, killO_length, List.length_cons, List.length_nil]; first | done | omega)) only [z, va, vs, vw, Nat.reduceMul, ite_true, ite_false, eq_self, forall_const, implies_true, Nat.reduceAdd, Nat.reduceSub, Nat.reduceLT, Nat.reduceLeDiff, ↓reduceIte, reduceCtorEq, Int.reduceEq, Int.reduceLT, Int.reduceLE, Int.reduceGT, Int.reduceGE, Int.reduceAdd, Int.reduceSub, Int.reduceNeg, Int.reduceToNat, Nat.reduceBEq, Nat.reduceEqDiff]
  · simp -implicitDefEqProofs (maxSteps := 99999999) (disch := first | omega | (simp only [AHeap.set_length, killO_length, List.length_cons, List.length_nil]; first | done | omega)) only [z, va, vs, vw, Nat.reduceMul, ite_true, ite_false, eq_self, forall_const, implies_true, Nat.reduceAdd, Nat.reduceSub, Nat.reduceLT, Nat.reduceLeDiff, ↓reduceIte, reduceCtorEq, Int.reduceEq, Int.reduceLT, Int.reduceLE, Int.reduceGT, Int.reduceGE, Int.reduceAdd, Int.reduceSub, Int.reduceNeg, Int.reduceToNat, Nat.reduceBEq, Nat.reduceEqDiff]
  simp -implicitDefEqProofs (maxSteps := 99999999) (disch := first | omega | (simp only [AHeap.set_length, killO_length, List.length_cons, List.length_nil]; first | done | omega)) only [z, va, vs, vw, Nat.reduceMul, ite_true, ite_false, eq_self, forall_const, implies_true, Nat.reduceAdd, Nat.reduceSub, Nat.reduceLT, Nat.reduceLeDiff, ↓reduceIte, reduceCtorEq, Int.reduceEq, Int.reduceLT, Int.reduceLE, Int.reduceGT, Int.reduceGE, Int.reduceAdd, Int.reduceSub, Int.reduceNeg, Int.reduceToNat, Nat.reduceBEq, Nat.reduceEqDiff]
  refine callR_ret (same_v (fun _ => ?_) (fun _ => ?_) s4) ?_
  · simp -implicitDefEqProofs (maxSteps := 99999999) (disch := first | omega | (simp only [AHeap.set_length, killO_length, List.length_cons, List.length_nil]; first | done | omega)) only [z, va, vs, vw, Nat.reduceMul, ite_true, ite_false, eq_self, forall_const, implies_true, Nat.reduceAdd, Nat.reduceSub, Nat.reduceLT, Nat.reduceLeDiff, ↓reduceIte, reduceCtorEq, Int.reduceEq, Int.reduceLT, Int.reduceLE, Int.reduceGT, Int.reduceGE, Int.reduceAdd, Int.reduceSub, Int.reduceNeg, Int.reduceToNat, Nat.reduceBEq, Nat.reduceEqDiff]
  · simp -implicitDefEqProofs (maxSteps := 99999999) (disch := first | omega | (simp only [AHeap.set_length, killO_length, List.length_cons, List.length_nil]; first | done | omega)) only [z, va, vs, vw, Nat.reduceMul, ite_true, ite_false, eq_self, forall_const, implies_true, Nat.reduceAdd, Nat.reduceSub, Nat.reduceLT, Nat.reduceLeDiff, ↓reduceIte, reduceCtorEq, Int.reduceEq, Int.reduceLT, Int.reduceLE, Int.reduceGT, Int.reduceGE, Int.reduceAdd, Int.reduceSub, Int.reduceNeg, Int.reduceToNat, Nat.reduceBEq, Nat.reduceEqDiff]
  simp -implicitDefEqProofs (maxSteps := 99999999) (disch := first | omega | (simp only [AHeap.set_length, killO_length, List.length_cons, List.length_nil]; first | done | omega)) only [z, va, vs, vw, Nat.reduceMul, ite_true, ite_false, eq_self, forall_const, implies_true, Nat.reduceAdd, Nat.reduceSub, Nat.reduceLT, Nat.reduceLeDiff, ↓reduceIte, reduceCtorEq, Int.reduceEq, Int.reduceLT, Int.reduceLE, Int.reduceGT, Int.reduceGE, Int.reduceAdd, Int.reduceSub, Int.reduceNeg, Int.reduceToNat, Nat.reduceBEq, Nat.reduceEqDiff]
  refine hL _ _ ?_
  clear hL
  refine ES_seq_gen fun L hL => ?_
  simp -implicitDefEqProofs (maxSteps := 99999999) (disch := first | omega | (simp only [AHeap.set_length, killO_length, List.length_cons, List.length_nil]; first | done | omega)) only [b0, b1, b2, b3, z, va, vs, vw, Nat.reduceMul, ite_true, ite_false, eq_self, forall_const, implies_true, Nat.reduceAdd, Nat.reduceSub, Nat.reduceLT, Nat.reduceLeDiff, ↓reduceIte, reduceCtorEq, Int.reduceEq, Int.reduceLT, Int.reduceLE, Int.reduceGT, Int.reduceGE, Int.reduceAdd, Int.reduceSub, Int.reduceNeg, Int.reduceToNat, Nat.reduceBEq, Nat.reduceEqDiff]
  refine callR_ret (keptHunk_d p _ _ _ 4 5 ?_ ?_ (by omega) (by omega)) ?_
  · simp -implicitDefEqProofs (maxSteps := 99999999) (disch := first | omega | (simp only [AHeap.set_length, killO_length, List.length_cons, List.length_nil]; first | done | omega)) only [b4, z, va, vs, vw, Nat.reduceMul, ite_true, ite_false, eq_self, forall_const, implies_true, Nat.reduceAdd, Nat.reduceSub, Nat.reduceLT, Nat.reduceLeDiff, ↓reduceIte, reduceCtorEq, Int.reduceEq, Int.reduceLT, Int.reduceLE, Int.reduceGT, Int.reduceGE, Int.reduceAdd, Int.reduceSub, Int.reduceNeg, Int.reduceToNat, Nat.reduceBEq, Nat.reduceEqDiff]
  · simp -implicitDefEqProofs (maxSteps := 99999999) (disch := first | omega | (simp only [AHeap.set_length, killO_length, List.length_cons, List.length_nil]; first | done | omega)) only [b5, z, va, vs, vw, Nat.reduceMul, ite_true, ite_false, eq_self, forall_const, implies_true, Nat.reduceAdd, Nat.reduceSub, Nat.reduceLT, Nat.reduceLeDiff, ↓reduceIte, reduceCtorEq, Int.reduceEq, Int.reduceLT, Int.reduceLE, Int.reduceGT, Int.reduceGE, Int.reduceAdd, Int.reduceSub, Int.reduceNeg, Int.reduceToNat, Nat.reduceBEq, Nat.reduceEqDiff]
  simp -implicitDefEqProofs (maxSteps := 99999999) (disch := first | omega | (simp only [AHeap.set_length, killO_length, List.length_cons, List.length_nil]; first | done | omega)) only [b0, b1, b2, b3, z, va, vs, vw, Nat.reduceMul, ite_true, ite_false, eq_self, forall_const, implies_true, Nat.reduceAdd, Nat.reduceSub, Nat.reduceLT, Nat.reduceLeDiff, ↓reduceIte, reduceCtorEq, Int.reduceEq, Int.reduceLT, Int.reduceLE, Int.reduceGT, Int.reduceGE, Int.reduceAdd, Int.reduceSub, Int.reduceNeg, Int.reduceToNat, Nat.reduceBEq, Nat.reduceEqDiff]
  refine callR_ret (keptHunk_d q _ _ _ 6 7 ?_ ?_ (by omega) (by omega)) ?_
  · simp -implicitDefEqProofs (maxSteps := 99999999) (disch := first | omega | (simp only [AHeap.set_length, killO_length, List.length_cons, List.length_nil]; first | done | omega)) only [b6, z, va, vs, vw, Nat.reduceMul, ite_true, ite_false, eq_self, forall_const, implies_true, Nat.reduceAdd, Nat.reduceSub, Nat.reduceLT, Nat.reduceLeDiff, ↓reduceIte, reduceCtorEq, Int.reduceEq, Int.reduceLT, Int.reduceLE, Int.reduceGT, Int.reduceGE, Int.reduceAdd, Int.reduceSub, Int.reduceNeg, Int.reduceToNat, Nat.reduceBEq, Nat.reduceEqDiff]
  · simp -implicitDefEqProofs (maxSteps := 99999999) (disch := first | omega | (simp only [AHeap.set_length, killO_length, List.length_cons, List.length_nil]; first | done | omega)) only [b7, z, va, vs, vw, Nat.reduceMul, ite_true, ite_false, eq_self, forall_const, implies_true, Nat.reduceAdd, Nat.reduceSub, Nat.reduceLT, Nat.reduceLeDiff, ↓reduceIte, reduceCtorEq, Int.reduceEq, Int.reduceLT, Int.reduceLE, Int.reduceGT, Int.reduceGE, Int.reduceAdd, Int.reduceSub, Int.reduceNeg, Int.reduceToNat, Nat.reduceBEq, Nat.reduceEqDiff]
  simp -implicitDefEqProofs (maxSteps := 99999999) (disch := first | omega | (simp only [AHeap.set_length, killO_length, List.length_cons, List.length_nil]; first | done | omega)) only [b0, b1, b2, b3, z, va, vs, vw, Nat.reduceMul, ite_true, ite_false, eq_self, forall_const, implies_true, Nat.reduceAdd, Nat.reduceSub, Nat.reduceLT, Nat.reduceLeDiff, ↓reduceIte, reduceCtorEq, Int.reduceEq, Int.reduceLT, Int.reduceLE, Int.reduceGT, Int.reduceGE, Int.reduceAdd, Int.reduceSub, Int.reduceNeg, Int.reduceToNat, Nat.reduceBEq, Nat.reduceEqDiff]
  refine hL _ _ ?_
  clear hL
  refine ES_seq_gen fun L hL => ?_
  simp -implicitDefEqProofs (maxSteps := 99999999) (disch := first | omega | (simp only [AHeap.set_length, killO_length, List.length_cons, List.length_nil]; first | done | omega)) only [z, va, vs, vw, Nat.reduceMul, ite_true, ite_false, eq_self, forall_const, implies_true, Nat.reduceAdd, Nat.reduceSub, Nat.reduceLT, Nat.reduceLeDiff, ↓reduceIte, reduceCtorEq, Int.reduceEq, Int.reduceLT, Int.reduceLE, Int.reduceGT, Int.reduceGE, Int.reduceAdd, Int.reduceSub, Int.reduceNeg, Int.reduceToNat, Nat.reduceBEq, Nat.reduceEqDiff]
  refine callR_G fun G hG => ?_
  have g24 : AHeap.find G 24 = some ⟨3, hks3 [(ca, 8, 9), (cb, 10, 11), (ma, 14, 15), (mb, 16, 17)], true, 24⟩ := by
    rw [hG]
    simp -implicitDefEqProofs (maxSteps := 99999999) (disch := first | omega | (simp only [AHeap.set_length, killO_length, List.length_cons, List.length_nil]; first | done | omega)) only [z, va, vs, vw, Nat.reduceMul, ite_true, ite_false, eq_self, forall_const, implies_true, Nat.reduceAdd, Nat.reduceSub, Nat.reduceLT, Nat.reduceLeDiff, ↓reduceIte, reduceCtorEq, Int.reduceEq, Int.reduceLT, Int.reduceLE, Int.reduceGT, Int.reduceGE, Int.reduceAdd, Int.reduceSub, Int.reduceNeg, Int.reduceToNat, Nat.reduceBEq, Nat.reduceEqDiff]
    rfl
  have g25 : AHeap.find G 25 = some ⟨1, [.vec 3 24 0 4 (some 4)], true, 32⟩ := by
    rw [hG]
    simp -implicitDefEqProofs (maxSteps := 99999999) (disch := first | omega | (simp only [AHeap.set_length, killO_length, List.length_cons, List.length_nil]; first | done | omega)) only [z, va, vs, vw, Nat.reduceMul, ite_true, ite_false, eq_self, forall_const, implies_true, Nat.reduceAdd, Nat.reduceSub, Nat.reduceLT, Nat.reduceLeDiff, ↓reduceIte, reduceCtorEq, Int.reduceEq, Int.reduceLT, Int.reduceLE, Int.reduceGT, Int.reduceGE, Int.reduceAdd, Int.reduceSub, Int.reduceNeg, Int.reduceToNat, Nat.reduceBEq, Nat.reduceEqDiff]
  have gt : AHeap.find G 8 = OutB ca.old ∧ AHeap.find G 9 = OutB ca.new ∧ AHeap.find G 10 = OutB cb.old ∧ AHeap.find G 11 = OutB cb.new ∧ AHeap.find G 14 = OutB ma.old ∧ AHeap.find G 15 = OutB ma.new ∧ AHeap.find G 16 = OutB mb.old ∧ AHeap.find G 17 = OutB mb.new := by
    rw [hG]
    simp -implicitDefEqProofs (maxSteps := 99999999) (disch := first | omega | (simp only [AHeap.set_length, killO_length, List.length_cons, List.length_nil]; first | done | omega)) only [z, va, vs, vw, Nat.reduceMul, ite_true, ite_false, eq_self, forall_const, implies_true, Nat.reduceAdd, Nat.reduceSub, Nat.reduceLT, Nat.reduceLeDiff, ↓reduceIte, reduceCtorEq, Int.reduceEq, Int.reduceLT, Int.reduceLE, Int.reduceGT, Int.reduceGE, Int.reduceAdd, Int.reduceSub, Int.reduceNeg, Int.reduceToNat, Nat.reduceBEq, Nat.reduceEqDiff]
  have gl : ∀ i, i < 8 → AHeap.find G i = AHeap.find F i := fun i hi => by
    rw [hG]
    simp -implicitDefEqProofs (maxSteps := 99999999) (disch := first | omega | (simp only [AHeap.set_length, killO_length, List.length_cons, List.length_nil]; first | done | omega)) only [z, va, vs, vw, Nat.reduceMul, ite_true, ite_false, eq_self, forall_const, implies_true, Nat.reduceAdd, Nat.reduceSub, Nat.reduceLT, Nat.reduceLeDiff, ↓reduceIte, reduceCtorEq, Int.reduceEq, Int.reduceLT, Int.reduceLE, Int.reduceGT, Int.reduceGE, Int.reduceAdd, Int.reduceSub, Int.reduceNeg, Int.reduceToNat, Nat.reduceBEq, Nat.reduceEqDiff]
  clear hG
  obtain ⟨g8, g9, g10, g11, g14, g15, g16, g17⟩ := gt
  have ids : ∀ i, i ∈ ownIds (txs3 [(ca, 8, 9), (cb, 10, 11), (ma, 14, 15), (mb, 16, 17)]) → 8 ≤ i ∧ i < 24 := fun i hi => by
    obtain ⟨o, ho, rfl⟩ := List.mem_map.1 hi
    have ho := (List.mem_filter.1 ho).1
    simp [txs3] at ho
    rcases ho with rfl | rfl | rfl | rfl | rfl | rfl | rfl | rfl <;> simp
  obtain ⟨G2, dA, kA⟩ := apartOne_d (G := G) (l := [(ca, 8, 9), (cb, 10, 11), (ma, 14, 15), (mb, 16, 17)]) (r := 24) (o := 25) (ty := 32) (by simp) g24 g25 (by omega) (ownsOK_of (fun o ho hn => by
      simp only [txs3, List.flatMap_cons, List.flatMap_nil, List.append_nil, List.cons_append, List.nil_append, List.mem_cons, List.not_mem_nil, or_false] at ho
      rcases ho with rfl | rfl | rfl | rfl | rfl | rfl | rfl | rfl <;> assumption) (fun o ho => by
      simp only [txs3, List.flatMap_cons, List.flatMap_nil, List.append_nil, List.cons_append, List.nil_append, List.mem_cons, List.not_mem_nil, or_false] at ho
      rcases ho with rfl | rfl | rfl | rfl | rfl | rfl | rfl | rfl <;> exact shT_strs') (by simp [txs3]) (fun o ho => by
      simp only [txs3, List.flatMap_cons, List.flatMap_nil, List.append_nil, List.cons_append, List.nil_append, List.mem_cons, List.not_mem_nil, or_false] at ho
      rcases ho with rfl | rfl | rfl | rfl | rfl | rfl | rfl | rfl <;> rw [strs_length] <;> assumption)) (fun h => by have := ids _ h; omega) (fun h => by have := ids _ h; omega) (by simp)
  have k2 : ∀ i, i < 8 → AHeap.find G2 i = AHeap.find F i := fun i hi => (kA i (by omega) (by omega) (fun h => by have := ids i h; omega)).trans (gl i hi)
  clear kA gl
  have e0 := (k2 0 (by omega)).trans b0
  have e1 := (k2 1 (by omega)).trans b1
  have e2 := (k2 2 (by omega)).trans b2
  have e3 := (k2 3 (by omega)).trans b3
  refine callR_ret dA ?_
  simp -implicitDefEqProofs (maxSteps := 99999999) (disch := first | omega | (simp only [AHeap.set_length, killO_length, List.length_cons, List.length_nil]; first | done | omega)) only [e0, e2, va, vs, vw, Nat.reduceMul, ite_true, ite_false, eq_self, forall_const, implies_true, Nat.reduceAdd, Nat.reduceSub, Nat.reduceLT, Nat.reduceLeDiff, ↓reduceIte, reduceCtorEq, Int.reduceEq, Int.reduceLT, Int.reduceLE, Int.reduceGT, Int.reduceGE, Int.reduceAdd, Int.reduceSub, Int.reduceNeg, Int.reduceToNat, Nat.reduceBEq, Nat.reduceEqDiff]
  refine callR_ret (keptHunk_d p _ _ _ 4 5 ((k2 4 (by omega)).trans b4) ((k2 5 (by omega)).trans b5) (by omega) (by omega)) ?_
  simp -implicitDefEqProofs (maxSteps := 99999999) (disch := first | omega | (simp only [AHeap.set_length, killO_length, List.length_cons, List.length_nil]; first | done | omega)) only [e1, e3, va, vs, vw, Nat.reduceMul, ite_true, ite_false, eq_self, forall_const, implies_true, Nat.reduceAdd, Nat.reduceSub, Nat.reduceLT, Nat.reduceLeDiff, ↓reduceIte, reduceCtorEq, Int.reduceEq, Int.reduceLT, Int.reduceLE, Int.reduceGT, Int.reduceGE, Int.reduceAdd, Int.reduceSub, Int.reduceNeg, Int.reduceToNat, Nat.reduceBEq, Nat.reduceEqDiff]
  refine callR_ret (keptHunk_d q _ _ _ 6 7 ((k2 6 (by omega)).trans b6) ((k2 7 (by omega)).trans b7) (by omega) (by omega)) ?_
  simp -implicitDefEqProofs (maxSteps := 99999999) (disch := first | omega | (simp only [AHeap.set_length, killO_length, List.length_cons, List.length_nil]; first | done | omega)) only [va, vs, vw, Nat.reduceMul, ite_true, ite_false, eq_self, forall_const, implies_true, Nat.reduceAdd, Nat.reduceSub, Nat.reduceLT, Nat.reduceLeDiff, ↓reduceIte, reduceCtorEq, Int.reduceEq, Int.reduceLT, Int.reduceLE, Int.reduceGT, Int.reduceGE, Int.reduceAdd, Int.reduceSub, Int.reduceNeg, Int.reduceToNat, Nat.reduceBEq, Nat.reduceEqDiff]
  refine callR_ret (awake_d _) ?_
  simp -implicitDefEqProofs (maxSteps := 99999999) (disch := first | omega | (simp only [AHeap.set_length, killO_length, List.length_cons, List.length_nil]; first | done | omega)) only [va, vs, vw, Nat.reduceMul, ite_true, ite_false, eq_self, forall_const, implies_true, Nat.reduceAdd, Nat.reduceSub, Nat.reduceLT, Nat.reduceLeDiff, ↓reduceIte, reduceCtorEq, Int.reduceEq, Int.reduceLT, Int.reduceLE, Int.reduceGT, Int.reduceGE, Int.reduceAdd, Int.reduceSub, Int.reduceNeg, Int.reduceToNat, Nat.reduceBEq, Nat.reduceEqDiff]
  refine hL _ _ ?_
  clear hL
  simp -implicitDefEqProofs (maxSteps := 99999999) (disch := first | omega | (simp only [AHeap.set_length, killO_length, List.length_cons, List.length_nil]; first | done | omega)) only [va, vs, vw, Nat.reduceMul, ite_true, ite_false, eq_self, forall_const, implies_true, Nat.reduceAdd, Nat.reduceSub, Nat.reduceLT, Nat.reduceLeDiff, ↓reduceIte, reduceCtorEq, Int.reduceEq, Int.reduceLT, Int.reduceLE, Int.reduceGT, Int.reduceGE, Int.reduceAdd, Int.reduceSub, Int.reduceNeg, Int.reduceToNat, Nat.reduceBEq, Nat.reduceEqDiff]
  exact weak_end
end Go.Proofs.YtijnpkpcoeeioaaGreat
