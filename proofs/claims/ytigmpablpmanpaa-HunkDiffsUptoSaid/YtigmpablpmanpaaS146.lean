/- diff.between. -/
import Derived.Test.YtigmpablpmanpaaS145
namespace Go.Proofs.Ytigmpablpmanpaa
open Go.RowKit
set_option maxRecDepth 100000
set_option linter.unusedVariables false
set_option linter.unusedSimpArgs false

theorem strs_tk (L : List ByteArray) (k : Nat) : (strs L).take k = strs (L.take k) := by simp [strs, List.map_take]
theorem strs_dr (L : List ByteArray) (k : Nat) : (strs L).drop k = strs (L.drop k) := by simp [strs, List.map_drop]
theorem prs_get {l : List (Nat × Nat)} {k : Nat} {x y : Nat} (h : l[k]? = some (x, y)) : (prs l).getD k .top = .agg [.sc (.int .i64 x), .sc (.int .i64 y)] := by
  simp [prs, h]
theorem bet_le (a b : List ByteArray) : ∀ (l : List (Nat × Nat)) (i j : Nat), (bet a b i j l).length ≤ l.length
  | [], _, _ => Nat.le_refl _
  | (x, y) :: r, i, j => by
    have := bet_le a b r (x + 1) (y + 1)
    simp only [bet]
    split <;> simp only [List.length_cons] <;> omega
theorem cmn_le (a b : List ByteArray) (i j : Nat) (hi : i ≤ a.length) : (cmn a b i j).length + i ≤ a.length := by
  by_cases h : i < a.length ∧ j < b.length
  · by_cases e : nthS a i = nthS b j
    · rw [cmn_eq h.1 h.2 e]
      have := cmn_le a b (i + 1) (j + 1) (by omega)
      simp only [List.length_cons]
      omega
    · by_cases g : lcd a b (i + 1) j ≥ lcd a b i (j + 1)
      · rw [cmn_i h.1 h.2 e g]
        have := cmn_le a b (i + 1) j (by omega)
        omega
      · rw [cmn_j h.1 h.2 e g]
        exact cmn_le a b i (j + 1) hi
  · rw [cmn_end h]
    simp
    exact hi
termination_by (a.length - i) + (b.length - j)
theorem Rise.app {n m : Nat} : ∀ {l : List (Nat × Nat)} {i j : Nat}, Rise n m i j l → Rise (n + 1) (m + 1) i j (l ++ [(n, m)])
  | [], _, _, h => ⟨h, Nat.le_refl _, Nat.le_refl _⟩
  | (x, y) :: r, _, _, h => ⟨h.1, Rise.app h.2⟩

theorem strs_gzl {H1 : AHeap} {n0 : Nat} {src : List Nat} {l : List ByteArray} : GzL H1 n0 src (strs l) (strs l) := gzL_map Value.string
theorem weak_ownO {H F : AHeap} {k io oid : Nat} {ty t : TypeId} {xs : List AV} (hol : oid < H.length) (ho : ∀ id, id < H.length → id ≠ oid → AHeap.find F id = AHeap.find H id) (hc : AHeap.find F oid = some ⟨1, [OwnV k xs io], true, t⟩) (hf : xs ≠ [] → AHeap.find F io = OwnB k ty xs ∧ H.length ≤ io) (hz : ∀ s, GzL F H.length [s] xs xs) :
    Weak H (.ret (.tup [])) F (.ret (.tup [])) (OwnB k ty xs :: AHeap.set H oid (some ⟨1, [OwnV k xs H.length], true, t⟩)) := by
  have hs : ∃ s, H.length ≤ s ∧ (xs ≠ [] → s = io) := by
    by_cases e : xs = []
    · exact ⟨H.length, Nat.le_refl _, fun h => (h e).elim⟩
    · exact ⟨io, (hf e).2, fun _ => rfl⟩
  obtain ⟨s, hs1, hs2⟩ := hs
  refine weak_gen [s] (by simp [AHeap.set_length]) (by simp) (by simpa using hs1) (fun id k' hid hk => ?_) (fun i s' k' hs' hk => ?_) (.same trivial)
  · rw [find_past (by rw [AHeap.set_length]; exact hid)] at hk
    by_cases e : id = oid
    · subst e
      rw [AHeap.find_set_same hid] at hk
      cases hk
      refine .inr ⟨_, hc, rfl, rfl, fun h => h, .cons (OwnV_gz fun h => ?_) .nil⟩
      have := hs2 h
      subst this
      exact newId_one hs1
    · rw [find_set_other e] at hk
      exact .inl ⟨hk, by rw [ho id hid e]; exact hk⟩
  · rcases i with _ | i
    · simp at hs'
      subst hs'
      rw [Nat.add_zero, find_top (by rw [AHeap.set_length])] at hk
      obtain ⟨e, rfl⟩ := OwnB_some hk
      have e2 := hs2 e
      subst e2
      refine ⟨_, by rw [(hf e).1, OwnB_ne e], rfl, rfl, fun h => h, hz _⟩
    · simp at hs'
theorem hks_gz {H1 : AHeap} {n0 : Nat} {src : List Nat} : ∀ {l : List Hk}, GzL H1 n0 src (hks l) (hks l)
  | [] => .nil
  | _ :: _ => .cons (.agg (.cons (.same trivial) (.cons (.lst strs_gzl) (.cons (.lst strs_gzl) .nil)))) hks_gz
theorem guardK_ff {ts : List AV} {yes no : Prop} {d : Nat} (h : ts.getD d .top = .sc (.bool false)) (hn : no) : guardK ts yes no (some (d, true)) := by
  unfold guardK
  simp only [h]
  exact ⟨fun e => by simp at e, fun _ => hn⟩
theorem guardK_tt {ts : List AV} {yes no : Prop} {d : Nat} (h : ts.getD d .top = .sc (.bool true)) (hy : yes) : guardK ts yes no (some (d, true)) := by
  unfold guardK
  simp only [h]
  exact ⟨fun _ => hy, fun e => by simp at e⟩
theorem hkF_ok {F : AHeap} {xs : List Hk} {x : Hk} {oid vid : Nat} (ho : oid < F.length) (hv : xs ≠ [] → vid < F.length ∧ vid ≠ oid) :
    AHeap.find (hkF F xs x oid vid) oid = some ⟨1, [OwnV 3 (hks (xs ++ [x])) (F.length + 1)], true, 28⟩ ∧ AHeap.find (hkF F xs x oid vid) (F.length + 1) = some ⟨3, hks (xs ++ [x]), false, 51⟩ ∧ (hkF F xs x oid vid).length = F.length + 2 ∧
    ∀ id, id < F.length → id ≠ oid → (xs ≠ [] → id ≠ vid) → AHeap.find (hkF F xs x oid vid) id = AHeap.find F id := by
  unfold hkF
  refine ⟨?_, find_top (by rw [AHeap.set_length, killO_length]; rfl), by simp [AHeap.set_length, killO_length], fun id hid h1 h2 => ?_⟩
  · rw [find_past (by rw [AHeap.set_length, killO_length]; simp; omega), AHeap.find_set_same (by rw [killO_length]; simp; omega)]
  · rw [find_past (by rw [AHeap.set_length, killO_length]; simp; omega), find_set_other h1]
    by_cases e : hks xs = []
    · rw [e]
      exact find_past hid
    · rw [find_killO_other (fun _ => h2 (fun h => e (by rw [h]; rfl)))]
      exact find_past hid
theorem betw_d (a b : List ByteArray) (hla : a.length ≤ 4096) (hlb : b.length ≤ 4096) {H : AHeap} {rid oid ca cb fn db : Nat} {ts0 : List AV} {js0 : Nat → AV} {t1 t2 : TypeId} (hts : ts0 = mk [none, none, none, none, none, some (.ptr 1 oid 0 0), none, none, none, none, none, none, none, none, none, none] js0)
    (hr : AHeap.find H rid = some (lpB (recB fn db #[10] (rcA Try.f12 0) (rcB Try.f12 0)) ts0)) (ho : AHeap.find H oid = some ⟨1, [.lst 0 [] (some [])], true, 28⟩) (d1 : rid ≠ oid)
    (ha : AHeap.find H ca = some ⟨1, [.lst 1 (strs a) none], true, t1⟩) (hb : AHeap.find H cb = some ⟨1, [.lst 1 (strs b) none], true, t2⟩) (da : ca ≠ oid) (db' : cb ≠ oid) :
    D Try.prog 49 [.ptr 0 rid 0 1, .ptr 1 ca 0 0, .ptr 1 cb 0 0] H (.ret (.tup [])) (OwnB 3 51 (hks (difH a b)) :: AHeap.set H oid (some ⟨1, [OwnV 3 (hks (difH a b)) H.length], true, 28⟩)) := by
  have hal := AHeap.find_lt ha
  have hbl := AHeap.find_lt hb
  have hrl := AHeap.find_lt hr
  have hol := AHeap.find_lt ho
  refine D_of_DK (by simp [AHeap.set_length]) (dk49 (E_of_ES ?_))
  simp -implicitDefEqProofs (maxSteps := 99999999) (disch := first | omega | (simp only [AHeap.set_length, killO_length, List.length_cons, List.length_nil]; first | done | omega)) only [vu, ES_yld, guardK_n, ic49, ha, hb, va, vg, vs, vw, Nat.reduceMul, ite_true, ite_false, eq_self, forall_const, implies_true, Nat.reduceAdd, Nat.reduceSub, Nat.reduceLT, Nat.reduceLeDiff, ↓reduceIte, reduceCtorEq, Int.reduceEq, Int.reduceLT, Int.reduceLE, Int.reduceGT, Int.reduceGE, Int.reduceAdd, Int.reduceSub, Int.reduceNeg, Int.reduceToNat, Nat.reduceBEq, Nat.reduceEqDiff]
  refine callD_ret (common_o a b hla hlb _) (chS_grow (G := [_]) (by simp; omega)) ?_
  have hcl := cmn_le a b 0 0 (Nat.zero_le _)
  obtain ⟨ps, hps⟩ : ∃ ps, ps = cmn a b 0 0 ++ [(a.length, b.length)] := ⟨_, rfl⟩
  have hrs : Rise (a.length + 1) (b.length + 1) 0 0 ps := by rw [hps]; exact (cmn_rise a b 0 0 (Nat.zero_le _) (Nat.zero_le _)).app
  have hpl : ps.length ≤ 4097 := by rw [hps, List.length_append]; simp; omega
  have hpn : ps ≠ [] := by rw [hps]; simp
  have hap : prs (cmn a b 0 0) ++ [AV.agg [.sc (.int .i64 a.length), .sc (.int .i64 b.length)]] = prs ps := by rw [hps]; simp [prs]
  have hdif : difH a b = bet a b 0 0 ps := by rw [hps]; rfl
  rw [hdif]
  obtain ⟨pio, G, p1, p2, p3, p4, p5, p6⟩ := apAny (H := OwnB 2 89 (prs (cmn a b 0 0)) :: some ⟨2, [AV.agg [.sc (.int .i64 0), .sc (.int .i64 0)]], true, 89⟩ :: H) (k := 2) (ty := 89) (xs := prs (cmn a b 0 0)) (ys := [AV.agg [.sc (.int .i64 a.length), .sc (.int .i64 b.length)]]) (id := H.length + 1) (fun h => find_top (by simp)) (by rw [prs_length]; simp; omega)
  rw [hap] at p2 p4
  have hpe : prs ps ≠ [] := by simpa [prs] using hpn
  obtain ⟨p4a, p4b⟩ := p4 hpe
  rw [OwnV_ne hpe, prs_length] at p2
  rw [OwnB_ne hpe] at p4a
  simp only [List.length_cons] at p5 p4b
  simp -implicitDefEqProofs (maxSteps := 99999999) (disch := first | omega | (simp only [AHeap.set_length, killO_length, List.length_cons, List.length_nil]; first | done | omega)) only [vu, ES_yld, guardK_n, ha, hb, strs_length, p1, p2, p3, va, vg, vs, vw, Nat.reduceMul, ite_true, ite_false, eq_self, forall_const, implies_true, Nat.reduceAdd, Nat.reduceSub, Nat.reduceLT, Nat.reduceLeDiff, ↓reduceIte, reduceCtorEq, Int.reduceEq, Int.reduceLT, Int.reduceLE, Int.reduceGT, Int.reduceGE, Int.reduceAdd, Int.reduceSub, Int.reduceNeg, Int.reduceToNat, Nat.reduceBEq, Nat.reduceEqDiff]
  refine ES_gen fun K hK => ?_
  refine ES_loopL (fun ts F => ∃ (k i j vid : Nat) (xs : List Hk), (k ≤ ps.length ∧ xs ++ bet a b i j (ps.drop k) = bet a b 0 0 ps ∧ Rise (a.length + 1) (b.length + 1) i j (ps.drop k) ∧ xs.length ≤ k) ∧
      (AHeap.find F H.length = some ⟨2, [.agg [.sc (.int .i64 i), .sc (.int .i64 j)]], true, 89⟩ ∧ AHeap.find F pio = some ⟨2, prs ps, false, 89⟩ ∧ H.length < F.length) ∧
      (AHeap.find F oid = some ⟨1, [OwnV 3 (hks xs) vid], true, 28⟩ ∧ (xs ≠ [] → AHeap.find F vid = some ⟨3, hks xs, false, 51⟩ ∧ H.length ≤ vid) ∧ ∀ id, id < H.length → id ≠ oid → AHeap.find F id = AHeap.find H id) ∧
      Fr [some (.ptr 0 rid 0 1), some (.ptr 1 ca 0 0), some (.ptr 1 cb 0 0), none, some (.ptr 2 H.length 0 0), none, none, none, none, none, none, none, none, none, none, none, none, some (.vec 2 pio 0 ps.length none), some (.sc (.int .i64 ps.length)), some (.sc (.int .i64 k)), none, none, none, none, none, none, none, none, none, none, none, none, none, none, none, none, none, none, none, none, none, none, none, none, none, none, none, none, none, none, none, none, none, none, none, none, none, none, none, none, none, none] ts) (fun ts _ => ps.length - (intV (ts.getD 19 .top)).toNat) ?_ ?_
  · have hq := fun id (hid : id < H.length) => show AHeap.find G id = AHeap.find H id by rw [p6 id (by simp; omega) (fun _ => by omega), find_past (by simp; omega), find_past hid]
    refine ⟨0, 0, 0, 0, [], ⟨Nat.zero_le _, rfl, hrs, Nat.zero_le _⟩, ⟨?_, p4a, by omega⟩, ⟨by rw [hq _ hol]; exact ho, fun h => (h rfl).elim, fun id hid _ => hq id hid⟩, by simp [Fr]⟩
    rw [p6 _ (by simp; omega) (fun _ => by omega), find_past (by simp)]
    exact find_top rfl
  · rintro ts F ⟨k, i, j, vid, xs, ⟨hk, hx, hri, hxl⟩, ⟨g1, g2, g3⟩, ⟨c1, c2, c3⟩, hfr⟩ L1 hL1
    obtain ⟨js, rfl⟩ := hfr.opened
    clear hfr
    by_cases hkl : k < ps.length
    · have h1 : (k : Int) < ps.length := by omega
      obtain ⟨⟨x, y⟩, hxy⟩ : ∃ q, ps[k]? = some q := ⟨_, List.getElem?_eq_getElem hkl⟩
      have hdr : ps.drop k = (x, y) :: ps.drop (k + 1) := by
        rw [List.drop_eq_getElem_cons hkl]
        rw [List.getElem?_eq_getElem hkl] at hxy
        rw [Option.some.inj hxy]
      have hpg := prs_get hxy
      rw [hdr] at hri hx
      obtain ⟨⟨r1, r2⟩, r3⟩ := hri
      have r4 := r3.le
      have fa : AHeap.find F ca = some ⟨1, [.lst 1 (strs a) none], true, t1⟩ := by rw [c3 ca hal da]; exact ha
      have fb : AHeap.find F cb = some ⟨1, [.lst 1 (strs b) none], true, t2⟩ := by rw [c3 cb hbl db']; exact hb
      simp -implicitDefEqProofs (maxSteps := 99999999) (disch := first | omega | (simp only [AHeap.set_length, killO_length, List.length_cons, List.length_nil]; first | done | omega)) only [vu, ES_yld, guardK_n, mk, h1, g1, g2, prs_length, hpg, fa, fb, strs_length, strs_tk, strs_dr, va, vg, vs, vw, Nat.reduceMul, ite_true, ite_false, eq_self, forall_const, implies_true, Nat.reduceAdd, Nat.reduceSub, Nat.reduceLT, Nat.reduceLeDiff, ↓reduceIte, reduceCtorEq, Int.reduceEq, Int.reduceLT, Int.reduceLE, Int.reduceGT, Int.reduceGE, Int.reduceAdd, Int.reduceSub, Int.reduceNeg, Int.reduceToNat, Nat.reduceBEq, Nat.reduceEqDiff]
      refine ⟨by omega, by omega, ⟨by omega, by omega, by omega, by omega⟩, ?_⟩
      have hl1 : ((a.take x).drop i).length = x - i := by rw [List.length_drop, List.length_take]; omega
      have hl2 : ((b.take y).drop j).length = y - j := by rw [List.length_drop, List.length_take]; omega
      refine callD_same (clone_d ((a.take x).drop i) none _ (by omega)) ?_
      simp -implicitDefEqProofs (maxSteps := 99999999) (disch := first | omega | (simp only [AHeap.set_length, killO_length, List.length_cons, List.length_nil]; first | done | omega)) only [vu, ES_yld, guardK_n, g1, fa, fb, strs_length, strs_tk, strs_dr, va, vg, vs, vw, Nat.reduceMul, ite_true, ite_false, eq_self, forall_const, implies_true, Nat.reduceAdd, Nat.reduceSub, Nat.reduceLT, Nat.reduceLeDiff, ↓reduceIte, reduceCtorEq, Int.reduceEq, Int.reduceLT, Int.reduceLE, Int.reduceGT, Int.reduceGE, Int.reduceAdd, Int.reduceSub, Int.reduceNeg, Int.reduceToNat, Nat.reduceBEq, Nat.reduceEqDiff]
      refine ⟨⟨by omega, by omega, by omega, by omega⟩, callD_same (clone_d ((b.take y).drop j) none _ (by omega)) ?_⟩
      obtain ⟨h, hh⟩ : ∃ h : Hk, h = ⟨i, (a.take x).drop i, (b.take y).drop j⟩ := ⟨_, rfl⟩
      have hpio := AHeap.find_lt g2
      by_cases hz : (x - i) + (y - j) = 0
      · have hz' : ¬ ((x - i : Nat) : Int) + ((y - j : Nat) : Int) > 0 := by omega
        have hx' : xs ++ bet a b (x + 1) (y + 1) (ps.drop (k + 1)) = bet a b 0 0 ps := by
          rw [← hx]
          simp only [bet, if_pos hz]
        simp -implicitDefEqProofs (maxSteps := 99999999) (disch := first | omega | (simp only [AHeap.set_length, killO_length, List.length_cons, List.length_nil]; first | done | omega)) only [vu, ES_yld, guardK_n, g1, strs_length, hl1, hl2, hz', va, vg, vs, vw, Nat.reduceMul, ite_true, ite_false, eq_self, forall_const, implies_true, Nat.reduceAdd, Nat.reduceSub, Nat.reduceLT, Nat.reduceLeDiff, ↓reduceIte, reduceCtorEq, Int.reduceEq, Int.reduceLT, Int.reduceLE, Int.reduceGT, Int.reduceGE, Int.reduceAdd, Int.reduceSub, Int.reduceNeg, Int.reduceToNat, Nat.reduceBEq, Nat.reduceEqDiff]
        refine guardK_ff rfl ?_
        refine hL1 _ _ ⟨k + 1, x + 1, y + 1, vid, xs, ⟨by omega, hx', r3, by omega⟩, ⟨?_, ?_, by simp [AHeap.set_length]; omega⟩, ⟨?_, fun h => ⟨?_, (c2 h).2⟩, fun id hid hne => ?_⟩, by simp [Fr]⟩ ?_
        · rw [find_past (by simp [AHeap.set_length]; omega), find_past (by rw [AHeap.set_length]; omega)]
          exact AHeap.find_set_same g3
        · rw [find_past (by simp [AHeap.set_length]; omega), find_past (by rw [AHeap.set_length]; omega), find_set_other (by omega)]
          exact g2
        · rw [find_past (by simp [AHeap.set_length]; omega), find_past (by rw [AHeap.set_length]; omega), find_set_other (by omega)]
          exact c1
        · have hvl := AHeap.find_lt (c2 h).1
          have hvn : vid ≠ H.length := by
            rintro rfl
            have := (c2 h).1
            rw [g1] at this
            simp at this
          rw [find_past (by simp [AHeap.set_length]; omega), find_past (by rw [AHeap.set_length]; omega), find_set_other hvn]
          exact (c2 h).1
        · rw [find_past (by simp [AHeap.set_length]; omega), find_past (by rw [AHeap.set_length]; omega), find_set_other (by omega)]
          exact c3 id hid hne
        · simp [mk, intV]
          omega
      · have hz' : ((x - i : Nat) : Int) + ((y - j : Nat) : Int) > 0 := by omega
        have hx' : (xs ++ [h]) ++ bet a b (x + 1) (y + 1) (ps.drop (k + 1)) = bet a b 0 0 ps := by
          rw [← hx, hh]
          simp only [bet, if_neg hz]
          simp
        simp -implicitDefEqProofs (maxSteps := 99999999) (disch := first | omega | (simp only [AHeap.set_length, killO_length, List.length_cons, List.length_nil]; first | done | omega)) only [vu, ES_yld, guardK_n, g1, strs_length, hl1, hl2, hz', va, vg, vs, vw, Nat.reduceMul, ite_true, ite_false, eq_self, forall_const, implies_true, Nat.reduceAdd, Nat.reduceSub, Nat.reduceLT, Nat.reduceLeDiff, ↓reduceIte, reduceCtorEq, Int.reduceEq, Int.reduceLT, Int.reduceLE, Int.reduceGT, Int.reduceGE, Int.reduceAdd, Int.reduceSub, Int.reduceNeg, Int.reduceToNat, Nat.reduceBEq, Nat.reduceEqDiff]
        subst hh
        refine guardK_tt rfl (yldK_ret (hunk_dy (fn := fn) (db := db) (x := ⟨i, (a.take x).drop i, (b.take y).drop j⟩) (xs := xs) (oid := oid) (vid := vid) hts ?_ ?_ ?_ d1 ?_ ?_) ?_)
        · rw [find_past (by simp; omega), find_past (by omega), c3 rid hrl d1]; exact hr
        · rw [find_past (by simp; omega), find_past (by omega)]; exact c1
        · intro h
          have := AHeap.find_lt (c2 h).1
          rw [find_past (by simp; omega), find_past this]; exact (c2 h).1
        · intro h
          have := (c2 h).2
          omega
        · omega
        obtain ⟨F3, hF3⟩ : ∃ F3, F3 = hkF (some ⟨3, [.agg [.sc (.int .i64 i), .lst 1 (strs ((a.take x).drop i)) none, .lst 1 (strs ((b.take y).drop j)) none]], true, 51⟩ :: some ⟨2, [.agg [.sc (.int .i64 x), .sc (.int .i64 y)]], true, 89⟩ :: F) xs ⟨i, (a.take x).drop i, (b.take y).drop j⟩ oid vid := ⟨_, rfl⟩
        have hok := hkF_ok (F := some ⟨3, [.agg [.sc (.int .i64 i), .lst 1 (strs ((a.take x).drop i)) none, .lst 1 (strs ((b.take y).drop j)) none]], true, 51⟩ :: some ⟨2, [.agg [.sc (.int .i64 x), .sc (.int .i64 y)]], true, 89⟩ :: F) (xs := xs) (x := ⟨i, (a.take x).drop i, (b.take y).drop j⟩) (oid := oid) (vid := vid) (by simp; omega) (fun h => ⟨by have := AHeap.find_lt (c2 h).1; simp; omega, by have := (c2 h).2; omega⟩)
        rw [← hF3] at hok
        obtain ⟨k1, k2, k3, k4⟩ := hok
        simp only [List.length_cons] at k1 k2 k3 k4
        rw [← hF3]
        clear hF3
        have hvn : xs ≠ [] → vid < F.length ∧ vid ≠ H.length := fun h => ⟨AHeap.find_lt (c2 h).1, by
          rintro rfl
          have := (c2 h).1
          rw [g1] at this
          simp at this⟩
        have q1 : AHeap.find F3 F.length = some ⟨2, [.agg [.sc (.int .i64 x), .sc (.int .i64 y)]], true, 89⟩ := by
          rw [k4 _ (by omega) (by omega) (fun h => by have := hvn h; omega), find_past (by simp)]
          exact find_top rfl
        have kk : ∀ id, id < F.length → id ≠ oid → (xs ≠ [] → id ≠ vid) → AHeap.find F3 id = AHeap.find F id := fun id h1 h2 h3 => by
          rw [k4 id (by omega) h2 h3, find_past (by simp; omega), find_past h1]
        have q2 := kk H.length g3 (by omega) (fun h => by have := hvn h; omega)
        rw [g1] at q2
        simp -implicitDefEqProofs (maxSteps := 99999999) (disch := first | omega | (simp only [AHeap.set_length, killO_length, List.length_cons, List.length_nil]; first | done | omega)) only [vu, q1, q2, va, vg, vs, vw, Nat.reduceMul, ite_true, ite_false, eq_self, forall_const, implies_true, Nat.reduceAdd, Nat.reduceSub, Nat.reduceLT, Nat.reduceLeDiff, ↓reduceIte, reduceCtorEq, Int.reduceEq, Int.reduceLT, Int.reduceLE, Int.reduceGT, Int.reduceGE, Int.reduceAdd, Int.reduceSub, Int.reduceNeg, Int.reduceToNat, Nat.reduceBEq, Nat.reduceEqDiff]
        refine hL1 _ _ ⟨k + 1, x + 1, y + 1, _, xs ++ [⟨i, (a.take x).drop i, (b.take y).drop j⟩], ⟨by omega, hx', r3, by simp; omega⟩, ⟨AHeap.find_set_same (by omega), ?_, by rw [AHeap.set_length]; omega⟩, ⟨by rw [find_set_other (by omega)]; exact k1, fun h => ⟨by rw [find_set_other (by omega)]; exact k2, by omega⟩, fun id hid hne => ?_⟩, by simp [Fr]⟩ ?_
        · rw [find_set_other (by omega), kk pio hpio (by omega) (fun h => ?_)]
          · exact g2
          · rintro rfl
            have := (c2 h).1
            rw [g2] at this
            simp at this
        · rw [find_set_other (by omega), kk id (by omega) hne (fun h => by have := (c2 h).2; omega)]
          exact c3 id hid hne
        · simp [mk, intV]
          omega
    · have : k = ps.length := by omega
      subst this
      have h1 : ¬ (ps.length : Int) < ps.length := by omega
      simp -implicitDefEqProofs (maxSteps := 99999999) (disch := first | omega | (simp only [AHeap.set_length, killO_length, List.length_cons, List.length_nil]; first | done | omega)) only [vu, ES_yld, guardK_n, mk, h1, va, vg, vs, vw, Nat.reduceMul, ite_true, ite_false, eq_self, forall_const, implies_true, Nat.reduceAdd, Nat.reduceSub, Nat.reduceLT, Nat.reduceLeDiff, ↓reduceIte, reduceCtorEq, Int.reduceEq, Int.reduceLT, Int.reduceLE, Int.reduceGT, Int.reduceGE, Int.reduceAdd, Int.reduceSub, Int.reduceNeg, Int.reduceToNat, Nat.reduceBEq, Nat.reduceEqDiff]
      clear hL1
      refine hK _ _ _ ?_
      clear hK
      rw [List.drop_length] at hx
      simp only [bet, List.append_nil] at hx
      simp -implicitDefEqProofs (maxSteps := 99999999) (disch := first | omega | (simp only [AHeap.set_length, killO_length, List.length_cons, List.length_nil]; first | done | omega)) only [vu, ES_yld, guardK_n, va, vg, vs, vw, Nat.reduceMul, ite_true, ite_false, eq_self, forall_const, implies_true, Nat.reduceAdd, Nat.reduceSub, Nat.reduceLT, Nat.reduceLeDiff, ↓reduceIte, reduceCtorEq, Int.reduceEq, Int.reduceLT, Int.reduceLE, Int.reduceGT, Int.reduceGE, Int.reduceAdd, Int.reduceSub, Int.reduceNeg, Int.reduceToNat, Nat.reduceBEq, Nat.reduceEqDiff]
      rw [← hx]
      exact weak_ownO hol c3 c1 (fun h => by
        have e : xs ≠ [] := fun e => h (by rw [e]; rfl)
        exact ⟨by rw [OwnB_ne h]; exact (c2 e).1, (c2 e).2⟩) fun s => hks_gz
end Go.Proofs.Ytigmpablpmanpaa
