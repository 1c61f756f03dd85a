/- The document's longest: a table of rows. -/
import Derived.Test.YtigmpablpmanpaaDoorSF
import Derived.Test.YtigmpablpmanpaaDoorS121
import Derived.Test.YtigmpablpmanpaaDoorIc23
namespace Go.Proofs.YtigmpablpmanpaaDoor
open Go.RowKit
set_option maxRecDepth 100000
set_option linter.unusedVariables false
set_option linter.unusedSimpArgs false
/-- A table of ints. -/
def tabI (N : Nat) (f : Nat → Nat) : List AV := (List.range N).map fun k => .sc (.int .i64 (f k : Nat))
theorem tabI_length (N : Nat) (f : Nat → Nat) : (tabI N f).length = N := by simp [tabI]
theorem tabI_get {N : Nat} {f : Nat → Nat} {k : Nat} (h : k < N) : (tabI N f).getD k .top = .sc (.int .i64 (f k : Nat)) := by
 simp [tabI,List.getD,h]
theorem tabI_set {N : Nat} {f : Nat → Nat} {m v : Nat} : (tabI N f).set m (.sc (.int .i64 (v : Nat))) = tabI N (fun k => if k = m then v else f k) := by
 apply List.ext_getElem
 ·simp [tabI]
 ·intro k h1 h2
  simp only [tabI,List.getElem_set,List.getElem_map,List.getElem_range]
  by_cases e : m = k
  ·subst e; simp
  ·rw [if_neg e,if_neg (fun h => e h.symm)]
theorem tabI_congr {N : Nat} {f g : Nat → Nat} (h : ∀ k,k < N → f k = g k) : tabI N f = tabI N g := by
 apply List.ext_getElem
 ·simp [tabI]
 ·intro k h1 h2
  simp only [tabI,List.getElem_map,List.getElem_range]
  rw [h k (by simpa [tabI] using h1)]
theorem tabI_zero (N : Nat) : List.replicate N (.sc (.int .i64 0)) = tabI N (fun _ => 0) := by
 apply List.ext_getElem
 ·simp [tabI]
 ·intro k h1 h2
  simp [tabI]
theorem tabI_gz {H1 : AHeap} {n0 : Nat} {src : List Nat} {N : Nat} {f : Nat → Nat} : GzL H1 n0 src (tabI N f) (tabI N f) := by
 unfold tabI
 induction List.range N with
 | nil => exact .nil
 | cons k r ih => exact .cons (.same trivial) ih
/-- The rows that are there, from the lo-th on. -/
def rowE (n base m lo p : Nat) : AV := if lo ≤ p then .vec 1 (base + (n - p)) 0 (m + 1) (some (m + 1)) else .lst 0 [] (some [])
def rowsE (n base m lo : Nat) : List AV := (List.range (n + 1)).map (rowE n base m lo)
theorem rowsE_length {n base m lo : Nat} : (rowsE n base m lo).length = n + 1 := by simp [rowsE]
theorem rowsE_get {n base m lo p : Nat} (h : p < n + 1) : (rowsE n base m lo).getD p .top = rowE n base m lo p := by
 simp [rowsE,List.getD,h]
theorem rowE_in {n base m lo p : Nat} (h : lo ≤ p) : rowE n base m lo p = .vec 1 (base + (n - p)) 0 (m + 1) (some (m + 1)) := if_pos h
theorem rowE_out {n base m lo p : Nat} (h : p < lo) : rowE n base m lo p = .lst 0 [] (some []) := if_neg (by omega)
theorem rowsE_set {n base m p : Nat} : (rowsE n base m (p + 1)).set p (.vec 1 (base + (n - p)) 0 (m + 1) (some (m + 1))) = rowsE n base m p := by
 apply List.ext_getElem
 ·simp [rowsE]
 ·intro k h1 h2
  simp only [rowsE,List.getElem_set,List.getElem_map,List.getElem_range]
  by_cases e : p = k
  ·subst e
   rw [if_pos rfl,rowE_in (Nat.le_refl _)]
  ·rw [if_neg e]
   by_cases h : p + 1 ≤ k
   ·rw [rowE_in h,rowE_in (by omega)]
   ·rw [rowE_out (by omega),rowE_out (by omega)]
theorem rowsE_start (n base m : Nat) : List.replicate (n + 1) (.lst 0 [] (some [])) = rowsE n base m (n + 1) := by
 apply List.ext_getElem
 ·simp [rowsE]
 ·intro k h1 h2
  simp only [List.getElem_replicate,rowsE,List.getElem_map,List.getElem_range]
  rw [rowE_out (by simpa [rowsE] using h2)]
structure LonS (a b : List ByteArray) (B : Nat) (H F : AHeap) (lo : Nat) : Prop where
 base : B = H.length + 1
 len : F.length = B + (a.length + 1 - lo)
 out : AHeap.find F H.length = some ⟨1,rowsE a.length B b.length lo,true,37⟩
 row : ∀ p,lo ≤ p → p ≤ a.length → AHeap.find F (B + (a.length - p)) = some ⟨1,tabI (b.length + 1) (lcd a b p),true,3⟩
 old : ∀ id,id < H.length → AHeap.find F id = AHeap.find H id
structure LonR (a b : List ByteArray) (B : Nat) (H F : AHeap) (i : Nat) (g : Nat → Nat) : Prop where
 base : B = H.length + 1
 len : F.length = B + (a.length + 1 - i)
 out : AHeap.find F H.length = some ⟨1,rowsE a.length B b.length i,true,37⟩
 row : ∀ p,i + 1 ≤ p → p ≤ a.length → AHeap.find F (B + (a.length - p)) = some ⟨1,tabI (b.length + 1) (lcd a b p),true,3⟩
 cur : AHeap.find F (B + (a.length - i)) = some ⟨1,tabI (b.length + 1) g,true,3⟩
 old : ∀ id,id < H.length → AHeap.find F id = AHeap.find H id
theorem LonS.begin {a b : List ByteArray} {H F : AHeap} {B : Nat} {i : Nat} (h : LonS a b B H F (i + 1)) (hi : i ≤ a.length) :
  LonR a b B H (some ⟨1,tabI (b.length + 1) (fun _ => 0),true,3⟩ :: AHeap.set F H.length (some ⟨1,rowsE a.length B b.length i,true,37⟩)) i (fun _ => 0) := by
 have hl := h.len
 have hB := h.base
 refine ⟨hB,by simp only [List.length_cons,AHeap.set_length]; omega,?_,fun p h1 h2 => ?_,find_top (by rw [AHeap.set_length]; omega),fun id hid => ?_⟩
 ·rw [find_past (by rw [AHeap.set_length]; omega)]
  exact AHeap.find_set_same (by omega)
 ·rw [find_past (by rw [AHeap.set_length]; omega),find_set_other (by omega)]
  exact h.row p h1 h2
 ·rw [find_past (by rw [AHeap.set_length]; omega),find_set_other (by omega)]
  exact h.old id hid
theorem LonR.step {a b : List ByteArray} {H F : AHeap} {B : Nat} {i : Nat} {g : Nat → Nat} (h : LonR a b B H F i g) (hi : i ≤ a.length) (g' : Nat → Nat) :
  LonR a b B H (AHeap.set F (B + (a.length - i)) (some ⟨1,tabI (b.length + 1) g',true,3⟩)) i g' := by
 have hl := h.len
 have hB := h.base
 refine ⟨hB,by rw [AHeap.set_length]; exact hl,?_,fun p h1 h2 => ?_,AHeap.find_set_same (by omega),fun id hid => ?_⟩
 ·rw [find_set_other (by omega)]; exact h.out
 ·rw [find_set_other (by omega)]; exact h.row p h1 h2
 ·rw [find_set_other (by omega)]; exact h.old id hid
theorem LonR.done {a b : List ByteArray} {H F : AHeap} {B : Nat} {i : Nat} {g : Nat → Nat} (h : LonR a b B H F i g) (hg : ∀ k,k < b.length + 1 → g k = lcd a b i k) : LonS a b B H F i := by
 refine ⟨h.base,h.len,h.out,fun p h1 h2 => ?_,h.old⟩
 by_cases e : p = i
 ·subst e
  rw [h.cur,tabI_congr hg]
 ·exact h.row p (by omega) h2
/-- What is told: rows of numbers. -/
def lonV (a b : List ByteArray) : List AV := (List.range (a.length + 1)).map fun i => .lst 1 (tabI (b.length + 1) (lcd a b i)) none
theorem lonV_length (a b : List ByteArray) : (lonV a b).length = a.length + 1 := by simp [lonV]
theorem lonV_get {a b : List ByteArray} {i : Nat} (h : i < a.length + 1) : (lonV a b).getD i .top = .lst 1 (tabI (b.length + 1) (lcd a b i)) none := by
 simp [lonV,List.getD,h]
theorem rowsE_gz {a b : List ByteArray} {H F : AHeap} {B : Nat} (h : LonS a b B H F 0) : GzL F H.length [] (rowsE a.length B b.length 0) (lonV a b) := by
 have hB := h.base
 have go : ∀ (l : List Nat),(∀ p ∈ l,p ≤ a.length) → GzL F H.length [] (l.map (rowE a.length B b.length 0)) (l.map fun i => .lst 1 (tabI (b.length + 1) (lcd a b i)) none) := by
  intro l
  induction l with
  | nil => exact fun _ => .nil
  | cons p r ih =>
   intro hp
   have hpl := hp p (by simp)
   refine .cons ?_ (ih fun q hq => hp q (by simp [hq]))
   rw [rowE_in (Nat.zero_le _)]
   refine .vec ?_ (h.row p (Nat.zero_le _) hpl) rfl (by simp [tabI_length]) ?_
   ·unfold newId
    rw [if_neg (by omega)]
    rfl
   ·rw [List.drop_zero,List.take_of_length_le (by simp [tabI_length])]
    exact tabI_gz
 exact go _ fun p hp => by have := List.mem_range.1 hp; omega
theorem longest_d (a b : List ByteArray) (hla : a.length ≤ 4096) (hlb : b.length ≤ 4096) (H : AHeap) :
  D Tryd.prog 27 [.lst 1 (strs a) none,.lst 1 (strs b) none] H (.ret (.lst 1 (lonV a b) none)) H := by
 refine D_of_DK (Nat.le_refl _) (dk27 (E_of_ES ?_))
 obtain ⟨N1,hN1⟩ : ∃ N1,N1 = a.length + 1 := ⟨_,rfl⟩
 obtain ⟨M1,hM1⟩ : ∃ M1,M1 = b.length + 1 := ⟨_,rfl⟩
 have e3 : ((a.length : Int) + 1) = (N1 : Int) := by omega
 have e4 : ((b.length : Int) + 1) = (M1 : Int) := by omega
 simp -implicitDefEqProofs (maxSteps := 99999999) (disch := first | omega | (simp only [AHeap.set_length,killO_length,List.length_cons,List.length_nil]; first | done | omega)) only [vu,ic27,strs_length,e3,Int.toNat_natCast,va,vg,vs,vw,Nat.reduceMul,ite_true,ite_false,eq_self,forall_const,implies_true,Nat.reduceAdd,Nat.reduceSub,Nat.reduceLT,Nat.reduceLeDiff,↓reduceIte,reduceCtorEq,Int.reduceEq,Int.reduceLT,Int.reduceLE,Int.reduceGT,Int.reduceGE,Int.reduceAdd,Int.reduceSub,Int.reduceNeg,Int.reduceToNat,Nat.reduceBEq,Nat.reduceEqDiff]
 refine ⟨⟨by omega,Int.le_refl _,by omega⟩,?_⟩
 obtain ⟨B,hB⟩ : ∃ B,B = H.length + 1 := ⟨_,rfl⟩
 rw [hN1,rowsE_start a.length B b.length]
 refine ES_gen fun K hK => ?_
 refine ES_loopL (fun ts F => ∃ (k : Nat),LonS a b B H F k ∧ k ≤ a.length + 1 ∧
   Fr [some (.lst 1 (strs a) none),some (.lst 1 (strs b) none),none,none,none,some (.vec 1 H.length 0 (a.length + 1) (some (a.length + 1))),some (.sc (.int .i64 (k - 1))),none,none,none,none,none,none,none,none,none,none,none,none,none,none,none,none,none,none,none,none,none,none,none,none,none,none,none,none,none,none,none,none,none,none,none,none,none,none,none,none,none,none,none,none,none,none,none,none,none,none,none,none,none,none,none,none,none,none,none,none,none,none,none,none,none,none,none,none,none,none,none,none,none,none,none,none,none,none,none,none] ts) (fun ts _ => (intV (ts.getD 6 .top) + 1).toNat) ?_ ?_
 ·refine ⟨a.length + 1,⟨hB,by simp [hB],find_top rfl,fun p h1 h2 => by omega,fun id hid => find_past hid⟩,Nat.le_refl _,by simp [Fr]⟩
 ·rintro ts F ⟨k,hI,hk,hfr⟩ L1 hL1
  obtain ⟨js,rfl⟩ := hfr.opened
  clear hfr
  cases k with
  | zero =>
   have h1 : ¬ ((0 : Nat) : Int) - 1 ≥ 0 := by omega
   simp -implicitDefEqProofs (maxSteps := 99999999) (disch := first | omega | (simp only [AHeap.set_length,killO_length,List.length_cons,List.length_nil]; first | done | omega)) only [vu,mk,h1,va,vg,vs,vw,Nat.reduceMul,ite_true,ite_false,eq_self,forall_const,implies_true,Nat.reduceAdd,Nat.reduceSub,Nat.reduceLT,Nat.reduceLeDiff,↓reduceIte,reduceCtorEq,Int.reduceEq,Int.reduceLT,Int.reduceLE,Int.reduceGT,Int.reduceGE,Int.reduceAdd,Int.reduceSub,Int.reduceNeg,Int.reduceToNat,Nat.reduceBEq,Nat.reduceEqDiff]
   clear hL1
   refine hK _ _ _ ?_
   clear hK
   simp -implicitDefEqProofs (maxSteps := 99999999) (disch := first | omega | (simp only [AHeap.set_length,killO_length,List.length_cons,List.length_nil]; first | done | omega)) only [vu,va,vg,vs,vw,Nat.reduceMul,ite_true,ite_false,eq_self,forall_const,implies_true,Nat.reduceAdd,Nat.reduceSub,Nat.reduceLT,Nat.reduceLeDiff,↓reduceIte,reduceCtorEq,Int.reduceEq,Int.reduceLT,Int.reduceLE,Int.reduceGT,Int.reduceGE,Int.reduceAdd,Int.reduceSub,Int.reduceNeg,Int.reduceToNat,Nat.reduceBEq,Nat.reduceEqDiff]
   refine weak_frz hI.old (.vec ?_ hI.out rfl (by simp [rowsE_length]) ?_)
   ·unfold newId
    rw [if_neg (by omega)]
    rfl
   ·rw [List.drop_zero,List.take_of_length_le (by simp [rowsE_length])]
    exact rowsE_gz hI
  | succ i =>
   have e1 : ((i + 1 : Nat) : Int) - 1 = (i : Int) := by omega
   have h1 : (i : Int) ≥ 0 := by omega
   have hb := hI.begin (by omega)
   have hlen := hI.len
   have hout := hI.out
   have hq : B + (a.length + 1 - (i + 1)) = B + (a.length - i) := by omega
   rw [hq] at hlen
   have hg := rowsE_get (n := a.length) (base := B) (m := b.length) (lo := i + 1) (p := i) (by omega)
   rw [rowE_out (Nat.lt_succ_self _)] at hg
   simp -implicitDefEqProofs (maxSteps := 99999999) (disch := first | omega | (simp only [AHeap.set_length,killO_length,List.length_cons,List.length_nil]; first | done | omega)) only [vu,mk,e1,h1,hout,strs_length,e4,Int.toNat_natCast,rowsE_length,hlen,hg,va,vg,vs,vw,Nat.reduceMul,ite_true,ite_false,eq_self,forall_const,implies_true,Nat.reduceAdd,Nat.reduceSub,Nat.reduceLT,Nat.reduceLeDiff,↓reduceIte,reduceCtorEq,Int.reduceEq,Int.reduceLT,Int.reduceLE,Int.reduceGT,Int.reduceGE,Int.reduceAdd,Int.reduceSub,Int.reduceNeg,Int.reduceToNat,Nat.reduceBEq,Nat.reduceEqDiff]
   refine ⟨⟨by omega,Int.le_refl _,by omega⟩,by omega,by omega,?_⟩
   rw [hM1,tabI_zero,rowsE_set]
   clear hlen hout hg
   refine ES_gen fun K2 hK2 => ?_
   refine ES_loopL (fun ts F => ∃ (m : Nat),LonR a b B H F i (fun k => if m ≤ k then lcd a b i k else 0) ∧ m ≤ b.length ∧
    Fr [some (.lst 1 (strs a) none),some (.lst 1 (strs b) none),none,none,none,some (.vec 1 H.length 0 (a.length + 1) (some (a.length + 1))),some (.sc (.int .i64 i)),some (.sc (.int .i64 (m - 1))),none,none,none,none,none,none,none,none,none,none,none,none,none,none,none,none,none,none,none,none,none,none,none,none,none,none,none,none,none,none,none,none,none,none,none,none,none,none,none,none,none,none,none,none,none,none,none,none,none,none,none,none,none,none,none,none,none,none,none,none,none,none,none,none,none,none,none,none,none,none,none,none,none,none,none,none,none,none,none] ts) (fun ts _ => (intV (ts.getD 7 .top) + 1).toNat) ?_ ?_
   ·refine ⟨b.length,⟨hb.base,hb.len,hb.out,hb.row,?_,hb.old⟩,Nat.le_refl _,by simp [Fr]⟩
    rw [hb.cur]
    congr 2
    refine tabI_congr fun k hk' => ?_
    by_cases e : b.length ≤ k
    ·rw [if_pos e,lcd_end (.inr e)]
    ·rw [if_neg e]
   clear hb hI
   rintro ts F2 ⟨m,hI,hm,hfr⟩ L2 hL2
   obtain ⟨js2,rfl⟩ := hfr.opened
   clear hfr
   have hout := hI.out
   have hcur := hI.cur
   cases m with
   | zero =>
    have h2 : ¬ ((0 : Nat) : Int) - 1 ≥ 0 := by omega
    simp -implicitDefEqProofs (maxSteps := 99999999) (disch := first | omega | (simp only [AHeap.set_length,killO_length,List.length_cons,List.length_nil]; first | done | omega)) only [vu,mk,h2,va,vg,vs,vw,Nat.reduceMul,ite_true,ite_false,eq_self,forall_const,implies_true,Nat.reduceAdd,Nat.reduceSub,Nat.reduceLT,Nat.reduceLeDiff,↓reduceIte,reduceCtorEq,Int.reduceEq,Int.reduceLT,Int.reduceLE,Int.reduceGT,Int.reduceGE,Int.reduceAdd,Int.reduceSub,Int.reduceNeg,Int.reduceToNat,Nat.reduceBEq,Nat.reduceEqDiff]
    clear hL2
    refine hK2 _ _ _ ?_
    clear hK2
    simp -implicitDefEqProofs (maxSteps := 99999999) (disch := first | omega | (simp only [AHeap.set_length,killO_length,List.length_cons,List.length_nil]; first | done | omega)) only [vu,va,vg,vs,vw,Nat.reduceMul,ite_true,ite_false,eq_self,forall_const,implies_true,Nat.reduceAdd,Nat.reduceSub,Nat.reduceLT,Nat.reduceLeDiff,↓reduceIte,reduceCtorEq,Int.reduceEq,Int.reduceLT,Int.reduceLE,Int.reduceGT,Int.reduceGE,Int.reduceAdd,Int.reduceSub,Int.reduceNeg,Int.reduceToNat,Nat.reduceBEq,Nat.reduceEqDiff]
    refine hL1 _ _ ⟨i,hI.done fun k _ => if_pos (Nat.zero_le _),by omega,by simp [Fr]⟩ ?_
    simp [mk,intV]
   | succ j =>
    have e6 : ((j + 1 : Nat) : Int) - 1 = (j : Int) := by omega
    have h2 : (j : Int) ≥ 0 := by omega
    by_cases h3 : i < a.length
    ·have h3' : (i : Int) < a.length := by omega
     have g0 := rowsE_get (n := a.length) (base := B) (m := b.length) (lo := i) (p := i) (by omega)
     rw [rowE_in (Nat.le_refl _)] at g0
     have g1 := rowsE_get (n := a.length) (base := B) (m := b.length) (lo := i) (p := i + 1) (by omega)
     rw [rowE_in (by omega)] at g1
     have r1 := hI.row (i + 1) (Nat.le_refl _) (by omega)
     have q0 := tabI_get (N := b.length + 1) (f := fun k => if j + 1 ≤ k then lcd a b i k else 0) (k := j) (by omega)
     have q1 := tabI_get (N := b.length + 1) (f := fun k => if j + 1 ≤ k then lcd a b i k else 0) (k := j + 1) (by omega)
     simp only [Nat.le_refl,if_true] at q1
     have q2 := tabI_get (N := b.length + 1) (f := lcd a b (i + 1)) (k := j) (by omega)
     have q3 := tabI_get (N := b.length + 1) (f := lcd a b (i + 1)) (k := j + 1) (by omega)
     have hst := lcd_step (a := a) (b := b) (i := i) (j := j) h3 (by omega)
     have t1 : ((i : Int) + 1).toNat = i + 1 := by omega
     have t2 : ((j : Int) + 1).toNat = j + 1 := by omega
     have hset : ∀ v : Nat,v = lcd a b i j → (tabI (b.length + 1) (fun k => if j + 1 ≤ k then lcd a b i k else 0)).set j (.sc (.int .i64 (v : Nat))) = tabI (b.length + 1) (fun k => if j ≤ k then lcd a b i k else 0) := by
      rintro v rfl
      rw [tabI_set]
      refine tabI_congr fun k _ => ?_
      by_cases e : k = j
      ·subst e
       rw [if_pos rfl,if_pos (Nat.le_refl _)]
      ·rw [if_neg e]
       by_cases e2 : j + 1 ≤ k
       ·rw [if_pos e2,if_pos (by omega)]
       ·rw [if_neg e2,if_neg (by omega)]
     have hsj := strs_get (l := b) (k := j) (by omega)
     by_cases e : nthS a i = nthS b j
     ·rw [if_pos e] at hst
      have e9 : (1 : Int) + ((lcd a b (i + 1) (j + 1) : Nat) : Int) = ((lcd a b i j : Nat) : Int) := by omega
      have b9 := lcd_le a b i j
      simp -implicitDefEqProofs (maxSteps := 99999999) (disch := first | omega | (simp only [AHeap.set_length,killO_length,List.length_cons,List.length_nil]; first | done | omega)) only [vu,mk,e6,h2,h3',strs_length,strs_get h3,hsj,e,hout,hcur,rowsE_length,g0,g1,r1,tabI_length,q0,q1,q2,q3,t1,t2,e9,hset _ rfl,va,vg,vs,vw,Nat.reduceMul,ite_true,ite_false,eq_self,forall_const,implies_true,Nat.reduceAdd,Nat.reduceSub,Nat.reduceLT,Nat.reduceLeDiff,↓reduceIte,reduceCtorEq,Int.reduceEq,Int.reduceLT,Int.reduceLE,Int.reduceGT,Int.reduceGE,Int.reduceAdd,Int.reduceSub,Int.reduceNeg,Int.reduceToNat,Nat.reduceBEq,Nat.reduceEqDiff]
      and_intros <;> first | omega | skip
      refine hL2 _ _ ⟨j,hI.step (by omega) _,by omega,by simp [Fr]⟩ ?_
      simp [mk,intV]
     ·rw [if_neg e] at hst
      by_cases g : lcd a b i (j + 1) > lcd a b (i + 1) j
      ·have g' : ((lcd a b i (j + 1) : Nat) : Int) > ((lcd a b (i + 1) j : Nat) : Int) := by omega
       have hv := hset (lcd a b i (j + 1)) (by omega)
       simp -implicitDefEqProofs (maxSteps := 99999999) (disch := first | omega | (simp only [AHeap.set_length,killO_length,List.length_cons,List.length_nil]; first | done | omega)) only [vu,mk,e6,h2,h3',strs_length,strs_get h3,hsj,e,hout,hcur,rowsE_length,g0,g1,r1,tabI_length,q0,q1,q2,q3,t1,t2,g',hv,va,vg,vs,vw,Nat.reduceMul,ite_true,ite_false,eq_self,forall_const,implies_true,Nat.reduceAdd,Nat.reduceSub,Nat.reduceLT,Nat.reduceLeDiff,↓reduceIte,reduceCtorEq,Int.reduceEq,Int.reduceLT,Int.reduceLE,Int.reduceGT,Int.reduceGE,Int.reduceAdd,Int.reduceSub,Int.reduceNeg,Int.reduceToNat,Nat.reduceBEq,Nat.reduceEqDiff]
       and_intros <;> first | omega | skip
       refine hL2 _ _ ⟨j,hI.step (by omega) _,by omega,by simp [Fr]⟩ ?_
       simp [mk,intV]
      ·have g' : ¬ ((lcd a b i (j + 1) : Nat) : Int) > ((lcd a b (i + 1) j : Nat) : Int) := by omega
       have hv := hset (lcd a b (i + 1) j) (by omega)
       simp -implicitDefEqProofs (maxSteps := 99999999) (disch := first | omega | (simp only [AHeap.set_length,killO_length,List.length_cons,List.length_nil]; first | done | omega)) only [vu,mk,e6,h2,h3',strs_length,strs_get h3,hsj,e,hout,hcur,rowsE_length,g0,g1,r1,tabI_length,q0,q1,q2,q3,t1,t2,g',hv,va,vg,vs,vw,Nat.reduceMul,ite_true,ite_false,eq_self,forall_const,implies_true,Nat.reduceAdd,Nat.reduceSub,Nat.reduceLT,Nat.reduceLeDiff,↓reduceIte,reduceCtorEq,Int.reduceEq,Int.reduceLT,Int.reduceLE,Int.reduceGT,Int.reduceGE,Int.reduceAdd,Int.reduceSub,Int.reduceNeg,Int.reduceToNat,Nat.reduceBEq,Nat.reduceEqDiff]
       and_intros <;> first | omega | skip
       refine hL2 _ _ ⟨j,hI.step (by omega) _,by omega,by simp [Fr]⟩ ?_
       simp [mk,intV]
    ·have h3' : ¬ (i : Int) < a.length := by omega
     simp -implicitDefEqProofs (maxSteps := 99999999) (disch := first | omega | (simp only [AHeap.set_length,killO_length,List.length_cons,List.length_nil]; first | done | omega)) only [vu,mk,e6,h2,h3',strs_length,va,vg,vs,vw,Nat.reduceMul,ite_true,ite_false,eq_self,forall_const,implies_true,Nat.reduceAdd,Nat.reduceSub,Nat.reduceLT,Nat.reduceLeDiff,↓reduceIte,reduceCtorEq,Int.reduceEq,Int.reduceLT,Int.reduceLE,Int.reduceGT,Int.reduceGE,Int.reduceAdd,Int.reduceSub,Int.reduceNeg,Int.reduceToNat,Nat.reduceBEq,Nat.reduceEqDiff]
     clear hL2
     refine hK2 _ _ _ ?_
     clear hK2
     simp -implicitDefEqProofs (maxSteps := 99999999) (disch := first | omega | (simp only [AHeap.set_length,killO_length,List.length_cons,List.length_nil]; first | done | omega)) only [vu,va,vg,vs,vw,Nat.reduceMul,ite_true,ite_false,eq_self,forall_const,implies_true,Nat.reduceAdd,Nat.reduceSub,Nat.reduceLT,Nat.reduceLeDiff,↓reduceIte,reduceCtorEq,Int.reduceEq,Int.reduceLT,Int.reduceLE,Int.reduceGT,Int.reduceGE,Int.reduceAdd,Int.reduceSub,Int.reduceNeg,Int.reduceToNat,Nat.reduceBEq,Nat.reduceEqDiff]
     refine hL1 _ _ ⟨i,hI.done fun k _ => ?_,by omega,by simp [Fr]⟩ ?_
     ·rw [lcd_end (.inl (by omega))]
      simp
     ·simp [mk,intV]
end Go.Proofs.YtigmpablpmanpaaDoor
