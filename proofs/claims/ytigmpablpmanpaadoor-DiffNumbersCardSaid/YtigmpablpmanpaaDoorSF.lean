/- Several texts in one: what each is for stands ahead of it. -/
import Derived.Test.YtigmpablpmanpaaDoorSA
import Derived.Test.YtigmpablpmanpaaDoorIc21
import Derived.Test.YtigmpablpmanpaaDoorVE
import Derived.Test.YtigmpablpmanpaaDoorS121
import Derived.Test.YtigmpablpmanpaaDoorSB
import Derived.Test.YtigmpablpmanpaaDoorIcY2
/- Longest common rows, plain; tables of numbers. -/
namespace Go.Proofs.YtigmpablpmanpaaDoor
open Go.RowKit
set_option linter.unusedVariables false
set_option linter.unusedSimpArgs false
/-- How long a longest common row is. -/
def lcs : List ByteArray → List ByteArray → Nat
 | [],_ => 0
 | _ :: _,[] => 0
 | x :: xs,y :: ys => if x = y then lcs xs ys + 1 else max (lcs xs (y :: ys)) (lcs (x :: xs) ys)
termination_by a b => a.length + b.length
theorem lcs_nil (b : List ByteArray) : lcs [] b = 0 := by rw [lcs.eq_def]
theorem lcs_nil' : ∀ a : List ByteArray,lcs a [] = 0
 | [] => lcs_nil _
 | x :: r => by rw [lcs.eq_def]
theorem lcs_cons (x y : ByteArray) (xs ys : List ByteArray) : lcs (x :: xs) (y :: ys) = if x = y then lcs xs ys + 1 else max (lcs xs (y :: ys)) (lcs (x :: xs) ys) := by rw [lcs.eq_def]
theorem lcs_le : ∀ a b : List ByteArray,lcs a b ≤ a.length ∧ lcs a b ≤ b.length
 | [],b => by rw [lcs_nil]; simp
 | x :: xs,[] => by rw [lcs_nil']; simp
 | x :: xs,y :: ys => by
  rw [lcs_cons]
  have h1 := lcs_le xs ys
  have h2 := lcs_le xs (y :: ys)
  have h3 := lcs_le (x :: xs) ys
  simp only [List.length_cons] at *
  split <;> omega
termination_by a b => a.length + b.length
theorem drop_nth {L : List ByteArray} {k : Nat} (h : k < L.length) : L.drop k = nthS L k :: L.drop (k + 1) := by
 rw [nthS_eq h]
 exact List.drop_eq_getElem_cons h
/-- From two places on. -/
def lcd (a b : List ByteArray) (i j : Nat) : Nat := lcs (a.drop i) (b.drop j)
theorem lcd_step {a b : List ByteArray} {i j : Nat} (hi : i < a.length) (hj : j < b.length) : lcd a b i j = if nthS a i = nthS b j then lcd a b (i + 1) (j + 1) + 1 else max (lcd a b (i + 1) j) (lcd a b i (j + 1)) := by
 unfold lcd
 rw [drop_nth hi,drop_nth hj,lcs_cons]
theorem lcd_end {a b : List ByteArray} {i j : Nat} (h : a.length ≤ i ∨ b.length ≤ j) : lcd a b i j = 0 := by
 unfold lcd
 rcases h with h | h
 ·rw [List.drop_of_length_le h,lcs_nil]
 ·rw [List.drop_of_length_le h,lcs_nil']
theorem lcd_le (a b : List ByteArray) (i j : Nat) : lcd a b i j ≤ a.length ∧ lcd a b i j ≤ b.length := by
 have := lcs_le (a.drop i) (b.drop j)
 simp only [List.length_drop] at this
 unfold lcd
 omega
/-- A table of small numbers. -/
def tabL (N : Nat) (f : Nat → Nat) : List AV := (List.range N).map fun k => .sc (.int .u16 (f k))
theorem tabL_length (N : Nat) (f : Nat → Nat) : (tabL N f).length = N := by simp [tabL]
theorem tabL_get {N : Nat} {f : Nat → Nat} {k : Nat} (h : k < N) : (tabL N f).getD k .top = .sc (.int .u16 (f k)) := by
 simp [tabL,List.getD,h]
theorem tabL_set {N : Nat} {f : Nat → Nat} {m v : Nat} : (tabL N f).set m (.sc (.int .u16 v)) = tabL N (fun k => if k = m then v else f k) := by
 apply List.ext_getElem
 ·simp [tabL]
 ·intro k h1 h2
  simp only [tabL,List.getElem_set,List.getElem_map,List.getElem_range]
  by_cases e : m = k
  ·subst e; simp
  ·rw [if_neg e,if_neg (fun h => e h.symm)]
theorem tabL_zero (N : Nat) : tabL N (fun _ => 0) = List.replicate N (.sc (.int .u16 0)) := by
 apply List.ext_getElem
 ·simp [tabL]
 ·intro k h1 h2
  simp [tabL]
theorem tabL_congr {N : Nat} {f g : Nat → Nat} (h : ∀ k,k < N → f k = g k) : tabL N f = tabL N g := by
 unfold tabL
 apply List.map_congr_left
 intro k hk
 rw [h k (List.mem_range.1 hk)]
/-- The table, right from some place on. -/
def tabF (a b : List ByteArray) (p k : Nat) : Nat := if p ≤ k then lcd a b (k / (b.length + 1)) (k % (b.length + 1)) else 0
theorem tabF_at {a b : List ByteArray} {p i j : Nat} (hj : j ≤ b.length) (h : p ≤ i * (b.length + 1) + j) : tabF a b p (i * (b.length + 1) + j) = lcd a b i j := by
 unfold tabF
 rw [if_pos h]
 have h1 : (i * (b.length + 1) + j) / (b.length + 1) = i := by
  rw [Nat.add_comm,Nat.add_mul_div_right _ _ (by omega),Nat.div_eq_of_lt (by omega),Nat.zero_add]
 have h2 : (i * (b.length + 1) + j) % (b.length + 1) = j := by
  rw [Nat.add_comm,Nat.add_mul_mod_self_right,Nat.mod_eq_of_lt (by omega)]
 rw [h1,h2]
/-- A step of the filling. -/
theorem tabF_step {a b : List ByteArray} {p : Nat} (N : Nat) : tabL N (fun k => if k = p then lcd a b (p / (b.length + 1)) (p % (b.length + 1)) else tabF a b (p + 1) k) = tabL N (tabF a b p) := by
 refine tabL_congr fun k hk => ?_
 by_cases e : k = p
 ·subst e
  rw [if_pos rfl]
  unfold tabF
  rw [if_pos (Nat.le_refl _)]
 ·rw [if_neg e]
  unfold tabF
  by_cases h : p ≤ k
  ·rw [if_pos h,if_pos (by omega)]
  ·rw [if_neg h,if_neg (by omega)]
/-- The last column is there from the beginning. -/
theorem tabF_edge {a b : List ByteArray} {i : Nat} (N : Nat) : tabL N (tabF a b ((i + 1) * (b.length + 1))) = tabL N (tabF a b (i * (b.length + 1) + b.length)) := by
 refine tabL_congr fun k hk => ?_
 have e0 : (i + 1) * (b.length + 1) = i * (b.length + 1) + b.length + 1 := by rw [Nat.add_mul]; omega
 by_cases e : k = i * (b.length + 1) + b.length
 ·subst e
  rw [tabF_at (Nat.le_refl _) (Nat.le_refl _),lcd_end (.inr (Nat.le_refl _))]
  unfold tabF
  rw [if_neg (by omega)]
 ·unfold tabF
  by_cases h : (i + 1) * (b.length + 1) ≤ k
  ·rw [if_pos h,if_pos (by omega)]
  ·rw [if_neg h,if_neg (by omega)]
theorem tabF_start {a b : List ByteArray} : tabL ((a.length + 1) * (b.length + 1)) (fun _ => 0) = tabL ((a.length + 1) * (b.length + 1)) (tabF a b (a.length * (b.length + 1))) := by
 refine tabL_congr fun k hk => ?_
 unfold tabF
 split
 ·rename_i h
  rw [lcd_end (.inl ?_)]
  exact (Nat.le_div_iff_mul_le (by omega)).2 h
 ·rfl
end Go.Proofs.YtigmpablpmanpaaDoor
/- diff.table.at; what fill's closure tells. -/
namespace Go.Proofs.YtigmpablpmanpaaDoor
open Go.RowKit
set_option maxRecDepth 100000
set_option linter.unusedVariables false
set_option linter.unusedSimpArgs false
def tblB (w : Nat) (nid N : Nat) : ABlk := ⟨2,[.agg [.sc (.int .i64 w),.vec 1 nid 0 N (some N)]],true,84⟩
theorem tat_d {H : AHeap} {tid nid N w : Nat} {f : Nat → Nat} (ht : AHeap.find H tid = some (tblB w nid N)) (hn : AHeap.find H nid = some ⟨1,tabL N f,true,50⟩) {i j : Nat} (hij : i * w + j < N) (hN : N ≤ 100000000) (hi : i ≤ 10000) (hw : w ≤ 10000) (hj : j ≤ 10000) :
  D Tryd.prog 25 [.ptr 2 tid 0 0,.sc (.int .i64 i),.sc (.int .i64 j)] H (.ret (.sc (.int .u16 (f (i * w + j))))) H := by
 refine D_of_DK (Nat.le_refl _) (dk25 (E_of_ES ?_))
 unfold tblB at ht
 have hm : i * w ≤ 100000000 := by omega
 have e1 : (i : Int) * (w : Int) = ((i * w : Nat) : Int) := by rw [Int.natCast_mul]
 have e2 : ((i * w : Nat) : Int) + (j : Int) = ((i * w + j : Nat) : Int) := by omega
 have hg := tabL_get (f := f) hij
 generalize i * w + j = m at *
 generalize i * w = q at *
 simp -implicitDefEqProofs (maxSteps := 99999999) (disch := first | omega | (simp only [AHeap.set_length,killO_length,List.length_cons,List.length_nil]; first | done | omega)) only [vu,ic25,ht,hn,e1,e2,tabL_length,hg,va,vg,vs,vw,Nat.reduceMul,ite_true,ite_false,eq_self,forall_const,implies_true,Nat.reduceAdd,Nat.reduceSub,Nat.reduceLT,Nat.reduceLeDiff,↓reduceIte,reduceCtorEq,Int.reduceEq,Int.reduceLT,Int.reduceLE,Int.reduceGT,Int.reduceGE,Int.reduceAdd,Int.reduceSub,Int.reduceNeg,Int.reduceToNat,Nat.reduceBEq,Nat.reduceEqDiff]
 exact ⟨⟨by omega,by omega⟩,hij,weak_over .refl (.same trivial)⟩
theorem best_d {H : AHeap} {ca cb ct tid nid : Nat} {a b : List ByteArray} {t1 t2 t3 : TypeId} {p : Nat} (ha : AHeap.find H ca = some ⟨1,[.lst 1 (strs a) none],true,t1⟩) (hb : AHeap.find H cb = some ⟨1,[.lst 1 (strs b) none],true,t2⟩) (hc : AHeap.find H ct = some ⟨1,[.ptr 2 tid 0 0],true,t3⟩)
  (ht : AHeap.find H tid = some (tblB (b.length + 1) nid ((a.length + 1) * (b.length + 1)))) (hn : AHeap.find H nid = some ⟨1,tabL ((a.length + 1) * (b.length + 1)) (tabF a b p),true,50⟩) (hla : a.length ≤ 4096) (hlb : b.length ≤ 4096)
  {i j : Nat} (hi : i < a.length) (hj : j < b.length) (hp : p = i * (b.length + 1) + j + 1) :
  D Tryd.prog 32 [.sc (.int .i64 i),.sc (.int .i64 j),.ptr 1 ca 0 0,.ptr 1 cb 0 0,.ptr 1 ct 0 0] H (.ret (.sc (.int .u16 (lcd a b i j)))) H := by
 have hN : (a.length + 1) * (b.length + 1) ≤ 4097 * 4097 := Nat.mul_le_mul (by omega) (by omega)
 have m1 : (i + 1) * (b.length + 1) = i * (b.length + 1) + (b.length + 1) := by rw [Nat.add_mul]; omega
 have m2 : (i + 1) * (b.length + 1) ≤ a.length * (b.length + 1) := Nat.mul_le_mul_right _ (by omega)
 have m3 : (a.length + 1) * (b.length + 1) = a.length * (b.length + 1) + (b.length + 1) := by rw [Nat.add_mul]; omega
 have f1 : tabF a b p ((i + 1) * (b.length + 1) + (j + 1)) = lcd a b (i + 1) (j + 1) := tabF_at (by omega) (by omega)
 have f2 : tabF a b p ((i + 1) * (b.length + 1) + j) = lcd a b (i + 1) j := tabF_at (by omega) (by omega)
 have f3 : tabF a b p (i * (b.length + 1) + (j + 1)) = lcd a b i (j + 1) := tabF_at (by omega) (by omega)
 have l1 := lcd_le a b (i + 1) (j + 1)
 have c1 := tat_d ht hn (i := i + 1) (j := j + 1) (by omega) (by omega) (by omega) (by omega) (by omega)
 have c2 := tat_d ht hn (i := i + 1) (j := j) (by omega) (by omega) (by omega) (by omega) (by omega)
 have c3 := tat_d ht hn (i := i) (j := j + 1) (by omega) (by omega) (by omega) (by omega) (by omega)
 rw [f1] at c1
 rw [f2] at c2
 rw [f3] at c3
 have e1 : ((i + 1 : Nat) : Int) = (i : Int) + 1 := by omega
 have e2 : ((j + 1 : Nat) : Int) = (j : Int) + 1 := by omega
 simp only [e1,e2] at c1 c2 c3
 have hst := lcd_step hi hj
 refine D_of_DK (Nat.le_refl _) (dk32 (E_of_ES ?_))
 have hw : IntKind.u16.wrap ((lcd a b (i + 1) (j + 1) : Nat) + 1 : Int) = ((lcd a b (i + 1) (j + 1) + 1 : Nat) : Int) := by
  have h1 : lcd a b (i + 1) (j + 1) ≤ 4096 := by omega
  generalize lcd a b (i + 1) (j + 1) = x at h1
  simp [IntKind.wrap,IntKind.signed,IntKind.bits]
  omega
 have hmx : (if ((lcd a b (i + 1) j : Nat) : Int) < ((lcd a b i (j + 1) : Nat) : Int) then ((lcd a b i (j + 1) : Nat) : Int) else ((lcd a b (i + 1) j : Nat) : Int)) = ((max (lcd a b (i + 1) j) (lcd a b i (j + 1)) : Nat) : Int) := by split <;> omega
 have hmy : (if ((lcd a b i (j + 1) : Nat) : Int) > ((lcd a b (i + 1) j : Nat) : Int) then ((lcd a b i (j + 1) : Nat) : Int) else ((lcd a b (i + 1) j : Nat) : Int)) = ((max (lcd a b (i + 1) j) (lcd a b i (j + 1)) : Nat) : Int) := by split <;> omega
 by_cases e : nthS a i = nthS b j
 ·rw [if_pos e] at hst
  rw [hst]
  simp -implicitDefEqProofs (maxSteps := 99999999) (disch := first | omega | (simp only [AHeap.set_length,killO_length,List.length_cons,List.length_nil]; first | done | omega)) only [vu,ic32,ha,hb,hc,strs_length,strs_get hi,strs_get hj,e,va,vg,vs,vw,Nat.reduceMul,ite_true,ite_false,eq_self,forall_const,implies_true,Nat.reduceAdd,Nat.reduceSub,Nat.reduceLT,Nat.reduceLeDiff,↓reduceIte,reduceCtorEq,Int.reduceEq,Int.reduceLT,Int.reduceLE,Int.reduceGT,Int.reduceGE,Int.reduceAdd,Int.reduceSub,Int.reduceNeg,Int.reduceToNat,Nat.reduceBEq,Nat.reduceEqDiff]
  refine ⟨⟨by omega,by omega⟩,⟨by omega,by omega⟩,callR_ret c1 ?_⟩
  simp -implicitDefEqProofs (maxSteps := 99999999) (disch := first | omega | (simp only [AHeap.set_length,killO_length,List.length_cons,List.length_nil]; first | done | omega)) only [vu,hw,va,vg,vs,vw,Nat.reduceMul,ite_true,ite_false,eq_self,forall_const,implies_true,Nat.reduceAdd,Nat.reduceSub,Nat.reduceLT,Nat.reduceLeDiff,↓reduceIte,reduceCtorEq,Int.reduceEq,Int.reduceLT,Int.reduceLE,Int.reduceGT,Int.reduceGE,Int.reduceAdd,Int.reduceSub,Int.reduceNeg,Int.reduceToNat,Nat.reduceBEq,Nat.reduceEqDiff]
  exact weak_over .refl (.same trivial)
 ·rw [if_neg e] at hst
  rw [hst]
  simp -implicitDefEqProofs (maxSteps := 99999999) (disch := first | omega | (simp only [AHeap.set_length,killO_length,List.length_cons,List.length_nil]; first | done | omega)) only [vu,ic32,ha,hb,hc,strs_length,strs_get hi,strs_get hj,e,va,vg,vs,vw,Nat.reduceMul,ite_true,ite_false,eq_self,forall_const,implies_true,Nat.reduceAdd,Nat.reduceSub,Nat.reduceLT,Nat.reduceLeDiff,↓reduceIte,reduceCtorEq,Int.reduceEq,Int.reduceLT,Int.reduceLE,Int.reduceGT,Int.reduceGE,Int.reduceAdd,Int.reduceSub,Int.reduceNeg,Int.reduceToNat,Nat.reduceBEq,Nat.reduceEqDiff]
  refine ⟨⟨by omega,by omega⟩,⟨by omega,by omega⟩,callD_same c2 ?_⟩
  simp -implicitDefEqProofs (maxSteps := 99999999) (disch := first | omega | (simp only [AHeap.set_length,killO_length,List.length_cons,List.length_nil]; first | done | omega)) only [vu,hc,va,vg,vs,vw,Nat.reduceMul,ite_true,ite_false,eq_self,forall_const,implies_true,Nat.reduceAdd,Nat.reduceSub,Nat.reduceLT,Nat.reduceLeDiff,↓reduceIte,reduceCtorEq,Int.reduceEq,Int.reduceLT,Int.reduceLE,Int.reduceGT,Int.reduceGE,Int.reduceAdd,Int.reduceSub,Int.reduceNeg,Int.reduceToNat,Nat.reduceBEq,Nat.reduceEqDiff]
  refine callD_same c3 ?_
  simp -implicitDefEqProofs (maxSteps := 99999999) (disch := first | omega | (simp only [AHeap.set_length,killO_length,List.length_cons,List.length_nil]; first | done | omega)) only [vu,hmx,va,vg,vs,vw,Nat.reduceMul,ite_true,ite_false,eq_self,forall_const,implies_true,Nat.reduceAdd,Nat.reduceSub,Nat.reduceLT,Nat.reduceLeDiff,↓reduceIte,reduceCtorEq,Int.reduceEq,Int.reduceLT,Int.reduceLE,Int.reduceGT,Int.reduceGE,Int.reduceAdd,Int.reduceSub,Int.reduceNeg,Int.reduceToNat,Nat.reduceBEq,Nat.reduceEqDiff]
  exact weak_over .refl (.same trivial)
end Go.Proofs.YtigmpablpmanpaaDoor
/- diff.fill. -/
namespace Go.Proofs.YtigmpablpmanpaaDoor
open Go.RowKit
set_option maxRecDepth 100000
set_option linter.unusedVariables false
set_option linter.unusedSimpArgs false
structure FillI (a b : List ByteArray) (N : Nat) (H F : AHeap) (q : Nat) : Prop where
 len : F.length = H.length + 5
 fa : AHeap.find F H.length = some ⟨1,[.lst 1 (strs a) none],true,22⟩
 fb : AHeap.find F (H.length + 1) = some ⟨1,[.lst 1 (strs b) none],true,22⟩
 fn : AHeap.find F (H.length + 2) = some ⟨1,tabL N (tabF a b q),true,50⟩
 ft : AHeap.find F (H.length + 3) = some (tblB (b.length + 1) (H.length + 2) N)
 fc : AHeap.find F (H.length + 4) = some ⟨1,[.ptr 2 (H.length + 3) 0 0],true,48⟩
 old : ∀ id,id < H.length → AHeap.find F id = AHeap.find H id
theorem FillI.step {a b : List ByteArray} {N q : Nat} {H F : AHeap} (h : FillI a b N H F q) (q' : Nat) : FillI a b N H (AHeap.set F (H.length + 2) (some ⟨1,tabL N (tabF a b q'),true,50⟩)) q' := by
 have hl := h.len
 refine ⟨by rw [AHeap.set_length,hl],?_,?_,AHeap.find_set_same (by omega),?_,?_,fun id hid => ?_⟩
 ·rw [find_set_other (by omega)]; exact h.fa
 ·rw [find_set_other (by omega)]; exact h.fb
 ·rw [find_set_other (by omega)]; exact h.ft
 ·rw [find_set_other (by omega)]; exact h.fc
 ·rw [find_set_other (by omega)]; exact h.old id hid
theorem gzL_map {H1 : AHeap} {n0 : Nat} {src : List Nat} {α : Type} (f : α → Value) : ∀ {l : List α},GzL H1 n0 src (l.map fun x => .sc (f x)) (l.map fun x => .sc (f x))
 | [] => .nil
 | _ :: _ => .cons (.same trivial) (gzL_map f)
theorem tab_gz {H1 : AHeap} {n0 : Nat} {src : List Nat} {N : Nat} {f : Nat → Nat} : GzL H1 n0 src (tabL N f) (tabL N f) := gzL_map (fun k => .int .u16 (f k))
theorem fill_d (a b : List ByteArray) (hla : a.length ≤ 4096) (hlb : b.length ≤ 4096) (H : AHeap) :
  D Tryd.prog 24 [.lst 1 (strs a) none,.lst 1 (strs b) none] H (.ret (.ptr 2 (H.length + 1) 0 0)) (some (tblB (b.length + 1) H.length ((a.length + 1) * (b.length + 1))) :: some ⟨1,tabL ((a.length + 1) * (b.length + 1)) (tabF a b 0),true,50⟩ :: H) := by
 have hN : (a.length + 1) * (b.length + 1) ≤ 4097 * 4097 := Nat.mul_le_mul (by omega) (by omega)
 have m3 : (a.length + 1) * (b.length + 1) = a.length * (b.length + 1) + (b.length + 1) := by rw [Nat.add_mul]; omega
 have e3 : ((a.length : Int) + 1) * ((b.length : Int) + 1) = (((a.length + 1) * (b.length + 1) : Nat) : Int) := by rw [Int.natCast_mul]; simp
 have e4 : ((b.length : Int) + 1) = ((b.length + 1 : Nat) : Int) := by omega
 refine D_of_DK (by simp; omega) (dk24 (E_of_ES ?_))
 have hst := tabF_start (a := a) (b := b)
 rw [tabL_zero] at hst
 obtain ⟨N,hNe⟩ : ∃ N,N = (a.length + 1) * (b.length + 1) := ⟨_,rfl⟩
 rw [← hNe] at hN m3 e3 hst ⊢
 simp -implicitDefEqProofs (maxSteps := 99999999) (disch := omega) only [vu,ic24,strs_length,e3,Int.toNat_natCast,hst,va,vg,vs,vh,Nat.reduceMul,ite_true,ite_false,eq_self,forall_const,implies_true,Nat.reduceAdd,Nat.reduceSub,Nat.reduceLT,Nat.reduceLeDiff,↓reduceIte,reduceCtorEq,Int.reduceEq,Int.reduceLT,Int.reduceLE,Int.reduceGT,Int.reduceGE,Int.reduceAdd,Int.reduceSub,Int.reduceNeg,Int.reduceToNat,Nat.reduceBEq,Nat.reduceEqDiff]
 refine ⟨⟨by omega,Int.le_refl _,by omega⟩,?_⟩
 refine ES_gen fun K hK => ?_
 refine ES_loopL (fun ts F => ∃ (k : Nat),FillI a b N H F (k * (b.length + 1)) ∧ k ≤ a.length ∧
   Fr [none,none,some (.ptr 1 H.length 0 0),some (.ptr 1 (H.length + 1) 0 0),none,some (.ptr 1 (H.length + 4) 0 0),some (.fn (.func 32) [] [.ptr 1 H.length 0 0,.ptr 1 (H.length + 1) 0 0,.ptr 1 (H.length + 4) 0 0]),some (.sc (.int .i64 (k - 1))),none,none,none,none,none,none,none,none,none,none,none,none,none,none,none,none,none,none,none,none,none,none,none,none,none,none,none,none,none,none,none,none,none,none,none,none,none,none,none,none,none,none,none,none,none,none,none] ts) (fun ts _ => (intV (ts.getD 7 .top) + 1).toNat) ?_ ?_
 ·refine ⟨a.length,⟨by simp,?_,?_,?_,?_,?_,fun id hid => ?_⟩,Nat.le_refl _,by simp [Fr]⟩
  ·rw [find_past (by simp; omega),find_past (by simp; omega),find_past (by simp; omega),find_past (by simp)]; exact find_top rfl
  ·rw [find_past (by simp),find_past (by simp),find_past (by simp)]; exact find_top rfl
  ·rw [find_past (by simp),find_past (by simp)]; exact find_top rfl
  ·rw [find_past (by simp)]; exact find_top rfl
  ·exact find_top rfl
  ·rw [find_past (by simp; omega),find_past (by simp; omega),find_past (by simp; omega),find_past (by simp; omega),find_past hid]
 ·rintro ts F ⟨k,hI,hk,hfr⟩ L1 hL1
  obtain ⟨js,rfl⟩ := hfr.opened
  clear hfr
  obtain ⟨g1,g2,g3,g4,g5,g6,g7⟩ := id hI
  cases k with
  | zero =>
   have h1 : ¬ ((0 : Nat) : Int) - 1 ≥ 0 := by omega
   simp -implicitDefEqProofs (maxSteps := 99999999) (disch := first | omega | (simp only [AHeap.set_length,killO_length,List.length_cons,List.length_nil]; first | done | omega)) only [vu,mk,h1,va,vg,vs,vw,Nat.reduceMul,ite_true,ite_false,eq_self,forall_const,implies_true,Nat.reduceAdd,Nat.reduceSub,Nat.reduceLT,Nat.reduceLeDiff,↓reduceIte,reduceCtorEq,Int.reduceEq,Int.reduceLT,Int.reduceLE,Int.reduceGT,Int.reduceGE,Int.reduceAdd,Int.reduceSub,Int.reduceNeg,Int.reduceToNat,Nat.reduceBEq,Nat.reduceEqDiff]
   clear hL1
   refine hK _ _ _ ?_
   clear hK
   simp -implicitDefEqProofs (maxSteps := 99999999) (disch := first | omega | (simp only [AHeap.set_length,killO_length,List.length_cons,List.length_nil]; first | done | omega)) only [vu,g6,va,vg,vs,vw,Nat.reduceMul,ite_true,ite_false,eq_self,forall_const,implies_true,Nat.reduceAdd,Nat.reduceSub,Nat.reduceLT,Nat.reduceLeDiff,↓reduceIte,reduceCtorEq,Int.reduceEq,Int.reduceLT,Int.reduceLE,Int.reduceGT,Int.reduceGE,Int.reduceAdd,Int.reduceSub,Int.reduceNeg,Int.reduceToNat,Nat.reduceBEq,Nat.reduceEqDiff]
   have n1 : newId H.length [H.length + 2,H.length + 3] (H.length + 2) = some H.length := by
    unfold newId
    rw [if_neg (by omega)]
    simp [List.idxOf?,List.findIdx?_cons]
   have n2 : newId H.length [H.length + 2,H.length + 3] (H.length + 3) = some (H.length + 1) := by
    unfold newId
    rw [if_neg (by omega)]
    simp [List.idxOf?,List.findIdx?_cons]
   rw [Nat.zero_mul] at g4
   refine weak_gen [H.length + 2,H.length + 3] (by simp) (by simp) (by simp) (fun id k hid hk => .inl ⟨by rwa [find_past (by simp; omega),find_past hid] at hk,by rw [g7 id hid]; rwa [find_past (by simp; omega),find_past hid] at hk⟩) (fun i s k hs hk => ?_) (.ptrR n2)
   match i,hs with
   | 0,hs =>
    simp at hs
    subst hs
    rw [find_past (by simp),find_top (by simp)] at hk
    cases hk
    exact ⟨_,g4,rfl,rfl,fun h => h,tab_gz⟩
   | 1,hs =>
    simp at hs
    subst hs
    rw [find_top (by simp)] at hk
    cases hk
    exact ⟨_,g5,rfl,rfl,fun h => h,.cons (.agg (.cons (.same trivial) (.cons (.vecR n1 (.inl rfl)) .nil))) .nil⟩
   | i + 2,hs => simp at hs
  | succ i =>
   have e1 : ((i + 1 : Nat) : Int) - 1 = (i : Int) := by omega
   have h1 : (i : Int) ≥ 0 := by omega
   simp -implicitDefEqProofs (maxSteps := 99999999) (disch := first | omega | (simp only [AHeap.set_length,killO_length,List.length_cons,List.length_nil]; first | done | omega)) only [vu,mk,e1,h1,g3,strs_length,va,vg,vs,vw,Nat.reduceMul,ite_true,ite_false,eq_self,forall_const,implies_true,Nat.reduceAdd,Nat.reduceSub,Nat.reduceLT,Nat.reduceLeDiff,↓reduceIte,reduceCtorEq,Int.reduceEq,Int.reduceLT,Int.reduceLE,Int.reduceGT,Int.reduceGE,Int.reduceAdd,Int.reduceSub,Int.reduceNeg,Int.reduceToNat,Nat.reduceBEq,Nat.reduceEqDiff]
   have m1 : (i + 1) * (b.length + 1) = i * (b.length + 1) + (b.length + 1) := by rw [Nat.add_mul]; omega
   have m2 : (i + 1) * (b.length + 1) ≤ a.length * (b.length + 1) := Nat.mul_le_mul_right _ (by omega)
   have e5 : (i : Int) * ((b.length + 1 : Nat) : Int) = ((i * (b.length + 1) : Nat) : Int) := by rw [Int.natCast_mul]
   refine ES_gen fun K2 hK2 => ?_
   refine ES_loopL (fun ts F => ∃ (m : Nat),FillI a b N H F (i * (b.length + 1) + m) ∧ m ≤ b.length ∧
    Fr [none,none,some (.ptr 1 H.length 0 0),some (.ptr 1 (H.length + 1) 0 0),none,some (.ptr 1 (H.length + 4) 0 0),some (.fn (.func 32) [] [.ptr 1 H.length 0 0,.ptr 1 (H.length + 1) 0 0,.ptr 1 (H.length + 4) 0 0]),some (.sc (.int .i64 i)),some (.sc (.int .i64 (m - 1))),none,none,none,none,none,none,none,none,none,none,none,none,none,none,none,none,none,none,none,none,none,none,none,none,none,none,none,none,none,none,none,none,none,none,none,none,none,none,none,none,none,none,none,none,none,none] ts) (fun ts _ => (intV (ts.getD 8 .top) + 1).toNat) ?_ ?_
   ·exact ⟨b.length,⟨g1,g2,g3,by rw [← tabF_edge]; exact g4,g5,g6,g7⟩,Nat.le_refl _,by simp [Fr]⟩
   clear g1 g2 g3 g4 g5 g6 g7 hI
   rintro ts F2 ⟨m,hI,hm,hfr⟩ L2 hL2
   obtain ⟨js2,rfl⟩ := hfr.opened
   clear hfr
   obtain ⟨g1,g2,g3,g4,g5,g6,g7⟩ := id hI
   cases m with
   | zero =>
    have h2 : ¬ ((0 : Nat) : Int) - 1 ≥ 0 := by omega
    simp -implicitDefEqProofs (maxSteps := 99999999) (disch := first | omega | (simp only [AHeap.set_length,killO_length,List.length_cons,List.length_nil]; first | done | omega)) only [vu,mk,h2,va,vg,vs,vw,Nat.reduceMul,ite_true,ite_false,eq_self,forall_const,implies_true,Nat.reduceAdd,Nat.reduceSub,Nat.reduceLT,Nat.reduceLeDiff,↓reduceIte,reduceCtorEq,Int.reduceEq,Int.reduceLT,Int.reduceLE,Int.reduceGT,Int.reduceGE,Int.reduceAdd,Int.reduceSub,Int.reduceNeg,Int.reduceToNat,Nat.reduceBEq,Nat.reduceEqDiff]
    clear hL2
    refine hK2 _ _ _ ?_
    clear hK2
    simp -implicitDefEqProofs (maxSteps := 99999999) (disch := first | omega | (simp only [AHeap.set_length,killO_length,List.length_cons,List.length_nil]; first | done | omega)) only [vu,va,vg,vs,vw,Nat.reduceMul,ite_true,ite_false,eq_self,forall_const,implies_true,Nat.reduceAdd,Nat.reduceSub,Nat.reduceLT,Nat.reduceLeDiff,↓reduceIte,reduceCtorEq,Int.reduceEq,Int.reduceLT,Int.reduceLE,Int.reduceGT,Int.reduceGE,Int.reduceAdd,Int.reduceSub,Int.reduceNeg,Int.reduceToNat,Nat.reduceBEq,Nat.reduceEqDiff]
    refine hL1 _ _ ⟨i,hI,by omega,by simp [Fr]⟩ ?_
    simp [mk,intV]
   | succ j =>
    have e6 : ((j + 1 : Nat) : Int) - 1 = (j : Int) := by omega
    have h2 : (j : Int) ≥ 0 := by omega
    have e7 : ((i * (b.length + 1) : Nat) : Int) + (j : Int) = ((i * (b.length + 1) + j : Nat) : Int) := by omega
    have hbest := best_d (p := i * (b.length + 1) + (j + 1)) g2 g3 g6 (by rw [← hNe]; exact g5) (by rw [← hNe]; exact g4) hla hlb (i := i) (j := j) (by omega) (by omega) (by omega)
    unfold tblB at g5
    simp -implicitDefEqProofs (maxSteps := 99999999) (disch := first | omega | (simp only [AHeap.set_length,killO_length,List.length_cons,List.length_nil]; first | done | omega)) only [vu,mk,e6,h2,g4,g5,g6,e5,e7,tabL_length,va,vg,vs,vw,Nat.reduceMul,ite_true,ite_false,eq_self,forall_const,implies_true,Nat.reduceAdd,Nat.reduceSub,Nat.reduceLT,Nat.reduceLeDiff,↓reduceIte,reduceCtorEq,Int.reduceEq,Int.reduceLT,Int.reduceLE,Int.reduceGT,Int.reduceGE,Int.reduceAdd,Int.reduceSub,Int.reduceNeg,Int.reduceToNat,Nat.reduceBEq,Nat.reduceEqDiff]
    refine ⟨by kernel_rfl,callD_same hbest ?_⟩
    have hlt : i * (b.length + 1) + j < N := by omega
    have e8 : ((i * (b.length + 1) + j : Nat) : Int).toNat = i * (b.length + 1) + j := Int.toNat_natCast _
    have eq : (i * (b.length + 1) + j) / (b.length + 1) = i := by
     rw [Nat.add_comm,Nat.add_mul_div_right _ _ (by omega),Nat.div_eq_of_lt (by omega),Nat.zero_add]
    have er : (i * (b.length + 1) + j) % (b.length + 1) = j := by
     rw [Nat.add_comm,Nat.add_mul_mod_self_right,Nat.mod_eq_of_lt (by omega)]
    have hT : (tabL N (tabF a b (i * (b.length + 1) + (j + 1)))).set (i * (b.length + 1) + j) (.sc (.int .u16 (lcd a b i j))) = tabL N (tabF a b (i * (b.length + 1) + j)) := by
     rw [tabL_set,← tabF_step N,eq,er]
     rfl
    have hg := tabL_get (f := tabF a b (i * (b.length + 1) + (j + 1))) hlt
    simp -implicitDefEqProofs (maxSteps := 99999999) (disch := first | omega | (simp only [AHeap.set_length,killO_length,List.length_cons,List.length_nil]; first | done | omega)) only [vu,g4,g5,g6,tabL_length,e8,hg,hT,va,vg,vs,vw,Nat.reduceMul,ite_true,ite_false,eq_self,forall_const,implies_true,Nat.reduceAdd,Nat.reduceSub,Nat.reduceLT,Nat.reduceLeDiff,↓reduceIte,reduceCtorEq,Int.reduceEq,Int.reduceLT,Int.reduceLE,Int.reduceGT,Int.reduceGE,Int.reduceAdd,Int.reduceSub,Int.reduceNeg,Int.reduceToNat,Nat.reduceBEq,Nat.reduceEqDiff]
    refine ⟨⟨by omega,by omega⟩,hlt,hL2 _ _ ⟨j,hI.step _,by omega,by simp [Fr]⟩ ?_⟩
    simp [mk,intV]
end Go.Proofs.YtigmpablpmanpaaDoor
/- diff.Common. -/
namespace Go.Proofs.YtigmpablpmanpaaDoor
open Go.RowKit
set_option maxRecDepth 100000
set_option linter.unusedVariables false
set_option linter.unusedSimpArgs false
/-- The pairs from two places on. -/
def cmn (a b : List ByteArray) (i j : Nat) : List (Nat × Nat) :=
 if h : i < a.length ∧ j < b.length then
  if nthS a i = nthS b j then (i,j) :: cmn a b (i + 1) (j + 1)
  else if lcd a b (i + 1) j ≥ lcd a b i (j + 1) then cmn a b (i + 1) j else cmn a b i (j + 1)
 else []
termination_by (a.length - i) + (b.length - j)
theorem cmn_end {a b : List ByteArray} {i j : Nat} (h : ¬ (i < a.length ∧ j < b.length)) : cmn a b i j = [] := by rw [cmn,dif_neg h]
theorem cmn_eq {a b : List ByteArray} {i j : Nat} (h1 : i < a.length) (h2 : j < b.length) (e : nthS a i = nthS b j) : cmn a b i j = (i,j) :: cmn a b (i + 1) (j + 1) := by rw [cmn,dif_pos ⟨h1,h2⟩,if_pos e]
theorem cmn_i {a b : List ByteArray} {i j : Nat} (h1 : i < a.length) (h2 : j < b.length) (e : ¬ nthS a i = nthS b j) (h : lcd a b (i + 1) j ≥ lcd a b i (j + 1)) : cmn a b i j = cmn a b (i + 1) j := by rw [cmn,dif_pos ⟨h1,h2⟩,if_neg e,if_pos h]
theorem cmn_j {a b : List ByteArray} {i j : Nat} (h1 : i < a.length) (h2 : j < b.length) (e : ¬ nthS a i = nthS b j) (h : ¬ lcd a b (i + 1) j ≥ lcd a b i (j + 1)) : cmn a b i j = cmn a b i (j + 1) := by rw [cmn,dif_pos ⟨h1,h2⟩,if_neg e,if_neg h]
def prs (l : List (Nat × Nat)) : List AV := l.map fun p => .agg [.sc (.int .i64 (p.1 : Nat)),.sc (.int .i64 (p.2 : Nat))]
theorem prs_gz {H1 : AHeap} {n0 : Nat} {src : List Nat} : ∀ {l : List (Nat × Nat)},GzL H1 n0 src (prs l) (prs l)
 | [] => .nil
 | _ :: _ => .cons (.same ⟨trivial,trivial,trivial⟩) prs_gz
theorem prs_length (l : List (Nat × Nat)) : (prs l).length = l.length := by simp [prs]
/-- A row that a function made and hands out. -/
theorem weak_own {H F : AHeap} {k io : Nat} {ty : TypeId} {xs : List AV} (ho : ∀ id,id < H.length → AHeap.find F id = AHeap.find H id) (hf : xs ≠ [] → AHeap.find F io = OwnB k ty xs ∧ H.length ≤ io) (hz : ∀ s,GzL F H.length [s] xs xs) :
  Weak H (.ret (OwnV k xs io)) F (.ret (OwnV k xs H.length)) (OwnB k ty xs :: H) := by
 by_cases e : xs = []
 ·subst e
  refine weak_gen [H.length] (by simp) (by simp) (by simp) (fun id k hid hk => .inl ?_) (fun i s k hs hk => ?_) (.same (by simp [OwnV]; trivial))
  ·rw [find_past (by omega)] at hk
   exact ⟨hk,by rw [ho id hid]; exact hk⟩
  ·rcases i with _ | i
   ·rw [Nat.add_zero,find_top rfl] at hk
    simp [OwnB] at hk
   ·simp at hs
 ·obtain ⟨h1,h2⟩ := hf e
  rw [OwnV_ne e,OwnV_ne e]
  rw [OwnB_ne e] at h1 ⊢
  refine weak_gen [io] (by simp) (by simp) (by simpa using h2) (fun id k hid hk => .inl ?_) (fun i s k hs hk => ?_) (.vecR (newId_one h2) (.inl rfl))
  ·rw [find_past (by omega)] at hk
   exact ⟨hk,by rw [ho id hid]; exact hk⟩
  ·rcases i with _ | i
   ·simp at hs
    subst hs
    rw [Nat.add_zero,find_top rfl] at hk
    cases hk
    exact ⟨_,h1,rfl,rfl,fun h => h,hz _⟩
   ·simp at hs
theorem common_o (a b : List ByteArray) (hla : a.length ≤ 4096) (hlb : b.length ≤ 4096) (H : AHeap) :
  D Tryd.prog 9 [.lst 1 (strs a) none,.lst 1 (strs b) none] H (.ret (OwnV 2 (prs (cmn a b 0 0)) H.length)) (OwnB 2 40 (prs (cmn a b 0 0)) :: H) := by
 have hN : (a.length + 1) * (b.length + 1) ≤ 4097 * 4097 := Nat.mul_le_mul (by omega) (by omega)
 have c1 : ¬ (a.length : Int) > 4096 := by omega
 have c2 : ¬ (b.length : Int) > 4096 := by omega
 refine D_of_DK (by simp) (dk9 (E_of_ES ?_))
 simp -implicitDefEqProofs (maxSteps := 99999999) (disch := omega) only [vu,ic9,strs_length,c1,c2,va,vg,vs,vh,Nat.reduceMul,ite_true,ite_false,eq_self,forall_const,implies_true,Nat.reduceAdd,Nat.reduceSub,Nat.reduceLT,Nat.reduceLeDiff,↓reduceIte,reduceCtorEq,Int.reduceEq,Int.reduceLT,Int.reduceLE,Int.reduceGT,Int.reduceGE,Int.reduceAdd,Int.reduceSub,Int.reduceNeg,Int.reduceToNat,Nat.reduceBEq,Nat.reduceEqDiff]
 refine callR_ret (fill_d a b hla hlb _) ?_
 simp -implicitDefEqProofs (maxSteps := 99999999) (disch := omega) only [vu,va,vg,vs,vh,Nat.reduceMul,ite_true,ite_false,eq_self,forall_const,implies_true,Nat.reduceAdd,Nat.reduceSub,Nat.reduceLT,Nat.reduceLeDiff,↓reduceIte,reduceCtorEq,Int.reduceEq,Int.reduceLT,Int.reduceLE,Int.reduceGT,Int.reduceGE,Int.reduceAdd,Int.reduceSub,Int.reduceNeg,Int.reduceToNat,Nat.reduceBEq,Nat.reduceEqDiff]
 refine ES_gen fun K hK => ?_
 refine ES_loopL (fun ts F => ∃ (i j io : Nat) (out : List (Nat × Nat)),(i ≤ a.length ∧ j ≤ b.length ∧ out ++ cmn a b i j = cmn a b 0 0 ∧ out.length ≤ i) ∧
   (AHeap.find F (H.length + 1) = some (tblB (b.length + 1) H.length ((a.length + 1) * (b.length + 1))) ∧ AHeap.find F H.length = some ⟨1,tabL ((a.length + 1) * (b.length + 1)) (tabF a b 0),true,50⟩ ∧ H.length + 2 ≤ F.length) ∧
   ((prs out ≠ [] → AHeap.find F io = OwnB 2 40 (prs out) ∧ H.length + 2 ≤ io) ∧ ∀ id,id < H.length → AHeap.find F id = AHeap.find H id) ∧
   Fr [some (.lst 1 (strs a) none),some (.lst 1 (strs b) none),none,none,none,some (.ptr 2 (H.length + 1) 0 0),some (OwnV 2 (prs out) io),some (.sc (.int .i64 i)),some (.sc (.int .i64 j)),none,none,none,none,none,none,none,none,none,none,none,none,none,none,none,none,none,none,none,none,none,none,none,none,none,none,none,none,none,none,none,none,none,none,none,none,none,none,none,none,none,none,none,none,none,none,none,none,none,none,none,none,none,none,none,none,none,none] ts) (fun ts _ => (a.length - (intV (ts.getD 7 .top)).toNat) + (b.length - (intV (ts.getD 8 .top)).toNat)) ?_ ?_
 ·exact ⟨0,0,0,[],⟨Nat.zero_le _,Nat.zero_le _,rfl,Nat.zero_le _⟩,⟨find_top (by simp),by rw [find_past (by simp)]; exact find_top rfl,by simp⟩,⟨fun h => (h rfl).elim,fun id hid => by rw [find_past (by simp; omega),find_past hid]⟩,by simp [Fr]; rfl⟩
 ·rintro ts F ⟨i,j,io,out,⟨hi,hj,ho,hlo⟩,⟨ht,hn,hFl⟩,⟨m1,m2⟩,hfr⟩ L1 hL1
  obtain ⟨js,rfl⟩ := hfr.opened
  clear hfr
  by_cases hd : i < a.length ∧ j < b.length
  ·obtain ⟨h1,h2⟩ := hd
   have h1' : (i : Int) < a.length := by omega
   have h2' : (j : Int) < b.length := by omega
   by_cases e : nthS a i = nthS b j
   ·obtain ⟨io1,G1,p1,p2,p3,p4,p5,p6⟩ := apAny (k := 2) (ty := 40) (xs := prs out) (ys := [.agg [.sc (.int .i64 i),.sc (.int .i64 j)]]) (fun h => (m1 h).1) (by rw [prs_length]; simp; omega)
    have hap : prs out ++ [AV.agg [.sc (.int .i64 i),.sc (.int .i64 j)]] = prs (out ++ [(i,j)]) := by simp [prs]
    rw [hap] at p2 p4
    simp -implicitDefEqProofs (maxSteps := 99999999) (disch := first | omega | (simp only [AHeap.set_length,killO_length,List.length_cons,List.length_nil]; first | done | omega)) only [vu,mk,h1',h2',strs_length,strs_get h1,strs_get h2,e,p1,p2,p3,va,vg,vs,vw,Nat.reduceMul,ite_true,ite_false,eq_self,forall_const,implies_true,Nat.reduceAdd,Nat.reduceSub,Nat.reduceLT,Nat.reduceLeDiff,↓reduceIte,reduceCtorEq,Int.reduceEq,Int.reduceLT,Int.reduceLE,Int.reduceGT,Int.reduceGE,Int.reduceAdd,Int.reduceSub,Int.reduceNeg,Int.reduceToNat,Nat.reduceBEq,Nat.reduceEqDiff]
    refine ⟨by omega,by omega,hL1 _ _ ⟨i + 1,j + 1,io1,out ++ [(i,j)],⟨by omega,by omega,by rw [← ho,cmn_eq h1 h2 e]; simp,by simp; omega⟩,
     ⟨by rw [p6 _ (by omega) (fun h => by have := (m1 h).2; omega)]; exact ht,by rw [p6 _ (by omega) (fun h => by have := (m1 h).2; omega)]; exact hn,by omega⟩,
     ⟨fun h => ⟨(p4 h).1,by have := (p4 h).2; omega⟩,fun id hid => by rw [p6 _ (by omega) (fun h => by have := (m1 h).2; omega)]; exact m2 id hid⟩,by simp [Fr]⟩ ?_⟩
    simp [mk,intV]
    omega
   ·have w1 : (i + 1) * (b.length + 1) = i * (b.length + 1) + (b.length + 1) := by rw [Nat.add_mul]; omega
    have w2 : (i + 1) * (b.length + 1) ≤ a.length * (b.length + 1) := Nat.mul_le_mul_right _ (by omega)
    have w3 : (a.length + 1) * (b.length + 1) = a.length * (b.length + 1) + (b.length + 1) := by rw [Nat.add_mul]; omega
    have f2 : tabF a b 0 ((i + 1) * (b.length + 1) + j) = lcd a b (i + 1) j := tabF_at (by omega) (by omega)
    have f3 : tabF a b 0 (i * (b.length + 1) + (j + 1)) = lcd a b i (j + 1) := tabF_at (by omega) (by omega)
    have t2 := tat_d ht hn (i := i + 1) (j := j) (by omega) (by omega) (by omega) (by omega) (by omega)
    have t3 := tat_d ht hn (i := i) (j := j + 1) (by omega) (by omega) (by omega) (by omega) (by omega)
    rw [f2] at t2
    rw [f3] at t3
    have e1 : ((i + 1 : Nat) : Int) = (i : Int) + 1 := by omega
    have e2 : ((j + 1 : Nat) : Int) = (j : Int) + 1 := by omega
    simp only [e1] at t2
    simp only [e2] at t3
    simp -implicitDefEqProofs (maxSteps := 99999999) (disch := first | omega | (simp only [AHeap.set_length,killO_length,List.length_cons,List.length_nil]; first | done | omega)) only [vu,mk,h1',h2',strs_length,strs_get h1,strs_get h2,e,va,vg,vs,vw,Nat.reduceMul,ite_true,ite_false,eq_self,forall_const,implies_true,Nat.reduceAdd,Nat.reduceSub,Nat.reduceLT,Nat.reduceLeDiff,↓reduceIte,reduceCtorEq,Int.reduceEq,Int.reduceLT,Int.reduceLE,Int.reduceGT,Int.reduceGE,Int.reduceAdd,Int.reduceSub,Int.reduceNeg,Int.reduceToNat,Nat.reduceBEq,Nat.reduceEqDiff]
    refine ⟨by omega,by omega,callR_ret t2 ?_⟩
    simp -implicitDefEqProofs (maxSteps := 99999999) (disch := first | omega | (simp only [AHeap.set_length,killO_length,List.length_cons,List.length_nil]; first | done | omega)) only [vu,va,vg,vs,vw,Nat.reduceMul,ite_true,ite_false,eq_self,forall_const,implies_true,Nat.reduceAdd,Nat.reduceSub,Nat.reduceLT,Nat.reduceLeDiff,↓reduceIte,reduceCtorEq,Int.reduceEq,Int.reduceLT,Int.reduceLE,Int.reduceGT,Int.reduceGE,Int.reduceAdd,Int.reduceSub,Int.reduceNeg,Int.reduceToNat,Nat.reduceBEq,Nat.reduceEqDiff]
    refine callR_ret t3 ?_
    by_cases g : lcd a b (i + 1) j ≥ lcd a b i (j + 1)
    ·have g' : ((lcd a b (i + 1) j : Nat) : Int) ≥ ((lcd a b i (j + 1) : Nat) : Int) := by omega
     simp -implicitDefEqProofs (maxSteps := 99999999) (disch := first | omega | (simp only [AHeap.set_length,killO_length,List.length_cons,List.length_nil]; first | done | omega)) only [vu,g',va,vg,vs,vw,Nat.reduceMul,ite_true,ite_false,eq_self,forall_const,implies_true,Nat.reduceAdd,Nat.reduceSub,Nat.reduceLT,Nat.reduceLeDiff,↓reduceIte,reduceCtorEq,Int.reduceEq,Int.reduceLT,Int.reduceLE,Int.reduceGT,Int.reduceGE,Int.reduceAdd,Int.reduceSub,Int.reduceNeg,Int.reduceToNat,Nat.reduceBEq,Nat.reduceEqDiff]
     refine hL1 _ _ ⟨i + 1,j,io,out,⟨by omega,by omega,by rw [← ho,cmn_i h1 h2 e g],by omega⟩,⟨ht,hn,hFl⟩,⟨m1,m2⟩,by simp [Fr]⟩ ?_
     simp [mk,intV]
     omega
    ·have g' : ¬ ((lcd a b (i + 1) j : Nat) : Int) ≥ ((lcd a b i (j + 1) : Nat) : Int) := by omega
     simp -implicitDefEqProofs (maxSteps := 99999999) (disch := first | omega | (simp only [AHeap.set_length,killO_length,List.length_cons,List.length_nil]; first | done | omega)) only [vu,g',va,vg,vs,vw,Nat.reduceMul,ite_true,ite_false,eq_self,forall_const,implies_true,Nat.reduceAdd,Nat.reduceSub,Nat.reduceLT,Nat.reduceLeDiff,↓reduceIte,reduceCtorEq,Int.reduceEq,Int.reduceLT,Int.reduceLE,Int.reduceGT,Int.reduceGE,Int.reduceAdd,Int.reduceSub,Int.reduceNeg,Int.reduceToNat,Nat.reduceBEq,Nat.reduceEqDiff]
     refine hL1 _ _ ⟨i,j + 1,io,out,⟨by omega,by omega,by rw [← ho,cmn_j h1 h2 e g],by omega⟩,⟨ht,hn,hFl⟩,⟨m1,m2⟩,by simp [Fr]⟩ ?_
     simp [mk,intV]
     omega
  ·by_cases h1 : i < a.length
   ·have h1' : (i : Int) < a.length := by omega
    have h2' : ¬ (j : Int) < b.length := by omega
    simp -implicitDefEqProofs (maxSteps := 99999999) (disch := first | omega | (simp only [AHeap.set_length,killO_length,List.length_cons,List.length_nil]; first | done | omega)) only [vu,mk,h1',h2',strs_length,va,vg,vs,vw,Nat.reduceMul,ite_true,ite_false,eq_self,forall_const,implies_true,Nat.reduceAdd,Nat.reduceSub,Nat.reduceLT,Nat.reduceLeDiff,↓reduceIte,reduceCtorEq,Int.reduceEq,Int.reduceLT,Int.reduceLE,Int.reduceGT,Int.reduceGE,Int.reduceAdd,Int.reduceSub,Int.reduceNeg,Int.reduceToNat,Nat.reduceBEq,Nat.reduceEqDiff]
    clear hL1
    refine hK _ _ _ ?_
    clear hK
    rw [cmn_end hd,List.append_nil] at ho
    subst ho
    simp -implicitDefEqProofs (maxSteps := 99999999) (disch := first | omega | (simp only [AHeap.set_length,killO_length,List.length_cons,List.length_nil]; first | done | omega)) only [vu,va,vg,vs,vw,Nat.reduceMul,ite_true,ite_false,eq_self,forall_const,implies_true,Nat.reduceAdd,Nat.reduceSub,Nat.reduceLT,Nat.reduceLeDiff,↓reduceIte,reduceCtorEq,Int.reduceEq,Int.reduceLT,Int.reduceLE,Int.reduceGT,Int.reduceGE,Int.reduceAdd,Int.reduceSub,Int.reduceNeg,Int.reduceToNat,Nat.reduceBEq,Nat.reduceEqDiff]
    exact weak_own m2 (fun h => ⟨(m1 h).1,by have := (m1 h).2; omega⟩) fun s => prs_gz
   ·have h1' : ¬ (i : Int) < a.length := by omega
    simp -implicitDefEqProofs (maxSteps := 99999999) (disch := first | omega | (simp only [AHeap.set_length,killO_length,List.length_cons,List.length_nil]; first | done | omega)) only [vu,mk,h1',strs_length,va,vg,vs,vw,Nat.reduceMul,ite_true,ite_false,eq_self,forall_const,implies_true,Nat.reduceAdd,Nat.reduceSub,Nat.reduceLT,Nat.reduceLeDiff,↓reduceIte,reduceCtorEq,Int.reduceEq,Int.reduceLT,Int.reduceLE,Int.reduceGT,Int.reduceGE,Int.reduceAdd,Int.reduceSub,Int.reduceNeg,Int.reduceToNat,Nat.reduceBEq,Nat.reduceEqDiff]
    clear hL1
    refine hK _ _ _ ?_
    clear hK
    rw [cmn_end hd,List.append_nil] at ho
    subst ho
    simp -implicitDefEqProofs (maxSteps := 99999999) (disch := first | omega | (simp only [AHeap.set_length,killO_length,List.length_cons,List.length_nil]; first | done | omega)) only [vu,va,vg,vs,vw,Nat.reduceMul,ite_true,ite_false,eq_self,forall_const,implies_true,Nat.reduceAdd,Nat.reduceSub,Nat.reduceLT,Nat.reduceLeDiff,↓reduceIte,reduceCtorEq,Int.reduceEq,Int.reduceLT,Int.reduceLE,Int.reduceGT,Int.reduceGE,Int.reduceAdd,Int.reduceSub,Int.reduceNeg,Int.reduceToNat,Nat.reduceBEq,Nat.reduceEqDiff]
    exact weak_own m2 (fun h => ⟨(m1 h).1,by have := (m1 h).2; omega⟩) fun s => prs_gz
end Go.Proofs.YtigmpablpmanpaaDoor
/- Pairs rise; the hunks between them. -/
namespace Go.Proofs.YtigmpablpmanpaaDoor
open Go.RowKit
set_option linter.unusedVariables false
set_option linter.unusedSimpArgs false
/-- Pairs that rise, from two places on, below two ends. -/
def Rise (n m : Nat) : Nat → Nat → List (Nat × Nat) → Prop
 | i,j,[] => i ≤ n ∧ j ≤ m
 | i,j,(x,y) :: r => (i ≤ x ∧ j ≤ y) ∧ Rise n m (x + 1) (y + 1) r
theorem Rise.le {n m : Nat} : ∀ {l : List (Nat × Nat)} {i j : Nat},Rise n m i j l → i ≤ n ∧ j ≤ m
 | [],_,_,h => h
 | (x,y) :: r,i,j,h => by
  have := h.2.le
  have := h.1
  omega
theorem Rise.mono {n m : Nat} : ∀ {l : List (Nat × Nat)} {i j i' j' : Nat},Rise n m i j l → i' ≤ i → j' ≤ j → Rise n m i' j' l
 | [],_,_,_,_,h,h1,h2 => ⟨Nat.le_trans h1 h.1,Nat.le_trans h2 h.2⟩
 | (x,y) :: r,i,j,_,_,h,h1,h2 => ⟨⟨Nat.le_trans h1 h.1.1,Nat.le_trans h2 h.1.2⟩,h.2⟩
theorem cmn_rise (a b : List ByteArray) (i j : Nat) (hi : i ≤ a.length) (hj : j ≤ b.length) : Rise a.length b.length i j (cmn a b i j) := by
 by_cases h : i < a.length ∧ j < b.length
 ·by_cases e : nthS a i = nthS b j
  ·rw [cmn_eq h.1 h.2 e]
   exact ⟨⟨Nat.le_refl _,Nat.le_refl _⟩,cmn_rise a b (i + 1) (j + 1) (by omega) (by omega)⟩
  ·by_cases g : lcd a b (i + 1) j ≥ lcd a b i (j + 1)
   ·rw [cmn_i h.1 h.2 e g]
    exact (cmn_rise a b (i + 1) j (by omega) hj).mono (by omega) (Nat.le_refl _)
   ·rw [cmn_j h.1 h.2 e g]
    exact (cmn_rise a b i (j + 1) hi (by omega)).mono (Nat.le_refl _) (by omega)
 ·rw [cmn_end h]
  exact ⟨hi,hj⟩
termination_by (a.length - i) + (b.length - j)
/-- The hunks between pairs, from two places on. -/
def bet (a b : List ByteArray) : Nat → Nat → List (Nat × Nat) → List Hk
 | _,_,[] => []
 | i,j,(x,y) :: r => if (x - i) + (y - j) = 0 then bet a b (x + 1) (y + 1) r else ⟨i,(a.take x).drop i,(b.take y).drop j⟩ :: bet a b (x + 1) (y + 1) r
def difH (a b : List ByteArray) : List Hk := bet a b 0 0 (cmn a b 0 0 ++ [(a.length,b.length)])
end Go.Proofs.YtigmpablpmanpaaDoor
/- A round of diff.Hunks. -/
namespace Go.Proofs.YtigmpablpmanpaaDoor
open Go.RowKit
set_option maxRecDepth 100000
set_option linter.unusedVariables false
set_option linter.unusedSimpArgs false
theorem round_heapV {F : AHeap} {rid oid vid : Nat} {B R : ABlk} {X Y : Option ABlk} (hr : AHeap.find F rid = some R) (d : rid ≠ oid) (d2 : rid ≠ vid) : AHeap.set (AHeap.set (AHeap.set (AHeap.set F rid (some B)) vid Y) oid X) rid (some R) = AHeap.set (AHeap.set F vid Y) oid X := by
 have hl := AHeap.find_lt hr
 rw [set_comm d.symm,set_comm (H := AHeap.set F rid (some B)) d2.symm,set_set,set_self hr hl]
theorem set_past2 {F : AHeap} {T U X : Option ABlk} {i : Nat} (h : i < F.length) : AHeap.set (T :: U :: F) i X = T :: U :: AHeap.set F i X := by
 rw [set_past (by simp; omega),set_past h]
theorem round_heap0T {F : AHeap} {rid oid : Nat} {B R : ABlk} {X T U : Option ABlk} (hr : AHeap.find F rid = some R) (d : rid ≠ oid) : AHeap.set (T :: U :: AHeap.set (AHeap.set F rid (some B)) oid X) rid (some R) = T :: U :: AHeap.set F oid X := by
 rw [set_past2 (by simp [AHeap.set_length]; exact AHeap.find_lt hr),round_heap0 hr d]
theorem round_heapVT {F : AHeap} {rid oid vid : Nat} {B R : ABlk} {X Y T U : Option ABlk} (hr : AHeap.find F rid = some R) (d : rid ≠ oid) (d2 : rid ≠ vid) : AHeap.set (T :: U :: AHeap.set (AHeap.set (AHeap.set F rid (some B)) vid Y) oid X) rid (some R) = T :: U :: AHeap.set (AHeap.set F vid Y) oid X := by
 rw [set_past2 (by simp [AHeap.set_length]; exact AHeap.find_lt hr),round_heapV hr d d2]
/-- Own memory behind a round. -/
def hkF (F : AHeap) (xs : List Hk) (x : Hk) (oid vid : Nat) : AHeap := some ⟨3,hks (xs ++ [x]),false,46⟩ :: AHeap.set (killO (hks xs) vid (some ⟨3,[hkr x none none],true,46⟩ :: F)) oid (some ⟨1,[OwnV 3 (hks (xs ++ [x])) (F.length + 1)],true,28⟩)
theorem hunk_dy {F : AHeap} {rid oid vid fn db : Nat} {ts0 : List AV} {js : Nat → AV} {xs : List Hk} {x : Hk} (hts : ts0 = mk [none,none,none,none,none,some (.ptr 1 oid 0 0),none,none,none,none,none,none,none,none,none,none] js)
  (hr : AHeap.find F rid = some (lpB (recB fn db #[10] (rcA Tryd.f10 0) (rcB Tryd.f10 0)) ts0)) (ho : AHeap.find F oid = some ⟨1,[OwnV 3 (hks xs) vid],true,28⟩) (hv : xs ≠ [] → AHeap.find F vid = some ⟨3,hks xs,false,46⟩)
  (d1 : rid ≠ oid) (d2 : xs ≠ [] → vid ≠ oid ∧ vid ≠ rid) (hl : xs.length + 1 ≤ 100000000) :
  DY Tryd.prog rid [hkr x none none] F (.ret (.sc (.bool true))) (hkF F xs x oid vid) := by
 have hrl := AHeap.find_lt hr
 have hol := AHeap.find_lt ho
 refine DY_of_DKY (by unfold hkF; simp [killO_length,AHeap.set_length]; omega) (DKY_of_ES rca10_0 rcb10_0 hr rfl rfl ?_)
 obtain ⟨tp,htp⟩ : ∃ tp,putPs [10] [hkr x none none] ts0 = tp := ⟨_,rfl⟩
 show ES _ _ _ (putPs [10] _ ts0) _
 rw [htp]
 rw [hts] at htp
 simp only [mk,putPs,List.set_cons_succ,List.set_cons_zero] at htp
 subst htp
 clear hts
 simp -implicitDefEqProofs (maxSteps := 99999999) (disch := first | omega | (simp only [AHeap.set_length,killO_length,List.length_cons,List.length_nil]; first | done | omega)) only [vu,ic10a0,asgS_n,va,vg,vs,vw,Nat.reduceMul,ite_true,ite_false,eq_self,forall_const,implies_true,Nat.reduceAdd,Nat.reduceSub,Nat.reduceLT,Nat.reduceLeDiff,↓reduceIte,reduceCtorEq,Int.reduceEq,Int.reduceLT,Int.reduceLE,Int.reduceGT,Int.reduceGE,Int.reduceAdd,Int.reduceSub,Int.reduceNeg,Int.reduceToNat,Nat.reduceBEq,Nat.reduceEqDiff]
 refine ⟨hr,?_⟩
 change ES _ _ _ _ (some ⟨3,[hkr x none none],true,46⟩ :: AHeap.set F rid (some (lpB { recB fn db #[10] (rcA Tryd.f10 0) (rcB Tryd.f10 0) with state := .busy } ts0)))
 generalize hB : lpB { recB fn db #[10] (rcA Tryd.f10 0) (rcB Tryd.f10 0) with state := .busy } ts0 = B
 have hr1 : AHeap.find (AHeap.set F rid (some B)) rid = some B := AHeap.find_set_same hrl
 have ho1 : AHeap.find (AHeap.set F rid (some B)) oid = some ⟨1,[OwnV 3 (hks xs) vid],true,28⟩ := by rw [find_set hrl,if_neg d1]; exact ho
 have hv1 : xs ≠ [] → AHeap.find (AHeap.set F rid (some B)) vid = some ⟨3,hks xs,false,46⟩ := fun h => by rw [find_set hrl,if_neg (fun e => (d2 h).2 e.symm)]; exact hv h
 have hlen : (AHeap.set F rid (some B)).length = F.length := AHeap.set_length _ _ _
 obtain ⟨F1,hF1⟩ : ∃ F1,F1 = AHeap.set F rid (some B) := ⟨_,rfl⟩
 rw [← hF1] at hr1 ho1 hv1 hlen ⊢
 have hol1 : oid < F1.length := AHeap.find_lt ho1
 have hq : oid ≠ F.length := by omega
 have hq2 : ¬ F.length = oid := by omega
 have hrq : rid ≠ F.length := by omega
 unfold hkF
 cases xs with
 | nil =>
  simp only [show hks [] = [] from rfl,OwnV_nil] at ho1
  simp -implicitDefEqProofs (maxSteps := 99999999) (disch := first | omega | (simp only [AHeap.set_length,killO_length,List.length_cons,List.length_nil]; first | done | omega)) only [vu,ic10b0,ho1,hlen,hq2,show hks [] = [] from rfl,OwnV_nil,va,vg,vs,vw,Nat.reduceMul,ite_true,ite_false,eq_self,forall_const,implies_true,Nat.reduceAdd,Nat.reduceSub,Nat.reduceLT,Nat.reduceLeDiff,↓reduceIte,reduceCtorEq,Int.reduceEq,Int.reduceLT,Int.reduceLE,Int.reduceGT,Int.reduceGE,Int.reduceAdd,Int.reduceSub,Int.reduceNeg,Int.reduceToNat,Nat.reduceBEq,Nat.reduceEqDiff]
  rw [rndK_n]
  refine ⟨_,ts0,by rw [find_past (by simp [AHeap.set_length,hlen]; omega),find_past (by rw [AHeap.set_length,hlen]; exact hrl),find_set_other d1,hr1,← hB],?_⟩
  have e3 : AHeap.set (killO [] vid (some ⟨3,[hkr x none none],true,46⟩ :: F)) oid (some ⟨1,[OwnV 3 (hks [x]) (F.length + 1)],true,28⟩) = some ⟨3,[hkr x none none],true,46⟩ :: AHeap.set F oid (some ⟨1,[AV.vec 3 (F.length + 1) 0 1 none],true,28⟩) := set_past hol
  rw [hF1,e3]
  exact (round_heap0T hr d1) ▸ Weak.refl _ _ _
 | cons y ys =>
  have hv2 := hv1 (by simp)
  have hvl := AHeap.find_lt hv2
  have hlc : (hks (y :: ys)).length = ys.length + 1 := by simp [hks_length]
  have hO : OwnV 3 (hks (y :: ys)) vid = .vec 3 vid 0 (ys.length + 1) none := by simp [OwnV,hks]
  rw [hO] at ho1
  have ho2 : AHeap.find (AHeap.set F1 vid none) oid = some ⟨1,[.vec 3 vid 0 (ys.length + 1) none],true,28⟩ := by rw [find_set_other (d2 (by simp)).1.symm]; exact ho1
  simp -implicitDefEqProofs (maxSteps := 99999999) (disch := first | omega | (simp only [AHeap.set_length,killO_length,List.length_cons,List.length_nil]; first | done | omega)) only [vu,ic10b0,ho1,hv2,hlc,ho2,hlen,hq2,va,vg,vs,vw,Nat.reduceMul,ite_true,ite_false,eq_self,forall_const,implies_true,Nat.reduceAdd,Nat.reduceSub,Nat.reduceLT,Nat.reduceLeDiff,↓reduceIte,reduceCtorEq,Int.reduceEq,Int.reduceLT,Int.reduceLE,Int.reduceGT,Int.reduceGE,Int.reduceAdd,Int.reduceSub,Int.reduceNeg,Int.reduceToNat,Nat.reduceBEq,Nat.reduceEqDiff]
  refine ⟨by simp at hl; omega,?_⟩
  rw [rndK_n]
  refine ⟨_,ts0,by rw [find_past (by simp [AHeap.set_length,hlen]; omega),find_past (by rw [AHeap.set_length,AHeap.set_length,hlen]; exact hrl),find_set_other d1,find_set_other (d2 (by simp)).2.symm,hr1,← hB],?_⟩
  have e1 : hks (y :: ys) ++ [AV.agg [.sc (.int .i64 x.at_),.lst 1 (strs x.old) none,.lst 1 (strs x.new) none]] = hks (y :: (ys ++ [x])) := by simp [hks]
  have e2 : AV.vec 3 (F.length + 1) 0 (ys.length + 2) none = OwnV 3 (hks (y :: (ys ++ [x]))) (F.length + 1) := by simp [OwnV,hks]
  rw [e1,e2,hF1]
  exact (round_heapVT hr d1 (d2 (by simp)).2.symm) ▸ Weak.refl _ _ _
end Go.Proofs.YtigmpablpmanpaaDoor
/- diff.between. -/
namespace Go.Proofs.YtigmpablpmanpaaDoor
open Go.RowKit
set_option maxRecDepth 100000
set_option linter.unusedVariables false
set_option linter.unusedSimpArgs false
theorem strs_tk (L : List ByteArray) (k : Nat) : (strs L).take k = strs (L.take k) := by simp [strs,List.map_take]
theorem strs_dr (L : List ByteArray) (k : Nat) : (strs L).drop k = strs (L.drop k) := by simp [strs,List.map_drop]
theorem prs_get {l : List (Nat × Nat)} {k : Nat} {x y : Nat} (h : l[k]? = some (x,y)) : (prs l).getD k .top = .agg [.sc (.int .i64 x),.sc (.int .i64 y)] := by
 simp [prs,h]
theorem bet_le (a b : List ByteArray) : ∀ (l : List (Nat × Nat)) (i j : Nat),(bet a b i j l).length ≤ l.length
 | [],_,_ => Nat.le_refl _
 | (x,y) :: r,i,j => by
  have := bet_le a b r (x + 1) (y + 1)
  simp only [bet]
  split <;> simp only [List.length_cons] <;> omega
theorem cmn_le (a b : List ByteArray) (i j : Nat) (hi : i ≤ a.length) : (cmn a b i j).length + i ≤ a.length := by
 by_cases h : i < a.length ∧ j < b.length
 ·by_cases e : nthS a i = nthS b j
  ·rw [cmn_eq h.1 h.2 e]
   have := cmn_le a b (i + 1) (j + 1) (by omega)
   simp only [List.length_cons]
   omega
  ·by_cases g : lcd a b (i + 1) j ≥ lcd a b i (j + 1)
   ·rw [cmn_i h.1 h.2 e g]
    have := cmn_le a b (i + 1) j (by omega)
    omega
   ·rw [cmn_j h.1 h.2 e g]
    exact cmn_le a b i (j + 1) hi
 ·rw [cmn_end h]
  simp
  exact hi
termination_by (a.length - i) + (b.length - j)
theorem Rise.app {n m : Nat} : ∀ {l : List (Nat × Nat)} {i j : Nat},Rise n m i j l → Rise (n + 1) (m + 1) i j (l ++ [(n,m)])
 | [],_,_,h => ⟨h,Nat.le_refl _,Nat.le_refl _⟩
 | (x,y) :: r,_,_,h => ⟨h.1,Rise.app h.2⟩
theorem strs_gzl {H1 : AHeap} {n0 : Nat} {src : List Nat} {l : List ByteArray} : GzL H1 n0 src (strs l) (strs l) := gzL_map Value.string
theorem weak_ownO {H F : AHeap} {k io oid : Nat} {ty t : TypeId} {xs : List AV} (hol : oid < H.length) (ho : ∀ id,id < H.length → id ≠ oid → AHeap.find F id = AHeap.find H id) (hc : AHeap.find F oid = some ⟨1,[OwnV k xs io],true,t⟩) (hf : xs ≠ [] → AHeap.find F io = OwnB k ty xs ∧ H.length ≤ io) (hz : ∀ s,GzL F H.length [s] xs xs) :
  Weak H (.ret (.tup [])) F (.ret (.tup [])) (OwnB k ty xs :: AHeap.set H oid (some ⟨1,[OwnV k xs H.length],true,t⟩)) := by
 have hs : ∃ s,H.length ≤ s ∧ (xs ≠ [] → s = io) := by
  by_cases e : xs = []
  ·exact ⟨H.length,Nat.le_refl _,fun h => (h e).elim⟩
  ·exact ⟨io,(hf e).2,fun _ => rfl⟩
 obtain ⟨s,hs1,hs2⟩ := hs
 refine weak_gen [s] (by simp [AHeap.set_length]) (by simp) (by simpa using hs1) (fun id k' hid hk => ?_) (fun i s' k' hs' hk => ?_) (.same trivial)
 ·rw [find_past (by rw [AHeap.set_length]; exact hid)] at hk
  by_cases e : id = oid
  ·subst e
   rw [AHeap.find_set_same hid] at hk
   cases hk
   refine .inr ⟨_,hc,rfl,rfl,fun h => h,.cons (OwnV_gz fun h => ?_) .nil⟩
   have := hs2 h
   subst this
   exact newId_one hs1
  ·rw [find_set_other e] at hk
   exact .inl ⟨hk,by rw [ho id hid e]; exact hk⟩
 ·rcases i with _ | i
  ·simp at hs'
   subst hs'
   rw [Nat.add_zero,find_top (by rw [AHeap.set_length])] at hk
   obtain ⟨e,rfl⟩ := OwnB_some hk
   have e2 := hs2 e
   subst e2
   refine ⟨_,by rw [(hf e).1,OwnB_ne e],rfl,rfl,fun h => h,hz _⟩
  ·simp at hs'
theorem hks_gz {H1 : AHeap} {n0 : Nat} {src : List Nat} : ∀ {l : List Hk},GzL H1 n0 src (hks l) (hks l)
 | [] => .nil
 | _ :: _ => .cons (.agg (.cons (.same trivial) (.cons (.lst strs_gzl) (.cons (.lst strs_gzl) .nil)))) hks_gz
theorem guardK_ff {ts : List AV} {yes no : Prop} {d : Nat} (h : ts.getD d .top = .sc (.bool false)) (hn : no) : guardK ts yes no (some (d,true)) := by
 unfold guardK
 simp only [h]
 exact ⟨fun e => by simp at e,fun _ => hn⟩
theorem guardK_tt {ts : List AV} {yes no : Prop} {d : Nat} (h : ts.getD d .top = .sc (.bool true)) (hy : yes) : guardK ts yes no (some (d,true)) := by
 unfold guardK
 simp only [h]
 exact ⟨fun _ => hy,fun e => by simp at e⟩
theorem hkF_ok {F : AHeap} {xs : List Hk} {x : Hk} {oid vid : Nat} (ho : oid < F.length) (hv : xs ≠ [] → vid < F.length ∧ vid ≠ oid) :
  AHeap.find (hkF F xs x oid vid) oid = some ⟨1,[OwnV 3 (hks (xs ++ [x])) (F.length + 1)],true,28⟩ ∧ AHeap.find (hkF F xs x oid vid) (F.length + 1) = some ⟨3,hks (xs ++ [x]),false,46⟩ ∧ (hkF F xs x oid vid).length = F.length + 2 ∧
  ∀ id,id < F.length → id ≠ oid → (xs ≠ [] → id ≠ vid) → AHeap.find (hkF F xs x oid vid) id = AHeap.find F id := by
 unfold hkF
 refine ⟨?_,find_top (by rw [AHeap.set_length,killO_length]; rfl),by simp [AHeap.set_length,killO_length],fun id hid h1 h2 => ?_⟩
 ·rw [find_past (by rw [AHeap.set_length,killO_length]; simp; omega),AHeap.find_set_same (by rw [killO_length]; simp; omega)]
 ·rw [find_past (by rw [AHeap.set_length,killO_length]; simp; omega),find_set_other h1]
  by_cases e : hks xs = []
  ·rw [e]
   exact find_past hid
  ·rw [find_killO_other (fun _ => h2 (fun h => e (by rw [h]; rfl)))]
   exact find_past hid
theorem betw_d (a b : List ByteArray) (hla : a.length ≤ 4096) (hlb : b.length ≤ 4096) {H : AHeap} {rid oid ca cb fn db : Nat} {ts0 : List AV} {js0 : Nat → AV} {t1 t2 : TypeId} (hts : ts0 = mk [none,none,none,none,none,some (.ptr 1 oid 0 0),none,none,none,none,none,none,none,none,none,none] js0)
  (hr : AHeap.find H rid = some (lpB (recB fn db #[10] (rcA Tryd.f10 0) (rcB Tryd.f10 0)) ts0)) (ho : AHeap.find H oid = some ⟨1,[.lst 0 [] (some [])],true,28⟩) (d1 : rid ≠ oid)
  (ha : AHeap.find H ca = some ⟨1,[.lst 1 (strs a) none],true,t1⟩) (hb : AHeap.find H cb = some ⟨1,[.lst 1 (strs b) none],true,t2⟩) (da : ca ≠ oid) (db' : cb ≠ oid) :
  D Tryd.prog 33 [.ptr 0 rid 0 1,.ptr 1 ca 0 0,.ptr 1 cb 0 0] H (.ret (.tup [])) (OwnB 3 46 (hks (difH a b)) :: AHeap.set H oid (some ⟨1,[OwnV 3 (hks (difH a b)) H.length],true,28⟩)) := by
 have hal := AHeap.find_lt ha
 have hbl := AHeap.find_lt hb
 have hrl := AHeap.find_lt hr
 have hol := AHeap.find_lt ho
 refine D_of_DK (by simp [AHeap.set_length]) (dk33 (E_of_ES ?_))
 simp -implicitDefEqProofs (maxSteps := 99999999) (disch := first | omega | (simp only [AHeap.set_length,killO_length,List.length_cons,List.length_nil]; first | done | omega)) only [vu,ES_yld,guardK_n,ic33,ha,hb,va,vg,vs,vw,Nat.reduceMul,ite_true,ite_false,eq_self,forall_const,implies_true,Nat.reduceAdd,Nat.reduceSub,Nat.reduceLT,Nat.reduceLeDiff,↓reduceIte,reduceCtorEq,Int.reduceEq,Int.reduceLT,Int.reduceLE,Int.reduceGT,Int.reduceGE,Int.reduceAdd,Int.reduceSub,Int.reduceNeg,Int.reduceToNat,Nat.reduceBEq,Nat.reduceEqDiff]
 refine callD_ret (common_o a b hla hlb _) (chS_grow (G := [_]) (by simp; omega)) ?_
 have hcl := cmn_le a b 0 0 (Nat.zero_le _)
 obtain ⟨ps,hps⟩ : ∃ ps,ps = cmn a b 0 0 ++ [(a.length,b.length)] := ⟨_,rfl⟩
 have hrs : Rise (a.length + 1) (b.length + 1) 0 0 ps := by rw [hps]; exact (cmn_rise a b 0 0 (Nat.zero_le _) (Nat.zero_le _)).app
 have hpl : ps.length ≤ 4097 := by rw [hps,List.length_append]; simp; omega
 have hpn : ps ≠ [] := by rw [hps]; simp
 have hap : prs (cmn a b 0 0) ++ [AV.agg [.sc (.int .i64 a.length),.sc (.int .i64 b.length)]] = prs ps := by rw [hps]; simp [prs]
 have hdif : difH a b = bet a b 0 0 ps := by rw [hps]; rfl
 rw [hdif]
 obtain ⟨pio,G,p1,p2,p3,p4,p5,p6⟩ := apAny (H := OwnB 2 40 (prs (cmn a b 0 0)) :: some ⟨2,[AV.agg [.sc (.int .i64 0),.sc (.int .i64 0)]],true,40⟩ :: H) (k := 2) (ty := 40) (xs := prs (cmn a b 0 0)) (ys := [AV.agg [.sc (.int .i64 a.length),.sc (.int .i64 b.length)]]) (id := H.length + 1) (fun h => find_top (by simp)) (by rw [prs_length]; simp; omega)
 rw [hap] at p2 p4
 have hpe : prs ps ≠ [] := by simpa [prs] using hpn
 obtain ⟨p4a,p4b⟩ := p4 hpe
 rw [OwnV_ne hpe,prs_length] at p2
 rw [OwnB_ne hpe] at p4a
 simp only [List.length_cons] at p5 p4b
 simp -implicitDefEqProofs (maxSteps := 99999999) (disch := first | omega | (simp only [AHeap.set_length,killO_length,List.length_cons,List.length_nil]; first | done | omega)) only [vu,ES_yld,guardK_n,ha,hb,strs_length,p1,p2,p3,va,vg,vs,vw,Nat.reduceMul,ite_true,ite_false,eq_self,forall_const,implies_true,Nat.reduceAdd,Nat.reduceSub,Nat.reduceLT,Nat.reduceLeDiff,↓reduceIte,reduceCtorEq,Int.reduceEq,Int.reduceLT,Int.reduceLE,Int.reduceGT,Int.reduceGE,Int.reduceAdd,Int.reduceSub,Int.reduceNeg,Int.reduceToNat,Nat.reduceBEq,Nat.reduceEqDiff]
 refine ES_gen fun K hK => ?_
 refine ES_loopL (fun ts F => ∃ (k i j vid : Nat) (xs : List Hk),(k ≤ ps.length ∧ xs ++ bet a b i j (ps.drop k) = bet a b 0 0 ps ∧ Rise (a.length + 1) (b.length + 1) i j (ps.drop k) ∧ xs.length ≤ k) ∧
   (AHeap.find F H.length = some ⟨2,[.agg [.sc (.int .i64 i),.sc (.int .i64 j)]],true,40⟩ ∧ AHeap.find F pio = some ⟨2,prs ps,false,40⟩ ∧ H.length < F.length) ∧
   (AHeap.find F oid = some ⟨1,[OwnV 3 (hks xs) vid],true,28⟩ ∧ (xs ≠ [] → AHeap.find F vid = some ⟨3,hks xs,false,46⟩ ∧ H.length ≤ vid) ∧ ∀ id,id < H.length → id ≠ oid → AHeap.find F id = AHeap.find H id) ∧
   Fr [some (.ptr 0 rid 0 1),some (.ptr 1 ca 0 0),some (.ptr 1 cb 0 0),none,some (.ptr 2 H.length 0 0),none,none,none,none,none,none,none,none,none,none,none,none,some (.vec 2 pio 0 ps.length none),some (.sc (.int .i64 ps.length)),some (.sc (.int .i64 k)),none,none,none,none,none,none,none,none,none,none,none,none,none,none,none,none,none,none,none,none,none,none,none,none,none,none,none,none,none,none,none,none,none,none,none,none,none,none,none,none,none,none] ts) (fun ts _ => ps.length - (intV (ts.getD 19 .top)).toNat) ?_ ?_
 ·have hq := fun id (hid : id < H.length) => show AHeap.find G id = AHeap.find H id by rw [p6 id (by simp; omega) (fun _ => by omega),find_past (by simp; omega),find_past hid]
  refine ⟨0,0,0,0,[],⟨Nat.zero_le _,rfl,hrs,Nat.zero_le _⟩,⟨?_,p4a,by omega⟩,⟨by rw [hq _ hol]; exact ho,fun h => (h rfl).elim,fun id hid _ => hq id hid⟩,by simp [Fr]⟩
  rw [p6 _ (by simp; omega) (fun _ => by omega),find_past (by simp)]
  exact find_top rfl
 ·rintro ts F ⟨k,i,j,vid,xs,⟨hk,hx,hri,hxl⟩,⟨g1,g2,g3⟩,⟨c1,c2,c3⟩,hfr⟩ L1 hL1
  obtain ⟨js,rfl⟩ := hfr.opened
  clear hfr
  by_cases hkl : k < ps.length
  ·have h1 : (k : Int) < ps.length := by omega
   obtain ⟨⟨x,y⟩,hxy⟩ : ∃ q,ps[k]? = some q := ⟨_,List.getElem?_eq_getElem hkl⟩
   have hdr : ps.drop k = (x,y) :: ps.drop (k + 1) := by
    rw [List.drop_eq_getElem_cons hkl]
    rw [List.getElem?_eq_getElem hkl] at hxy
    rw [Option.some.inj hxy]
   have hpg := prs_get hxy
   rw [hdr] at hri hx
   obtain ⟨⟨r1,r2⟩,r3⟩ := hri
   have r4 := r3.le
   have fa : AHeap.find F ca = some ⟨1,[.lst 1 (strs a) none],true,t1⟩ := by rw [c3 ca hal da]; exact ha
   have fb : AHeap.find F cb = some ⟨1,[.lst 1 (strs b) none],true,t2⟩ := by rw [c3 cb hbl db']; exact hb
   simp -implicitDefEqProofs (maxSteps := 99999999) (disch := first | omega | (simp only [AHeap.set_length,killO_length,List.length_cons,List.length_nil]; first | done | omega)) only [vu,ES_yld,guardK_n,mk,h1,g1,g2,prs_length,hpg,fa,fb,strs_length,strs_tk,strs_dr,va,vg,vs,vw,Nat.reduceMul,ite_true,ite_false,eq_self,forall_const,implies_true,Nat.reduceAdd,Nat.reduceSub,Nat.reduceLT,Nat.reduceLeDiff,↓reduceIte,reduceCtorEq,Int.reduceEq,Int.reduceLT,Int.reduceLE,Int.reduceGT,Int.reduceGE,Int.reduceAdd,Int.reduceSub,Int.reduceNeg,Int.reduceToNat,Nat.reduceBEq,Nat.reduceEqDiff]
   refine ⟨by omega,by omega,⟨by omega,by omega,by omega,by omega⟩,?_⟩
   have hl1 : ((a.take x).drop i).length = x - i := by rw [List.length_drop,List.length_take]; omega
   have hl2 : ((b.take y).drop j).length = y - j := by rw [List.length_drop,List.length_take]; omega
   refine callD_same (clone_d ((a.take x).drop i) none _ (by omega)) ?_
   simp -implicitDefEqProofs (maxSteps := 99999999) (disch := first | omega | (simp only [AHeap.set_length,killO_length,List.length_cons,List.length_nil]; first | done | omega)) only [vu,ES_yld,guardK_n,g1,fa,fb,strs_length,strs_tk,strs_dr,va,vg,vs,vw,Nat.reduceMul,ite_true,ite_false,eq_self,forall_const,implies_true,Nat.reduceAdd,Nat.reduceSub,Nat.reduceLT,Nat.reduceLeDiff,↓reduceIte,reduceCtorEq,Int.reduceEq,Int.reduceLT,Int.reduceLE,Int.reduceGT,Int.reduceGE,Int.reduceAdd,Int.reduceSub,Int.reduceNeg,Int.reduceToNat,Nat.reduceBEq,Nat.reduceEqDiff]
   refine ⟨⟨by omega,by omega,by omega,by omega⟩,callD_same (clone_d ((b.take y).drop j) none _ (by omega)) ?_⟩
   obtain ⟨h,hh⟩ : ∃ h : Hk,h = ⟨i,(a.take x).drop i,(b.take y).drop j⟩ := ⟨_,rfl⟩
   have hpio := AHeap.find_lt g2
   by_cases hz : (x - i) + (y - j) = 0
   ·have hz' : ¬ ((x - i : Nat) : Int) + ((y - j : Nat) : Int) > 0 := by omega
    have hx' : xs ++ bet a b (x + 1) (y + 1) (ps.drop (k + 1)) = bet a b 0 0 ps := by
     rw [← hx]
     simp only [bet,if_pos hz]
    simp -implicitDefEqProofs (maxSteps := 99999999) (disch := first | omega | (simp only [AHeap.set_length,killO_length,List.length_cons,List.length_nil]; first | done | omega)) only [vu,ES_yld,guardK_n,g1,strs_length,hl1,hl2,hz',va,vg,vs,vw,Nat.reduceMul,ite_true,ite_false,eq_self,forall_const,implies_true,Nat.reduceAdd,Nat.reduceSub,Nat.reduceLT,Nat.reduceLeDiff,↓reduceIte,reduceCtorEq,Int.reduceEq,Int.reduceLT,Int.reduceLE,Int.reduceGT,Int.reduceGE,Int.reduceAdd,Int.reduceSub,Int.reduceNeg,Int.reduceToNat,Nat.reduceBEq,Nat.reduceEqDiff]
    refine guardK_ff rfl ?_
    refine hL1 _ _ ⟨k + 1,x + 1,y + 1,vid,xs,⟨by omega,hx',r3,by omega⟩,⟨?_,?_,by simp [AHeap.set_length]; omega⟩,⟨?_,fun h => ⟨?_,(c2 h).2⟩,fun id hid hne => ?_⟩,by simp [Fr]⟩ ?_
    ·rw [find_past (by simp [AHeap.set_length]; omega),find_past (by rw [AHeap.set_length]; omega)]
     exact AHeap.find_set_same g3
    ·rw [find_past (by simp [AHeap.set_length]; omega),find_past (by rw [AHeap.set_length]; omega),find_set_other (by omega)]
     exact g2
    ·rw [find_past (by simp [AHeap.set_length]; omega),find_past (by rw [AHeap.set_length]; omega),find_set_other (by omega)]
     exact c1
    ·have hvl := AHeap.find_lt (c2 h).1
     have hvn : vid ≠ H.length := by
      rintro rfl
      have := (c2 h).1
      rw [g1] at this
      simp at this
     rw [find_past (by simp [AHeap.set_length]; omega),find_past (by rw [AHeap.set_length]; omega),find_set_other hvn]
     exact (c2 h).1
    ·rw [find_past (by simp [AHeap.set_length]; omega),find_past (by rw [AHeap.set_length]; omega),find_set_other (by omega)]
     exact c3 id hid hne
    ·simp [mk,intV]
     omega
   ·have hz' : ((x - i : Nat) : Int) + ((y - j : Nat) : Int) > 0 := by omega
    have hx' : (xs ++ [h]) ++ bet a b (x + 1) (y + 1) (ps.drop (k + 1)) = bet a b 0 0 ps := by
     rw [← hx,hh]
     simp only [bet,if_neg hz]
     simp
    simp -implicitDefEqProofs (maxSteps := 99999999) (disch := first | omega | (simp only [AHeap.set_length,killO_length,List.length_cons,List.length_nil]; first | done | omega)) only [vu,ES_yld,guardK_n,g1,strs_length,hl1,hl2,hz',va,vg,vs,vw,Nat.reduceMul,ite_true,ite_false,eq_self,forall_const,implies_true,Nat.reduceAdd,Nat.reduceSub,Nat.reduceLT,Nat.reduceLeDiff,↓reduceIte,reduceCtorEq,Int.reduceEq,Int.reduceLT,Int.reduceLE,Int.reduceGT,Int.reduceGE,Int.reduceAdd,Int.reduceSub,Int.reduceNeg,Int.reduceToNat,Nat.reduceBEq,Nat.reduceEqDiff]
    subst hh
    refine guardK_tt rfl (yldK_ret (hunk_dy (fn := fn) (db := db) (x := ⟨i,(a.take x).drop i,(b.take y).drop j⟩) (xs := xs) (oid := oid) (vid := vid) hts ?_ ?_ ?_ d1 ?_ ?_) ?_)
    ·rw [find_past (by simp; omega),find_past (by omega),c3 rid hrl d1]; exact hr
    ·rw [find_past (by simp; omega),find_past (by omega)]; exact c1
    ·intro h
     have := AHeap.find_lt (c2 h).1
     rw [find_past (by simp; omega),find_past this]; exact (c2 h).1
    ·intro h
     have := (c2 h).2
     omega
    ·omega
    obtain ⟨F3,hF3⟩ : ∃ F3,F3 = hkF (some ⟨3,[.agg [.sc (.int .i64 i),.lst 1 (strs ((a.take x).drop i)) none,.lst 1 (strs ((b.take y).drop j)) none]],true,46⟩ :: some ⟨2,[.agg [.sc (.int .i64 x),.sc (.int .i64 y)]],true,40⟩ :: F) xs ⟨i,(a.take x).drop i,(b.take y).drop j⟩ oid vid := ⟨_,rfl⟩
    have hok := hkF_ok (F := some ⟨3,[.agg [.sc (.int .i64 i),.lst 1 (strs ((a.take x).drop i)) none,.lst 1 (strs ((b.take y).drop j)) none]],true,46⟩ :: some ⟨2,[.agg [.sc (.int .i64 x),.sc (.int .i64 y)]],true,40⟩ :: F) (xs := xs) (x := ⟨i,(a.take x).drop i,(b.take y).drop j⟩) (oid := oid) (vid := vid) (by simp; omega) (fun h => ⟨by have := AHeap.find_lt (c2 h).1; simp; omega,by have := (c2 h).2; omega⟩)
    rw [← hF3] at hok
    obtain ⟨k1,k2,k3,k4⟩ := hok
    simp only [List.length_cons] at k1 k2 k3 k4
    rw [← hF3]
    clear hF3
    have hvn : xs ≠ [] → vid < F.length ∧ vid ≠ H.length := fun h => ⟨AHeap.find_lt (c2 h).1,by
     rintro rfl
     have := (c2 h).1
     rw [g1] at this
     simp at this⟩
    have q1 : AHeap.find F3 F.length = some ⟨2,[.agg [.sc (.int .i64 x),.sc (.int .i64 y)]],true,40⟩ := by
     rw [k4 _ (by omega) (by omega) (fun h => by have := hvn h; omega),find_past (by simp)]
     exact find_top rfl
    have kk : ∀ id,id < F.length → id ≠ oid → (xs ≠ [] → id ≠ vid) → AHeap.find F3 id = AHeap.find F id := fun id h1 h2 h3 => by
     rw [k4 id (by omega) h2 h3,find_past (by simp; omega),find_past h1]
    have q2 := kk H.length g3 (by omega) (fun h => by have := hvn h; omega)
    rw [g1] at q2
    simp -implicitDefEqProofs (maxSteps := 99999999) (disch := first | omega | (simp only [AHeap.set_length,killO_length,List.length_cons,List.length_nil]; first | done | omega)) only [vu,q1,q2,va,vg,vs,vw,Nat.reduceMul,ite_true,ite_false,eq_self,forall_const,implies_true,Nat.reduceAdd,Nat.reduceSub,Nat.reduceLT,Nat.reduceLeDiff,↓reduceIte,reduceCtorEq,Int.reduceEq,Int.reduceLT,Int.reduceLE,Int.reduceGT,Int.reduceGE,Int.reduceAdd,Int.reduceSub,Int.reduceNeg,Int.reduceToNat,Nat.reduceBEq,Nat.reduceEqDiff]
    refine hL1 _ _ ⟨k + 1,x + 1,y + 1,_,xs ++ [⟨i,(a.take x).drop i,(b.take y).drop j⟩],⟨by omega,hx',r3,by simp; omega⟩,⟨AHeap.find_set_same (by omega),?_,by rw [AHeap.set_length]; omega⟩,⟨by rw [find_set_other (by omega)]; exact k1,fun h => ⟨by rw [find_set_other (by omega)]; exact k2,by omega⟩,fun id hid hne => ?_⟩,by simp [Fr]⟩ ?_
    ·rw [find_set_other (by omega),kk pio hpio (by omega) (fun h => ?_)]
     ·exact g2
     ·rintro rfl
      have := (c2 h).1
      rw [g2] at this
      simp at this
    ·rw [find_set_other (by omega),kk id (by omega) hne (fun h => by have := (c2 h).2; omega)]
     exact c3 id hid hne
    ·simp [mk,intV]
     omega
  ·have : k = ps.length := by omega
   subst this
   have h1 : ¬ (ps.length : Int) < ps.length := by omega
   simp -implicitDefEqProofs (maxSteps := 99999999) (disch := first | omega | (simp only [AHeap.set_length,killO_length,List.length_cons,List.length_nil]; first | done | omega)) only [vu,ES_yld,guardK_n,mk,h1,va,vg,vs,vw,Nat.reduceMul,ite_true,ite_false,eq_self,forall_const,implies_true,Nat.reduceAdd,Nat.reduceSub,Nat.reduceLT,Nat.reduceLeDiff,↓reduceIte,reduceCtorEq,Int.reduceEq,Int.reduceLT,Int.reduceLE,Int.reduceGT,Int.reduceGE,Int.reduceAdd,Int.reduceSub,Int.reduceNeg,Int.reduceToNat,Nat.reduceBEq,Nat.reduceEqDiff]
   clear hL1
   refine hK _ _ _ ?_
   clear hK
   rw [List.drop_length] at hx
   simp only [bet,List.append_nil] at hx
   simp -implicitDefEqProofs (maxSteps := 99999999) (disch := first | omega | (simp only [AHeap.set_length,killO_length,List.length_cons,List.length_nil]; first | done | omega)) only [vu,ES_yld,guardK_n,va,vg,vs,vw,Nat.reduceMul,ite_true,ite_false,eq_self,forall_const,implies_true,Nat.reduceAdd,Nat.reduceSub,Nat.reduceLT,Nat.reduceLeDiff,↓reduceIte,reduceCtorEq,Int.reduceEq,Int.reduceLT,Int.reduceLE,Int.reduceGT,Int.reduceGE,Int.reduceAdd,Int.reduceSub,Int.reduceNeg,Int.reduceToNat,Nat.reduceBEq,Nat.reduceEqDiff]
   rw [← hx]
   exact weak_ownO hol c3 c1 (fun h => by
    have e : xs ≠ [] := fun e => h (by rw [e]; rfl)
    exact ⟨by rw [OwnB_ne h]; exact (c2 e).1,(c2 e).2⟩) fun s => hks_gz
end Go.Proofs.YtigmpablpmanpaaDoor
/- diff.Hunks. -/
namespace Go.Proofs.YtigmpablpmanpaaDoor
open Go.RowKit
set_option maxRecDepth 100000
set_option linter.unusedVariables false
set_option linter.unusedSimpArgs false
theorem between_d (a b : List ByteArray) (H : AHeap) : D Tryd.prog 26 [.lst 1 (strs a) none,.lst 1 (strs b) none] H (.ret (.fn (.func 33) [] [.ptr 1 H.length 0 0,.ptr 1 (H.length + 1) 0 0])) (some ⟨1,[.lst 1 (strs b) none],true,22⟩ :: some ⟨1,[.lst 1 (strs a) none],true,22⟩ :: H) := by
 refine D_of_DK (by simp; omega) (dk26 (E_of_ES ?_))
 simp -implicitDefEqProofs (maxSteps := 99999999) (disch := omega) only [vu,ic26,va,vg,vs,vh,Nat.reduceMul,ite_true,ite_false,eq_self,forall_const,implies_true,Nat.reduceAdd,Nat.reduceSub,Nat.reduceLT,Nat.reduceLeDiff,↓reduceIte,reduceCtorEq,Int.reduceEq,Int.reduceLT,Int.reduceLE,Int.reduceGT,Int.reduceGE,Int.reduceAdd,Int.reduceSub,Int.reduceNeg,Int.reduceToNat,Nat.reduceBEq,Nat.reduceEqDiff]
 exact Weak.refl _ _ _
theorem hunks_d (a b : List ByteArray) (hla : a.length ≤ 4096) (hlb : b.length ≤ 4096) (H : AHeap) : D Tryd.prog 10 [.lst 1 (strs a) none,.lst 1 (strs b) none] H (.ret (.lst 3 (hks (difH a b)) none)) H := by
 refine D_of_DK (Nat.le_refl _) (dk10 (E_of_ES ?_))
 simp -implicitDefEqProofs (maxSteps := 99999999) (disch := omega) only [vu,ES_rng,ic10,va,vg,vs,vh,Nat.reduceMul,ite_true,ite_false,eq_self,forall_const,implies_true,Nat.reduceAdd,Nat.reduceSub,Nat.reduceLT,Nat.reduceLeDiff,↓reduceIte,reduceCtorEq,Int.reduceEq,Int.reduceLT,Int.reduceLE,Int.reduceGT,Int.reduceGE,Int.reduceAdd,Int.reduceSub,Int.reduceNeg,Int.reduceToNat,Nat.reduceBEq,Nat.reduceEqDiff]
 refine callR_ret (between_d a b _) ?_
 simp -implicitDefEqProofs (maxSteps := 99999999) (disch := omega) only [vu,ES_rng,va,vg,vs,vh,Nat.reduceMul,ite_true,ite_false,eq_self,forall_const,implies_true,Nat.reduceAdd,Nat.reduceSub,Nat.reduceLT,Nat.reduceLeDiff,↓reduceIte,reduceCtorEq,Int.reduceEq,Int.reduceLT,Int.reduceLE,Int.reduceGT,Int.reduceGE,Int.reduceAdd,Int.reduceSub,Int.reduceNeg,Int.reduceToNat,Nat.reduceBEq,Nat.reduceEqDiff]
 refine rngK_of (by kernel_rfl) fun fn db => ?_
 rw [show ∀ (x y z : Option ABlk),List.length (x :: y :: z :: H) = H.length + 3 from fun _ _ _ => rfl]
 obtain ⟨ts0,hts0⟩ : ∃ ts0,ts0 = [AV.lst 1 (strs a) none,AV.lst 1 (strs b) none,AV.tup [],AV.tup [],AV.lst 0 [] (some []),AV.ptr 1 H.length 0 0,AV.tup [],AV.lst 1 (strs a) none,AV.lst 1 (strs b) none,
   AV.fn (Fn.func 33) [] [AV.ptr 1 (H.length + 1) 0 0,AV.ptr 1 (H.length + 2) 0 0],AV.tup [],AV.tup [],AV.tup [],AV.tup [],AV.tup [],AV.tup []] := ⟨_,rfl⟩
 rw [← hts0]
 have hmk : ∃ js,ts0 = mk [none,none,none,none,none,some (.ptr 1 H.length 0 0),none,none,none,none,none,none,none,none,none,none] js := by
  rw [hts0]
  exact (show Fr [none,none,none,none,none,some (.ptr 1 H.length 0 0),none,none,none,none,none,none,none,none,none,none] _ from by simp [Fr]).opened
 obtain ⟨js,hjs⟩ := hmk
 obtain ⟨B0,hB0⟩ : ∃ B0 : AHeap,B0 = some (lpB (recB fn db #[10] (rcA Tryd.f10 0) (rcB Tryd.f10 0)) ts0) :: some ⟨1,[.lst 1 (strs b) none],true,22⟩ :: some ⟨1,[.lst 1 (strs a) none],true,22⟩ :: some ⟨1,[.lst 0 [] (some [])],true,28⟩ :: H := ⟨_,rfl⟩
 rw [← hB0]
 have hBl : B0.length = H.length + 4 := by rw [hB0]; simp
 have hfr : AHeap.find B0 (H.length + 3) = some (lpB (recB fn db #[10] (rcA Tryd.f10 0) (rcB Tryd.f10 0)) ts0) := by rw [hB0]; exact find_top (by simp)
 have hfb : AHeap.find B0 (H.length + 2) = some ⟨1,[.lst 1 (strs b) none],true,22⟩ := by rw [hB0,find_past (by simp)]; exact find_top (by simp)
 have hfa : AHeap.find B0 (H.length + 1) = some ⟨1,[.lst 1 (strs a) none],true,22⟩ := by rw [hB0,find_past (by simp),find_past (by simp)]; exact find_top (by simp)
 have hfo : AHeap.find B0 H.length = some ⟨1,[.lst 0 [] (some [])],true,28⟩ := by rw [hB0,find_past (by simp; omega),find_past (by simp; omega),find_past (by simp)]; exact find_top rfl
 have hfH : ∀ id,id < H.length → AHeap.find B0 id = AHeap.find H id := fun id hid => by rw [hB0,find_past (by simp; omega),find_past (by simp; omega),find_past (by simp; omega),find_past hid]
 refine ⟨.tup [],_,recB fn db #[10] (rcA Tryd.f10 0) (rcB Tryd.f10 0),ts0,betw_d a b hla hlb hjs hfr hfo (by omega) hfa hfb (by omega) (by omega),?_,by simp [recB],?_⟩
 ·rw [find_past (by rw [AHeap.set_length]; omega),find_set_other (by omega)]
  exact hfr
 ·simp only [recB,jmpK]
  have hf2 : AHeap.find (AHeap.set (OwnB 3 46 (hks (difH a b)) :: AHeap.set B0 H.length (some ⟨1,[OwnV 3 (hks (difH a b)) B0.length],true,28⟩)) (H.length + 3) none) H.length = some ⟨1,[OwnV 3 (hks (difH a b)) B0.length],true,28⟩ := by
   rw [find_set_other (by omega),find_past (by rw [AHeap.set_length]; omega),AHeap.find_set_same (by omega)]
  rw [hts0]
  simp -implicitDefEqProofs (maxSteps := 99999999) (disch := first | omega | (simp only [AHeap.set_length,killO_length,List.length_cons,List.length_nil]; first | done | omega)) only [vu,hf2,va,vg,vs,vw,Nat.reduceMul,ite_true,ite_false,eq_self,forall_const,implies_true,Nat.reduceAdd,Nat.reduceSub,Nat.reduceLT,Nat.reduceLeDiff,↓reduceIte,reduceCtorEq,Int.reduceEq,Int.reduceLT,Int.reduceLE,Int.reduceGT,Int.reduceGE,Int.reduceAdd,Int.reduceSub,Int.reduceNeg,Int.reduceToNat,Nat.reduceBEq,Nat.reduceEqDiff]
  refine weak_frz (fun id hid => ?_) (OwnV_fz (ty := 46) (fun h => ?_) (fun h => ?_) hks_gz)
  ·rw [find_past (by rw [AHeap.set_length,AHeap.set_length]; omega),find_set_other (by omega),find_set_other (by omega),hfH id hid]
  ·unfold newId
   rw [if_neg (by omega)]
   rfl
  ·exact find_top (by rw [AHeap.set_length,AHeap.set_length])
end Go.Proofs.YtigmpablpmanpaaDoor
