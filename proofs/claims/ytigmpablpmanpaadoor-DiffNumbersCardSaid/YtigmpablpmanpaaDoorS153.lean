/- law02.awake: the chapter's examples. -/
import Derived.Test.YtigmpablpmanpaaDoorS152
import Derived.Test.YtigmpablpmanpaaDoorSF
namespace Go.Proofs.YtigmpablpmanpaaDoor
open Go.RowKit
set_option maxRecDepth 100000
set_option linter.unusedVariables false
set_option linter.unusedSimpArgs false
/-- Reckoned by steps. -/
def lcsF : Nat → List ByteArray → List ByteArray → Nat
 | 0,_,_ => 0
 | _ + 1,[],_ => 0
 | _ + 1,_ :: _,[] => 0
 | n + 1,x :: xs,y :: ys => if x = y then lcsF n xs ys + 1 else max (lcsF n xs (y :: ys)) (lcsF n (x :: xs) ys)
theorem lcs_F : ∀ (n : Nat) (a b : List ByteArray),a.length + b.length ≤ n → lcs a b = lcsF n a b
 | 0,[],b,_ => by rw [lcs_nil]; rfl
 | 0,_ :: _,b,h => by simp at h
 | n + 1,[],b,_ => by rw [lcs_nil]; rfl
 | n + 1,x :: xs,[],_ => by rw [lcs_nil']; rfl
 | n + 1,x :: xs,y :: ys,h => by
  simp only [List.length_cons] at h
  rw [lcs_cons,lcs_F n xs ys (by omega),lcs_F n xs (y :: ys) (by simp; omega),lcs_F n (x :: xs) ys (by simp; omega)]
  rfl
def cmnF : Nat → List ByteArray → List ByteArray → Nat → Nat → List (Nat × Nat)
 | 0,_,_,_,_ => []
 | n + 1,a,b,i,j => if i < a.length ∧ j < b.length then
   if nthS a i = nthS b j then (i,j) :: cmnF n a b (i + 1) (j + 1)
   else if lcsF (a.length + b.length) (a.drop (i + 1)) (b.drop j) ≥ lcsF (a.length + b.length) (a.drop i) (b.drop (j + 1)) then cmnF n a b (i + 1) j else cmnF n a b i (j + 1)
  else []
theorem cmn_F (a b : List ByteArray) : ∀ (n i j : Nat),(a.length - i) + (b.length - j) ≤ n → cmn a b i j = cmnF n a b i j
 | 0,i,j,h => by rw [cmn_end (by omega)]; rfl
 | n + 1,i,j,h => by
  by_cases hd : i < a.length ∧ j < b.length
  ·obtain ⟨h1,h2⟩ := hd
   have e1 : lcsF (a.length + b.length) (a.drop (i + 1)) (b.drop j) = lcd a b (i + 1) j := (lcs_F _ _ _ (by simp; omega)).symm
   have e2 : lcsF (a.length + b.length) (a.drop i) (b.drop (j + 1)) = lcd a b i (j + 1) := (lcs_F _ _ _ (by simp; omega)).symm
   unfold cmnF
   rw [if_pos ⟨h1,h2⟩,e1,e2]
   by_cases e : nthS a i = nthS b j
   ·rw [if_pos e,cmn_eq h1 h2 e,cmn_F a b n (i + 1) (j + 1) (by omega)]
   ·rw [if_neg e]
    by_cases g : lcd a b (i + 1) j ≥ lcd a b i (j + 1)
    ·rw [if_pos g,cmn_i h1 h2 e g,cmn_F a b n (i + 1) j (by omega)]
    ·rw [if_neg g,cmn_j h1 h2 e g,cmn_F a b n i (j + 1) (by omega)]
  ·unfold cmnF
   rw [if_neg hd,cmn_end hd]
def tA : ByteArray := ⟨#[97]⟩
def tB : ByteArray := ⟨#[98]⟩
def tC : ByteArray := ⟨#[99]⟩
def tX : ByteArray := ⟨#[120]⟩
theorem ofABC : chars ⟨#[97,98,99]⟩ = [tA,tB,tC] := by decide
theorem ofAXC : chars ⟨#[97,120,99]⟩ = [tA,tX,tC] := by decide
theorem ofAB : chars ⟨#[97,98]⟩ = [tA,tB] := by decide
theorem ofBA : chars ⟨#[98,97]⟩ = [tB,tA] := by decide
theorem ofA : chars ⟨#[97]⟩ = [tA] := by decide
theorem ofB : chars ⟨#[98]⟩ = [tB] := by decide
theorem ofX1 : chars ⟨#[120]⟩ = [tX] := by decide
theorem cmn1 : cmn [tA,tB,tC] [tA,tX,tC] 0 0 = [(0,0),(2,2)] := (cmn_F _ _ 10 0 0 (by simp)).trans (by decide)
theorem cmn2 : cmn [tA,tB] [tB,tA] 0 0 = [(1,0)] := (cmn_F _ _ 10 0 0 (by simp)).trans (by decide)
theorem dif1 : difH [tA,tB,tC] [tA,tX,tC] = [⟨1,[tB],[tX]⟩] := by
 unfold difH
 rw [cmn1]
 rfl
theorem dif2 : difH [tA,tB] [tB,tA] = [⟨0,[tA],[]⟩,⟨2,[],[tA]⟩] := by
 unfold difH
 rw [cmn2]
 rfl
theorem ascii_lit {s : ByteArray} (h : s.data.toList.all (fun b => decide (b.toNat < 128)) = true) : Ascii s := fun j b hj => of_decide_eq_true (List.all_eq_true.1 h b (List.mem_of_getElem? hj))
theorem of_lit {s : ByteArray} {l : List ByteArray} (hl : chars s = l) (h : (decide (0 < s.size) && decide (s.size ≤ 1000000) && s.data.toList.all (fun b => decide (b.toNat < 128))) = true) (H : AHeap) :
  D Tryd.prog 22 [.sc (.string s)] H (.ret (.lst 1 (strs l) none)) H := by
 simp only [Bool.and_eq_true,decide_eq_true_eq] at h
 rw [← hl]
 exact of_d s h.1.1 h.1.2 (ascii_lit h.2) H
theorem prs_view {H : AHeap} : ∀ {l : List (Nat × Nat)},ViewL H (prs l) (prs l)
 | [] => .nil
 | _ :: _ => .cons (.agg (.cons .sc (.cons .sc .nil))) prs_view
theorem samePairs_v {H : AHeap} {a b : List (Nat × Nat)} {id : Nat} {ty : TypeId} {rb : Option (List AV)} (hf : prs a ≠ [] → AHeap.find H id = OwnB 2 ty (prs a)) (hl : a.length ≤ 100000000) : D Tryd.prog 11 [OwnV 2 (prs a) id,.lst 2 (prs b) rb] H (.ret (.sc (.bool (decide (a = b))))) H :=
 D_view (.cons (ViewL.own hf prs_view) (.cons (.lst prs_view) .nil)) .sc (samePairs_d a b none none [] hl)
set_option maxHeartbeats 4000000 in
theorem awakeD_d (H : AHeap) : D Tryd.prog 7 [] H (.ret (.sc (.bool true))) H := by
 refine D_of_DK (Nat.le_refl _) (dk7 (E_of_ES ?_))
 simp -implicitDefEqProofs (maxSteps := 99999999) (disch := first | omega | (simp only [AHeap.set_length,killO_length,List.length_cons,List.length_nil]; first | done | omega)) only [vu,ic7,va,vg,vs,vw,Nat.reduceMul,ite_true,ite_false,eq_self,forall_const,implies_true,Nat.reduceAdd,Nat.reduceSub,Nat.reduceLT,Nat.reduceLeDiff,↓reduceIte,reduceCtorEq,Int.reduceEq,Int.reduceLT,Int.reduceLE,Int.reduceGT,Int.reduceGE,Int.reduceAdd,Int.reduceSub,Int.reduceNeg,Int.reduceToNat,Nat.reduceBEq,Nat.reduceEqDiff]
 refine callR_ret (of_lit ofABC (by decide) _) ?_
 simp -implicitDefEqProofs (maxSteps := 99999999) (disch := first | omega | (simp only [AHeap.set_length,killO_length,List.length_cons,List.length_nil]; first | done | omega)) only [vu,va,vg,vs,vw,Nat.reduceMul,ite_true,ite_false,eq_self,forall_const,implies_true,Nat.reduceAdd,Nat.reduceSub,Nat.reduceLT,Nat.reduceLeDiff,↓reduceIte,reduceCtorEq,Int.reduceEq,Int.reduceLT,Int.reduceLE,Int.reduceGT,Int.reduceGE,Int.reduceAdd,Int.reduceSub,Int.reduceNeg,Int.reduceToNat,Nat.reduceBEq,Nat.reduceEqDiff]
 refine callR_ret (of_lit ofAXC (by decide) _) ?_
 simp -implicitDefEqProofs (maxSteps := 99999999) (disch := first | omega | (simp only [AHeap.set_length,killO_length,List.length_cons,List.length_nil]; first | done | omega)) only [vu,va,vg,vs,vw,Nat.reduceMul,ite_true,ite_false,eq_self,forall_const,implies_true,Nat.reduceAdd,Nat.reduceSub,Nat.reduceLT,Nat.reduceLeDiff,↓reduceIte,reduceCtorEq,Int.reduceEq,Int.reduceLT,Int.reduceLE,Int.reduceGT,Int.reduceGE,Int.reduceAdd,Int.reduceSub,Int.reduceNeg,Int.reduceToNat,Nat.reduceBEq,Nat.reduceEqDiff]
 refine callR_ret (hunks_d [tA,tB,tC] [tA,tX,tC] (by simp) (by simp) _) ?_
 rw [dif1]
 simp -implicitDefEqProofs (maxSteps := 99999999) (disch := first | omega | (simp only [AHeap.set_length,killO_length,List.length_cons,List.length_nil]; first | done | omega)) only [vu,va,vg,vs,vw,Nat.reduceMul,ite_true,ite_false,eq_self,forall_const,implies_true,Nat.reduceAdd,Nat.reduceSub,Nat.reduceLT,Nat.reduceLeDiff,↓reduceIte,reduceCtorEq,Int.reduceEq,Int.reduceLT,Int.reduceLE,Int.reduceGT,Int.reduceGE,Int.reduceAdd,Int.reduceSub,Int.reduceNeg,Int.reduceToNat,Nat.reduceBEq,Nat.reduceEqDiff]
 refine callR_ret (of_lit ofAB (by decide) _) ?_
 simp -implicitDefEqProofs (maxSteps := 99999999) (disch := first | omega | (simp only [AHeap.set_length,killO_length,List.length_cons,List.length_nil]; first | done | omega)) only [vu,va,vg,vs,vw,Nat.reduceMul,ite_true,ite_false,eq_self,forall_const,implies_true,Nat.reduceAdd,Nat.reduceSub,Nat.reduceLT,Nat.reduceLeDiff,↓reduceIte,reduceCtorEq,Int.reduceEq,Int.reduceLT,Int.reduceLE,Int.reduceGT,Int.reduceGE,Int.reduceAdd,Int.reduceSub,Int.reduceNeg,Int.reduceToNat,Nat.reduceBEq,Nat.reduceEqDiff]
 refine callR_ret (of_lit ofBA (by decide) _) ?_
 simp -implicitDefEqProofs (maxSteps := 99999999) (disch := first | omega | (simp only [AHeap.set_length,killO_length,List.length_cons,List.length_nil]; first | done | omega)) only [vu,va,vg,vs,vw,Nat.reduceMul,ite_true,ite_false,eq_self,forall_const,implies_true,Nat.reduceAdd,Nat.reduceSub,Nat.reduceLT,Nat.reduceLeDiff,↓reduceIte,reduceCtorEq,Int.reduceEq,Int.reduceLT,Int.reduceLE,Int.reduceGT,Int.reduceGE,Int.reduceAdd,Int.reduceSub,Int.reduceNeg,Int.reduceToNat,Nat.reduceBEq,Nat.reduceEqDiff]
 refine callR_ret (hunks_d [tA,tB] [tB,tA] (by simp) (by simp) _) ?_
 rw [dif2]
 simp -implicitDefEqProofs (maxSteps := 99999999) (disch := first | omega | (simp only [AHeap.set_length,killO_length,List.length_cons,List.length_nil]; first | done | omega)) only [vu,va,vg,vs,vw,Nat.reduceMul,ite_true,ite_false,eq_self,forall_const,implies_true,Nat.reduceAdd,Nat.reduceSub,Nat.reduceLT,Nat.reduceLeDiff,↓reduceIte,reduceCtorEq,Int.reduceEq,Int.reduceLT,Int.reduceLE,Int.reduceGT,Int.reduceGE,Int.reduceAdd,Int.reduceSub,Int.reduceNeg,Int.reduceToNat,Nat.reduceBEq,Nat.reduceEqDiff]
 refine callR_ret (of_lit ofABC (by decide) _) ?_
 simp -implicitDefEqProofs (maxSteps := 99999999) (disch := first | omega | (simp only [AHeap.set_length,killO_length,List.length_cons,List.length_nil]; first | done | omega)) only [vu,va,vg,vs,vw,Nat.reduceMul,ite_true,ite_false,eq_self,forall_const,implies_true,Nat.reduceAdd,Nat.reduceSub,Nat.reduceLT,Nat.reduceLeDiff,↓reduceIte,reduceCtorEq,Int.reduceEq,Int.reduceLT,Int.reduceLE,Int.reduceGT,Int.reduceGE,Int.reduceAdd,Int.reduceSub,Int.reduceNeg,Int.reduceToNat,Nat.reduceBEq,Nat.reduceEqDiff]
 refine callR_ret (of_lit ofAXC (by decide) _) ?_
 simp -implicitDefEqProofs (maxSteps := 99999999) (disch := first | omega | (simp only [AHeap.set_length,killO_length,List.length_cons,List.length_nil]; first | done | omega)) only [vu,va,vg,vs,vw,Nat.reduceMul,ite_true,ite_false,eq_self,forall_const,implies_true,Nat.reduceAdd,Nat.reduceSub,Nat.reduceLT,Nat.reduceLeDiff,↓reduceIte,reduceCtorEq,Int.reduceEq,Int.reduceLT,Int.reduceLE,Int.reduceGT,Int.reduceGE,Int.reduceAdd,Int.reduceSub,Int.reduceNeg,Int.reduceToNat,Nat.reduceBEq,Nat.reduceEqDiff]
 refine callR_ret (common_o [tA,tB,tC] [tA,tX,tC] (by simp) (by simp) _) ?_
 rw [cmn1]
 simp -implicitDefEqProofs (maxSteps := 99999999) (disch := first | omega | (simp only [AHeap.set_length,killO_length,List.length_cons,List.length_nil]; first | done | omega)) only [vu,va,vg,vs,vw,Nat.reduceMul,ite_true,ite_false,eq_self,forall_const,implies_true,Nat.reduceAdd,Nat.reduceSub,Nat.reduceLT,Nat.reduceLeDiff,↓reduceIte,reduceCtorEq,Int.reduceEq,Int.reduceLT,Int.reduceLE,Int.reduceGT,Int.reduceGE,Int.reduceAdd,Int.reduceSub,Int.reduceNeg,Int.reduceToNat,Nat.reduceBEq,Nat.reduceEqDiff]
 refine callR_ret (samePairs_v (b := [(0,0),(2,2)]) (fun _ => find_top rfl) (by simp)) ?_
 simp -implicitDefEqProofs (maxSteps := 99999999) (disch := first | omega | (simp only [AHeap.set_length,killO_length,List.length_cons,List.length_nil]; first | done | omega)) only [vu,va,vg,vs,vw,Nat.reduceMul,ite_true,ite_false,eq_self,forall_const,implies_true,Nat.reduceAdd,Nat.reduceSub,Nat.reduceLT,Nat.reduceLeDiff,↓reduceIte,reduceCtorEq,Int.reduceEq,Int.reduceLT,Int.reduceLE,Int.reduceGT,Int.reduceGE,Int.reduceAdd,Int.reduceSub,Int.reduceNeg,Int.reduceToNat,Nat.reduceBEq,Nat.reduceEqDiff]
 refine callR_ret (of_lit ofB (by decide) _) ?_
 simp -implicitDefEqProofs (maxSteps := 99999999) (disch := first | omega | (simp only [AHeap.set_length,killO_length,List.length_cons,List.length_nil]; first | done | omega)) only [vu,va,vg,vs,vw,Nat.reduceMul,ite_true,ite_false,eq_self,forall_const,implies_true,Nat.reduceAdd,Nat.reduceSub,Nat.reduceLT,Nat.reduceLeDiff,↓reduceIte,reduceCtorEq,Int.reduceEq,Int.reduceLT,Int.reduceLE,Int.reduceGT,Int.reduceGE,Int.reduceAdd,Int.reduceSub,Int.reduceNeg,Int.reduceToNat,Nat.reduceBEq,Nat.reduceEqDiff]
 refine callR_ret (of_lit ofX1 (by decide) _) ?_
 simp -implicitDefEqProofs (maxSteps := 99999999) (disch := first | omega | (simp only [AHeap.set_length,killO_length,List.length_cons,List.length_nil]; first | done | omega)) only [vu,va,vg,vs,vw,Nat.reduceMul,ite_true,ite_false,eq_self,forall_const,implies_true,Nat.reduceAdd,Nat.reduceSub,Nat.reduceLT,Nat.reduceLeDiff,↓reduceIte,reduceCtorEq,Int.reduceEq,Int.reduceLT,Int.reduceLE,Int.reduceGT,Int.reduceGE,Int.reduceAdd,Int.reduceSub,Int.reduceNeg,Int.reduceToNat,Nat.reduceBEq,Nat.reduceEqDiff]
 refine callR_ret (sameHunks_d [⟨1,[tB],[tX]⟩] [⟨1,[tB],[tX]⟩] none (some []) _ (by simp) (by simp)) ?_
 simp -implicitDefEqProofs (maxSteps := 99999999) (disch := first | omega | (simp only [AHeap.set_length,killO_length,List.length_cons,List.length_nil]; first | done | omega)) only [vu,va,vg,vs,vw,Nat.reduceMul,ite_true,ite_false,eq_self,forall_const,implies_true,Nat.reduceAdd,Nat.reduceSub,Nat.reduceLT,Nat.reduceLeDiff,↓reduceIte,reduceCtorEq,Int.reduceEq,Int.reduceLT,Int.reduceLE,Int.reduceGT,Int.reduceGE,Int.reduceAdd,Int.reduceSub,Int.reduceNeg,Int.reduceToNat,Nat.reduceBEq,Nat.reduceEqDiff]
 refine callR_ret (of_lit ofAB (by decide) _) ?_
 simp -implicitDefEqProofs (maxSteps := 99999999) (disch := first | omega | (simp only [AHeap.set_length,killO_length,List.length_cons,List.length_nil]; first | done | omega)) only [vu,va,vg,vs,vw,Nat.reduceMul,ite_true,ite_false,eq_self,forall_const,implies_true,Nat.reduceAdd,Nat.reduceSub,Nat.reduceLT,Nat.reduceLeDiff,↓reduceIte,reduceCtorEq,Int.reduceEq,Int.reduceLT,Int.reduceLE,Int.reduceGT,Int.reduceGE,Int.reduceAdd,Int.reduceSub,Int.reduceNeg,Int.reduceToNat,Nat.reduceBEq,Nat.reduceEqDiff]
 refine callR_ret (of_lit ofBA (by decide) _) ?_
 simp -implicitDefEqProofs (maxSteps := 99999999) (disch := first | omega | (simp only [AHeap.set_length,killO_length,List.length_cons,List.length_nil]; first | done | omega)) only [vu,va,vg,vs,vw,Nat.reduceMul,ite_true,ite_false,eq_self,forall_const,implies_true,Nat.reduceAdd,Nat.reduceSub,Nat.reduceLT,Nat.reduceLeDiff,↓reduceIte,reduceCtorEq,Int.reduceEq,Int.reduceLT,Int.reduceLE,Int.reduceGT,Int.reduceGE,Int.reduceAdd,Int.reduceSub,Int.reduceNeg,Int.reduceToNat,Nat.reduceBEq,Nat.reduceEqDiff]
 refine callR_ret (common_o [tA,tB] [tB,tA] (by simp) (by simp) _) ?_
 rw [cmn2]
 simp -implicitDefEqProofs (maxSteps := 99999999) (disch := first | omega | (simp only [AHeap.set_length,killO_length,List.length_cons,List.length_nil]; first | done | omega)) only [vu,va,vg,vs,vw,Nat.reduceMul,ite_true,ite_false,eq_self,forall_const,implies_true,Nat.reduceAdd,Nat.reduceSub,Nat.reduceLT,Nat.reduceLeDiff,↓reduceIte,reduceCtorEq,Int.reduceEq,Int.reduceLT,Int.reduceLE,Int.reduceGT,Int.reduceGE,Int.reduceAdd,Int.reduceSub,Int.reduceNeg,Int.reduceToNat,Nat.reduceBEq,Nat.reduceEqDiff]
 refine callR_ret (samePairs_v (b := [(1,0)]) (fun _ => find_top rfl) (by simp)) ?_
 simp -implicitDefEqProofs (maxSteps := 99999999) (disch := first | omega | (simp only [AHeap.set_length,killO_length,List.length_cons,List.length_nil]; first | done | omega)) only [vu,va,vg,vs,vw,Nat.reduceMul,ite_true,ite_false,eq_self,forall_const,implies_true,Nat.reduceAdd,Nat.reduceSub,Nat.reduceLT,Nat.reduceLeDiff,↓reduceIte,reduceCtorEq,Int.reduceEq,Int.reduceLT,Int.reduceLE,Int.reduceGT,Int.reduceGE,Int.reduceAdd,Int.reduceSub,Int.reduceNeg,Int.reduceToNat,Nat.reduceBEq,Nat.reduceEqDiff]
 refine callR_ret (of_lit ofA (by decide) _) ?_
 simp -implicitDefEqProofs (maxSteps := 99999999) (disch := first | omega | (simp only [AHeap.set_length,killO_length,List.length_cons,List.length_nil]; first | done | omega)) only [vu,va,vg,vs,vw,Nat.reduceMul,ite_true,ite_false,eq_self,forall_const,implies_true,Nat.reduceAdd,Nat.reduceSub,Nat.reduceLT,Nat.reduceLeDiff,↓reduceIte,reduceCtorEq,Int.reduceEq,Int.reduceLT,Int.reduceLE,Int.reduceGT,Int.reduceGE,Int.reduceAdd,Int.reduceSub,Int.reduceNeg,Int.reduceToNat,Nat.reduceBEq,Nat.reduceEqDiff]
 refine callR_ret (of_lit ofA (by decide) _) ?_
 simp -implicitDefEqProofs (maxSteps := 99999999) (disch := first | omega | (simp only [AHeap.set_length,killO_length,List.length_cons,List.length_nil]; first | done | omega)) only [vu,va,vg,vs,vw,Nat.reduceMul,ite_true,ite_false,eq_self,forall_const,implies_true,Nat.reduceAdd,Nat.reduceSub,Nat.reduceLT,Nat.reduceLeDiff,↓reduceIte,reduceCtorEq,Int.reduceEq,Int.reduceLT,Int.reduceLE,Int.reduceGT,Int.reduceGE,Int.reduceAdd,Int.reduceSub,Int.reduceNeg,Int.reduceToNat,Nat.reduceBEq,Nat.reduceEqDiff]
 refine callR_ret (D_le (.cons .refl (.cons (.lst (.cons (.agg (.cons .refl (.cons .refl (.cons .nil .nil)))) (.cons (.agg (.cons .refl (.cons .nil (.cons .refl .nil)))) .nil))) .nil)) (sameHunks_d [⟨0,[tA],[]⟩,⟨2,[],[tA]⟩] [⟨0,[tA],[]⟩,⟨2,[],[tA]⟩] none none _ (by simp) (by simp))) ?_
 simp -implicitDefEqProofs (maxSteps := 99999999) (disch := first | omega | (simp only [AHeap.set_length,killO_length,List.length_cons,List.length_nil]; first | done | omega)) only [vu,va,vg,vs,vw,Nat.reduceMul,ite_true,ite_false,eq_self,forall_const,implies_true,Nat.reduceAdd,Nat.reduceSub,Nat.reduceLT,Nat.reduceLeDiff,↓reduceIte,reduceCtorEq,Int.reduceEq,Int.reduceLT,Int.reduceLE,Int.reduceGT,Int.reduceGE,Int.reduceAdd,Int.reduceSub,Int.reduceNeg,Int.reduceToNat,Nat.reduceBEq,Nat.reduceEqDiff]
 exact weak_over (by repeat constructor) (.same trivial)
end Go.Proofs.YtigmpablpmanpaaDoor
