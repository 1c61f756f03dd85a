/- Texts of one byte each: utf8.RuneCountInString, DecodeRuneInString, strings.Split(s, "") on ASCII; law02.of. -/
import Derived.Test.YtigmpablpmanpaaDoorS151
import Derived.Test.YtigmpablpmanpaaDoorS119
import Derived.Lib.Walk
import Derived.Lib.Strings
import Derived.Lib.IndexBytes
import Derived.Laws.RangeString
import Derived.Deep.LoopGhost
namespace Go.Proofs.YtigmpablpmanpaaDoor
open Go.RowKit Go.Lib
set_option maxRecDepth 100000
set_option linter.unusedVariables false
set_option linter.unusedSimpArgs false
def Ascii (s : ByteArray) : Prop := ∀ (j : Nat) b,s.data.toList[j]? = some b → b.toNat < 128
set_option maxHeartbeats 4000000 in
theorem rc_any (s : ByteArray) (w : World) (hs : s.size < 4294967281) (hascii : Ascii s) : Calls Tryd.prog 92 #[.string s] w fun e w' => e = .returned (.int .i64 s.size) ∧ w' = w.iter s s.size := by
 have HA : Aside (Ascii s) := hascii
 clear hascii
 have ht : Tryd.prog.underlying 9 = some .string := by kernel_rfl
 have hti : Tryd.prog.underlying 3 = some (.int .i64) := by kernel_rfl
 go_enter Tryd.func92,Tryd.ntmps92
 go_wp2
 go_loopg [2] s.size (fun g s2 wx => ∃ i : Nat,i + g = s.size ∧ s2 = .int .i64 i ∧ wx = w.iter s i)
 case atStart => exact ⟨0,by omega,rfl,rfl⟩
 case round =>
  obtain ⟨i,hig,rfl,rfl⟩ := hrel
  cases gk with
  | zero =>
   obtain rfl : i = s.size := by omega
   have hnx := fun ty => run_next_end (P := Tryd.prog) w s s.size ty
   go_wp2
   go_ret
   exact ⟨rfl,rfl⟩
  | succ g =>
   have hi : i < s.size := by omega
   have ha : (s[i]'hi).toNat < 128 := HA.out i _ (Lib.data_getElem? s i hi)
   have hnx := fun ty => run_next_ascii (P := Tryd.prog) w s i ty hi ha
   go_wp2
   go_roundg g
   case measure => omega
   case rel => exact ⟨i + 1,by omega,by first | rfl | simp,rfl⟩
theorem rc_d (s : ByteArray) (hs : s.size ≤ 100000000) (hascii : Ascii s) (H : AHeap) : D Tryd.prog 92 [.sc (.string s)] H (.ret (.sc (.int .i64 s.size))) H := by
 refine ⟨Nat.le_refl _,fun φ w vs hR ha => ?_⟩
 obtain ⟨u,h4,h5⟩ := Rt_one ha
 rw [arr_of h4,VR_sc h5]
 refine (rc_any s w (by omega) hascii).mono ?_
 rintro e w' ⟨rfl,rfl⟩
 have hz : w.heap.size ≤ (w.iter s s.size).heap.size := by
  show _ ≤ (w.heap.push (Obj.stringIter s s.size)).size
  rw [Array.size_push]
  omega
 have hb : ∀ b,b < w.heap.size → (w.iter s s.size).heap[b]? = w.heap[b]? := fun b hb => by
  show (w.heap.push (Obj.stringIter s s.size))[b]? = _
  rw [Array.getElem?_push,if_neg (by omega)]
 exact ⟨φ,sc_VR rfl,hR.grow hz hb,grow_step rfl rfl rfl hz hb⟩
theorem decode_d (s : ByteArray) (h0 : 0 < s.size) (hascii : Ascii s) (H : AHeap) : ∃ b : Int,D Tryd.prog 93 [.sc (.string s)] H (.ret (.tup [.sc (.int .i32 b),.sc (.int .i64 1)])) H := by
 have hl := bytes_len s
 have h1 := hascii 0 _ (List.getElem?_eq_getElem (by omega))
 have hne : ¬ s = ⟨#[]⟩ := fun e => by rw [e] at h0; exact absurd h0 (by decide)
 have hg : s.data.getD 0 0 = s.data.toList[0]'(by omega) := by
  rw [Array.getD_eq_getD_getElem?,← Array.getElem?_toList,List.getElem?_eq_getElem (by omega)]
  rfl
 have hb : ((s.data.getD 0 0).toNat : Int) < 128 := by rw [hg]; omega
 have h0' : (0 : Int) < s.size := by omega
 refine ⟨IntKind.i32.wrap ((s.data.getD 0 0).toNat : Int),D_of_DK (Nat.le_refl _) (dk93 (E_of_ES ?_))⟩
 simp -implicitDefEqProofs (maxSteps := 99999999) (disch := first | omega | (simp only [AHeap.set_length,killO_length,List.length_cons,List.length_nil]; first | done | omega)) only [vu,ic93,hne,hb,h0',va,vg,vs,vw,Nat.reduceMul,ite_true,ite_false,eq_self,forall_const,implies_true,Nat.reduceAdd,Nat.reduceSub,Nat.reduceLT,Nat.reduceLeDiff,↓reduceIte,reduceCtorEq,Int.reduceEq,Int.reduceLT,Int.reduceLE,Int.reduceGT,Int.reduceGE,Int.reduceAdd,Int.reduceSub,Int.reduceNeg,Int.reduceToNat,Nat.reduceBEq,Nat.reduceEqDiff]
 exact weak_over .refl (.same ⟨trivial,trivial,trivial⟩)
def chars (s : ByteArray) : List ByteArray := (List.range s.size).map fun i => s.extract i (i + 1)
theorem chars_length (s : ByteArray) : (chars s).length = s.size := by simp [chars]
/-- The pieces, up to the k-th. -/
def chE (s : ByteArray) (k : Nat) : List AV := (List.range s.size).map fun i => .sc (.string (if i < k then s.extract i (i + 1) else ⟨#[]⟩))
theorem chE_length (s : ByteArray) (k : Nat) : (chE s k).length = s.size := by simp [chE]
theorem chE_zero (s : ByteArray) : List.replicate s.size (AV.sc (.string ⟨#[]⟩)) = chE s 0 := by
 apply List.ext_getElem
 ·simp [chE]
 ·intro i h1 h2
  simp [chE]
theorem chE_end (s : ByteArray) : chE s s.size = strs (chars s) := by
 apply List.ext_getElem
 ·simp [chE,strs,chars]
 ·intro i h1 h2
  simp [chE,strs,chars] at h1 ⊢
  exact fun h => absurd h1 (by omega)
theorem chE_set {s : ByteArray} {k : Nat} : (chE s k).set k (.sc (.string (s.extract k (k + 1)))) = chE s (k + 1) := by
 apply List.ext_getElem
 ·simp [chE]
 ·intro i h1 h2
  rw [List.getElem_set]
  simp only [chE,List.getElem_map,List.getElem_range]
  by_cases e : k = i
  ·subst e
   rw [if_pos rfl,if_pos (by omega)]
  ·rw [if_neg e]
   by_cases h : i < k
   ·rw [if_pos h,if_pos (by omega)]
   ·rw [if_neg h,if_neg (by omega)]
theorem chE_get {s : ByteArray} {k j : Nat} (h : j < s.size) : (chE s k).getD j .top = .sc (.string (if j < k then s.extract j (j + 1) else ⟨#[]⟩)) := by
 simp [chE,List.getD,h]
theorem ascii_sub {s : ByteArray} (h : Ascii s) (a b : Nat) : Ascii (s.extract a b) := by
 intro j c hj
 have e : (s.extract a b).data.toList = (s.data.toList.drop a).take (b - a) := by simp [ByteArray.data_extract,List.extract]
 rw [e] at hj
 rw [List.getElem?_take] at hj
 split at hj
 ·rw [List.getElem?_drop] at hj
  exact h _ _ hj
 ·cases hj
theorem ext_sz (s : ByteArray) (a b : Nat) (h : b ≤ s.size) : (s.extract a b).size = b - a := by rw [ByteArray.size_extract]; omega
theorem ext_head (s : ByteArray) {k : Nat} (h : k + 1 ≤ s.size) : (s.extract k s.size).extract 0 1 = s.extract k (k + 1) := by
 rw [ByteArray.extract_extract]
 congr 1
 omega
theorem ext_tail (s : ByteArray) (k : Nat) (m : Nat) (hm : m = s.size - k) : (s.extract k s.size).extract 1 m = s.extract (k + 1) s.size := by
 rw [ByteArray.extract_extract,hm]
 by_cases h : k ≤ s.size
 ·congr 1
  omega
 ·have e1 : (s.extract (k + 1) (min (k + (s.size - k)) s.size)).size = 0 := by rw [ByteArray.size_extract]; omega
  have e2 : (s.extract (k + 1) s.size).size = 0 := by rw [ByteArray.size_extract]; omega
  rw [ByteArray.size_eq_zero_iff.1 e1,ByteArray.size_eq_zero_iff.1 e2]
theorem explode_d (s : ByteArray) (h0 : 0 < s.size) (hs : s.size ≤ 1000000) (ha : Ascii s) (H : AHeap) :
  D Tryd.prog 84 [.sc (.string s),.sc (.int .i64 (-1))] H (.ret (.vec 1 H.length 0 s.size (some s.size))) (some ⟨1,strs (chars s),true,9⟩ :: H) := by
 refine D_of_DK (by simp) (dk84 (E_of_ES ?_))
 simp -implicitDefEqProofs (maxSteps := 99999999) (disch := first | omega | (simp only [AHeap.set_length,killO_length,List.length_cons,List.length_nil]; first | done | omega)) only [vu,ic84,va,vg,vs,vw,Nat.reduceMul,ite_true,ite_false,eq_self,forall_const,implies_true,Nat.reduceAdd,Nat.reduceSub,Nat.reduceLT,Nat.reduceLeDiff,↓reduceIte,reduceCtorEq,Int.reduceEq,Int.reduceLT,Int.reduceLE,Int.reduceGT,Int.reduceGE,Int.reduceAdd,Int.reduceSub,Int.reduceNeg,Int.reduceToNat,Nat.reduceBEq,Nat.reduceEqDiff]
 refine callR_ret (rc_d s (by omega) ha _) ?_
 simp -implicitDefEqProofs (maxSteps := 99999999) (disch := first | omega | (simp only [AHeap.set_length,killO_length,List.length_cons,List.length_nil]; first | done | omega)) only [vu,va,vg,vs,vw,Nat.reduceMul,ite_true,ite_false,eq_self,forall_const,implies_true,Nat.reduceAdd,Nat.reduceSub,Nat.reduceLT,Nat.reduceLeDiff,↓reduceIte,reduceCtorEq,Int.reduceEq,Int.reduceLT,Int.reduceLE,Int.reduceGT,Int.reduceGE,Int.reduceAdd,Int.reduceSub,Int.reduceNeg,Int.reduceToNat,Nat.reduceBEq,Nat.reduceEqDiff]
 refine ⟨⟨by omega,by omega,by omega⟩,?_⟩
 rw [chE_zero]
 refine ES_gen fun K hK => ?_
 refine ES_loopL (fun ts F => ∃ k : Nat,k + 1 ≤ s.size ∧ F = some ⟨1,chE s k,true,9⟩ :: H ∧
   Fr [some (.sc (.string (s.extract k s.size))),some (.sc (.int .i64 s.size)),none,none,none,none,some (.vec 1 H.length 0 s.size (some s.size)),some (.sc (.int .i64 k)),none,none,none,none,none,none,none,none,none,none,none,none,none,none,none,none,none,none,none,none,none,none,none,none,none,none,none,none,none,none,none,none,none,none,none,none,none,none,none,none,none,none] ts) (fun ts _ => s.size - (intV (ts.getD 7 .top)).toNat) ?_ ?_
 ·refine ⟨0,by omega,rfl,?_⟩
  rw [show s.extract 0 s.size = s by simp]
  simp [Fr]
 ·rintro ts F ⟨k,hk,rfl,hfr⟩ L1 hL1
  obtain ⟨js,rfl⟩ := hfr.opened
  clear hfr
  by_cases hd : k + 1 < s.size
  ·have h1 : (k : Int) < (s.size : Int) - 1 := by omega
   obtain ⟨b,hb⟩ := decode_d (s.extract k s.size) (by rw [ext_sz s _ _ (Nat.le_refl _)]; omega) (ascii_sub ha _ _) (some ⟨1,chE s k,true,9⟩ :: H)
   have hz := ext_sz s k s.size (Nat.le_refl _)
   simp -implicitDefEqProofs (maxSteps := 99999999) (disch := first | omega | (simp only [AHeap.set_length,killO_length,List.length_cons,List.length_nil]; first | done | omega)) only [vu,mk,h1,va,vg,vs,vw,Nat.reduceMul,ite_true,ite_false,eq_self,forall_const,implies_true,Nat.reduceAdd,Nat.reduceSub,Nat.reduceLT,Nat.reduceLeDiff,↓reduceIte,reduceCtorEq,Int.reduceEq,Int.reduceLT,Int.reduceLE,Int.reduceGT,Int.reduceGE,Int.reduceAdd,Int.reduceSub,Int.reduceNeg,Int.reduceToNat,Nat.reduceBEq,Nat.reduceEqDiff]
   refine callR_ret hb ?_
   simp -implicitDefEqProofs (maxSteps := 99999999) (disch := first | omega | (simp only [AHeap.set_length,killO_length,List.length_cons,List.length_nil]; first | done | omega)) only [vu,chE_length,hz,ext_head s hk,ext_tail s k _ rfl,chE_get hk,chE_set,va,vg,vs,vw,Nat.reduceMul,ite_true,ite_false,eq_self,forall_const,implies_true,Nat.reduceAdd,Nat.reduceSub,Nat.reduceLT,Nat.reduceLeDiff,↓reduceIte,reduceCtorEq,Int.reduceEq,Int.reduceLT,Int.reduceLE,Int.reduceGT,Int.reduceGE,Int.reduceAdd,Int.reduceSub,Int.reduceNeg,Int.reduceToNat,Nat.reduceBEq,Nat.reduceEqDiff]
   refine ⟨by omega,⟨by omega,by omega⟩,by omega,⟨by omega,by omega⟩,hL1 _ _ ⟨k + 1,by omega,rfl,by simp [Fr]⟩ ?_⟩
   simp [mk,intV]
   omega
  ·have h1 : ¬ (k : Int) < (s.size : Int) - 1 := by omega
   have h2 : (s.size : Int) > 0 := by omega
   have h3 : k + 1 = s.size := by omega
   have h4 : ((s.size : Int) - 1).toNat = k := by omega
   have h5 : s.extract k s.size = s.extract k (k + 1) := by rw [h3]
   simp -implicitDefEqProofs (maxSteps := 99999999) (disch := first | omega | (simp only [AHeap.set_length,killO_length,List.length_cons,List.length_nil]; first | done | omega)) only [vu,mk,h1,va,vg,vs,vw,Nat.reduceMul,ite_true,ite_false,eq_self,forall_const,implies_true,Nat.reduceAdd,Nat.reduceSub,Nat.reduceLT,Nat.reduceLeDiff,↓reduceIte,reduceCtorEq,Int.reduceEq,Int.reduceLT,Int.reduceLE,Int.reduceGT,Int.reduceGE,Int.reduceAdd,Int.reduceSub,Int.reduceNeg,Int.reduceToNat,Nat.reduceBEq,Nat.reduceEqDiff]
   clear hL1
   refine hK _ _ _ ?_
   clear hK
   simp -implicitDefEqProofs (maxSteps := 99999999) (disch := first | omega | (simp only [AHeap.set_length,killO_length,List.length_cons,List.length_nil]; first | done | omega)) only [vu,mk,h2,chE_length,h4,chE_get hk,va,vg,vs,vw,Nat.reduceMul,ite_true,ite_false,eq_self,forall_const,implies_true,Nat.reduceAdd,Nat.reduceSub,Nat.reduceLT,Nat.reduceLeDiff,↓reduceIte,reduceCtorEq,Int.reduceEq,Int.reduceLT,Int.reduceLE,Int.reduceGT,Int.reduceGE,Int.reduceAdd,Int.reduceSub,Int.reduceNeg,Int.reduceToNat,Nat.reduceBEq,Nat.reduceEqDiff]
   refine ⟨⟨by omega,by omega⟩,by omega,?_⟩
   rw [h5,chE_set,h3,chE_end]
   exact Weak.refl _ _ _
theorem genSplit_d (s : ByteArray) (h0 : 0 < s.size) (hs : s.size ≤ 1000000) (ha : Ascii s) (H : AHeap) :
  D Tryd.prog 57 [.sc (.string s),.sc (.string ⟨#[]⟩),.sc (.int .i64 0),.sc (.int .i64 (-1))] H (.ret (.vec 1 H.length 0 s.size (some s.size))) (some ⟨1,strs (chars s),true,9⟩ :: H) := by
 refine D_of_DK (by simp) (dk57 (E_of_ES ?_))
 simp -implicitDefEqProofs (maxSteps := 99999999) (disch := first | omega | (simp only [AHeap.set_length,killO_length,List.length_cons,List.length_nil]; first | done | omega)) only [vu,ic57,va,vg,vs,vw,Nat.reduceMul,ite_true,ite_false,eq_self,forall_const,implies_true,Nat.reduceAdd,Nat.reduceSub,Nat.reduceLT,Nat.reduceLeDiff,↓reduceIte,reduceCtorEq,Int.reduceEq,Int.reduceLT,Int.reduceLE,Int.reduceGT,Int.reduceGE,Int.reduceAdd,Int.reduceSub,Int.reduceNeg,Int.reduceToNat,Nat.reduceBEq,Nat.reduceEqDiff]
 refine callR_ret (explode_d s h0 hs ha _) ?_
 simp -implicitDefEqProofs (maxSteps := 99999999) (disch := first | omega | (simp only [AHeap.set_length,killO_length,List.length_cons,List.length_nil]; first | done | omega)) only [vu,va,vg,vs,vw,Nat.reduceMul,ite_true,ite_false,eq_self,forall_const,implies_true,Nat.reduceAdd,Nat.reduceSub,Nat.reduceLT,Nat.reduceLeDiff,↓reduceIte,reduceCtorEq,Int.reduceEq,Int.reduceLT,Int.reduceLE,Int.reduceGT,Int.reduceGE,Int.reduceAdd,Int.reduceSub,Int.reduceNeg,Int.reduceToNat,Nat.reduceBEq,Nat.reduceEqDiff]
 exact Weak.refl _ _ _
theorem splitC_d (s : ByteArray) (h0 : 0 < s.size) (hs : s.size ≤ 1000000) (ha : Ascii s) (H : AHeap) :
  D Tryd.prog 31 [.sc (.string s),.sc (.string ⟨#[]⟩)] H (.ret (.vec 1 H.length 0 s.size (some s.size))) (some ⟨1,strs (chars s),true,9⟩ :: H) := by
 refine D_of_DK (by simp) (dk31 (E_of_ES ?_))
 simp -implicitDefEqProofs (maxSteps := 99999999) (disch := first | omega | (simp only [AHeap.set_length,killO_length,List.length_cons,List.length_nil]; first | done | omega)) only [vu,ic31,va,vg,vs,vw,Nat.reduceMul,ite_true,ite_false,eq_self,forall_const,implies_true,Nat.reduceAdd,Nat.reduceSub,Nat.reduceLT,Nat.reduceLeDiff,↓reduceIte,reduceCtorEq,Int.reduceEq,Int.reduceLT,Int.reduceLE,Int.reduceGT,Int.reduceGE,Int.reduceAdd,Int.reduceSub,Int.reduceNeg,Int.reduceToNat,Nat.reduceBEq,Nat.reduceEqDiff]
 refine callR_ret (genSplit_d s h0 hs ha _) ?_
 simp -implicitDefEqProofs (maxSteps := 99999999) (disch := first | omega | (simp only [AHeap.set_length,killO_length,List.length_cons,List.length_nil]; first | done | omega)) only [vu,va,vg,vs,vw,Nat.reduceMul,ite_true,ite_false,eq_self,forall_const,implies_true,Nat.reduceAdd,Nat.reduceSub,Nat.reduceLT,Nat.reduceLeDiff,↓reduceIte,reduceCtorEq,Int.reduceEq,Int.reduceLT,Int.reduceLE,Int.reduceGT,Int.reduceGE,Int.reduceAdd,Int.reduceSub,Int.reduceNeg,Int.reduceToNat,Nat.reduceBEq,Nat.reduceEqDiff]
 exact Weak.refl _ _ _
theorem of_d (s : ByteArray) (h0 : 0 < s.size) (hs : s.size ≤ 1000000) (ha : Ascii s) (H : AHeap) :
  D Tryd.prog 22 [.sc (.string s)] H (.ret (.lst 1 (strs (chars s)) none)) H := by
 have hne : ¬ s = ⟨#[]⟩ := fun e => by rw [e] at h0; exact absurd h0 (by decide)
 refine D_of_DK (Nat.le_refl _) (dk22 (E_of_ES ?_))
 simp -implicitDefEqProofs (maxSteps := 99999999) (disch := first | omega | (simp only [AHeap.set_length,killO_length,List.length_cons,List.length_nil]; first | done | omega)) only [vu,ic22,hne,va,vg,vs,vw,Nat.reduceMul,ite_true,ite_false,eq_self,forall_const,implies_true,Nat.reduceAdd,Nat.reduceSub,Nat.reduceLT,Nat.reduceLeDiff,↓reduceIte,reduceCtorEq,Int.reduceEq,Int.reduceLT,Int.reduceLE,Int.reduceGT,Int.reduceGE,Int.reduceAdd,Int.reduceSub,Int.reduceNeg,Int.reduceToNat,Nat.reduceBEq,Nat.reduceEqDiff]
 refine callR_ret (splitC_d s h0 hs ha _) ?_
 simp -implicitDefEqProofs (maxSteps := 99999999) (disch := first | omega | (simp only [AHeap.set_length,killO_length,List.length_cons,List.length_nil]; first | done | omega)) only [vu,va,vg,vs,vw,Nat.reduceMul,ite_true,ite_false,eq_self,forall_const,implies_true,Nat.reduceAdd,Nat.reduceSub,Nat.reduceLT,Nat.reduceLeDiff,↓reduceIte,reduceCtorEq,Int.reduceEq,Int.reduceLT,Int.reduceLE,Int.reduceGT,Int.reduceGE,Int.reduceAdd,Int.reduceSub,Int.reduceNeg,Int.reduceToNat,Nat.reduceBEq,Nat.reduceEqDiff]
 exact weak_over (.cons .refl) (fz_fresh (ty := 0) (find_top rfl) rfl rfl (chars_length s).symm (Nat.le_refl _))
end Go.Proofs.YtigmpablpmanpaaDoor
