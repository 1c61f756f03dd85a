/- Texts of values, plain; the program's text of one value. -/
import Derived.Lib.ItoaLen
import Derived.Test.YtpnnpooeheiedaaDoorS210
import Derived.Test.YtpnnpooeheiedaaDoorS206
import Derived.Test.YtpnnpooeheiedaaDoorS203
import Derived.Test.YtpnnpooeheiedaaDoorVE
namespace Go.Proofs.YtpnnpooeheiedaaDoor
open Go.RowKit
set_option maxRecDepth 100000
set_option linter.unusedVariables false
set_option linter.unusedSimpArgs false
def txI (n : Int) : ByteArray := ⟨(Lib.itoa n).toArray⟩
theorem txI_size {n : Int} (h : I64 n) : (txI n).size ≤ 21 := by
 show (Lib.itoa n).toArray.size ≤ 21
 rw [List.size_toArray]
 exact Lib.itoa_length_le n h.1 h.2
def txR (l : List Int) : List ByteArray := l.map txI
theorem txR_length (l : List Int) : (txR l).length = l.length := by simp [txR]
/-- Texts side by side, a space between. -/
def jn (l : List ByteArray) : ByteArray := joinT l ⟨#[32]⟩
theorem bs_ext {a b : ByteArray} (h : a.data.toList = b.data.toList) : a = b := by
 cases a; cases b
 congr 1
 exact Array.toList_inj.1 h
theorem jn_toList (l : List ByteArray) : (jn l).data.toList = Lib.join (l.map (·.data.toList)) [32] := rfl
theorem jn_nil : jn [] = ⟨#[]⟩ := rfl
theorem join_snoc (sep x : List UInt8) : ∀ (l : List (List UInt8)),l ≠ [] → Lib.join (l ++ [x]) sep = Lib.join l sep ++ (sep ++ x)
 | [],h => (h rfl).elim
 | y :: r,_ => by
  rw [List.cons_append,Lib.join_cons,Lib.join_cons,List.append_assoc]
  congr 1
  simp [Lib.joinTail]
theorem jn_one (x : ByteArray) : jn [x] = x := bs_ext (by rw [jn_toList]; exact Lib.join_one _ _)
theorem jn_snoc {l : List ByteArray} (x : ByteArray) (h : l ≠ []) : jn (l ++ [x]) = jn l ++ ⟨#[32]⟩ ++ x := bs_ext (by
 rw [jn_toList,List.map_append,List.map_cons,List.map_nil,join_snoc _ _ _ (by simpa using h)]
 simp [jn_toList,ByteArray.data_append])
def szL : List ByteArray → Nat
 | [] => 0
 | s :: r => s.size + 1 + szL r
theorem szL_append : ∀ (a b : List ByteArray),szL (a ++ b) = szL a + szL b
 | [],b => by simp [szL]
 | x :: r,b => by simp [szL,szL_append r b]; omega
theorem joinTail_len : ∀ (l : List ByteArray),(Lib.joinTail [32] (l.map (·.data.toList))).length = szL l
 | [] => rfl
 | x :: r => by
  have h := joinTail_len r
  simp only [Lib.joinTail,List.map_cons,List.flatten_cons,List.length_append] at h ⊢
  rw [h]
  simp [szL]
  omega
theorem jn_size (l : List ByteArray) : (jn l).size ≤ szL l := by
 have e : (jn l).size = (jn l).data.toList.length := by rw [Array.length_toList]; rfl
 rw [e,jn_toList]
 cases l with
 | nil => simp [Lib.join_nil]
 | cons x r =>
  rw [List.map_cons,Lib.join_cons,List.length_append,joinTail_len]
  simp [szL]
theorem szL_txR {l : List Int} (h : ∀ n ∈ l,I64 n) : szL (txR l) ≤ 22 * l.length := by
 induction l with
 | nil => simp [txR,szL]
 | cons n r ih =>
  have h1 := txI_size (h n (by simp))
  have h2 := ih fun m hm => h m (by simp [hm])
  simp only [txR,List.map_cons,szL,List.length_cons] at h2 ⊢
  omega
theorem szL_mem {l : List ByteArray} {x : ByteArray} (h : x ∈ l) : x.size + 1 ≤ szL l := by
 induction l with
 | nil => cases h
 | cons y r ih =>
  rcases List.mem_cons.1 h with rfl | h
  ·simp [szL]
  ·have := ih h; simp [szL]; omega
def tFalse : ByteArray := ⟨#[102,97,108,115,101]⟩
/-- A value's text. -/
def oneT (v : Vl) : ByteArray :=
 if rightV v = false then ⟨#[63]⟩
 else if v.kind = 2 then (if v.num = 1 then tTrue else tFalse)
 else if v.kind = 1 then txI v.num
 else ⟨#[91]⟩ ++ jn (txR v.row) ++ ⟨#[93]⟩
theorem right_row {v : Vl} (h : rightV v = true) : v.row.length ≤ 1024 := by
 unfold rightV at h
 split at h
 ·simp at h; rw [h]; simp
 ·split at h
  ·simp at h; rw [h.1]; simp
  ·split at h
   ·simp at h; exact h.2
   ·simp at h
theorem oneT_size {v : Vl} (h : v.good) : (oneT v).size ≤ 22 * v.row.length + 30 := by
 unfold oneT
 split
 ·show 1 ≤ _; omega
 ·rename_i hr
  have hr : rightV v = true := by simpa using hr
  split
  ·split
   ·show 4 ≤ _; omega
   ·show 5 ≤ _; omega
  ·split
   ·have := txI_size h.1; omega
   ·have h1 := jn_size (txR v.row)
    have h2 := szL_txR h.2.2
    rw [ByteArray.size_append,ByteArray.size_append]
    show 1 + _ + 1 ≤ _
    omega
theorem over_s {F H : AHeap} (h : Over H F) {a b : ByteArray} (e : a = b) : Weak H (.ret (.sc (.string a))) F (.ret (.sc (.string b))) H := by
 subst e
 exact weak_over h (.same trivial)
theorem take_snoc {α : Type} {l : List α} {k : Nat} (h : k < l.length) : l.take (k + 1) = l.take k ++ [l[k]] := by
 rw [List.take_succ_eq_append_getElem h]
theorem txR_take {l : List Int} {k : Nat} (h : k < l.length) : strs (txR (l.take k)) ++ [.sc (.string (txI (nthQ l k)))] = strs (txR (l.take (k + 1))) := by
 rw [take_snoc h,nthQ_eq h]
 unfold txR strs
 rw [List.map_append,List.map_append]
 rfl
theorem good_nth {v : Vl} (h : v.good) {k : Nat} (hk : k < v.row.length) : I64 (nthQ v.row k) := by
 rw [nthQ_eq hk]
 exact h.2.2 _ (List.getElem_mem _)
set_option maxHeartbeats 4000000 in
theorem vtext_d (v : Vl) (ro : Option (List AV)) (hv : v.good) (H : AHeap) : D Tryd.prog 31 [vlA v ro] H (.ret (.sc (.string (oneT v)))) H := by
 refine D_of_DK (Nat.le_refl _) (dk31 (E_of_ES ?_))
 have hR := vright_d v ro hv.1
 have hb := fmtBool_d
 rw [vlA_eq] at hR
 simp only [ic31,ux]
 refine ES_seq_gen fun L hL => ?_
 simp -implicitDefEqProofs (maxSteps := 99999999) (disch := first | omega | (simp only [AHeap.set_length,killO_length,List.length_cons,List.length_nil]; first | done | omega)) only [vu,vlA_eq,va,vg,vs,vw,Nat.reduceMul,ite_true,ite_false,eq_self,forall_const,implies_true,Nat.reduceAdd,Nat.reduceSub,Nat.reduceLT,Nat.reduceLeDiff,↓reduceIte,reduceCtorEq,Int.reduceEq,Int.reduceLT,Int.reduceLE,Int.reduceGT,Int.reduceGE,Int.reduceAdd,Int.reduceSub,Int.reduceNeg,Int.reduceToNat,Nat.reduceBEq,Nat.reduceEqDiff]
 refine hL _ _ ?_
 clear hL
 refine ES_seq_gen fun L hL => ?_
 simp -implicitDefEqProofs (maxSteps := 99999999) (disch := first | omega | (simp only [AHeap.set_length,killO_length,List.length_cons,List.length_nil]; first | done | omega)) only [vu,va,vg,vs,vw,Nat.reduceMul,ite_true,ite_false,eq_self,forall_const,implies_true,Nat.reduceAdd,Nat.reduceSub,Nat.reduceLT,Nat.reduceLeDiff,↓reduceIte,reduceCtorEq,Int.reduceEq,Int.reduceLT,Int.reduceLE,Int.reduceGT,Int.reduceGE,Int.reduceAdd,Int.reduceSub,Int.reduceNeg,Int.reduceToNat,Nat.reduceBEq,Nat.reduceEqDiff]
 refine callR_ret (hR _) ?_
 cases hr : rightV v
 case false =>
  simp -implicitDefEqProofs (maxSteps := 99999999) (disch := first | omega | (simp only [AHeap.set_length,killO_length,List.length_cons,List.length_nil]; first | done | omega)) only [vu,va,vg,vs,vw,Nat.reduceMul,ite_true,ite_false,eq_self,forall_const,implies_true,Nat.reduceAdd,Nat.reduceSub,Nat.reduceLT,Nat.reduceLeDiff,↓reduceIte,reduceCtorEq,Int.reduceEq,Int.reduceLT,Int.reduceLE,Int.reduceGT,Int.reduceGE,Int.reduceAdd,Int.reduceSub,Int.reduceNeg,Int.reduceToNat,Nat.reduceBEq,Nat.reduceEqDiff]
  exact over_s (.cons .refl) (by simp [oneT,hr])
 simp -implicitDefEqProofs (maxSteps := 99999999) (disch := first | omega | (simp only [AHeap.set_length,killO_length,List.length_cons,List.length_nil]; first | done | omega)) only [vu,va,vg,vs,vw,Nat.reduceMul,ite_true,ite_false,eq_self,forall_const,implies_true,Nat.reduceAdd,Nat.reduceSub,Nat.reduceLT,Nat.reduceLeDiff,↓reduceIte,reduceCtorEq,Int.reduceEq,Int.reduceLT,Int.reduceLE,Int.reduceGT,Int.reduceGE,Int.reduceAdd,Int.reduceSub,Int.reduceNeg,Int.reduceToNat,Nat.reduceBEq,Nat.reduceEqDiff]
 by_cases c2 : v.kind = 2
 ·have hR2 : v.num = 0 ∨ v.num = 1 := by
   unfold rightV at hr
   rw [if_neg (by omega),if_pos c2] at hr
   simp at hr
   exact hr.2
  by_cases c3 : v.num = 1
  ·simp -implicitDefEqProofs (maxSteps := 99999999) (disch := first | omega | (simp only [AHeap.set_length,killO_length,List.length_cons,List.length_nil]; first | done | omega)) only [vu,c2,c3,va,vg,vs,vw,Nat.reduceMul,ite_true,ite_false,eq_self,forall_const,implies_true,Nat.reduceAdd,Nat.reduceSub,Nat.reduceLT,Nat.reduceLeDiff,↓reduceIte,reduceCtorEq,Int.reduceEq,Int.reduceLT,Int.reduceLE,Int.reduceGT,Int.reduceGE,Int.reduceAdd,Int.reduceSub,Int.reduceNeg,Int.reduceToNat,Nat.reduceBEq,Nat.reduceEqDiff]
   refine callR_ret (hb true _) ?_
   simp -implicitDefEqProofs (maxSteps := 99999999) (disch := first | omega | (simp only [AHeap.set_length,killO_length,List.length_cons,List.length_nil]; first | done | omega)) only [vu,va,vg,vs,vw,Nat.reduceMul,ite_true,ite_false,eq_self,forall_const,implies_true,Nat.reduceAdd,Nat.reduceSub,Nat.reduceLT,Nat.reduceLeDiff,↓reduceIte,reduceCtorEq,Int.reduceEq,Int.reduceLT,Int.reduceLE,Int.reduceGT,Int.reduceGE,Int.reduceAdd,Int.reduceSub,Int.reduceNeg,Int.reduceToNat,Nat.reduceBEq,Nat.reduceEqDiff]
   exact over_s (.cons .refl) (by simp only [oneT,hr,c2,c3]; rfl)
  ·simp -implicitDefEqProofs (maxSteps := 99999999) (disch := first | omega | (simp only [AHeap.set_length,killO_length,List.length_cons,List.length_nil]; first | done | omega)) only [vu,c2,c3,va,vg,vs,vw,Nat.reduceMul,ite_true,ite_false,eq_self,forall_const,implies_true,Nat.reduceAdd,Nat.reduceSub,Nat.reduceLT,Nat.reduceLeDiff,↓reduceIte,reduceCtorEq,Int.reduceEq,Int.reduceLT,Int.reduceLE,Int.reduceGT,Int.reduceGE,Int.reduceAdd,Int.reduceSub,Int.reduceNeg,Int.reduceToNat,Nat.reduceBEq,Nat.reduceEqDiff]
   refine callR_ret (hb false _) ?_
   simp -implicitDefEqProofs (maxSteps := 99999999) (disch := first | omega | (simp only [AHeap.set_length,killO_length,List.length_cons,List.length_nil]; first | done | omega)) only [vu,va,vg,vs,vw,Nat.reduceMul,ite_true,ite_false,eq_self,forall_const,implies_true,Nat.reduceAdd,Nat.reduceSub,Nat.reduceLT,Nat.reduceLeDiff,↓reduceIte,reduceCtorEq,Int.reduceEq,Int.reduceLT,Int.reduceLE,Int.reduceGT,Int.reduceGE,Int.reduceAdd,Int.reduceSub,Int.reduceNeg,Int.reduceToNat,Nat.reduceBEq,Nat.reduceEqDiff]
   exact over_s (.cons .refl) (by simp only [oneT,hr,c2,c3]; rfl)
 by_cases c1 : v.kind = 1
 ·simp -implicitDefEqProofs (maxSteps := 99999999) (disch := first | omega | (simp only [AHeap.set_length,killO_length,List.length_cons,List.length_nil]; first | done | omega)) only [vu,c1,va,vg,vs,vw,Nat.reduceMul,ite_true,ite_false,eq_self,forall_const,implies_true,Nat.reduceAdd,Nat.reduceSub,Nat.reduceLT,Nat.reduceLeDiff,↓reduceIte,reduceCtorEq,Int.reduceEq,Int.reduceLT,Int.reduceLE,Int.reduceGT,Int.reduceGE,Int.reduceAdd,Int.reduceSub,Int.reduceNeg,Int.reduceToNat,Nat.reduceBEq,Nat.reduceEqDiff]
  refine callR_ret (fmtI_d v.num hv.1 _) ?_
  simp -implicitDefEqProofs (maxSteps := 99999999) (disch := first | omega | (simp only [AHeap.set_length,killO_length,List.length_cons,List.length_nil]; first | done | omega)) only [vu,va,vg,vs,vw,Nat.reduceMul,ite_true,ite_false,eq_self,forall_const,implies_true,Nat.reduceAdd,Nat.reduceSub,Nat.reduceLT,Nat.reduceLeDiff,↓reduceIte,reduceCtorEq,Int.reduceEq,Int.reduceLT,Int.reduceLE,Int.reduceGT,Int.reduceGE,Int.reduceAdd,Int.reduceSub,Int.reduceNeg,Int.reduceToNat,Nat.reduceBEq,Nat.reduceEqDiff]
  exact over_s (.cons .refl) (by simp only [oneT,hr,c1]; rfl)
 simp -implicitDefEqProofs (maxSteps := 99999999) (disch := first | omega | (simp only [AHeap.set_length,killO_length,List.length_cons,List.length_nil]; first | done | omega)) only [vu,c1,c2,va,vg,vs,vw,Nat.reduceMul,ite_true,ite_false,eq_self,forall_const,implies_true,Nat.reduceAdd,Nat.reduceSub,Nat.reduceLT,Nat.reduceLeDiff,↓reduceIte,reduceCtorEq,Int.reduceEq,Int.reduceLT,Int.reduceLE,Int.reduceGT,Int.reduceGE,Int.reduceAdd,Int.reduceSub,Int.reduceNeg,Int.reduceToNat,Nat.reduceBEq,Nat.reduceEqDiff]
 have hlen := right_row hr
 have hone : oneT v = ⟨#[91]⟩ ++ jn (txR v.row) ++ ⟨#[93]⟩ := by simp [oneT,hr,c1,c2]
 refine hL _ _ ?_
 clear hL
 refine ES_seq_gen fun L hL => ?_
 simp -implicitDefEqProofs (maxSteps := 99999999) (disch := first | omega | (simp only [AHeap.set_length,killO_length,List.length_cons,List.length_nil]; first | done | omega)) only [vu,va,vg,vs,vw,Nat.reduceMul,ite_true,ite_false,eq_self,forall_const,implies_true,Nat.reduceAdd,Nat.reduceSub,Nat.reduceLT,Nat.reduceLeDiff,↓reduceIte,reduceCtorEq,Int.reduceEq,Int.reduceLT,Int.reduceLE,Int.reduceGT,Int.reduceGE,Int.reduceAdd,Int.reduceSub,Int.reduceNeg,Int.reduceToNat,Nat.reduceBEq,Nat.reduceEqDiff]
 refine hL _ _ ?_
 clear hL
 refine ES_seq_gen fun L hL => ?_
 obtain ⟨F0,hF0⟩ : ∃ F0 : AHeap,F0 = some ⟨3,[AV.agg [.sc (.int .u8 v.kind),.sc (.int .i64 v.num),.lst 1 (lng v.row) ro]],true,25⟩ :: H := ⟨_,rfl⟩
 have hl0 : F0.length = H.length + 1 := by rw [hF0]; simp
 have hf0 : AHeap.find F0 H.length = some ⟨3,[AV.agg [.sc (.int .u8 v.kind),.sc (.int .i64 v.num),.lst 1 (lng v.row) ro]],true,25⟩ := by rw [hF0,AHeap.find_new]
 have hov : ∀ id,id < H.length → AHeap.find F0 id = AHeap.find H id := fun id hid => by rw [hF0,find_past hid]
 rw [← hF0]
 clear hF0
 simp -implicitDefEqProofs (maxSteps := 99999999) (disch := first | omega | (simp only [AHeap.set_length,killO_length,List.length_cons,List.length_nil]; first | done | omega)) only [vu,hf0,lng_length,va,vg,vs,vw,Nat.reduceMul,ite_true,ite_false,eq_self,forall_const,implies_true,Nat.reduceAdd,Nat.reduceSub,Nat.reduceLT,Nat.reduceLeDiff,↓reduceIte,reduceCtorEq,Int.reduceEq,Int.reduceLT,Int.reduceLE,Int.reduceGT,Int.reduceGE,Int.reduceAdd,Int.reduceSub,Int.reduceNeg,Int.reduceToNat,Nat.reduceBEq,Nat.reduceEqDiff]
 refine ES_loopL (fun ts F => ∃ k io : Nat,k ≤ v.row.length ∧ ((strs (txR (v.row.take k)) ≠ [] → AHeap.find F io = OwnB 1 9 (strs (txR (v.row.take k))) ∧ H.length ≤ io) ∧ (∀ id,id < H.length → AHeap.find F id = AHeap.find H id) ∧ H.length ≤ F.length) ∧ Fr [none,none,none,some (OwnV 1 (strs (txR (v.row.take k))) io),none,none,none,none,none,none,none,none,none,none,none,none,none,none,none,none,none,none,none,none,none,none,some (.lst 1 (lng v.row) ro),some (.sc (.int .i64 v.row.length)),some (.sc (.int .i64 k)),none,none,none,none,none,none,none,none,none,none,none,none,none] ts) (fun ts _ => v.row.length - (intV (ts.getD 28 .top)).toNat) ?_ ?_
 ·exact ⟨0,0,Nat.zero_le _,⟨fun h => absurd rfl h,hov,by omega⟩,by simp [Fr]; exact rfl⟩
 ·rintro ts F ⟨k,io,hk,⟨m1,m2,m3⟩,hfr⟩ L2 hL2
  obtain ⟨js,rfl⟩ := hfr.opened
  clear hfr
  have fo : strs (txR (v.row.take k)) ≠ [] → AHeap.find F io = OwnB 1 9 (strs (txR (v.row.take k))) := fun e => (m1 e).1
  have lo : (strs (txR (v.row.take k))).length = k := by rw [strs_length,txR_length,List.length_take]; omega
  by_cases h1 : k < v.row.length
  ·have h1' : (k : Int) < v.row.length := by omega
   obtain ⟨io1,G1,p1,p2,p3,p4,p5,p6⟩ := apAny (k := 1) (ty := 9) (ys := [AV.sc (.string (txI (nthQ v.row k)))]) fo (by rw [lo]; simp; omega)
   rw [txR_take h1] at p2 p4
   simp -implicitDefEqProofs (maxSteps := 99999999) (disch := first | omega | (simp only [AHeap.set_length,killO_length,List.length_cons,List.length_nil]; first | done | omega)) only [vu,mk,h1',lng_length,lng_getN h1,va,vg,vs,vw,Nat.reduceMul,ite_true,ite_false,eq_self,forall_const,implies_true,Nat.reduceAdd,Nat.reduceSub,Nat.reduceLT,Nat.reduceLeDiff,↓reduceIte,reduceCtorEq,Int.reduceEq,Int.reduceLT,Int.reduceLE,Int.reduceGT,Int.reduceGE,Int.reduceAdd,Int.reduceSub,Int.reduceNeg,Int.reduceToNat,Nat.reduceBEq,Nat.reduceEqDiff]
   refine ⟨by omega,callR_ret (fmtI_d _ (good_nth hv h1) _) ?_⟩
   rw [show (⟨(Lib.itoa (nthQ v.row k)).toArray⟩ : ByteArray) = txI (nthQ v.row k) from rfl]
   simp -implicitDefEqProofs (maxSteps := 99999999) (disch := first | omega | (simp only [AHeap.set_length,killO_length,List.length_cons,List.length_nil]; first | done | omega)) only [vu,p1,p2,p3,va,vg,vs,vw,Nat.reduceMul,ite_true,ite_false,eq_self,forall_const,implies_true,Nat.reduceAdd,Nat.reduceSub,Nat.reduceLT,Nat.reduceLeDiff,↓reduceIte,reduceCtorEq,Int.reduceEq,Int.reduceLT,Int.reduceLE,Int.reduceGT,Int.reduceGE,Int.reduceAdd,Int.reduceSub,Int.reduceNeg,Int.reduceToNat,Nat.reduceBEq,Nat.reduceEqDiff]
   exact hL2 _ _ ⟨k + 1,io1,by omega,⟨fun h => ⟨(p4 h).1,by have := (p4 h).2; omega⟩,fun id hid => by rw [p6 id (by omega) (fun e => by have := (m1 e).2; omega)]; exact m2 id hid,by omega⟩,by simp [Fr]⟩ (by simp [mk,intV]; omega)
  ·have h1' : ¬ (k : Int) < v.row.length := by omega
   have hkl : k = v.row.length := by omega
   subst hkl
   rw [List.take_length] at *
   simp -implicitDefEqProofs (maxSteps := 99999999) (disch := first | omega | (simp only [AHeap.set_length,killO_length,List.length_cons,List.length_nil]; first | done | omega)) only [vu,mk,h1',va,vg,vs,vw,Nat.reduceMul,ite_true,ite_false,eq_self,forall_const,implies_true,Nat.reduceAdd,Nat.reduceSub,Nat.reduceLT,Nat.reduceLeDiff,↓reduceIte,reduceCtorEq,Int.reduceEq,Int.reduceLT,Int.reduceLE,Int.reduceGT,Int.reduceGE,Int.reduceAdd,Int.reduceSub,Int.reduceNeg,Int.reduceToNat,Nat.reduceBEq,Nat.reduceEqDiff]
   refine hL _ _ ?_
   clear hL
   have hz := szL_txR hv.2.2
   have hjs := jn_size (txR v.row)
   have hj := joinT_d (txR v.row) ⟨#[32]⟩ (by rw [txR_length]; omega) (by show (jn (txR v.row)).size ≤ _; omega) []
   have hc : ∀ s : ByteArray,s.size ≤ 1000000 → fits (1 + s.size) = true := fun s h => fits_le (by omega)
   have f1 : fits ((⟨#[91]⟩ : ByteArray).size + (joinT (txR v.row) ⟨#[32]⟩).size) = true := fits_le (by show 1 + (jn (txR v.row)).size ≤ _; omega)
   have f2 : fits ((⟨#[91]⟩ ++ joinT (txR v.row) ⟨#[32]⟩ : ByteArray).size + (⟨#[93]⟩ : ByteArray).size) = true := fits_le (by
    rw [ByteArray.size_append]
    show 1 + (jn (txR v.row)).size + 1 ≤ _; omega)
   simp -implicitDefEqProofs (maxSteps := 99999999) (disch := first | omega | (simp only [AHeap.set_length,killO_length,List.length_cons,List.length_nil]; first | done | omega)) only [vu,va,vg,vs,vw,Nat.reduceMul,ite_true,ite_false,eq_self,forall_const,implies_true,Nat.reduceAdd,Nat.reduceSub,Nat.reduceLT,Nat.reduceLeDiff,↓reduceIte,reduceCtorEq,Int.reduceEq,Int.reduceLT,Int.reduceLE,Int.reduceGT,Int.reduceGE,Int.reduceAdd,Int.reduceSub,Int.reduceNeg,Int.reduceToNat,Nat.reduceBEq,Nat.reduceEqDiff]
   refine callR_ret (D_view (.cons (ViewL.own fo ViewL.scs) (.cons .sc .nil)) .sc hj) ?_
   simp -implicitDefEqProofs (maxSteps := 99999999) (disch := first | omega | (simp only [AHeap.set_length,killO_length,List.length_cons,List.length_nil]; first | done | omega)) only [vu,f1,f2,va,vg,vs,vw,Nat.reduceMul,ite_true,ite_false,eq_self,forall_const,implies_true,Nat.reduceAdd,Nat.reduceSub,Nat.reduceLT,Nat.reduceLeDiff,↓reduceIte,reduceCtorEq,Int.reduceEq,Int.reduceLT,Int.reduceLE,Int.reduceGT,Int.reduceGE,Int.reduceAdd,Int.reduceSub,Int.reduceNeg,Int.reduceToNat,Nat.reduceBEq,Nat.reduceEqDiff]
   rw [hone]
   exact weak_frz m2 (.same trivial)
end Go.Proofs.YtpnnpooeheiedaaDoor
