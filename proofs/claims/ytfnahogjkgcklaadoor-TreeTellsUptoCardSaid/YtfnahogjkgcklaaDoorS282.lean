/- TreeTells: the walk. -/
import Derived.Test.YtfnahogjkgcklaaDoorTJ
import Derived.Test.YtfnahogjkgcklaaDoorTI
import Derived.Test.YtfnahogjkgcklaaDoorTH
import Derived.Test.YtfnahogjkgcklaaDoorVE
namespace Go.Proofs.YtfnahogjkgcklaaDoor
open Go.RowKit
set_option maxRecDepth 100000
set_option linter.unusedVariables false
set_option linter.unusedSimpArgs false
theorem rightV_d {H : AHeap} {t : Nd} {a : Nat} (hz : t.size ≤ 1000000) (h : LntO H t a) : D Tryd.prog 16 [lntV t a] H (.ret (.sc (.bool (rightN t 40)))) H := by
 have hs := tright_d t none hz []
 rw [ndR_none] at hs
 exact D_view (.cons (lntV_view t h) .nil) .sc hs
theorem sizeV_d {H : AHeap} {t : Nd} {a : Nat} (hz : t.size ≤ 1000000) (h : LntO H t a) : D Tryd.prog 9 [lntV t a] H (.ret (.sc (.int .i64 t.size))) H := by
 have hs := size_d t hz []
 rw [ndR_none] at hs
 exact D_view (.cons (lntV_view t h) .nil) .sc hs
theorem sameV_d {H : AHeap} {t u : Nd} {a b : Nat} (hz : t.size ≤ 1000000) (h : LntO H t a) (k : LntO H u b) : D Tryd.prog 21 [lntV t a,lntV u b] H (.ret (.sc (.bool (sameN t u)))) H := by
 have hs := same_d t hz u none none []
 rw [ndR_none,ndR_none] at hs
 exact D_view (.cons (lntV_view t h) (.cons (lntV_view u k) .nil)) .sc hs
theorem sameVn_d {H : AHeap} {t : Nd} {a : Nat} (hz : t.size ≤ 1000000) (h : LntO H t a) : D Tryd.prog 21 [lntV t a,ndR t none] H (.ret (.sc (.bool true))) H := by
 have hs := same_d t hz t none none []
 rw [ndR_none,sameN_refl] at hs
 rw [ndR_none]
 exact D_view (.cons (lntV_view t h) (.cons (nd_view t) .nil)) .sc hs
theorem strs_op (xs : List ByteArray) : AV.opL (strs xs) = true := by
 induction xs with
 | nil => rfl
 | cons x r ih =>
  show AV.opL (AV.sc (.string x) :: strs r) = true
  simp only [AV.opL,AV.op,ih,Bool.and_self]
theorem strs_up (n : Nat) (xs : List ByteArray) : AV.upL n (strs xs) = strs xs := by
 induction xs with
 | nil => rfl
 | cons x r ih =>
  show AV.upL n (AV.sc (.string x) :: strs r) = AV.sc (.string x) :: strs r
  simp only [AV.upL,AV.up,ih]
theorem strs_view {G : AHeap} (xs : List ByteArray) : ViewL G (strs xs) (strs xs) := by
 induction xs with
 | nil => exact .nil
 | cons x r ih => exact .cons .sc ih
/-- Names of a lent list: a row of its own on top. -/
theorem namesV_d {H : AHeap} {l : List Nd} {a : Nat} (hz : Nd.wtL l ≤ 2000000) (hs : Nd.sizeL l ≤ 2000000) (h : LntR H l a) : ∃ (v : AV) (b : Option ABlk),D Tryd.prog 10 [lntS l.length a] H (.ret v) (b :: H) ∧ (v.isTop = false ∧ v.isAgg = false) ∧ ∀ G,Over (b :: H) G → View G v (.lst 1 (strs (uniqT (nmsL l))) none) := by
 have h1 := names_o l none hz hs []
 have hop : AHeap.op [nmB l] := fun id b hb => by
  unfold nmB at hb
  split at hb
  ·simp [AHeap.find] at hb
  ·have : id = 0 := by
    have := AHeap.find_lt hb
    simp at this
    omega
   subst this
   simp [AHeap.find] at hb
   subst hb
   exact strs_op _
 have hv : (nmV l ([] : AHeap).length).op = true := by unfold nmV; split <;> rfl
 have h2 := D_viewO (.cons (lntS_view h) .nil) hv hop h1
 refine ⟨_,_,h2,?_,?_⟩
 ·unfold nmV
  split <;> exact ⟨rfl,rfl⟩
 ·intro G hG
  unfold nmV
  by_cases e : nmsL l = []
  ·rw [if_pos e,e,uniqT_nil]
   exact .nil
  ·rw [if_neg e]
   have hul : uniqT (nmsL l) = ofL (Lib.compact (toL (srtL (nmsL l)))) := rfl
   have hcl := compact_le (toL (srtL (nmsL l)))
   have hf : AHeap.find G (H.length + 0) = some ⟨1,strs (ofL (cmpL (toL (srtL (nmsL l))))),false,9⟩ := by
    rw [Over.find hG (by simp),find_top (by omega)]
    unfold nmB
    rw [if_neg e]
    simp [ABlk.up,strs_up]
   show View G (.vec 1 (H.length + 0) 0 _ none) _
   refine .vec hf rfl (by rw [hul,strs_length,ofL_length,ofL_length,cmpL_length _ hcl,Nat.zero_add]; exact hcl) ?_
   have ht : ((strs (ofL (cmpL (toL (srtL (nmsL l)))))).drop 0).take (uniqT (nmsL l)).length = strs (uniqT (nmsL l)) := by
    rw [hul]
    simp [strs,ofL,cmpL,List.map_append,List.take_append]
   rw [ht]
   exact strs_view _
set_option maxHeartbeats 0 in
theorem treeTells_d (n m : Nd) (hz : n.wt + m.wt ≤ 1500000) : D Tryd.prog 5 [ndR n none,ndR m none] [] (.ret (.sc (.bool true))) [] := by
 have hsm := fun H => small_d [n,m] (some []) (by simp only [Nd.wtL]; omega) H
 rw [ndL_cons,ndL_cons,ndL_nil,ndA_eq,ndA_eq] at hsm
 rw [ndR_eq,ndR_eq]
 refine D_of_DK (Nat.le_refl _) (dk5 (E_of_ES ?_))
 simp only [ic5,ux]
 refine ES_seq_gen fun L hL => ?_
 simp -implicitDefEqProofs (maxSteps := 99999999) (disch := first | omega | (simp only [AHeap.set_length,killO_length,List.length_cons,List.length_nil]; first | done | omega)) only [vu,va,vg,vs,vw,Nat.reduceMul,ite_true,ite_false,eq_self,forall_const,implies_true,Nat.reduceAdd,Nat.reduceSub,Nat.reduceLT,Nat.reduceLeDiff,↓reduceIte,reduceCtorEq,Int.reduceEq,Int.reduceLT,Int.reduceLE,Int.reduceGT,Int.reduceGE,Int.reduceAdd,Int.reduceSub,Int.reduceNeg,Int.reduceToNat,Nat.reduceBEq,Nat.reduceEqDiff]
 refine hL _ _ ?_
 clear hL
 refine ES_seq_gen fun L hL => ?_
 simp -implicitDefEqProofs (maxSteps := 99999999) (disch := first | omega | (simp only [AHeap.set_length,killO_length,List.length_cons,List.length_nil]; first | done | omega)) only [vu,va,vg,vs,vw,Nat.reduceMul,ite_true,ite_false,eq_self,forall_const,implies_true,Nat.reduceAdd,Nat.reduceSub,Nat.reduceLT,Nat.reduceLeDiff,↓reduceIte,reduceCtorEq,Int.reduceEq,Int.reduceLT,Int.reduceLE,Int.reduceGT,Int.reduceGE,Int.reduceAdd,Int.reduceSub,Int.reduceNeg,Int.reduceToNat,Nat.reduceBEq,Nat.reduceEqDiff]
 refine callR_ret (awake6_d _) ?_
 simp -implicitDefEqProofs (maxSteps := 99999999) (disch := first | omega | (simp only [AHeap.set_length,killO_length,List.length_cons,List.length_nil]; first | done | omega)) only [vu,va,vg,vs,vw,Nat.reduceMul,ite_true,ite_false,eq_self,forall_const,implies_true,Nat.reduceAdd,Nat.reduceSub,Nat.reduceLT,Nat.reduceLeDiff,↓reduceIte,reduceCtorEq,Int.reduceEq,Int.reduceLT,Int.reduceLE,Int.reduceGT,Int.reduceGE,Int.reduceAdd,Int.reduceSub,Int.reduceNeg,Int.reduceToNat,Nat.reduceBEq,Nat.reduceEqDiff]
 refine hL _ _ ?_
 clear hL
 refine ES_seq_gen fun L hL => ?_
 simp -implicitDefEqProofs (maxSteps := 99999999) (disch := first | omega | (simp only [AHeap.set_length,killO_length,List.length_cons,List.length_nil]; first | done | omega)) only [vu,va,vg,vs,vw,Nat.reduceMul,ite_true,ite_false,eq_self,forall_const,implies_true,Nat.reduceAdd,Nat.reduceSub,Nat.reduceLT,Nat.reduceLeDiff,↓reduceIte,reduceCtorEq,Int.reduceEq,Int.reduceLT,Int.reduceLE,Int.reduceGT,Int.reduceGE,Int.reduceAdd,Int.reduceSub,Int.reduceNeg,Int.reduceToNat,Nat.reduceBEq,Nat.reduceEqDiff]
 refine callR_ret (hsm _) ?_
 cases hs : smallQ [n,m] with
 | false =>
  simp -implicitDefEqProofs (maxSteps := 99999999) (disch := first | omega | (simp only [AHeap.set_length,killO_length,List.length_cons,List.length_nil]; first | done | omega)) only [vu,va,vg,vs,vw,Nat.reduceMul,ite_true,ite_false,eq_self,forall_const,implies_true,Nat.reduceAdd,Nat.reduceSub,Nat.reduceLT,Nat.reduceLeDiff,↓reduceIte,reduceCtorEq,Int.reduceEq,Int.reduceLT,Int.reduceLE,Int.reduceGT,Int.reduceGE,Int.reduceAdd,Int.reduceSub,Int.reduceNeg,Int.reduceToNat,Nat.reduceBEq,Nat.reduceEqDiff]
  exact weak_sc (by repeat constructor)
 | true =>
  have hsz := small_size hs
  simp only [Nd.sizeL] at hsz
  simp -implicitDefEqProofs (maxSteps := 99999999) (disch := first | omega | (simp only [AHeap.set_length,killO_length,List.length_cons,List.length_nil]; first | done | omega)) only [vu,va,vg,vs,vw,Nat.reduceMul,ite_true,ite_false,eq_self,forall_const,implies_true,Nat.reduceAdd,Nat.reduceSub,Nat.reduceLT,Nat.reduceLeDiff,↓reduceIte,reduceCtorEq,Int.reduceEq,Int.reduceLT,Int.reduceLE,Int.reduceGT,Int.reduceGE,Int.reduceAdd,Int.reduceSub,Int.reduceNeg,Int.reduceToNat,Nat.reduceBEq,Nat.reduceEqDiff]
  refine hL _ _ ?_
  clear hL
  refine ES_seq_gen fun L hL => ?_
  simp -implicitDefEqProofs (maxSteps := 99999999) (disch := first | omega | (simp only [AHeap.set_length,killO_length,List.length_cons,List.length_nil]; first | done | omega)) only [vu,va,vg,vs,vw,Nat.reduceMul,ite_true,ite_false,eq_self,forall_const,implies_true,Nat.reduceAdd,Nat.reduceSub,Nat.reduceLT,Nat.reduceLeDiff,↓reduceIte,reduceCtorEq,Int.reduceEq,Int.reduceLT,Int.reduceLE,Int.reduceGT,Int.reduceGE,Int.reduceAdd,Int.reduceSub,Int.reduceNeg,Int.reduceToNat,Nat.reduceBEq,Nat.reduceEqDiff]
  obtain ⟨F,hF⟩ : ∃ F : AHeap,F = [some ⟨4,[.agg [.sc (.int .u8 m.kind),.sc (.string m.text),.sc (.int .i64 m.num),.lst 4 (ndL m.kids) none]],true,25⟩,some ⟨4,[.agg [.sc (.int .u8 n.kind),.sc (.string n.text),.sc (.int .i64 n.num),.lst 4 (ndL n.kids) none]],true,25⟩] := ⟨_,rfl⟩
  have f1 : AHeap.find F 0 = some ⟨4,[.agg [.sc (.int .u8 n.kind),.sc (.string n.text),.sc (.int .i64 n.num),.lst 4 (ndL n.kids) none]],true,25⟩ := by rw [hF]; rfl
  have f2 : AHeap.find F 1 = some ⟨4,[.agg [.sc (.int .u8 m.kind),.sc (.string m.text),.sc (.int .i64 m.num),.lst 4 (ndL m.kids) none]],true,25⟩ := by rw [hF]; rfl
  have hov : Over [] F := by rw [hF]; exact .cons (.cons .refl)
  have hFl : F.length = 2 := by rw [hF]; rfl
  rw [← hF]
  clear hF
  have eS : ∀ a,lntS [n,m].length a = .vec 4 a 0 2 (some 14) := fun _ => rfl
  have hln := lentNodes_d [n,m] (by simp only [Nd.sizeL]; omega) (some []) F
  rw [ndL_cons,ndL_cons,ndL_nil,ndA_eq,ndA_eq,eS] at hln
  refine callR_ret hln ?_
  clear hln
  obtain ⟨G,hG⟩ : ∃ G,lntBL [n,m] (F.length + 1) ++ (lntB1 (lntC [n,m] F.length) :: F) = G := ⟨_,rfl⟩
  have hR := lntR_lays (l := [n,m]) (H := F)
  rw [hG] at hR
  rw [hG]
  have hGl : F.length < G.length := by rw [← hG]; simp; omega
  have g1 : AHeap.find G 0 = some ⟨4,[.agg [.sc (.int .u8 n.kind),.sc (.string n.text),.sc (.int .i64 n.num),.lst 4 (ndL n.kids) none]],true,25⟩ := by rw [← hG,AHeap.find_append (by simp),find_past (by omega),f1]
  have g2 : AHeap.find G 1 = some ⟨4,[.agg [.sc (.int .u8 m.kind),.sc (.string m.text),.sc (.int .i64 m.num),.lst 4 (ndL m.kids) none]],true,25⟩ := by rw [← hG,AHeap.find_append (by simp [hFl]),find_past (by omega),f2]
  have hovG : Over [] G := by
   rw [← hG]
   have : ∀ (A B : AHeap),Over [] B → Over [] (A ++ B) := fun A B h => by
    induction A with
    | nil => exact h
    | cons x r ih => exact .cons ih
   exact this _ _ (.cons hov)
  clear hG f1 f2 hov
  obtain ⟨a,ha⟩ : ∃ a,F.length = a := ⟨_,rfl⟩
  rw [ha] at hR hGl ⊢
  have hrow := hR.row
  have hcl : (lntC [n,m] a).length = 14 := lntC_length
  have hg0 : (lntC [n,m] a).getD 0 .top = lntV n (a + 1) := lntC_get (l := [n,m]) (k := 0) (a := a) (by simp)
  have hg1 : (lntC [n,m] a).getD 1 .top = lntV m (a + 1 + n.size) := by
   have := lntC_get (l := [n,m]) (k := 1) (a := a) (by simp)
   simpa [nthN,Nd.sizeL] using this
  have hO1 : LntO G n (a + 1) := by
   have := hR.kids.at_ (k := 0) (by simp)
   simpa [nthN,Nd.sizeL] using this
  have hO2 : LntO G m (a + 1 + n.size) := by
   have := hR.kids.at_ (k := 1) (by simp)
   simpa [nthN,Nd.sizeL] using this
  obtain ⟨b,hb⟩ : ∃ b,a + 1 + n.size = b := ⟨_,rfl⟩
  rw [hb] at hg1 hO2
  obtain ⟨c,hc⟩ : ∃ c,a + 1 = c := ⟨_,rfl⟩
  rw [hc] at hg0 hO1
  have hk1 := fun K h => rightV_d (H := K) (t := n) (a := c) (by omega) h
  have hk2 := fun K h => sizeV_d (H := K) (t := n) (a := c) (by omega) h
  have hk3 := fun K h k => sameV_d (H := K) (t := n) (u := m) (a := c) (b := b) (by omega) h k
  have hk4 := fun K h => sameVn_d (H := K) (t := n) (a := c) (by omega) h
  have hr1 := fun K => rRight_d n none (by omega) K
  have hr2 := fun K => sizeR_d n none (by omega) K
  have hr3 := fun K => sameNode_d n (by omega) m none none K
  have hr4 := fun K => namesR_d [n,m] (by simp only [Nd.sizeL]; omega) (some []) K
  have hr5 := fun K h => keptNodes_d [n,m] (by simp only [Nd.sizeL]; omega) (some []) a K h
  rw [ndL_cons,ndL_cons,ndL_nil,ndA_eq,ndA_eq] at hr4 hr5
  rw [eS] at hr5
  rw [ndR_eq] at hk4 hr1 hr2 hr3
  rw [ndR_eq] at hr3
  rw [lntV_eq] at hk1 hk2 hk3 hk4 hg0 hg1
  rw [lntV_eq] at hk3
  simp -implicitDefEqProofs (maxSteps := 99999999) (disch := first | omega | (simp only [AHeap.set_length,killO_length,List.length_cons,List.length_nil]; first | done | omega)) only [vu,g1,g2,hrow,hcl,hg0,hg1,va,vg,vs,vw,Nat.reduceMul,ite_true,ite_false,eq_self,forall_const,implies_true,Nat.reduceAdd,Nat.reduceSub,Nat.reduceLT,Nat.reduceLeDiff,↓reduceIte,reduceCtorEq,Int.reduceEq,Int.reduceLT,Int.reduceLE,Int.reduceGT,Int.reduceGE,Int.reduceAdd,Int.reduceSub,Int.reduceNeg,Int.reduceToNat,Nat.reduceBEq,Nat.reduceEqDiff]
  refine hL _ _ ?_
  clear hL
  refine ES_seq_gen fun L hL => ?_
  simp -implicitDefEqProofs (maxSteps := 99999999) (disch := first | omega | (simp only [AHeap.set_length,killO_length,List.length_cons,List.length_nil]; first | done | omega)) only [vu,g1,g2,hrow,hcl,hg0,hg1,va,vg,vs,vw,Nat.reduceMul,ite_true,ite_false,eq_self,forall_const,implies_true,Nat.reduceAdd,Nat.reduceSub,Nat.reduceLT,Nat.reduceLeDiff,↓reduceIte,reduceCtorEq,Int.reduceEq,Int.reduceLT,Int.reduceLE,Int.reduceGT,Int.reduceGE,Int.reduceAdd,Int.reduceSub,Int.reduceNeg,Int.reduceToNat,Nat.reduceBEq,Nat.reduceEqDiff]
  refine callD_same (hk1 _ hO1) ?_
  simp -implicitDefEqProofs (maxSteps := 99999999) (disch := first | omega | (simp only [AHeap.set_length,killO_length,List.length_cons,List.length_nil]; first | done | omega)) only [vu,g1,g2,hrow,hcl,hg0,hg1,va,vg,vs,vw,Nat.reduceMul,ite_true,ite_false,eq_self,forall_const,implies_true,Nat.reduceAdd,Nat.reduceSub,Nat.reduceLT,Nat.reduceLeDiff,↓reduceIte,reduceCtorEq,Int.reduceEq,Int.reduceLT,Int.reduceLE,Int.reduceGT,Int.reduceGE,Int.reduceAdd,Int.reduceSub,Int.reduceNeg,Int.reduceToNat,Nat.reduceBEq,Nat.reduceEqDiff]
  refine callD_same (hr1 _) ?_
  simp -implicitDefEqProofs (maxSteps := 99999999) (disch := first | omega | (simp only [AHeap.set_length,killO_length,List.length_cons,List.length_nil]; first | done | omega)) only [vu,g1,g2,hrow,hcl,hg0,hg1,va,vg,vs,vw,Nat.reduceMul,ite_true,ite_false,eq_self,forall_const,implies_true,Nat.reduceAdd,Nat.reduceSub,Nat.reduceLT,Nat.reduceLeDiff,↓reduceIte,reduceCtorEq,Int.reduceEq,Int.reduceLT,Int.reduceLE,Int.reduceGT,Int.reduceGE,Int.reduceAdd,Int.reduceSub,Int.reduceNeg,Int.reduceToNat,Nat.reduceBEq,Nat.reduceEqDiff]
  refine callD_same (hk2 _ hO1) ?_
  simp -implicitDefEqProofs (maxSteps := 99999999) (disch := first | omega | (simp only [AHeap.set_length,killO_length,List.length_cons,List.length_nil]; first | done | omega)) only [vu,g1,g2,hrow,hcl,hg0,hg1,va,vg,vs,vw,Nat.reduceMul,ite_true,ite_false,eq_self,forall_const,implies_true,Nat.reduceAdd,Nat.reduceSub,Nat.reduceLT,Nat.reduceLeDiff,↓reduceIte,reduceCtorEq,Int.reduceEq,Int.reduceLT,Int.reduceLE,Int.reduceGT,Int.reduceGE,Int.reduceAdd,Int.reduceSub,Int.reduceNeg,Int.reduceToNat,Nat.reduceBEq,Nat.reduceEqDiff]
  refine callD_same (hr2 _) ?_
  simp -implicitDefEqProofs (maxSteps := 99999999) (disch := first | omega | (simp only [AHeap.set_length,killO_length,List.length_cons,List.length_nil]; first | done | omega)) only [vu,g1,g2,hrow,hcl,hg0,hg1,va,vg,vs,vw,Nat.reduceMul,ite_true,ite_false,eq_self,forall_const,implies_true,Nat.reduceAdd,Nat.reduceSub,Nat.reduceLT,Nat.reduceLeDiff,↓reduceIte,reduceCtorEq,Int.reduceEq,Int.reduceLT,Int.reduceLE,Int.reduceGT,Int.reduceGE,Int.reduceAdd,Int.reduceSub,Int.reduceNeg,Int.reduceToNat,Nat.reduceBEq,Nat.reduceEqDiff]
  obtain ⟨nv,nb,hn1,⟨hn2,hn4⟩,hn3⟩ := namesV_d (l := [n,m]) (by simp only [Nd.wtL]; omega) (by simp only [Nd.sizeL]; omega) hR
  rw [eS] at hn1
  refine callD_ret hn1 (chS_grow (G := [nb]) (by simp; omega)) ?_
  simp -implicitDefEqProofs (maxSteps := 99999999) (disch := first | omega | (simp only [AHeap.set_length,killO_length,List.length_cons,List.length_nil]; first | done | omega)) only [vu,g1,g2,hrow,hcl,hg0,hg1,hn2,hn4,va,vg,vs,vw,Nat.reduceMul,ite_true,ite_false,eq_self,forall_const,implies_true,Nat.reduceAdd,Nat.reduceSub,Nat.reduceLT,Nat.reduceLeDiff,↓reduceIte,reduceCtorEq,Int.reduceEq,Int.reduceLT,Int.reduceLE,Int.reduceGT,Int.reduceGE,Int.reduceAdd,Int.reduceSub,Int.reduceNeg,Int.reduceToNat,Nat.reduceBEq,Nat.reduceEqDiff]
  refine callD_same (hr4 _) ?_
  simp -implicitDefEqProofs (maxSteps := 99999999) (disch := first | omega | (simp only [AHeap.set_length,killO_length,List.length_cons,List.length_nil]; first | done | omega)) only [vu,g1,g2,hrow,hcl,hg0,hg1,hn2,hn4,va,vg,vs,vw,Nat.reduceMul,ite_true,ite_false,eq_self,forall_const,implies_true,Nat.reduceAdd,Nat.reduceSub,Nat.reduceLT,Nat.reduceLeDiff,↓reduceIte,reduceCtorEq,Int.reduceEq,Int.reduceLT,Int.reduceLE,Int.reduceGT,Int.reduceGE,Int.reduceAdd,Int.reduceSub,Int.reduceNeg,Int.reduceToNat,Nat.reduceBEq,Nat.reduceEqDiff]
  have hUl : (uniqT (nmsL [n,m])).length ≤ 100000000 := by
   have h1 := uniqT_le (a := nmsL [n,m]) (b := nmsL [n,m]) fun _ h => h
   have h2 := nmsL_len [n,m]
   simp only [Nd.sizeL] at h2
   omega
  have hst : D Tryd.prog 19 [nv,.lst 1 (strs (uniqT (nmsL [n,m]))) none] (nb :: G) (.ret (.sc (.bool true))) (nb :: G) := by
   have h := sameTexts_d (uniqT (nmsL [n,m])) (uniqT (nmsL [n,m])) none none [] hUl
   rw [decide_eq_true rfl] at h
   exact D_view (.cons (hn3 _ .refl) (.cons (.lst (strs_view _)) .nil)) .sc h
  have hO1' := hO1.over (G := nb :: G) (.cons .refl)
  have hO2' := hO2.over (G := nb :: G) (.cons .refl)
  have hR' := hR.over (G := nb :: G) (.cons .refl)
  refine callD_same hst ?_
  simp -implicitDefEqProofs (maxSteps := 99999999) (disch := first | omega | (simp only [AHeap.set_length,killO_length,List.length_cons,List.length_nil]; first | done | omega)) only [vu,g1,g2,hrow,hcl,hg0,hg1,hn2,hn4,va,vg,vs,vw,Nat.reduceMul,ite_true,ite_false,eq_self,forall_const,implies_true,Nat.reduceAdd,Nat.reduceSub,Nat.reduceLT,Nat.reduceLeDiff,↓reduceIte,reduceCtorEq,Int.reduceEq,Int.reduceLT,Int.reduceLE,Int.reduceGT,Int.reduceGE,Int.reduceAdd,Int.reduceSub,Int.reduceNeg,Int.reduceToNat,Nat.reduceBEq,Nat.reduceEqDiff]
  refine callD_same (hk3 _ hO1' hO2') ?_
  simp -implicitDefEqProofs (maxSteps := 99999999) (disch := first | omega | (simp only [AHeap.set_length,killO_length,List.length_cons,List.length_nil]; first | done | omega)) only [vu,g1,g2,hrow,hcl,hg0,hg1,hn2,hn4,va,vg,vs,vw,Nat.reduceMul,ite_true,ite_false,eq_self,forall_const,implies_true,Nat.reduceAdd,Nat.reduceSub,Nat.reduceLT,Nat.reduceLeDiff,↓reduceIte,reduceCtorEq,Int.reduceEq,Int.reduceLT,Int.reduceLE,Int.reduceGT,Int.reduceGE,Int.reduceAdd,Int.reduceSub,Int.reduceNeg,Int.reduceToNat,Nat.reduceBEq,Nat.reduceEqDiff]
  refine callD_same (hr3 _) ?_
  simp -implicitDefEqProofs (maxSteps := 99999999) (disch := first | omega | (simp only [AHeap.set_length,killO_length,List.length_cons,List.length_nil]; first | done | omega)) only [vu,g1,g2,hrow,hcl,hg0,hg1,hn2,hn4,va,vg,vs,vw,Nat.reduceMul,ite_true,ite_false,eq_self,forall_const,implies_true,Nat.reduceAdd,Nat.reduceSub,Nat.reduceLT,Nat.reduceLeDiff,↓reduceIte,reduceCtorEq,Int.reduceEq,Int.reduceLT,Int.reduceLE,Int.reduceGT,Int.reduceGE,Int.reduceAdd,Int.reduceSub,Int.reduceNeg,Int.reduceToNat,Nat.reduceBEq,Nat.reduceEqDiff]
  refine callD_same (hk4 _ hO1') ?_
  simp -implicitDefEqProofs (maxSteps := 99999999) (disch := first | omega | (simp only [AHeap.set_length,killO_length,List.length_cons,List.length_nil]; first | done | omega)) only [vu,g1,g2,hrow,hcl,hg0,hg1,hn2,hn4,va,vg,vs,vw,Nat.reduceMul,ite_true,ite_false,eq_self,forall_const,implies_true,Nat.reduceAdd,Nat.reduceSub,Nat.reduceLT,Nat.reduceLeDiff,↓reduceIte,reduceCtorEq,Int.reduceEq,Int.reduceLT,Int.reduceLE,Int.reduceGT,Int.reduceGE,Int.reduceAdd,Int.reduceSub,Int.reduceNeg,Int.reduceToNat,Nat.reduceBEq,Nat.reduceEqDiff]
  refine hL _ _ ?_
  clear hL
  simp -implicitDefEqProofs (maxSteps := 99999999) (disch := first | omega | (simp only [AHeap.set_length,killO_length,List.length_cons,List.length_nil]; first | done | omega)) only [vu,g1,g2,hrow,hcl,hg0,hg1,hn2,hn4,va,vg,vs,vw,Nat.reduceMul,ite_true,ite_false,eq_self,forall_const,implies_true,Nat.reduceAdd,Nat.reduceSub,Nat.reduceLT,Nat.reduceLeDiff,↓reduceIte,reduceCtorEq,Int.reduceEq,Int.reduceLT,Int.reduceLE,Int.reduceGT,Int.reduceGE,Int.reduceAdd,Int.reduceSub,Int.reduceNeg,Int.reduceToNat,Nat.reduceBEq,Nat.reduceEqDiff]
  refine callR_ret (hr5 _ hR') ?_
  simp -implicitDefEqProofs (maxSteps := 99999999) (disch := first | omega | (simp only [AHeap.set_length,killO_length,List.length_cons,List.length_nil]; first | done | omega)) only [vu,va,vg,vs,vw,Nat.reduceMul,ite_true,ite_false,eq_self,forall_const,implies_true,Nat.reduceAdd,Nat.reduceSub,Nat.reduceLT,Nat.reduceLeDiff,↓reduceIte,reduceCtorEq,Int.reduceEq,Int.reduceLT,Int.reduceLE,Int.reduceGT,Int.reduceGE,Int.reduceAdd,Int.reduceSub,Int.reduceNeg,Int.reduceToNat,Nat.reduceBEq,Nat.reduceEqDiff]
  exact weak_sc (.cons hovG)
end Go.Proofs.YtfnahogjkgcklaaDoor
