/- ApartTexts and ApartHunks tell true of own rows that lie apart. -/
import Derived.Test.YtigmpablpmanpaaDoorS48
namespace Go.Proofs.YtigmpablpmanpaaDoor
open Go.RowKit
set_option maxRecDepth 100000
set_option linter.unusedVariables false
set_option linter.unusedSimpArgs false
theorem OwnsOK.keep {s : Shape} {H G : AHeap} {os : List ORow} (h : OwnsOK s H os) (hk : ∀ i,i ∈ ownIds os → AHeap.find G i = AHeap.find H i) : OwnsOK s G os :=
 ⟨fun k hk' hn => (hk _ (mem_ownIds hk' hn)).trans (h.blk k hk' hn),h.shape,h.apart,h.small⟩
theorem OwnsOK.lt {s : Shape} {H : AHeap} {os : List ORow} (h : OwnsOK s H os) : ∀ i ∈ ownIds os,i < H.length := fun i hi => by
 obtain ⟨k,hk,hn,rfl⟩ := of_mem_ownIds hi
 have := h.blk k hk hn
 rw [OwnB_ne hn] at this
 exact AHeap.find_lt this
theorem ownRows_get {k : Nat} {os : List ORow} {i : Nat} (h : i < os.length) : (ownRows k os).getD i .top = OwnV k (nthO os i).1 (nthO os i).2 := by
 simp [ownRows,nthO,List.getD,h]
theorem ownRows_ne {k : Nat} {os : List ORow} : ownRows k os ≠ [] ↔ os ≠ [] := by cases os <;> simp [ownRows]
/-- Rows of hunks: hunks, and where they lie. -/
abbrev HRows := List (List HRow × Nat)
def hosOf (hl : HRows) : List ORow := hl.map fun r => (hks3 r.1,r.2)
def tosOf (hl : HRows) : List ORow := hl.flatMap fun r => txs3 r.1
theorem hosOf_length {hl : HRows} : (hosOf hl).length = hl.length := by simp [hosOf]
def nthHR (hl : HRows) (k : Nat) : List HRow × Nat := hl.getD k ([],0)
theorem takeHR {hl : HRows} {k : Nat} (h : k < hl.length) : hl.take (k + 1) = hl.take k ++ [nthHR hl k] := by
 have e : nthHR hl k = hl[k] := by simp [nthHR,List.getD,h]
 rw [List.take_add_one,List.getElem?_eq_getElem h,e]
 rfl
theorem hosOf_append {a b : HRows} : hosOf (a ++ b) = hosOf a ++ hosOf b := by simp [hosOf]
theorem tosOf_append {a b : HRows} : tosOf (a ++ b) = tosOf a ++ tosOf b := by simp [tosOf]
theorem hosOf_nth {hl : HRows} {k : Nat} (h : k < hl.length) : nthO (hosOf hl) k = (hks3 (nthHR hl k).1,(nthHR hl k).2) := by simp [nthO,hosOf,nthHR,List.getD,h]
theorem ownRows_ids {k : Nat} {p : Nat → Prop} : ∀ {os : List ORow},(∀ o ∈ os,o.1 ≠ [] → p o.2) → AV.idsL p (ownRows k os)
 | [],_ => trivial
 | o :: r,h => ⟨OwnV_ids (h o (by simp)),ownRows_ids (fun o' h' => h o' (by simp [h']))⟩
theorem OwnsOK.memlt {s : Shape} {H : AHeap} {os : List ORow} (h : OwnsOK s H os) : ∀ o ∈ os,o.1 ≠ [] → o.2 < H.length := fun o ho hn => by
 obtain ⟨k,hk,e⟩ := List.getElem_of_mem ho
 have e2 : nthO os k = o := by simp [nthO,List.getD,hk,e]
 have := h.lt _ (mem_ownIds hk (by rw [e2]; exact hn))
 rwa [e2] at this
set_option maxHeartbeats 0 in
theorem apartHunks_d (H : AHeap) (hl : HRows) (ro : Option (List AV)) (okT : OwnsOK shT H (tosOf hl)) (okH : OwnsOK shH H (hosOf hl)) (hx : ∀ i,i ∈ ownIds (hosOf hl) → i ∉ ownIds (tosOf hl)) (hlen : hl.length ≤ 1000000) (hlt : (tosOf hl).length ≤ 1000000) :
  D Tryd.prog 17 [.lst 1 (ownRows 3 (hosOf hl)) ro] H (.ret (.sc (.bool true))) (killIds (ownIds (hosOf hl) ++ ownIds (tosOf hl)) H) := by
 refine D_of_DK (by rw [killIds_length]; exact Nat.le_refl _) (dk17 (E_of_ES ?_))
 have hol : (ownRows 3 (hosOf hl)).length = hl.length := by rw [ownRows_length,hosOf_length]
 have hT := okT.memlt
 have hH := okH.memlt
 simp -implicitDefEqProofs (maxSteps := 99999999) (disch := first | omega | (simp only [AHeap.set_length,killO_length,List.length_cons,List.length_nil]; first | done | omega)) only [ic17,va,vg,vs,vw,Nat.reduceMul,ite_true,ite_false,eq_self,forall_const,implies_true,Nat.reduceAdd,Nat.reduceSub,Nat.reduceLT,Nat.reduceLeDiff,↓reduceIte,reduceCtorEq,Int.reduceEq,Int.reduceLT,Int.reduceLE,Int.reduceGT,Int.reduceGE,Int.reduceAdd,Int.reduceSub,Int.reduceNeg,Int.reduceToNat,Nat.reduceBEq,Nat.reduceEqDiff]
 refine ES_loopL (fun ts G => ∃ (k it ih : Nat),(k ≤ hl.length ∧ H.length + 1 ≤ G.length ∧ AHeap.find G H.length = some (bagB (OwnV 1 (ownRows 1 (tosOf (hl.take k))) it) (OwnV 1 (ownRows 3 (hosOf (hl.take k))) ih)) ∧ (ownRows 1 (tosOf (hl.take k)) ≠ [] → AHeap.find G it = OwnB 1 tT (ownRows 1 (tosOf (hl.take k)))) ∧ (ownRows 3 (hosOf (hl.take k)) ≠ [] → AHeap.find G ih = OwnB 1 tH (ownRows 3 (hosOf (hl.take k)))) ∧
   (H.length < it ∧ H.length < ih ∧ (ownRows 1 (tosOf (hl.take k)) ≠ [] → it < G.length ∧ it ≠ ih)) ∧ ∀ i,i < H.length → AHeap.find G i = AHeap.find H i) ∧ Fr [some (.lst 1 (ownRows 3 (hosOf hl)) ro),none,some (.sc (.bool false)),some (.ptr 21 H.length 0 0),some (.sc (.int .i64 k)),none,none,none,none,none,none,none,none,none,none,none,none,none,none,none,none] ts) (fun ts _ => hl.length - (intV (ts.getD 4 .top)).toNat) ?_ ?_
 ·refine ⟨0,H.length + 1,H.length + 2,⟨Nat.zero_le _,by simp,?_,fun h => (h rfl).elim,fun h => (h rfl).elim,⟨by omega,by omega,fun h => (h rfl).elim⟩,fun i hi => ?_⟩,by simp [Fr]⟩
  ·rw [List.take_zero]
   simp -implicitDefEqProofs (maxSteps := 99999999) (disch := first | omega | (simp only [AHeap.set_length,killO_length,List.length_cons,List.length_nil]; first | done | omega)) only [va,vg,vs,vw,Nat.reduceMul,ite_true,ite_false,eq_self,forall_const,implies_true,Nat.reduceAdd,Nat.reduceSub,Nat.reduceLT,Nat.reduceLeDiff,↓reduceIte,reduceCtorEq,Int.reduceEq,Int.reduceLT,Int.reduceLE,Int.reduceGT,Int.reduceGE,Int.reduceAdd,Int.reduceSub,Int.reduceNeg,Int.reduceToNat,Nat.reduceBEq,Nat.reduceEqDiff]
   rfl
  ·simp -implicitDefEqProofs (maxSteps := 99999999) (disch := first | omega | (simp only [AHeap.set_length,killO_length,List.length_cons,List.length_nil]; first | done | omega)) only [va,vg,vs,vw,Nat.reduceMul,ite_true,ite_false,eq_self,forall_const,implies_true,Nat.reduceAdd,Nat.reduceSub,Nat.reduceLT,Nat.reduceLeDiff,↓reduceIte,reduceCtorEq,Int.reduceEq,Int.reduceLT,Int.reduceLE,Int.reduceGT,Int.reduceGE,Int.reduceAdd,Int.reduceSub,Int.reduceNeg,Int.reduceToNat,Nat.reduceBEq,Nat.reduceEqDiff]
 rintro ts G ⟨k,it,ih,⟨hk,q1,q2,q3,q4,⟨q5,q6,q78⟩,q9⟩,hfr⟩ L2 hL2
 obtain ⟨js,rfl⟩ := hfr.opened
 clear hfr
 simp -implicitDefEqProofs (maxSteps := 99999999) (disch := first | omega | (simp only [AHeap.set_length,killO_length,List.length_cons,List.length_nil]; first | done | omega)) only [mk,hol,va,vg,vs,vw,Nat.reduceMul,ite_true,ite_false,eq_self,forall_const,implies_true,Nat.reduceAdd,Nat.reduceSub,Nat.reduceLT,Nat.reduceLeDiff,↓reduceIte,reduceCtorEq,Int.reduceEq,Int.reduceLT,Int.reduceLE,Int.reduceGT,Int.reduceGE,Int.reduceAdd,Int.reduceSub,Int.reduceNeg,Int.reduceToNat,Nat.reduceBEq,Nat.reduceEqDiff]
 refine condR_if (fun h => ?_) (fun h => ?_)
 ·have h1 : k < hl.length := by omega
  have h1' : k < (hosOf hl).length := by rw [hosOf_length]; exact h1
  have hg := ownRows_get (k := 3) h1'
  rw [hosOf_nth h1] at hg
  have k0 : (0 : Int) ≤ (k : Int) := by omega
  have k1 : (k : Int) < hl.length := by omega
  simp -implicitDefEqProofs (maxSteps := 99999999) (disch := first | omega | (simp only [AHeap.set_length,killO_length,List.length_cons,List.length_nil]; first | done | omega)) only [hg,hol,h1,k0,k1,va,vg,vs,vw,Nat.reduceMul,ite_true,ite_false,eq_self,forall_const,implies_true,Nat.reduceAdd,Nat.reduceSub,Nat.reduceLT,Nat.reduceLeDiff,↓reduceIte,reduceCtorEq,Int.reduceEq,Int.reduceLT,Int.reduceLE,Int.reduceGT,Int.reduceGE,Int.reduceAdd,Int.reduceSub,Int.reduceNeg,Int.reduceToNat,Nat.reduceBEq,Nat.reduceEqDiff]
  have hbG := AHeap.find_lt q2
  have eH : ownRows 3 (hosOf (hl.take (k + 1))) = ownRows 3 (hosOf (hl.take k)) ++ [OwnV 3 (hks3 (nthHR hl k).1) (nthHR hl k).2] := by
   rw [takeHR h1,hosOf_append,ownRows_append]; rfl
  have eT : ownRows 1 (tosOf (hl.take (k + 1))) = ownRows 1 (tosOf (hl.take k)) ++ ownRows 1 (txs3 (nthHR hl k).1) := by
   rw [takeHR h1,tosOf_append,ownRows_append]; simp [tosOf]
  have hl1 : (hosOf (hl.take k)).length ≤ 1000000 := by rw [hosOf_length,List.length_take]; omega
  have hl2 : (ownRows 1 (tosOf (hl.take k))).length + 2 * (nthHR hl k).1.length ≤ 1000000 := by
   have e1 : (tosOf (hl.take (k + 1))).length ≤ (tosOf hl).length := by
    conv => rhs; rw [← List.take_append_drop (k + 1) hl,tosOf_append,List.length_append]
    omega
   have e2 := congrArg List.length eT
   rw [List.length_append,ownRows_length,ownRows_length,ownRows_length,txs3_length] at e2
   rw [ownRows_length]
   omega
  by_cases e : (nthHR hl k).1 = []
  ·have eH' : ownRows 3 (hosOf (hl.take k)) ++ [nilA] = ownRows 3 (hosOf (hl.take (k + 1))) := by rw [eH,e]; rfl
   have eT' : tosOf (hl.take k) = tosOf (hl.take (k + 1)) := by rw [takeHR h1,tosOf_append]; simp [tosOf,e,txs3]
   rw [e,show hks3 [] = [] from rfl,OwnV_nil]
   refine callR_ret (putHunks_nil G H.length ih _ (ownRows 3 (hosOf (hl.take k))) q2 q4 (by omega) (by rw [ownRows_length]; exact hl1)) ?_
   rw [eH',eT']
   rw [eT'] at q3
   simp -implicitDefEqProofs (maxSteps := 99999999) (disch := first | omega | (simp only [AHeap.set_length,killO_length,List.length_cons,List.length_nil]; first | done | omega)) only [va,vg,vs,vw,Nat.reduceMul,ite_true,ite_false,eq_self,forall_const,implies_true,Nat.reduceAdd,Nat.reduceSub,Nat.reduceLT,Nat.reduceLeDiff,↓reduceIte,reduceCtorEq,Int.reduceEq,Int.reduceLT,Int.reduceLE,Int.reduceGT,Int.reduceGE,Int.reduceAdd,Int.reduceSub,Int.reduceNeg,Int.reduceToNat,Nat.reduceBEq,Nat.reduceEqDiff]
   refine hL2 _ _ ⟨k + 1,it,G.length,⟨by omega,by simp [AHeap.set_length,killO_length]; omega,?_,fun hh => ?_,fun _ => ?_,⟨by omega,by omega,fun hh => ?_⟩,fun i hi => ?_⟩,by simp [Fr]⟩ (by simp [intV,mk]; omega)
   ·rw [find_past (by simp [AHeap.set_length,killO_length]; exact hbG),AHeap.find_set_same (by rw [killO_length]; exact hbG)]
   ·obtain ⟨q7,q8⟩ := q78 (by rw [eT']; exact hh)
    rw [find_past (by simp [AHeap.set_length,killO_length]; omega),AHeap.find_set_ne (by omega),find_killO_other (fun _ => q8)]
    exact q3 hh
   ·rw [find_top (by simp [AHeap.set_length,killO_length])]
   ·obtain ⟨q7,q8⟩ := q78 (by rw [eT']; exact hh)
    exact ⟨by simp [AHeap.set_length,killO_length]; omega,by omega⟩
   ·rw [find_past (by simp [AHeap.set_length,killO_length]; omega),AHeap.find_set_ne (by omega),find_killO_other (fun _ => by omega)]
    exact q9 i hi
  ·have hne : hks3 (nthHR hl k).1 ≠ [] := fun h => e (by simpa [hks3] using h)
   have hrow := okH.blk k h1' (by rw [hosOf_nth h1]; exact hne)
   rw [hosOf_nth h1,OwnB_ne hne] at hrow
   have hidl := AHeap.find_lt hrow
   have hm : ∀ x ∈ (nthHR hl k).1,(strs x.1.old,x.2.1) ∈ tosOf hl ∧ (strs x.1.new,x.2.2) ∈ tosOf hl := fun x hx => by
    have hr : nthHR hl k ∈ hl := by
     unfold nthHR
     rw [List.getD_eq_getElem?_getD,List.getElem?_eq_getElem h1]
     exact List.getElem_mem h1
    exact ⟨List.mem_flatMap.2 ⟨_,hr,List.mem_flatMap.2 ⟨x,hx,by simp⟩⟩,List.mem_flatMap.2 ⟨_,hr,List.mem_flatMap.2 ⟨x,hx,by simp⟩⟩⟩
   have tsub : ∀ o ∈ tosOf (hl.take k),o ∈ tosOf hl := fun o ho => by
    obtain ⟨r,h1,h2⟩ := List.mem_flatMap.1 ho
    exact List.mem_flatMap.2 ⟨r,List.mem_of_mem_take h1,h2⟩
   have hsub : ∀ o ∈ hosOf (hl.take k),o ∈ hosOf hl := fun o ho => by
    obtain ⟨r,h1,h2⟩ := List.mem_map.1 ho
    exact List.mem_map.2 ⟨r,List.mem_of_mem_take h1,h2⟩
   refine callR_ret (putHunks_d G H.length it ih (ownRows 1 (tosOf (hl.take k))) (ownRows 3 (hosOf (hl.take k))) (nthHR hl k).1 (nthHR hl k).2 q2 q3 q4 (by omega) (by omega) (fun h _ => (q78 h).2) e ((q9 _ hidl).trans hrow) (by omega) (fun _ => by omega) (fun _ => by omega) ⟨by omega,by rw [ownRows_length]; exact hl1⟩
    (ownRows_ids fun o ho hn => by have := hT o (tsub o ho) hn; omega) (ownRows_ids fun o ho hn => by have := hH o (hsub o ho) hn; omega) (fun x hx => ⟨fun hn => by have := hT _ (hm x hx).1 (strs_ne hn); simp only at this; omega,fun hn => by have := hT _ (hm x hx).2 (strs_ne hn); simp only at this; omega⟩)) ?_
   rw [← eH,← eT]
   simp -implicitDefEqProofs (maxSteps := 99999999) (disch := first | omega | (simp only [AHeap.set_length,killO_length,List.length_cons,List.length_nil]; first | done | omega)) only [va,vg,vs,vw,Nat.reduceMul,ite_true,ite_false,eq_self,forall_const,implies_true,Nat.reduceAdd,Nat.reduceSub,Nat.reduceLT,Nat.reduceLeDiff,↓reduceIte,reduceCtorEq,Int.reduceEq,Int.reduceLT,Int.reduceLE,Int.reduceGT,Int.reduceGE,Int.reduceAdd,Int.reduceSub,Int.reduceNeg,Int.reduceToNat,Nat.reduceBEq,Nat.reduceEqDiff]
   refine hL2 _ _ ⟨k + 1,G.length + 1,G.length,⟨by omega,by simp [AHeap.set_length,killO_length]; omega,?_,fun hh => ?_,fun _ => ?_,⟨by omega,by omega,fun _ => ⟨by simp [AHeap.set_length,killO_length],by omega⟩⟩,fun i hi => ?_⟩,by simp [Fr]⟩ (by simp [intV,mk]; omega)
   ·rw [find_past (by simp [AHeap.set_length,killO_length]; omega),find_past (by simp [AHeap.set_length,killO_length]; exact hbG),AHeap.find_set_same (by rw [killO_length,killO_length]; exact hbG)]
   ·rw [find_top (by simp [AHeap.set_length,killO_length])]
   ·rw [find_past (by simp [AHeap.set_length,killO_length]),find_top (by simp [AHeap.set_length,killO_length])]
   ·rw [find_past (by simp [AHeap.set_length,killO_length]; omega),find_past (by simp [AHeap.set_length,killO_length]; omega),AHeap.find_set_ne (by omega),find_killO_other (fun _ => by omega),find_killO_other (fun _ => by omega)]
    exact q9 i hi
 ·have hkl : k = hl.length := by omega
  subst hkl
  rw [List.take_length] at q2 q3 q4
  simp -implicitDefEqProofs (maxSteps := 99999999) (disch := first | omega | (simp only [AHeap.set_length,killO_length,List.length_cons,List.length_nil]; first | done | omega)) only [va,vg,vs,vw,Nat.reduceMul,ite_true,ite_false,eq_self,forall_const,implies_true,Nat.reduceAdd,Nat.reduceSub,Nat.reduceLT,Nat.reduceLeDiff,↓reduceIte,reduceCtorEq,Int.reduceEq,Int.reduceLT,Int.reduceLE,Int.reduceGT,Int.reduceGE,Int.reduceAdd,Int.reduceSub,Int.reduceNeg,Int.reduceToNat,Nat.reduceBEq,Nat.reduceEqDiff]
  have hidT := okT.lt
  have hidH := okH.lt
  have ngT : ∀ i,i < H.length → i ∉ ownIds (tosOf hl) → i ∉ gone (tosOf hl) it := fun i hi h1 h2 => by
   rcases mem_gone h2 with ⟨_,e⟩ | e
   ·omega
   ·exact h1 e
  have ngH : ∀ i,i < H.length → i ∉ ownIds (hosOf hl) → i ∉ gone (hosOf hl) ih := fun i hi h1 h2 => by
   rcases mem_gone h2 with ⟨_,e⟩ | e
   ·omega
   ·exact h1 e
  refine callR_ret (apart_d G H.length it ih (tosOf hl) (hosOf hl) q2 (fun h => q3 (ownRows_ne.2 h)) (fun h => q4 (ownRows_ne.2 h)) (okT.keep fun i hi => q9 i (hidT i hi)) (okH.keep fun i hi => q9 i (hidH i hi)) (fun h => by have := hidT _ h; omega) (fun h => by have := hidH _ h; omega) (fun h => ?_) (fun h => ?_) (fun h0 h => ?_) (fun i hi => ngT i (hidH i hi) (hx i hi)) ⟨hlt,by rw [hosOf_length]; exact hlen⟩) ?_
  ·rcases mem_gone h with ⟨_,e⟩ | e
   ·omega
   ·have := hidT _ e; omega
  ·rcases mem_gone h with ⟨_,e⟩ | e
   ·omega
   ·have := hidH _ e; omega
  ·rcases mem_gone h with ⟨e0,e⟩ | e
   ·exact (q78 (ownRows_ne.2 (by rw [List.take_length]; exact e0))).2 e.symm
   ·have := hidT _ e; omega
  simp -implicitDefEqProofs (maxSteps := 99999999) (disch := first | omega | (simp only [AHeap.set_length,killO_length,List.length_cons,List.length_nil]; first | done | omega)) only [va,vg,vs,vw,Nat.reduceMul,ite_true,ite_false,eq_self,forall_const,implies_true,Nat.reduceAdd,Nat.reduceSub,Nat.reduceLT,Nat.reduceLeDiff,↓reduceIte,reduceCtorEq,Int.reduceEq,Int.reduceLT,Int.reduceLE,Int.reduceGT,Int.reduceGE,Int.reduceAdd,Int.reduceSub,Int.reduceNeg,Int.reduceToNat,Nat.reduceBEq,Nat.reduceEqDiff]
  refine weak_killIds (fun i hi hn => ?_)
  rw [List.mem_append] at hn
  rw [killIds_other (ngH i hi (fun h => hn (.inl h))),killIds_other (ngT i hi (fun h => hn (.inr h)))]
  exact q9 i hi
end Go.Proofs.YtigmpablpmanpaaDoor
