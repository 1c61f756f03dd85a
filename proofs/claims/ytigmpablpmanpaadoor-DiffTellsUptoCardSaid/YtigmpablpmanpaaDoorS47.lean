/- Hunks are put into the bag. -/
import Derived.Test.YtigmpablpmanpaaDoorS46
namespace Go.Proofs.YtigmpablpmanpaaDoor
open Go.RowKit
set_option maxRecDepth 100000
set_option linter.unusedVariables false
set_option linter.unusedSimpArgs false
/-- Hunks whose texts lie in own rows; their rows of texts. -/
abbrev HRow := Hk × Nat × Nat
def hks3 (l : List HRow) : List AV := l.map fun x => hkO x.1 x.2.1 x.2.2
def txs3 (l : List HRow) : List ORow := l.flatMap fun x => [(strs x.1.old,x.2.1),(strs x.1.new,x.2.2)]
theorem hks3_length {l : List HRow} : (hks3 l).length = l.length := by simp [hks3]
theorem txs3_append {a b : List HRow} : txs3 (a ++ b) = txs3 a ++ txs3 b := by simp [txs3]
theorem txs3_length : ∀ {l : List HRow},(txs3 l).length = 2 * l.length
 | [] => rfl
 | x :: r => by have := txs3_length (l := r); simp [txs3] at this ⊢; omega
theorem ownRows_append {k : Nat} {a b : List ORow} : ownRows k (a ++ b) = ownRows k a ++ ownRows k b := by simp [ownRows]
def nth3 (l : List HRow) (k : Nat) : HRow := l.getD k (⟨0,[],[]⟩,0,0)
theorem hks3_get {l : List HRow} {k : Nat} (h : k < l.length) : (hks3 l).getD k .top = hkO (nth3 l k).1 (nth3 l k).2.1 (nth3 l k).2.2 := by simp [hks3,nth3,List.getD,h]
theorem take3 {l : List HRow} {k : Nat} (h : k < l.length) : l.take (k + 1) = l.take k ++ [nth3 l k] := by
 rw [List.take_add_one,List.getElem?_eq_getElem h]
 simp [nth3,List.getD,h]
theorem oneHunk_d (F : AHeap) (bid it : Nat) (tx : List AV) (hs : AV) (x : HRow) (hb : AHeap.find F bid = some (bagB (OwnV 1 tx it) hs)) (ht : tx ≠ [] → AHeap.find F it = OwnB 1 tT tx) (hne : it ≠ bid) (hl : tx.length ≤ 9000000) (g1 : AV.idsL (· < F.length) tx) (g2 : hs.ids (· < F.length)) (g3 : x.1.old ≠ [] → x.2.1 < F.length) (g4 : x.1.new ≠ [] → x.2.2 < F.length) :
  D Tryd.prog 35 [.ptr 21 bid 0 0,hkO x.1 x.2.1 x.2.2] F (.ret (.tup [])) (OwnB 1 tT (tx ++ [OutV x.1.old x.2.1,OutV x.1.new x.2.2]) :: AHeap.set (killO tx it F) bid (some (bagB (OwnV 1 (tx ++ [OutV x.1.old x.2.1,OutV x.1.new x.2.2]) F.length) hs))) := by
 obtain ⟨h,i,j⟩ := x
 have hbl := AHeap.find_lt hb
 refine D_of_DK (by simp [AHeap.set_length,killO_length]) (dk35 (E_of_ES ?_))
 simp -implicitDefEqProofs (maxSteps := 99999999) (disch := first | omega | (simp only [AHeap.set_length,killO_length,List.length_cons,List.length_nil]; first | done | omega)) only [ic35,hb,va,vg,vs,vw,Nat.reduceMul,ite_true,ite_false,eq_self,forall_const,implies_true,Nat.reduceAdd,Nat.reduceSub,Nat.reduceLT,Nat.reduceLeDiff,↓reduceIte,reduceCtorEq,Int.reduceEq,Int.reduceLT,Int.reduceLE,Int.reduceGT,Int.reduceGE,Int.reduceAdd,Int.reduceSub,Int.reduceNeg,Int.reduceToNat,Nat.reduceBEq,Nat.reduceEqDiff]
 have hko : ∀ b,killO tx it (b :: F) = b :: killO tx it F := fun b => by
  cases tx with
  | nil => rfl
  | cons x r => exact killO_past (AHeap.find_lt (ht (by simp)))
 refine callR_ret (putTexts_d _ bid it tx hs (OutV h.old i) (by rw [AHeap.find_cons hbl]; exact hb) (fun e => by have h0 := ht e; rw [OwnB_ne e] at h0; rw [AHeap.find_cons (AHeap.find_lt h0)]; exact ht e) hne (by omega) ⟨OwnV_top,OwnV_ncells,OwnV_isAgg⟩) ?_
 simp -implicitDefEqProofs (maxSteps := 99999999) (disch := first | omega | (simp only [AHeap.set_length,killO_length,List.length_cons,List.length_nil]; first | done | omega)) only [hko,va,vg,vs,vw,Nat.reduceMul,ite_true,ite_false,eq_self,forall_const,implies_true,Nat.reduceAdd,Nat.reduceSub,Nat.reduceLT,Nat.reduceLeDiff,↓reduceIte,reduceCtorEq,Int.reduceEq,Int.reduceLT,Int.reduceLE,Int.reduceGT,Int.reduceGE,Int.reduceAdd,Int.reduceSub,Int.reduceNeg,Int.reduceToNat,Nat.reduceBEq,Nat.reduceEqDiff]
 have hk2 : ∀ (id : Nat) (G : AHeap),killO (tx ++ [OutV h.old i]) id G = AHeap.set G id none := fun id G => killO_ne (by simp)
 refine callR_ret (putTexts_d _ bid (F.length + 1) (tx ++ [OutV h.old i]) hs (OutV h.new j) ?_ ?_ (by omega) (by simp; omega) ⟨OwnV_top,OwnV_ncells,OwnV_isAgg⟩) ?_
 ·simp -implicitDefEqProofs (maxSteps := 99999999) (disch := first | omega | (simp only [AHeap.set_length,killO_length,List.length_cons,List.length_nil]; first | done | omega)) only [hko,va,vg,vs,vw,Nat.reduceMul,ite_true,ite_false,eq_self,forall_const,implies_true,Nat.reduceAdd,Nat.reduceSub,Nat.reduceLT,Nat.reduceLeDiff,↓reduceIte,reduceCtorEq,Int.reduceEq,Int.reduceLT,Int.reduceLE,Int.reduceGT,Int.reduceGE,Int.reduceAdd,Int.reduceSub,Int.reduceNeg,Int.reduceToNat,Nat.reduceBEq,Nat.reduceEqDiff]
 ·intro _
  simp -implicitDefEqProofs (maxSteps := 99999999) (disch := first | omega | (simp only [AHeap.set_length,killO_length,List.length_cons,List.length_nil]; first | done | omega)) only [hko,va,vg,vs,vw,Nat.reduceMul,ite_true,ite_false,eq_self,forall_const,implies_true,Nat.reduceAdd,Nat.reduceSub,Nat.reduceLT,Nat.reduceLeDiff,↓reduceIte,reduceCtorEq,Int.reduceEq,Int.reduceLT,Int.reduceLE,Int.reduceGT,Int.reduceGE,Int.reduceAdd,Int.reduceSub,Int.reduceNeg,Int.reduceToNat,Nat.reduceBEq,Nat.reduceEqDiff]
 simp only [hk2]
 simp -implicitDefEqProofs (maxSteps := 99999999) (disch := first | omega | (simp only [AHeap.set_length,killO_length,List.length_cons,List.length_nil]; first | done | omega)) only [hko,va,vg,vs,vw,Nat.reduceMul,ite_true,ite_false,eq_self,forall_const,implies_true,Nat.reduceAdd,Nat.reduceSub,Nat.reduceLT,Nat.reduceLeDiff,↓reduceIte,reduceCtorEq,Int.reduceEq,Int.reduceLT,Int.reduceLE,Int.reduceGT,Int.reduceGE,Int.reduceAdd,Int.reduceSub,Int.reduceNeg,Int.reduceToNat,Nat.reduceBEq,Nat.reduceEqDiff]
 rw [set_set]
 have hkl : (killO tx it F).length = F.length := killO_length
 have e2 : AHeap.find (OwnB 1 tT (tx ++ [OutV h.old i,OutV h.new j]) :: none :: some ⟨3,[hkO h i j],true,46⟩ :: AHeap.set (killO tx it F) bid (some (bagB (OwnV 1 (tx ++ [OutV h.old i,OutV h.new j]) (F.length + 2)) hs))) (F.length + 2) = OwnB 1 tT (tx ++ [OutV h.old i,OutV h.new j]) := by simp -implicitDefEqProofs (maxSteps := 99999999) (disch := first | omega | (simp only [AHeap.set_length,killO_length,List.length_cons,List.length_nil]; first | done | omega)) only [va,vg,vs,vw,Nat.reduceMul,ite_true,ite_false,eq_self,forall_const,implies_true,Nat.reduceAdd,Nat.reduceSub,Nat.reduceLT,Nat.reduceLeDiff,↓reduceIte,reduceCtorEq,Int.reduceEq,Int.reduceLT,Int.reduceLE,Int.reduceGT,Int.reduceGE,Int.reduceAdd,Int.reduceSub,Int.reduceNeg,Int.reduceToNat,Nat.reduceBEq,Nat.reduceEqDiff]
 refine weak_gen [F.length + 2] (by simp [AHeap.set_length,killO_length]) (by simp) (by simp) (fun id k hid hk => ?_) (fun i0 s k hs0 hk => ?_) (.same trivial)
 ·rw [find_past (by rw [AHeap.set_length,hkl]; exact hid)] at hk
  by_cases e : id = bid
  ·subst e
   rw [AHeap.find_set_same (by rw [hkl]; exact hid)] at hk
   cases hk
   refine .inr ⟨bagB (OwnV 1 (tx ++ [OutV h.old i,OutV h.new j]) (F.length + 2)) hs,?_,rfl,rfl,fun h => h,?_⟩
   ·simp -implicitDefEqProofs (maxSteps := 99999999) (disch := first | omega | (simp only [AHeap.set_length,killO_length,List.length_cons,List.length_nil]; first | done | omega)) only [va,vg,vs,vw,Nat.reduceMul,ite_true,ite_false,eq_self,forall_const,implies_true,Nat.reduceAdd,Nat.reduceSub,Nat.reduceLT,Nat.reduceLeDiff,↓reduceIte,reduceCtorEq,Int.reduceEq,Int.reduceLT,Int.reduceLE,Int.reduceGT,Int.reduceGE,Int.reduceAdd,Int.reduceSub,Int.reduceNeg,Int.reduceToNat,Nat.reduceBEq,Nat.reduceEqDiff]
   ·have gn : ∀ {H1 : AHeap},Gz H1 F.length [F.length + 2] nilA nilA := .same ⟨trivial,trivial⟩
    exact .cons (.agg (.cons gn (.cons gn (.cons gn (.cons gn (.cons (OwnV_gz fun _ => newId_one (by omega)) (.cons gn (.cons gn (.cons gn (.cons gn (.cons gn (.cons gn (.cons gn (.cons (.same (AV.ids_mono (fun i hi => newId_old hi) _ g2)) (.cons gn (.cons gn (.cons gn (.cons gn (.cons gn (.cons gn (.cons gn (.cons gn .nil)))))))))))))))))))))) .nil
  ·rw [AHeap.find_set_ne e] at hk
   refine .inl ⟨find_killO_some hk,?_⟩
   rw [find_past (by simp [AHeap.set_length,hkl]; omega),find_past (by simp [AHeap.set_length,hkl]; omega),find_past (by rw [AHeap.set_length,hkl]; exact hid),AHeap.find_set_ne e]
   exact hk
 ·have : i0 = 0 := by
   have := (List.getElem?_eq_some_iff.1 hs0).1
   simpa using this
  subst this
  simp at hs0
  subst hs0
  rw [find_top (by simp [AHeap.set_length,hkl])] at hk
  obtain ⟨_,rfl⟩ := OwnB_some hk
  refine ⟨_,by rw [e2]; exact hk,rfl,rfl,fun h => h,gzl_same ?_⟩
  rw [idsL_append]
  exact ⟨g1,OwnV_ids (fun h0 => g3 (fun e => h0 (by rw [e]; rfl))),OwnV_ids (fun h0 => g4 (fun e => h0 (by rw [e]; rfl))),trivial⟩
theorem putHunks_nil (F : AHeap) (bid ih : Nat) (t : AV) (hx : List AV) (hb : AHeap.find F bid = some (bagB t (OwnV 1 hx ih))) (hh : hx ≠ [] → AHeap.find F ih = OwnB 1 tH hx) (n2 : ih ≠ bid) (hl : hx.length ≤ 1000000) :
  D Tryd.prog 29 [.ptr 21 bid 0 0,nilA] F (.ret (.tup [])) (OwnB 1 tH (hx ++ [nilA]) :: AHeap.set (killO hx ih F) bid (some (bagB t (OwnV 1 (hx ++ [nilA]) F.length)))) := by
 have hbl := AHeap.find_lt hb
 refine D_of_DK (by simp [AHeap.set_length,killO_length]) (dk29 (E_of_ES ?_))
 cases hx with
 | nil =>
  have hO : OwnV 1 [] ih = nilA := rfl
  have hO2 : OwnV 1 ([] ++ [nilA]) F.length = .vec 1 F.length 0 1 none := rfl
  have hB2 : OwnB 1 tH ([] ++ [nilA]) = some ⟨1,[nilA],false,tH⟩ := rfl
  have hK : killO [] ih F = F := rfl
  rw [hO] at hb
  rw [hO2,hB2,hK]
  simp -implicitDefEqProofs (maxSteps := 99999999) (disch := first | omega | (simp only [AHeap.set_length,killO_length,List.length_cons,List.length_nil]; first | done | omega)) only [ic29,hb,va,vg,vs,vw,Nat.reduceMul,ite_true,ite_false,eq_self,forall_const,implies_true,Nat.reduceAdd,Nat.reduceSub,Nat.reduceLT,Nat.reduceLeDiff,↓reduceIte,reduceCtorEq,Int.reduceEq,Int.reduceLT,Int.reduceLE,Int.reduceGT,Int.reduceGE,Int.reduceAdd,Int.reduceSub,Int.reduceNeg,Int.reduceToNat,Nat.reduceBEq,Nat.reduceEqDiff]
  refine ES_unroll (.s .o) (Lp_next fun L3 hL3 => ?_)
  simp -implicitDefEqProofs (maxSteps := 99999999) (disch := first | omega | (simp only [AHeap.set_length,killO_length,List.length_cons,List.length_nil]; first | done | omega)) only [va,vg,vs,vw,Nat.reduceMul,ite_true,ite_false,eq_self,forall_const,implies_true,Nat.reduceAdd,Nat.reduceSub,Nat.reduceLT,Nat.reduceLeDiff,↓reduceIte,reduceCtorEq,Int.reduceEq,Int.reduceLT,Int.reduceLE,Int.reduceGT,Int.reduceGE,Int.reduceAdd,Int.reduceSub,Int.reduceNeg,Int.reduceToNat,Nat.reduceBEq,Nat.reduceEqDiff]
  exact Weak.refl _ _ _
 | cons x r =>
  have hO : OwnV 1 (x :: r) ih = .vec 1 ih 0 (r.length + 1) none := rfl
  have hO2 : OwnV 1 ((x :: r) ++ [nilA]) F.length = .vec 1 F.length 0 (r.length + 1 + 1) none := by simp [OwnV]
  have hB : AHeap.find F ih = some ⟨1,x :: r,false,tH⟩ := hh (by simp)
  have hB2 : OwnB 1 tH ((x :: r) ++ [nilA]) = some ⟨1,x :: (r ++ [nilA]),false,tH⟩ := rfl
  have hK : killO (x :: r) ih F = AHeap.set F ih none := rfl
  have hil := AHeap.find_lt hB
  rw [hO] at hb
  rw [hO2,hB2,hK]
  simp only [List.length_cons] at hl
  simp -implicitDefEqProofs (maxSteps := 99999999) (disch := first | omega | (simp only [AHeap.set_length,killO_length,List.length_cons,List.length_nil]; first | done | omega)) only [ic29,hb,hB,va,vg,vs,vw,Nat.reduceMul,ite_true,ite_false,eq_self,forall_const,implies_true,Nat.reduceAdd,Nat.reduceSub,Nat.reduceLT,Nat.reduceLeDiff,↓reduceIte,reduceCtorEq,Int.reduceEq,Int.reduceLT,Int.reduceLE,Int.reduceGT,Int.reduceGE,Int.reduceAdd,Int.reduceSub,Int.reduceNeg,Int.reduceToNat,Nat.reduceBEq,Nat.reduceEqDiff]
  refine ⟨by omega,ES_unroll (.s .o) (Lp_next fun L3 hL3 => ?_)⟩
  simp -implicitDefEqProofs (maxSteps := 99999999) (disch := first | omega | (simp only [AHeap.set_length,killO_length,List.length_cons,List.length_nil]; first | done | omega)) only [va,vg,vs,vw,Nat.reduceMul,ite_true,ite_false,eq_self,forall_const,implies_true,Nat.reduceAdd,Nat.reduceSub,Nat.reduceLT,Nat.reduceLeDiff,↓reduceIte,reduceCtorEq,Int.reduceEq,Int.reduceLT,Int.reduceLE,Int.reduceGT,Int.reduceGE,Int.reduceAdd,Int.reduceSub,Int.reduceNeg,Int.reduceToNat,Nat.reduceBEq,Nat.reduceEqDiff]
  exact Weak.refl _ _ _
set_option maxHeartbeats 0 in
theorem putHunks_d (F : AHeap) (bid it ih : Nat) (tx hx : List AV) (l : List HRow) (id : Nat) (hb : AHeap.find F bid = some (bagB (OwnV 1 tx it) (OwnV 1 hx ih))) (ht : tx ≠ [] → AHeap.find F it = OwnB 1 tT tx) (hh : hx ≠ [] → AHeap.find F ih = OwnB 1 tH hx)
  (n1 : it ≠ bid) (n2 : ih ≠ bid) (n3 : tx ≠ [] → hx ≠ [] → it ≠ ih) (hl : l ≠ []) (hid : AHeap.find F id = some ⟨3,hks3 l,false,46⟩) (n4 : id ≠ bid) (n5 : tx ≠ [] → id ≠ it) (n6 : hx ≠ [] → id ≠ ih)
  (hsz : tx.length + 2 * l.length ≤ 9000000 ∧ hx.length ≤ 1000000) (g1 : AV.idsL (· < F.length) tx) (g2 : AV.idsL (· < F.length) hx) (g3 : ∀ x ∈ l,(x.1.old ≠ [] → x.2.1 < F.length) ∧ (x.1.new ≠ [] → x.2.2 < F.length)) :
  D Tryd.prog 29 [.ptr 21 bid 0 0,OwnV 3 (hks3 l) id] F (.ret (.tup []))
   (OwnB 1 tT (tx ++ ownRows 1 (txs3 l)) :: OwnB 1 tH (hx ++ [OwnV 3 (hks3 l) id]) :: AHeap.set (killO hx ih (killO tx it F)) bid (some (bagB (OwnV 1 (tx ++ ownRows 1 (txs3 l)) (F.length + 1)) (OwnV 1 (hx ++ [OwnV 3 (hks3 l) id]) F.length)))) := by
 have hbl := AHeap.find_lt hb
 have hidl := AHeap.find_lt hid
 have hne : hks3 l ≠ [] := fun e => hl (by simpa [hks3] using e)
 have hV : OwnV 3 (hks3 l) id = .vec 3 id 0 l.length none := by rw [OwnV_ne hne,hks3_length]
 have hnn : ∀ (G : AHeap) i,killO (hx ++ [OwnV 3 (hks3 l) id]) i G = AHeap.set G i none := fun G i => killO_ne (by simp)
 have hB1 : OwnB 1 tH (hx ++ [OwnV 3 (hks3 l) id]) = some ⟨1,hx ++ [OwnV 3 (hks3 l) id],false,tH⟩ := OwnB_ne (by simp)
 refine D_of_DK (by simp [AHeap.set_length,killO_length]; omega) (dk29 (E_of_ES ?_))
 simp only [ic29,ux]
 have idt : ∀ (m : List HRow),(∀ x ∈ m,(x.1.old ≠ [] → x.2.1 < F.length) ∧ (x.1.new ≠ [] → x.2.2 < F.length)) → AV.idsL (· < F.length) (ownRows 1 (txs3 m)) := by
  intro m
  induction m with
  | nil => intro _; trivial
  | cons x r ih =>
   intro hm
   have := hm x (by simp)
   exact ⟨OwnV_ids (fun h0 => this.1 (fun e => h0 (by rw [e]; rfl))),OwnV_ids (fun h0 => this.2 (fun e => h0 (by rw [e]; rfl))),ih (fun y hy => hm y (by simp [hy]))⟩
 refine ES_seq_gen fun L hL => ?_
 have hL' : ∀ ts G,Fr [some (.ptr 21 bid 0 0),some (.vec 3 id 0 l.length none),none,none,none,none,none,none,none,none,none,none,none,none,none,none,none,none,none,none,none,none,none,none,none,none,none] ts → F.length + 1 ≤ G.length → AHeap.find G bid = some (bagB (OwnV 1 tx it) (OwnV 1 (hx ++ [OwnV 3 (hks3 l) id]) F.length)) → AHeap.find G F.length = OwnB 1 tH (hx ++ [OwnV 3 (hks3 l) id]) → (∀ i,i < F.length → i ≠ bid → (hx ≠ [] → i ≠ ih) → AHeap.find G i = AHeap.find F i) → L ts G := by
  intro ts G hfr f1 f2 f3 f4
  refine hL _ _ ?_
  clear hL
  obtain ⟨js,rfl⟩ := hfr.opened
  clear hfr
  simp -implicitDefEqProofs (maxSteps := 99999999) (disch := first | omega | (simp only [AHeap.set_length,killO_length,List.length_cons,List.length_nil]; first | done | omega)) only [mk,va,vg,vs,vw,Nat.reduceMul,ite_true,ite_false,eq_self,forall_const,implies_true,Nat.reduceAdd,Nat.reduceSub,Nat.reduceLT,Nat.reduceLeDiff,↓reduceIte,reduceCtorEq,Int.reduceEq,Int.reduceLT,Int.reduceLE,Int.reduceGT,Int.reduceGE,Int.reduceAdd,Int.reduceSub,Int.reduceNeg,Int.reduceToNat,Nat.reduceBEq,Nat.reduceEqDiff]
  refine ES_loopL (fun ts G => ∃ (k it' : Nat),(k ≤ l.length ∧ F.length + 1 ≤ G.length ∧ AHeap.find G bid = some (bagB (OwnV 1 (tx ++ ownRows 1 (txs3 (l.take k))) it') (OwnV 1 (hx ++ [OwnV 3 (hks3 l) id]) F.length)) ∧ (tx ++ ownRows 1 (txs3 (l.take k)) ≠ [] → AHeap.find G it' = OwnB 1 tT (tx ++ ownRows 1 (txs3 (l.take k)))) ∧ (k = 0 → it' = it) ∧ (k ≠ 0 → F.length < it') ∧
   AHeap.find G F.length = OwnB 1 tH (hx ++ [OwnV 3 (hks3 l) id]) ∧ ∀ i,i < F.length → i ≠ bid → (tx ≠ [] → i ≠ it) → (hx ≠ [] → i ≠ ih) → AHeap.find G i = AHeap.find F i) ∧ Fr [some (.ptr 21 bid 0 0),some (.vec 3 id 0 l.length none),none,none,some (.sc (.int .i64 k)),none,none,none,none,none,none,none,none,none,none,none,none,none,none,none,none,none,none,none,none,none,none] ts) (fun ts _ => l.length - (intV (ts.getD 4 .top)).toNat) ?_ ?_
  ·refine ⟨0,it,⟨Nat.zero_le _,f1,?_,?_,fun _ => rfl,fun h => (h rfl).elim,f3,fun i a b c d => f4 i a b d⟩,by simp [Fr]⟩
   ·rw [List.take_zero,show txs3 [] = [] from rfl,show ownRows 1 [] = [] from rfl,List.append_nil]; exact f2
   ·rw [List.take_zero,show txs3 [] = [] from rfl,show ownRows 1 [] = [] from rfl,List.append_nil]
    intro h
    have h0 := ht h
    rw [OwnB_ne h] at h0
    rw [f4 it (AHeap.find_lt h0) n1 (fun h2 => n3 h h2)]
    exact ht h
  clear f1 f2 f3 f4
  rintro ts G ⟨k,it',⟨hk,q1,q2,q3,q5,q6,q7,q8⟩,hfr⟩ L2 hL2
  obtain ⟨js,rfl⟩ := hfr.opened
  clear hfr
  simp -implicitDefEqProofs (maxSteps := 99999999) (disch := first | omega | (simp only [AHeap.set_length,killO_length,List.length_cons,List.length_nil]; first | done | omega)) only [mk,va,vg,vs,vw,Nat.reduceMul,ite_true,ite_false,eq_self,forall_const,implies_true,Nat.reduceAdd,Nat.reduceSub,Nat.reduceLT,Nat.reduceLeDiff,↓reduceIte,reduceCtorEq,Int.reduceEq,Int.reduceLT,Int.reduceLE,Int.reduceGT,Int.reduceGE,Int.reduceAdd,Int.reduceSub,Int.reduceNeg,Int.reduceToNat,Nat.reduceBEq,Nat.reduceEqDiff]
  refine condR_if (fun h => ?_) (fun h => ?_)
  ·have h1 : k < l.length := by omega
   have hid2 : AHeap.find G id = some ⟨3,hks3 l,false,46⟩ := (q8 id hidl n4 n5 n6).trans hid
   have hg := hks3_get h1
   have h3l := hks3_length (l := l)
   have k0 : (0 : Int) ≤ (k : Int) := by omega
   have k1 : (k : Int) < l.length := by omega
   simp -implicitDefEqProofs (maxSteps := 99999999) (disch := first | omega | (simp only [AHeap.set_length,killO_length,List.length_cons,List.length_nil]; first | done | omega)) only [hid2,hg,h3l,h1,k0,k1,va,vg,vs,vw,Nat.reduceMul,ite_true,ite_false,eq_self,forall_const,implies_true,Nat.reduceAdd,Nat.reduceSub,Nat.reduceLT,Nat.reduceLeDiff,↓reduceIte,reduceCtorEq,Int.reduceEq,Int.reduceLT,Int.reduceLE,Int.reduceGT,Int.reduceGE,Int.reduceAdd,Int.reduceSub,Int.reduceNeg,Int.reduceToNat,Nat.reduceBEq,Nat.reduceEqDiff]
   have hnm : nth3 l k ∈ l := by
    unfold nth3
    rw [List.getD_eq_getElem?_getD,List.getElem?_eq_getElem h1]
    exact List.getElem_mem h1
   have hni : it' ≠ bid := by
    by_cases e : k = 0
    ·rw [q5 e]; exact n1
    ·have := q6 e; omega
   have hlt : (tx ++ ownRows 1 (txs3 (l.take k))).length ≤ 9000000 := by
    rw [List.length_append,ownRows_length,txs3_length,List.length_take]; omega
   have hm2 : ∀ x ∈ l.take k,(x.1.old ≠ [] → x.2.1 < F.length) ∧ (x.1.new ≠ [] → x.2.2 < F.length) := fun x hx => g3 x (List.mem_of_mem_take hx)
   have hbG := AHeap.find_lt q2
   refine callR_ret (oneHunk_d G bid it' (tx ++ ownRows 1 (txs3 (l.take k))) _ (nth3 l k) q2 q3 hni hlt (idsL_mono' (by omega) (idsL_append.2 ⟨g1,idt _ hm2⟩)) (OwnV_ids fun _ => by omega) (fun h => by have := (g3 _ hnm).1 h; omega) (fun h => by have := (g3 _ hnm).2 h; omega)) ?_
   have etx : tx ++ ownRows 1 (txs3 (l.take k)) ++ [OutV (nth3 l k).1.old (nth3 l k).2.1,OutV (nth3 l k).1.new (nth3 l k).2.2] = tx ++ ownRows 1 (txs3 (l.take (k + 1))) := by
    rw [take3 h1,txs3_append,ownRows_append,← List.append_assoc]; rfl
   rw [etx]
   simp -implicitDefEqProofs (maxSteps := 99999999) (disch := first | omega | (simp only [AHeap.set_length,killO_length,List.length_cons,List.length_nil]; first | done | omega)) only [va,vg,vs,vw,Nat.reduceMul,ite_true,ite_false,eq_self,forall_const,implies_true,Nat.reduceAdd,Nat.reduceSub,Nat.reduceLT,Nat.reduceLeDiff,↓reduceIte,reduceCtorEq,Int.reduceEq,Int.reduceLT,Int.reduceLE,Int.reduceGT,Int.reduceGE,Int.reduceAdd,Int.reduceSub,Int.reduceNeg,Int.reduceToNat,Nat.reduceBEq,Nat.reduceEqDiff]
   refine hL2 _ _ ⟨k + 1,G.length,⟨by omega,by simp [AHeap.set_length,killO_length]; omega,?_,fun _ => ?_,fun h => by omega,fun _ => by omega,?_,fun i a b c d => ?_⟩,by simp [Fr]⟩ (by simp [intV,mk]; omega)
   ·rw [find_past (by simp [AHeap.set_length,killO_length]; exact hbG),AHeap.find_set_same (by rw [killO_length]; exact hbG)]
   ·rw [find_top (by simp [AHeap.set_length,killO_length])]
   ·have hx1 : tx ++ ownRows 1 (txs3 (l.take k)) ≠ [] → F.length ≠ it' := fun hh => by
     by_cases e : k = 0
     ·rw [q5 e]
      subst e
      have h2 : tx ≠ [] := by simpa [txs3,ownRows] using hh
      have h0 := ht h2
      rw [OwnB_ne h2] at h0
      have := AHeap.find_lt h0
      omega
     ·have := q6 e; omega
    rw [find_past (by simp [AHeap.set_length,killO_length]; omega),AHeap.find_set_ne (by omega),find_killO_other hx1]
    exact q7
   ·rw [find_past (by simp [AHeap.set_length,killO_length]; omega),AHeap.find_set_ne b,find_killO_other (fun h => ?_)]
    ·exact q8 i a b c d
    ·by_cases e : k = 0
     ·rw [q5 e]
      subst e
      exact c (by simpa [txs3,ownRows] using h)
     ·have := q6 e; omega
  ·have hkl : k = l.length := by omega
   subst hkl
   rw [List.take_length] at q2 q3
   have hk0 : l.length ≠ 0 := fun e => hl (List.length_eq_zero_iff.1 e)
   have q6' := q6 hk0
   simp -implicitDefEqProofs (maxSteps := 99999999) (disch := first | omega | (simp only [AHeap.set_length,killO_length,List.length_cons,List.length_nil]; first | done | omega)) only [va,vg,vs,vw,Nat.reduceMul,ite_true,ite_false,eq_self,forall_const,implies_true,Nat.reduceAdd,Nat.reduceSub,Nat.reduceLT,Nat.reduceLeDiff,↓reduceIte,reduceCtorEq,Int.reduceEq,Int.reduceLT,Int.reduceLE,Int.reduceGT,Int.reduceGE,Int.reduceAdd,Int.reduceSub,Int.reduceNeg,Int.reduceToNat,Nat.reduceBEq,Nat.reduceEqDiff]
   have hkl : (killO hx ih (killO tx it F)).length = F.length := by rw [killO_length,killO_length]
   have hT : tx ++ ownRows 1 (txs3 l) ≠ [] := fun e => by
    have := congrArg List.length e
    rw [List.length_append,ownRows_length,txs3_length] at this
    simp at this; omega
   have hnd : [F.length,it'].Nodup := by simp; omega
   refine weak_gen [F.length,it'] (by simp [AHeap.set_length,killO_length]) hnd (by simp; omega) (fun i0 k hi0 hk => ?_) (fun i0 s k hs0 hk => ?_) (.same trivial)
   ·rw [find_past (by simp [AHeap.set_length,hkl]; omega),find_past (by rw [AHeap.set_length,hkl]; exact hi0)] at hk
    by_cases e : i0 = bid
    ·subst e
     rw [AHeap.find_set_same (by rw [hkl]; exact hi0)] at hk
     cases hk
     refine .inr ⟨_,q2,rfl,rfl,fun h => h,?_⟩
     have gn : ∀ {H1 : AHeap},Gz H1 F.length [F.length,it'] nilA nilA := .same ⟨trivial,trivial⟩
     exact .cons (.agg (.cons gn (.cons gn (.cons gn (.cons gn (.cons (OwnV_gz fun _ => newId_at (i := 1) hnd rfl (by omega)) (.cons gn (.cons gn (.cons gn (.cons gn (.cons gn (.cons gn (.cons gn (.cons (OwnV_gz fun _ => newId_at (i := 0) hnd rfl (Nat.le_refl _)) (.cons gn (.cons gn (.cons gn (.cons gn (.cons gn (.cons gn (.cons gn (.cons gn .nil)))))))))))))))))))))) .nil
    ·rw [AHeap.find_set_ne e] at hk
     have e1 := find_killO_some hk
     have e2 := find_killO_some e1
     exact .inl ⟨e2,(q8 i0 hi0 e (find_killO_ne e1) (find_killO_ne hk)).trans e2⟩
   ·rcases i0 with _ | _ | i0
    ·simp at hs0
     subst hs0
     rw [find_past (by simp [AHeap.set_length,hkl]),find_top (by simp [AHeap.set_length,hkl])] at hk
     obtain ⟨_,rfl⟩ := OwnB_some hk
     refine ⟨_,by rw [q7]; exact hk,rfl,rfl,fun h => h,gzl_same (idsL_append.2 ⟨g2,OwnV_ids (fun _ => hidl),trivial⟩)⟩
    ·simp at hs0
     subst hs0
     rw [show F.length + (0 + 1) = F.length + 1 from rfl,find_top (by simp [AHeap.set_length,hkl])] at hk
     obtain ⟨_,rfl⟩ := OwnB_some hk
     exact ⟨_,by rw [q3 hT]; exact hk,rfl,rfl,fun h => h,gzl_same (idsL_append.2 ⟨g1,idt l g3⟩)⟩
    ·simp at hs0
 clear hL
 cases hx with
 | nil =>
  have hO : OwnV 1 [] ih = nilA := rfl
  rw [hO] at hb
  rw [hV]
  simp -implicitDefEqProofs (maxSteps := 99999999) (disch := first | omega | (simp only [AHeap.set_length,killO_length,List.length_cons,List.length_nil]; first | done | omega)) only [hb,va,vg,vs,vw,Nat.reduceMul,ite_true,ite_false,eq_self,forall_const,implies_true,Nat.reduceAdd,Nat.reduceSub,Nat.reduceLT,Nat.reduceLeDiff,↓reduceIte,reduceCtorEq,Int.reduceEq,Int.reduceLT,Int.reduceLE,Int.reduceGT,Int.reduceGE,Int.reduceAdd,Int.reduceSub,Int.reduceNeg,Int.reduceToNat,Nat.reduceBEq,Nat.reduceEqDiff]
  refine hL' _ _ (by simp [Fr]) (by simp [AHeap.set_length]) ?_ ?_ (fun i a b c => ?_)
  ·rw [hV]
   simp -implicitDefEqProofs (maxSteps := 99999999) (disch := first | omega | (simp only [AHeap.set_length,killO_length,List.length_cons,List.length_nil]; first | done | omega)) only [va,vg,vs,vw,Nat.reduceMul,ite_true,ite_false,eq_self,forall_const,implies_true,Nat.reduceAdd,Nat.reduceSub,Nat.reduceLT,Nat.reduceLeDiff,↓reduceIte,reduceCtorEq,Int.reduceEq,Int.reduceLT,Int.reduceLE,Int.reduceGT,Int.reduceGE,Int.reduceAdd,Int.reduceSub,Int.reduceNeg,Int.reduceToNat,Nat.reduceBEq,Nat.reduceEqDiff]
   simp [OwnV]
  ·rw [hV]
   simp -implicitDefEqProofs (maxSteps := 99999999) (disch := first | omega | (simp only [AHeap.set_length,killO_length,List.length_cons,List.length_nil]; first | done | omega)) only [va,vg,vs,vw,Nat.reduceMul,ite_true,ite_false,eq_self,forall_const,implies_true,Nat.reduceAdd,Nat.reduceSub,Nat.reduceLT,Nat.reduceLeDiff,↓reduceIte,reduceCtorEq,Int.reduceEq,Int.reduceLT,Int.reduceLE,Int.reduceGT,Int.reduceGE,Int.reduceAdd,Int.reduceSub,Int.reduceNeg,Int.reduceToNat,Nat.reduceBEq,Nat.reduceEqDiff]
   simp [OwnB]
  ·simp -implicitDefEqProofs (maxSteps := 99999999) (disch := first | omega | (simp only [AHeap.set_length,killO_length,List.length_cons,List.length_nil]; first | done | omega)) only [b,va,vg,vs,vw,Nat.reduceMul,ite_true,ite_false,eq_self,forall_const,implies_true,Nat.reduceAdd,Nat.reduceSub,Nat.reduceLT,Nat.reduceLeDiff,↓reduceIte,reduceCtorEq,Int.reduceEq,Int.reduceLT,Int.reduceLE,Int.reduceGT,Int.reduceGE,Int.reduceAdd,Int.reduceSub,Int.reduceNeg,Int.reduceToNat,Nat.reduceBEq,Nat.reduceEqDiff]
 | cons x r =>
  have hO : OwnV 1 (x :: r) ih = .vec 1 ih 0 (r.length + 1) none := rfl
  have hB : AHeap.find F ih = some ⟨1,x :: r,false,tH⟩ := hh (by simp)
  have hil := AHeap.find_lt hB
  rw [hO] at hb
  rw [hV]
  have hsz2 := hsz.2
  simp only [List.length_cons] at hsz2
  simp -implicitDefEqProofs (maxSteps := 99999999) (disch := first | omega | (simp only [AHeap.set_length,killO_length,List.length_cons,List.length_nil]; first | done | omega)) only [hb,hB,va,vg,vs,vw,Nat.reduceMul,ite_true,ite_false,eq_self,forall_const,implies_true,Nat.reduceAdd,Nat.reduceSub,Nat.reduceLT,Nat.reduceLeDiff,↓reduceIte,reduceCtorEq,Int.reduceEq,Int.reduceLT,Int.reduceLE,Int.reduceGT,Int.reduceGE,Int.reduceAdd,Int.reduceSub,Int.reduceNeg,Int.reduceToNat,Nat.reduceBEq,Nat.reduceEqDiff]
  refine ⟨by omega,hL' _ _ (by simp [Fr]) (by simp [AHeap.set_length]) ?_ ?_ (fun i a b c => ?_)⟩
  ·rw [hV]
   simp -implicitDefEqProofs (maxSteps := 99999999) (disch := first | omega | (simp only [AHeap.set_length,killO_length,List.length_cons,List.length_nil]; first | done | omega)) only [va,vg,vs,vw,Nat.reduceMul,ite_true,ite_false,eq_self,forall_const,implies_true,Nat.reduceAdd,Nat.reduceSub,Nat.reduceLT,Nat.reduceLeDiff,↓reduceIte,reduceCtorEq,Int.reduceEq,Int.reduceLT,Int.reduceLE,Int.reduceGT,Int.reduceGE,Int.reduceAdd,Int.reduceSub,Int.reduceNeg,Int.reduceToNat,Nat.reduceBEq,Nat.reduceEqDiff]
   simp [OwnV]
  ·rw [hV]
   simp -implicitDefEqProofs (maxSteps := 99999999) (disch := first | omega | (simp only [AHeap.set_length,killO_length,List.length_cons,List.length_nil]; first | done | omega)) only [va,vg,vs,vw,Nat.reduceMul,ite_true,ite_false,eq_self,forall_const,implies_true,Nat.reduceAdd,Nat.reduceSub,Nat.reduceLT,Nat.reduceLeDiff,↓reduceIte,reduceCtorEq,Int.reduceEq,Int.reduceLT,Int.reduceLE,Int.reduceGT,Int.reduceGE,Int.reduceAdd,Int.reduceSub,Int.reduceNeg,Int.reduceToNat,Nat.reduceBEq,Nat.reduceEqDiff]
   simp [OwnB]
  ·have c' := c (by simp)
   simp -implicitDefEqProofs (maxSteps := 99999999) (disch := first | omega | (simp only [AHeap.set_length,killO_length,List.length_cons,List.length_nil]; first | done | omega)) only [b,c',va,vg,vs,vw,Nat.reduceMul,ite_true,ite_false,eq_self,forall_const,implies_true,Nat.reduceAdd,Nat.reduceSub,Nat.reduceLT,Nat.reduceLeDiff,↓reduceIte,reduceCtorEq,Int.reduceEq,Int.reduceLT,Int.reduceLE,Int.reduceGT,Int.reduceGE,Int.reduceAdd,Int.reduceSub,Int.reduceNeg,Int.reduceToNat,Nat.reduceBEq,Nat.reduceEqDiff]
end Go.Proofs.YtigmpablpmanpaaDoor
