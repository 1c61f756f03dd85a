/- Names into a row of one's own: one node. -/
import Derived.Test.YtfnahogjkgcklaaDoorS249
import Derived.Test.YtfnahogjkgcklaaDoorVE
namespace Go.Proofs.YtfnahogjkgcklaaDoor
open Go.RowKit
set_option maxRecDepth 100000
set_option linter.unusedVariables false
set_option linter.unusedSimpArgs false
theorem bytesV_byteT (s : ByteArray) : bytesV (byteL s) = s := by
 apply ByteArray.ext
 simp only [bytesV,byteL,List.map_map]
 apply Array.ext'
 simp only [List.toList_toArray]
 have : ∀ l : List UInt8,l.map ((fun x => (byteV x).getD 0) ∘ fun b => AV.sc (.int .u8 (b.toNat : Int))) = l := by
  intro l
  induction l with
  | nil => rfl
  | cons c r ih =>
   rw [List.map_cons,ih]
   congr 1
   simp [Function.comp,byteV]
 exact this _
theorem size_zeroT {s : ByteArray} (h : s.size = 0) : s = ⟨#[]⟩ := by
 apply ByteArray.ext
 exact Array.eq_empty_of_size_eq_zero h
theorem take_byteT (s : ByteArray) : (byteL s).take s.size = byteL s := List.take_of_length_le (by rw [byteL_size]; exact Nat.le_refl _)
theorem drop_repT (s : ByteArray) (x : AV) : (List.replicate s.size x).drop s.size = [] := List.drop_of_length_le (by simp)
theorem sliteCloneT_d (s : ByteArray) (H : AHeap) (hs : s.size ≤ 100000000) : D Tryd.prog 51 [.sc (.string s)] H (.ret (.sc (.string s))) H := by
 refine D_of_DK (Nat.le_refl _) (dk51 (E_of_ES ?_))
 simp -implicitDefEqProofs (maxSteps := 99999999) (disch := omega) only [vu,ic51,va,vg,vs,vh,Nat.reduceMul,ite_true,ite_false,eq_self,forall_const,implies_true,Nat.reduceAdd,Nat.reduceSub,Nat.reduceLT,Nat.reduceLeDiff,↓reduceIte,reduceCtorEq,Int.reduceEq,Int.reduceLT,Int.reduceLE,Int.reduceGT,Int.reduceGE,Int.reduceAdd,Int.reduceSub,Int.reduceNeg,Int.reduceToNat,Nat.reduceBEq,Nat.reduceEqDiff]
 refine condR_if (fun h => ?_) (fun h => ?_)
 ·have := size_zeroT (s := s) (by omega)
  subst this
  simp -implicitDefEqProofs (maxSteps := 99999999) (disch := omega) only [vu,va,vg,vs,vh,Nat.reduceMul,ite_true,ite_false,eq_self,forall_const,implies_true,Nat.reduceAdd,Nat.reduceSub,Nat.reduceLT,Nat.reduceLeDiff,↓reduceIte,reduceCtorEq,Int.reduceEq,Int.reduceLT,Int.reduceLE,Int.reduceGT,Int.reduceGE,Int.reduceAdd,Int.reduceSub,Int.reduceNeg,Int.reduceToNat,Nat.reduceBEq,Nat.reduceEqDiff]
  exact weak_sc .refl
 have h0 : 0 < s.size := by omega
 simp -implicitDefEqProofs (maxSteps := 99999999) (disch := omega) only [vu,List.length_replicate,drop_repT s,take_byteT s,byteL_size s,bytesV_byteT s,va,vg,vs,vh,Nat.reduceMul,ite_true,ite_false,eq_self,forall_const,implies_true,Nat.reduceAdd,Nat.reduceSub,Nat.reduceLT,Nat.reduceLeDiff,↓reduceIte,reduceCtorEq,Int.reduceEq,Int.reduceLT,Int.reduceLE,Int.reduceGT,Int.reduceGE,Int.reduceAdd,Int.reduceSub,Int.reduceNeg,Int.reduceToNat,Nat.reduceBEq,Nat.reduceEqDiff]
 exact ⟨⟨by omega,by omega,by omega⟩,Nat.le_refl _,by omega,⟨⟨by omega,Nat.le_refl _⟩,⟨s,rfl⟩⟩,weak_sc (by repeat constructor)⟩
theorem strCloneT_d (s : ByteArray) (H : AHeap) (hs : s.size ≤ 100000000) : D Tryd.prog 31 [.sc (.string s)] H (.ret (.sc (.string s))) H := by
 refine D_of_DK (Nat.le_refl _) (dk31 (E_of_ES ?_))
 simp -implicitDefEqProofs (maxSteps := 99999999) (disch := omega) only [vu,ic31,va,vg,vs,vh,Nat.reduceMul,ite_true,ite_false,eq_self,forall_const,implies_true,Nat.reduceAdd,Nat.reduceSub,Nat.reduceLT,Nat.reduceLeDiff,↓reduceIte,reduceCtorEq,Int.reduceEq,Int.reduceLT,Int.reduceLE,Int.reduceGT,Int.reduceGE,Int.reduceAdd,Int.reduceSub,Int.reduceNeg,Int.reduceToNat,Nat.reduceBEq,Nat.reduceEqDiff]
 refine callR_ret (sliteCloneT_d s H hs) ?_
 simp -implicitDefEqProofs (maxSteps := 99999999) (disch := omega) only [vu,va,vg,vs,vh,Nat.reduceMul,ite_true,ite_false,eq_self,forall_const,implies_true,Nat.reduceAdd,Nat.reduceSub,Nat.reduceLT,Nat.reduceLeDiff,↓reduceIte,reduceCtorEq,Int.reduceEq,Int.reduceLT,Int.reduceLE,Int.reduceGT,Int.reduceGE,Int.reduceAdd,Int.reduceSub,Int.reduceNeg,Int.reduceToNat,Nat.reduceBEq,Nat.reduceEqDiff]
 exact weak_sc .refl
/-- A row of one's own, and the box that holds it. -/
structure OutW (F : AHeap) (oid : Nat) (xs : List ByteArray) (io : Nat) : Prop where
 box : AHeap.find F oid = some ⟨1,[OwnV 1 (strs xs) io],true,29⟩
 own : xs ≠ [] → AHeap.find F io = OwnB 1 9 (strs xs) ∧ io ≠ oid
/-- What was done to it. -/
structure OutQ (F : AHeap) (oid : Nat) (xs : List ByteArray) (io : Nat) (ys : List ByteArray) (io' : Nat) (F' : AHeap) : Prop where
 out : OutW F' oid ys io'
 len : F.length ≤ F'.length
 at_ : ys ≠ [] → (xs ≠ [] ∧ io' = io) ∨ F.length ≤ io'
 old : ∀ i,i < F.length → i ≠ oid → (xs ≠ [] → i ≠ io) → AHeap.find F' i = AHeap.find F i
theorem strs_ne {xs : List ByteArray} (h : xs ≠ []) : strs xs ≠ [] := fun e => h (by simpa [strs] using e)
theorem strs_app (a b : List ByteArray) : strs (a ++ b) = strs a ++ strs b := by simp [strs]
theorem OutQ.none {F : AHeap} {oid : Nat} {xs : List ByteArray} {io : Nat} (h : OutW F oid xs io) : OutQ F oid xs io xs io F :=
 ⟨h,Nat.le_refl _,fun e => .inl ⟨e,rfl⟩,fun _ _ _ _ => rfl⟩
theorem OutQ.trans {F G K : AHeap} {oid a b c : Nat} {xs ys zs : List ByteArray} (h : OutQ F oid xs a ys b G) (k : OutQ G oid ys b zs c K) : OutQ F oid xs a zs c K := by
 refine ⟨k.out,Nat.le_trans h.len k.len,fun e => ?_,fun i hi h1 h2 => ?_⟩
 ·rcases k.at_ e with ⟨e1,e2⟩ | h3
  ·rcases h.at_ e1 with ⟨g1,g2⟩ | g3
   ·exact .inl ⟨g1,e2.trans g2⟩
   ·exact .inr (by omega)
  ·exact .inr (by have := h.len; omega)
 ·rw [k.old i (by have := h.len; omega) h1 (fun e => ?_),h.old i hi h1 h2]
  rcases h.at_ e with ⟨g1,g2⟩ | g3
  ·rw [g2]; exact h2 g1
  ·omega
/-- A block more, on top. -/
theorem OutW.cons {F : AHeap} {oid io : Nat} {xs : List ByteArray} (b : Option ABlk) (h : OutW F oid xs io) : OutW (b :: F) oid xs io := by
 refine ⟨by rw [find_past (AHeap.find_lt h.box)]; exact h.box,fun e => ⟨?_,(h.own e).2⟩⟩
 have h1 := (h.own e).1
 rw [OwnB_ne (strs_ne e)] at h1 ⊢
 rw [find_past (AHeap.find_lt h1),h1]
theorem OutQ.cons {F : AHeap} {oid io : Nat} {xs : List ByteArray} (b : Option ABlk) (h : OutW F oid xs io) : OutQ F oid xs io xs io (b :: F) :=
 ⟨h.cons b,by simp,fun e => .inl ⟨e,rfl⟩,fun i hi _ _ => find_past hi⟩
def nmL (t : Nd) : List ByteArray := if namedP t.kind then [t.text] else []
set_option maxHeartbeats 0 in
theorem names1_d (t : Nd) (hs : t.text.size ≤ 100000000) (xs : List ByteArray) (hx : xs.length ≤ 90000000) (oid io : Nat) (F : AHeap) (h : OutW F oid xs io) : DK Tryd.prog 29 [ndR t none,.ptr 1 oid 0 0] F (fun e F' => ∃ v,e = .ret v ∧ v = .tup [] ∧ ∃ io',OutQ F oid xs io (xs ++ nmL t) io' F') := by
 have hol := AHeap.find_lt h.box
 have hbox := h.box
 rw [ndR_eq]
 refine dk29 (E_of_ES ?_)
 simp only [ic29,ux]
 refine ES_seq_gen fun L hL => ?_
 simp -implicitDefEqProofs (maxSteps := 99999999) (disch := first | omega | (simp only [AHeap.set_length,killO_length,List.length_cons,List.length_nil]; first | done | omega)) only [vu,va,vg,vs,vw,Nat.reduceMul,ite_true,ite_false,eq_self,forall_const,implies_true,Nat.reduceAdd,Nat.reduceSub,Nat.reduceLT,Nat.reduceLeDiff,↓reduceIte,reduceCtorEq,Int.reduceEq,Int.reduceLT,Int.reduceLE,Int.reduceGT,Int.reduceGE,Int.reduceAdd,Int.reduceSub,Int.reduceNeg,Int.reduceToNat,Nat.reduceBEq,Nat.reduceEqDiff]
 refine hL _ _ ?_
 clear hL
 simp -implicitDefEqProofs (maxSteps := 99999999) (disch := first | omega | (simp only [AHeap.set_length,killO_length,List.length_cons,List.length_nil]; first | done | omega)) only [vu,va,vg,vs,vw,Nat.reduceMul,ite_true,ite_false,eq_self,forall_const,implies_true,Nat.reduceAdd,Nat.reduceSub,Nat.reduceLT,Nat.reduceLeDiff,↓reduceIte,reduceCtorEq,Int.reduceEq,Int.reduceLT,Int.reduceLE,Int.reduceGT,Int.reduceGE,Int.reduceAdd,Int.reduceSub,Int.reduceNeg,Int.reduceToNat,Nat.reduceBEq,Nat.reduceEqDiff]
 refine callR_ret (named_d _ _) ?_
 cases hn : namedP t.kind
 ·simp -implicitDefEqProofs (maxSteps := 99999999) (disch := first | omega | (simp only [AHeap.set_length,killO_length,List.length_cons,List.length_nil]; first | done | omega)) only [vu,va,vg,vs,vw,Nat.reduceMul,ite_true,ite_false,eq_self,forall_const,implies_true,Nat.reduceAdd,Nat.reduceSub,Nat.reduceLT,Nat.reduceLeDiff,↓reduceIte,reduceCtorEq,Int.reduceEq,Int.reduceLT,Int.reduceLE,Int.reduceGT,Int.reduceGE,Int.reduceAdd,Int.reduceSub,Int.reduceNeg,Int.reduceToNat,Nat.reduceBEq,Nat.reduceEqDiff]
  refine ⟨_,rfl,rfl,io,?_⟩
  have e : xs ++ nmL t = xs := by simp [nmL,hn]
  rw [e]
  exact .cons _ h
 have hnm : nmL t = [t.text] := by simp [nmL,hn]
 have hsx : strs (xs ++ [t.text]) = strs xs ++ [.sc (.string t.text)] := by rw [strs_app]; rfl
 have hc := h.cons (some ⟨4,[.agg [.sc (.int .u8 t.kind),.sc (.string t.text),.sc (.int .i64 t.num),.lst 4 (ndL t.kids) none]],true,25⟩)
 obtain ⟨io',F',p1,p2,p3,p4,p5,p6⟩ := apAny (H := some ⟨4,[.agg [.sc (.int .u8 t.kind),.sc (.string t.text),.sc (.int .i64 t.num),.lst 4 (ndL t.kids) none]],true,25⟩ :: F) (k := 1) (ty := 9) (xs := strs xs) (ys := [.sc (.string t.text)]) (id := io) (fun e => (hc.own (fun e2 => e (by rw [e2]; rfl))).1) (by rw [strs_length]; simp; omega)
 have hne : strs xs ++ [AV.sc (.string t.text)] ≠ [] := by simp
 obtain ⟨p4a,p4b⟩ := p4 hne
 simp only [List.length_cons] at p4b p5
 have hb2 : AHeap.find F' oid = some ⟨1,[OwnV 1 (strs xs) io],true,29⟩ := by
  rw [p6 oid (by simp only [List.length_cons]; omega) (fun e => ((hc.own (fun e2 => e (by rw [e2]; rfl))).2).symm),find_past hol,hbox]
 have hV : OwnV 1 (strs xs ++ [AV.sc (.string t.text)]) io' = .vec 1 io' 0 (strs xs ++ [AV.sc (.string t.text)]).length none := OwnV_ne hne
 simp -implicitDefEqProofs (maxSteps := 99999999) (disch := first | omega | (simp only [AHeap.set_length,killO_length,List.length_cons,List.length_nil]; first | done | omega)) only [vu,hbox,va,vg,vs,vw,Nat.reduceMul,ite_true,ite_false,eq_self,forall_const,implies_true,Nat.reduceAdd,Nat.reduceSub,Nat.reduceLT,Nat.reduceLeDiff,↓reduceIte,reduceCtorEq,Int.reduceEq,Int.reduceLT,Int.reduceLE,Int.reduceGT,Int.reduceGE,Int.reduceAdd,Int.reduceSub,Int.reduceNeg,Int.reduceToNat,Nat.reduceBEq,Nat.reduceEqDiff]
 refine callD_same (strCloneT_d _ _ hs) ?_
 simp -implicitDefEqProofs (maxSteps := 99999999) (disch := first | omega | (simp only [AHeap.set_length,killO_length,List.length_cons,List.length_nil]; first | done | omega)) only [vu,p1,p2,p3,hb2,va,vg,vs,vw,Nat.reduceMul,ite_true,ite_false,eq_self,forall_const,implies_true,Nat.reduceAdd,Nat.reduceSub,Nat.reduceLT,Nat.reduceLeDiff,↓reduceIte,reduceCtorEq,Int.reduceEq,Int.reduceLT,Int.reduceLE,Int.reduceGT,Int.reduceGE,Int.reduceAdd,Int.reduceSub,Int.reduceNeg,Int.reduceToNat,Nat.reduceBEq,Nat.reduceEqDiff]
 refine ⟨_,rfl,rfl,io',?_⟩
 rw [hnm]
 have hol' : oid < F'.length := by omega
 refine ⟨⟨?_,fun _ => ⟨?_,by omega⟩⟩,?_,fun _ => .inr (by omega),fun i hi h1 h2 => ?_⟩
 ·rw [AHeap.find_set_same hol',hsx]
 ·rw [AHeap.find_set_ne (by omega),p4a,hsx]
 ·rw [AHeap.set_length]; omega
 ·rw [AHeap.find_set_ne h1,p6 i (by simp only [List.length_cons]; omega) (fun e => h2 (fun e2 => e (by rw [e2]; rfl))),find_past hi]
end Go.Proofs.YtfnahogjkgcklaaDoor
