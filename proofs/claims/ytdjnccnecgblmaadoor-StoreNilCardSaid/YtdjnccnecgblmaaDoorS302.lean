/- The store's names. -/
import Derived.Test.YtdjnccnecgblmaaDoorS301
namespace Go.Proofs.YtdjnccnecgblmaaDoor
open Go.RowKit Go.Shelf Go.Sort Srt
set_option maxRecDepth 100000
set_option linter.unusedVariables false
set_option linter.unusedSimpArgs false
/-- A map's entries. -/
def mE (l : List (ByteArray × AV)) : List AV := l.map fun p => .tup [.sc (.string p.1),p.2]
theorem mE_length (l : List (ByteArray × AV)) : (mE l).length = l.length := by simp [mE]
def nameR (l : List (ByteArray × AV)) : List ByteArray := ofL ((toL (l.map (·.1))).mergeSort fun x y => decide (x ≤ y))
def keyAt (l : List (ByteArray × AV)) (i : Nat) : ByteArray := (l.map (·.1)).getD i ⟨#[]⟩
theorem mE_get {l : List (ByteArray × AV)} {i : Nat} {k : Value} {v : AV} (h : (mE l)[i]? = some (.tup [.sc k,v])) : i < l.length ∧ k = .string (keyAt l i) := by
 unfold mE at h
 rw [List.getElem?_map,Option.map_eq_some_iff] at h
 obtain ⟨p,h1,h2⟩ := h
 simp only [AV.tup.injEq,List.cons.injEq,AV.sc.injEq,and_true] at h2
 refine ⟨(List.getElem?_eq_some_iff.1 h1).1,?_⟩
 rw [← h2.1]
 simp [keyAt,List.getD,h1]
theorem mE_shape {l : List (ByteArray × AV)} : ∀ x ∈ mE l,∃ (k : Value) (v : AV),x = .tup [.sc k,v] := by
 intro x hx
 obtain ⟨p,_,rfl⟩ := List.mem_map.1 hx
 exact ⟨_,_,rfl⟩
theorem keys_all {l : List (ByteArray × AV)} {js : List Nat} (hn : js.Nodup) (hj : ∀ j ∈ js,j < l.length) (hall : ∀ i,i < l.length → i ∈ js) : (js.map (keyAt l)).Perm (l.map (·.1)) := by
 have h1 : js.Perm (List.range l.length) := (List.perm_ext_iff_of_nodup hn List.nodup_range).2 fun a => ⟨fun h => List.mem_range.2 (hj a h),fun h => hall a (List.mem_range.1 h)⟩
 have h2 : (List.range l.length).map (keyAt l) = l.map (·.1) := by
  apply List.ext_getElem?
  intro i
  rw [List.getElem?_map]
  by_cases hi : i < l.length
  ·simp [hi,keyAt]
  ·simp [hi]
 rw [← h2]
 exact h1.map _
theorem nd_len : ∀ (n : Nat) (js : List Nat),js.Nodup → (∀ j ∈ js,j < n) → js.length ≤ n
 | 0,js,_,h2 => by
  cases js with
  | nil => simp
  | cons a r => exact absurd (h2 a (by simp)) (by omega)
 | n + 1,js,h1,h2 => by
  have := nd_len n (js.erase n) (h1.erase n) (fun j hj => by
   have h3 := (List.Nodup.mem_erase_iff h1).1 hj
   have := h2 j h3.2
   have := h3.1
   omega)
  rw [List.length_erase] at this
  split at this <;> omega
theorem strs_gz {H1 : AHeap} {n0 : Nat} {src : List Nat} : ∀ xs : List ByteArray,GzL H1 n0 src (strs xs) (strs xs)
 | [] => .nil
 | _ :: r => .cons (.same trivial) (strs_gz r)
theorem sort_perm {a b : List (List UInt8)} (h : a.Perm b) : a.mergeSort (fun x y => decide (x ≤ y)) = b.mergeSort fun x y => decide (x ≤ y) := by
 have tr : ∀ x y z : List UInt8,decide (x ≤ y) = true → decide (y ≤ z) = true → decide (x ≤ z) = true := fun x y z h1 h2 => by
  simp only [decide_eq_true_eq] at *
  exact List.le_trans h1 h2
 have to : ∀ x y : List UInt8,(decide (x ≤ y) || decide (y ≤ x)) = true := fun x y => by
  simp only [Bool.or_eq_true,decide_eq_true_eq]
  exact List.le_total x y
 refine List.Perm.eq_of_pairwise (le := fun x y => decide (x ≤ y) = true) ?_ (List.pairwise_mergeSort tr to a) (List.pairwise_mergeSort tr to b) ((List.mergeSort_perm a _).trans (h.trans (List.mergeSort_perm b _).symm))
 intro x y _ _ h1 h2
 simp only [decide_eq_true_eq] at h1 h2
 exact List.le_antisymm h1 h2
set_option maxHeartbeats 4000000 in
theorem names_d (l : List (ByteArray × AV)) (hl : l.length ≤ 1000000) (ex : Bool) (s m : Nat) (H : AHeap) (hs : AHeap.find H s = some (stB (.ptr 0 m 0 0))) (hm : AHeap.find H m = some ⟨0,mE l,ex,0⟩) :
  D Tryd.prog 7 [.ptr 1 s 0 0] H (.ret (.lst 1 (strs (nameR l)) none)) H := by
 refine D_of_DK (by simp) (dk7 (E_of_ES ?_))
 simp only [ic7,ux]
 have hk := known_d s m H hs
 have hs' := hs
 unfold stB at hs'
 refine ES_seq_gen fun L hL => ?_
 simp -implicitDefEqProofs (maxSteps := 99999999) (disch := first | omega | (simp only [AHeap.set_length,killO_length,List.length_cons,List.length_nil]; first | done | omega)) only [vu,va,vg,vs,vw,Nat.reduceMul,ite_true,ite_false,eq_self,forall_const,implies_true,Nat.reduceAdd,Nat.reduceSub,Nat.reduceLT,Nat.reduceLeDiff,↓reduceIte,reduceCtorEq,Int.reduceEq,Int.reduceLT,Int.reduceLE,Int.reduceGT,Int.reduceGE,Int.reduceAdd,Int.reduceSub,Int.reduceNeg,Int.reduceToNat,Nat.reduceBEq,Nat.reduceEqDiff]
 refine hL _ _ ?_
 clear hL
 refine ES_seq_gen fun L hL => ?_
 simp -implicitDefEqProofs (maxSteps := 99999999) (disch := first | omega | (simp only [AHeap.set_length,killO_length,List.length_cons,List.length_nil]; first | done | omega)) only [vu,va,vg,vs,vw,Nat.reduceMul,ite_true,ite_false,eq_self,forall_const,implies_true,Nat.reduceAdd,Nat.reduceSub,Nat.reduceLT,Nat.reduceLeDiff,↓reduceIte,reduceCtorEq,Int.reduceEq,Int.reduceLT,Int.reduceLE,Int.reduceGT,Int.reduceGE,Int.reduceAdd,Int.reduceSub,Int.reduceNeg,Int.reduceToNat,Nat.reduceBEq,Nat.reduceEqDiff]
 refine callR_ret hk ?_
 simp -implicitDefEqProofs (maxSteps := 99999999) (disch := first | omega | (simp only [AHeap.set_length,killO_length,List.length_cons,List.length_nil]; first | done | omega)) only [vu,va,vg,vs,vw,Nat.reduceMul,ite_true,ite_false,eq_self,forall_const,implies_true,Nat.reduceAdd,Nat.reduceSub,Nat.reduceLT,Nat.reduceLeDiff,↓reduceIte,reduceCtorEq,Int.reduceEq,Int.reduceLT,Int.reduceLE,Int.reduceGT,Int.reduceGE,Int.reduceAdd,Int.reduceSub,Int.reduceNeg,Int.reduceToNat,Nat.reduceBEq,Nat.reduceEqDiff]
 refine hL _ _ ?_
 clear hL
 refine ES_seq_gen fun L hL => ?_
 simp -implicitDefEqProofs (maxSteps := 99999999) (disch := first | omega | (simp only [AHeap.set_length,killO_length,List.length_cons,List.length_nil]; first | done | omega)) only [vu,va,vg,vs,vw,Nat.reduceMul,ite_true,ite_false,eq_self,forall_const,implies_true,Nat.reduceAdd,Nat.reduceSub,Nat.reduceLT,Nat.reduceLeDiff,↓reduceIte,reduceCtorEq,Int.reduceEq,Int.reduceLT,Int.reduceLE,Int.reduceGT,Int.reduceGE,Int.reduceAdd,Int.reduceSub,Int.reduceNeg,Int.reduceToNat,Nat.reduceBEq,Nat.reduceEqDiff]
 refine hL _ _ ?_
 clear hL
 refine ES_seq_gen fun L hL => ?_
 refine ES_seq_gen fun L hL => ?_
 simp -implicitDefEqProofs (maxSteps := 99999999) (disch := first | omega | (simp only [AHeap.set_length,killO_length,List.length_cons,List.length_nil]; first | done | omega)) only [vu,hs',va,vg,vs,vw,Nat.reduceMul,ite_true,ite_false,eq_self,forall_const,implies_true,Nat.reduceAdd,Nat.reduceSub,Nat.reduceLT,Nat.reduceLeDiff,↓reduceIte,reduceCtorEq,Int.reduceEq,Int.reduceLT,Int.reduceLE,Int.reduceGT,Int.reduceGE,Int.reduceAdd,Int.reduceSub,Int.reduceNeg,Int.reduceToNat,Nat.reduceBEq,Nat.reduceEqDiff]
 refine ⟨mE l,ex,hm,fun clock bs hb1 hb2 => ?_⟩
 rw [mE_length] at hb1
 have hmH := AHeap.find_lt hm
 have hnd : bs.Nodup := hb2.imp fun h => by omega
 refine hL _ _ ?_
 clear hL
 clear L
 simp -implicitDefEqProofs (maxSteps := 99999999) (disch := first | omega | (simp only [AHeap.set_length,killO_length,List.length_cons,List.length_nil]; first | done | omega)) only [vu,va,vg,vs,vw,Nat.reduceMul,ite_true,ite_false,eq_self,forall_const,implies_true,Nat.reduceAdd,Nat.reduceSub,Nat.reduceLT,Nat.reduceLeDiff,↓reduceIte,reduceCtorEq,Int.reduceEq,Int.reduceLT,Int.reduceLE,Int.reduceGT,Int.reduceGE,Int.reduceAdd,Int.reduceSub,Int.reduceNeg,Int.reduceToNat,Nat.reduceBEq,Nat.reduceEqDiff]
 refine ES_loopL (fun ts F => ∃ (js : List Nat) (io : Nat),(js.Nodup ∧ (∀ j ∈ js,j < l.length) ∧ AHeap.find F H.length = some (itB m clock (js.map fun j => bs.getD j 0)) ∧ AHeap.find F m = some (lkB clock bs (mE l) ex) ∧ (strs (js.map (keyAt l)) ≠ [] → AHeap.find F io = OwnB 1 9 (strs (js.map (keyAt l))) ∧ H.length < io) ∧ (∀ id,id < H.length → id ≠ m → AHeap.find F id = AHeap.find H id) ∧ H.length < F.length) ∧ Fr [none,none,none,some (OwnV 1 (strs (js.map (keyAt l))) io),none,none,none,none,none,none,none,none,none,some (.ptr 0 H.length 0 2),none,none,none,none,none,none,none,none,none,none,none] ts) (fun ts _ => l.length - lenN (ts.getD 3 .top)) ?_ ?_
 ·refine ⟨[],0,⟨List.nodup_nil,by simp,?_,?_,fun h => absurd rfl h,fun id h1 h2 => ?_,by simp [AHeap.set_length]⟩,by simp [Fr]; exact rfl⟩
  ·have := AHeap.find_new (H := AHeap.set H m (some (lkB clock bs (mE l) ex))) (b := some (itB m clock []))
   rwa [AHeap.set_length] at this
  ·rw [AHeap.find_cons (by rw [AHeap.set_length]; exact hmH),AHeap.find_set_same hmH]
  ·rw [AHeap.find_cons (by rw [AHeap.set_length]; exact h1),AHeap.find_set_ne h2]
 rintro ts F ⟨js,io,⟨n1,n2,n3,n4,n5,n6,n7⟩,hfr⟩ L2 hL2
 obtain ⟨zs,rfl⟩ := hfr.opened
 clear hfr
 have hjl : js.length ≤ l.length := nd_len _ _ n1 n2
 have fo : strs (js.map (keyAt l)) ≠ [] → AHeap.find F io = OwnB 1 9 (strs (js.map (keyAt l))) := fun e => (n5 e).1
 have lo : (strs (js.map (keyAt l))).length = js.length := by rw [strs_length,List.length_map]
 have hmF := AHeap.find_lt n4
 simp -implicitDefEqProofs (maxSteps := 99999999) (disch := first | omega | (simp only [AHeap.set_length,killO_length,List.length_cons,List.length_nil]; first | done | omega)) only [vu,mk,va,vg,vs,vw,Nat.reduceMul,ite_true,ite_false,eq_self,forall_const,implies_true,Nat.reduceAdd,Nat.reduceSub,Nat.reduceLT,Nat.reduceLeDiff,↓reduceIte,reduceCtorEq,Int.reduceEq,Int.reduceLT,Int.reduceLE,Int.reduceGT,Int.reduceGE,Int.reduceAdd,Int.reduceSub,Int.reduceNeg,Int.reduceToNat,Nat.reduceBEq,Nat.reduceEqDiff]
 refine ⟨m,clock,js.map fun j => bs.getD j 0,bs,mE l,ex,n3,n4,mE_shape,fun hall => ?_,fun i b k v hb he hns => ?_⟩
 ·have hall' : ∀ i,i < l.length → i ∈ js := by
   intro i hi
   have h1 : bs[i]? = some (bs.getD i 0) := by rw [List.getD,List.getElem?_eq_getElem (by omega)]; rfl
   obtain ⟨j,hj,e⟩ := List.mem_map.1 (hall _ (List.mem_of_getElem? h1))
   have hjl' := n2 j hj
   have h2 : bs[j]'(by omega) = bs[i]'(by omega) := by simpa [List.getD,List.getElem?_eq_getElem (show j < bs.length by omega),List.getElem?_eq_getElem (show i < bs.length by omega)] using e
   have := (List.getElem_inj hnd).1 h2
   rw [← this]; exact hj
  have hp := keys_all n1 n2 hall'
  simp -implicitDefEqProofs (maxSteps := 99999999) (disch := first | omega | (simp only [AHeap.set_length,killO_length,List.length_cons,List.length_nil]; first | done | omega)) only [vu,mk,va,vg,vs,vw,Nat.reduceMul,ite_true,ite_false,eq_self,forall_const,implies_true,Nat.reduceAdd,Nat.reduceSub,Nat.reduceLT,Nat.reduceLeDiff,↓reduceIte,reduceCtorEq,Int.reduceEq,Int.reduceLT,Int.reduceLE,Int.reduceGT,Int.reduceGE,Int.reduceAdd,Int.reduceSub,Int.reduceNeg,Int.reduceToNat,Nat.reduceBEq,Nat.reduceEqDiff]
  refine hL _ _ ?_
  clear hL
  refine ES_seq_gen fun L hL => ?_
  have fo2 : strs (js.map (keyAt l)) ≠ [] → AHeap.find (AHeap.set F m (some ⟨0,mE l,ex,0⟩)) io = OwnB 1 9 (strs (js.map (keyAt l))) := fun e => by
   rw [AHeap.find_set_ne (by have := (n5 e).2; omega)]; exact (n5 e).1
  have hrest : ∀ id,id < H.length → AHeap.find (AHeap.set F m (some ⟨0,mE l,ex,0⟩)) id = AHeap.find H id := fun id hid => by
   by_cases e : id = m
   ·subst e; rw [AHeap.find_set_same hmF,hm]
   ·rw [AHeap.find_set_ne e]; exact n6 id hid e
  have hsrt : nameR l = ofL ((toL (js.map (keyAt l))).mergeSort fun x y => decide (x ≤ y)) := by
   unfold nameR
   have hp2 : (toL (js.map (keyAt l))).Perm (toL (l.map (·.1))) := hp.map _
   rw [sort_perm hp2]
  have hlen : (nameR l).length = (js.map (keyAt l)).length := by rw [hsrt,ofL_length,List.length_mergeSort,toL_length]
  simp -implicitDefEqProofs (maxSteps := 99999999) (disch := first | omega | (simp only [AHeap.set_length,killO_length,List.length_cons,List.length_nil]; first | done | omega)) only [vu,va,vg,vs,vw,Nat.reduceMul,ite_true,ite_false,eq_self,forall_const,implies_true,Nat.reduceAdd,Nat.reduceSub,Nat.reduceLT,Nat.reduceLeDiff,↓reduceIte,reduceCtorEq,Int.reduceEq,Int.reduceLT,Int.reduceLE,Int.reduceGT,Int.reduceGE,Int.reduceAdd,Int.reduceSub,Int.reduceNeg,Int.reduceToNat,Nat.reduceBEq,Nat.reduceEqDiff]
  refine callR_ret (sort_o (js.map (keyAt l)) (by rw [List.length_map]; omega) io _ (fun e => fo2 (Srt.strs_ne e))) ?_
  rw [← hsrt]
  generalize hks : js.map (keyAt l) = ks at *
  simp -implicitDefEqProofs (maxSteps := 99999999) (disch := first | omega | (simp only [AHeap.set_length,killO_length,List.length_cons,List.length_nil]; first | done | omega)) only [vu,va,vg,vs,vw,Nat.reduceMul,ite_true,ite_false,eq_self,forall_const,implies_true,Nat.reduceAdd,Nat.reduceSub,Nat.reduceLT,Nat.reduceLeDiff,↓reduceIte,reduceCtorEq,Int.reduceEq,Int.reduceLT,Int.reduceLE,Int.reduceGT,Int.reduceGE,Int.reduceAdd,Int.reduceSub,Int.reduceNeg,Int.reduceToNat,Nat.reduceBEq,Nat.reduceEqDiff]
  refine hL _ _ ?_
  clear hL
  simp -implicitDefEqProofs (maxSteps := 99999999) (disch := first | omega | (simp only [AHeap.set_length,killO_length,List.length_cons,List.length_nil]; first | done | omega)) only [vu,va,vg,vs,vw,Nat.reduceMul,ite_true,ite_false,eq_self,forall_const,implies_true,Nat.reduceAdd,Nat.reduceSub,Nat.reduceLT,Nat.reduceLeDiff,↓reduceIte,reduceCtorEq,Int.reduceEq,Int.reduceLT,Int.reduceLE,Int.reduceGT,Int.reduceGE,Int.reduceAdd,Int.reduceSub,Int.reduceNeg,Int.reduceToNat,Nat.reduceBEq,Nat.reduceEqDiff]
  have hio : ks ≠ [] → H.length < io := fun e => (n5 (Srt.strs_ne e)).2
  by_cases e : ks = []
  ·have e2 : nameR l = [] := List.length_eq_zero_iff.1 (by rw [hlen,e]; rfl)
   rw [if_pos e,e,e2]
   exact weak_frz hrest .nil
  ·rw [if_neg e]
   have e3 : nameR l ≠ [] := fun h => e (List.length_eq_zero_iff.1 (by rw [← hlen,h]; rfl))
   have e4 : OwnV 1 (strs ks) io = OwnV 1 (strs (nameR l)) io := by
    rw [OwnV_ne (Srt.strs_ne e),OwnV_ne (Srt.strs_ne e3),strs_length,strs_length,hlen]
   rw [e4]
   have hio := hio e
   have hfi := AHeap.find_lt ((fo2 (Srt.strs_ne e)).trans (OwnB_ne (Srt.strs_ne e)))
   refine weak_frz (fun id hid => ?_) (OwnV_fz (ty := 9) (fun _ => ?_) (fun _ => ?_) ?_)
   ·rw [AHeap.find_set_ne (by omega)]; exact hrest id hid
   ·unfold newId
    rw [if_neg (by omega)]
    simp
   ·rw [AHeap.find_set_same hfi,OwnB_ne (Srt.strs_ne e3)]
   ·exact strs_gz _
 ·obtain ⟨hil,rfl⟩ := mE_get he
  have hbi : bs.getD i 0 = b := by simp [List.getD,hb]
  have hij : i ∉ js := fun h => hns (List.mem_map.2 ⟨i,h,hbi⟩)
  simp -implicitDefEqProofs (maxSteps := 99999999) (disch := first | omega | (simp only [AHeap.set_length,killO_length,List.length_cons,List.length_nil]; first | done | omega)) only [vu,mk,va,vg,vs,vw,Nat.reduceMul,ite_true,ite_false,eq_self,forall_const,implies_true,Nat.reduceAdd,Nat.reduceSub,Nat.reduceLT,Nat.reduceLeDiff,↓reduceIte,reduceCtorEq,Int.reduceEq,Int.reduceLT,Int.reduceLE,Int.reduceGT,Int.reduceGE,Int.reduceAdd,Int.reduceSub,Int.reduceNeg,Int.reduceToNat,Nat.reduceBEq,Nat.reduceEqDiff]
  refine ⟨m,clock,js.map fun j => bs.getD j 0,bs,mE l,ex,i,b,_,v,AHeap.find_set_same (AHeap.find_lt n3),?_,hb,he,?_⟩
  ·rw [AHeap.find_set_ne (by omega)]; exact n4
  have q3 := AHeap.find_set_same (x := some (itB m clock ((js.map fun j => bs.getD j 0) ++ [b]))) (AHeap.find_lt n3)
  have q4 : ∀ id,id ≠ H.length → AHeap.find (AHeap.set F H.length (some (itB m clock ((js.map fun j => bs.getD j 0) ++ [b])))) id = AHeap.find F id := fun id h => AHeap.find_set_ne h
  have q5 : (AHeap.set F H.length (some (itB m clock ((js.map fun j => bs.getD j 0) ++ [b])))).length = F.length := AHeap.set_length _ _ _
  generalize AHeap.set F H.length (some (itB m clock ((js.map fun j => bs.getD j 0) ++ [b]))) = F2 at *
  obtain ⟨io1,G1,p1,p2,p3,p4,p5,p6⟩ := apAny (H := F2) (k := 1) (ty := 9) (ys := [AV.sc (.string (keyAt l i))]) (fun e => by rw [q4 io (by have := (n5 e).2; omega)]; exact fo e) (by rw [lo]; simp; omega)
  have hap : strs (js.map (keyAt l)) ++ [AV.sc (.string (keyAt l i))] = strs ((js ++ [i]).map (keyAt l)) := by simp [strs]
  rw [hap] at p2 p4
  simp -implicitDefEqProofs (maxSteps := 99999999) (disch := first | omega | (simp only [AHeap.set_length,killO_length,List.length_cons,List.length_nil]; first | done | omega)) only [vu,p1,p2,p3,va,vg,vs,vw,Nat.reduceMul,ite_true,ite_false,eq_self,forall_const,implies_true,Nat.reduceAdd,Nat.reduceSub,Nat.reduceLT,Nat.reduceLeDiff,↓reduceIte,reduceCtorEq,Int.reduceEq,Int.reduceLT,Int.reduceLE,Int.reduceGT,Int.reduceGE,Int.reduceAdd,Int.reduceSub,Int.reduceNeg,Int.reduceToNat,Nat.reduceBEq,Nat.reduceEqDiff]
  have hjn : (js ++ [i]).Nodup := List.nodup_append.2 ⟨n1,by simp,fun a ha b hb e => hij (by rw [List.mem_singleton] at hb; rw [← hb,← e]; exact ha)⟩
  have hja : ∀ j ∈ js ++ [i],j < l.length := fun j hj => by
   rcases List.mem_append.1 hj with h | h
   ·exact n2 j h
   ·rw [List.mem_singleton] at h; rw [h]; exact hil
  have hjm := nd_len _ _ hjn hja
  rw [List.length_append,List.length_singleton] at hjm
  have hne : ∀ id,id < H.length → strs (js.map (keyAt l)) ≠ [] → id ≠ io := fun id h e => by have := (n5 e).2; omega
  refine hL2 _ _ ⟨js ++ [i],io1,⟨hjn,hja,?_,?_,fun e => ⟨(p4 e).1,by have := (p4 e).2; omega⟩,fun id h1 h2 => ?_,by omega⟩,by simp [Fr]⟩ ?_
  ·rw [p6 _ (by omega) (fun e => by have := (n5 e).2; omega),q3,List.map_append,List.map_cons,List.map_nil,hbi]
  ·rw [p6 _ (by omega) (fun e => hne m hmH e),q4 m (by omega)]; exact n4
  ·rw [p6 _ (by omega) (fun e => hne id h1 e),q4 id (by omega)]; exact n6 id h1 h2
  ·show l.length - lenN (OwnV 1 (strs ((js ++ [i]).map (keyAt l))) io1) < l.length - lenN (OwnV 1 (strs (js.map (keyAt l))) io)
   rw [OwnV_lenN,OwnV_lenN,strs_length,strs_length,List.length_map,List.length_map,List.length_append,List.length_singleton]
   omega
end Go.Proofs.YtdjnccnecgblmaaDoor
