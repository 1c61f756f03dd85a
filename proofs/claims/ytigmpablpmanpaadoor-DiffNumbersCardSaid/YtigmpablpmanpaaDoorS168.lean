/- law02.DiffNumbers: the walk. -/
import Derived.Test.YtigmpablpmanpaaDoorS167
namespace Go.Proofs.YtigmpablpmanpaaDoor
open Go.RowKit
set_option maxRecDepth 100000
set_option linter.unusedVariables false
set_option linter.unusedSimpArgs false
/-- A short row: nothing, or an own block. -/
def RowV (F : AHeap) (n : Nat) (r : List ByteArray) (v : AV) : Prop := (r = [] ∧ v = nlA) ∨ ∃ id,id < n ∧ v = .vec 1 id 0 r.length none ∧ AHeap.find F id = some ⟨1,strs r,false,9⟩
theorem RowV.view {F : AHeap} {n : Nat} {r : List ByteArray} {v : AV} (h : RowV F n r v) : View F v (.lst 1 (strs r) none) := by
 rcases h with ⟨rfl,rfl⟩ | ⟨id,h1,rfl,h2⟩
 ·exact .nil
 ·refine .vec h2 rfl (by simp [strs_length]) ?_
  rw [List.drop_zero,List.take_of_length_le (by simp [strs_length])]
  exact strs_view
theorem RowV.keep {F G : AHeap} {n m : Nat} {r : List ByteArray} {v : AV} (h : RowV F n r v) (hk : ∀ id blk,id < n → AHeap.find F id = some blk → blk.ty = 9 → AHeap.find G id = some blk) (hn : n ≤ m) : RowV G m r v := by
 rcases h with h | ⟨id,h1,h2,h3⟩
 ·exact .inl h
 ·exact .inr ⟨id,by omega,h2,hk _ _ h1 h3 rfl⟩
def RowsV (F : AHeap) (n : Nat) : List (List ByteArray) → List AV → Prop
 | [],[] => True
 | r :: rs,v :: vs => RowV F n r v ∧ RowsV F n rs vs
 | _,_ => False
theorem RowsV.keep {F G : AHeap} {n m : Nat} (hk : ∀ id blk,id < n → AHeap.find F id = some blk → blk.ty = 9 → AHeap.find G id = some blk) (hn : n ≤ m) : ∀ {rs : List (List ByteArray)} {vs : List AV},RowsV F n rs vs → RowsV G m rs vs
 | [],[],_ => trivial
 | _ :: _,_ :: _,h => ⟨h.1.keep hk hn,h.2.keep hk hn⟩
 | [],_ :: _,h => h
 | _ :: _,[],h => h
theorem RowsV.view {F : AHeap} {n : Nat} : ∀ {rs : List (List ByteArray)} {vs : List AV},RowsV F n rs vs → ViewL F vs (rws rs)
 | [],[],_ => .nil
 | _ :: _,_ :: _,h => .cons h.1.view h.2.view
 | [],_ :: _,h => h.elim
 | _ :: _,[],h => h.elim
theorem RowsV.len {F : AHeap} {n : Nat} : ∀ {rs : List (List ByteArray)} {vs : List AV},RowsV F n rs vs → vs.length = rs.length
 | [],[],_ => rfl
 | _ :: _,_ :: _,h => by simp [h.2.len]
 | [],_ :: _,h => h.elim
 | _ :: _,[],h => h.elim
theorem RowsV.snoc {F : AHeap} {n : Nat} {r : List ByteArray} {v : AV} (hr : RowV F n r v) : ∀ {rs : List (List ByteArray)} {vs : List AV},RowsV F n rs vs → RowsV F n (rs ++ [r]) (vs ++ [v])
 | [],[],_ => ⟨hr,trivial⟩
 | _ :: _,_ :: _,h => ⟨h.1,h.2.snoc hr⟩
 | [],_ :: _,h => h.elim
 | _ :: _,[],h => h.elim
/-- All of them. -/
def AllV (F : AHeap) (rs : List (List ByteArray)) (v : AV) : Prop := (rs = [] ∧ v = nlA) ∨ ∃ id vs,v = .vec 1 id 0 rs.length none ∧ AHeap.find F id = some ⟨1,vs,false,22⟩ ∧ RowsV F F.length rs vs
theorem AllV.view {F : AHeap} {rs : List (List ByteArray)} {v : AV} (h : AllV F rs v) : View F v (.lst 1 (rws rs) none) := by
 rcases h with ⟨rfl,rfl⟩ | ⟨id,vs,rfl,h2,h3⟩
 ·exact .nil
 ·refine .vec h2 rfl (by simp [h3.len]) ?_
  rw [List.drop_zero,List.take_of_length_le (by simp [h3.len])]
  exact h3.view
theorem shl_one {n : Nat} (h : n ≤ 4) : IntKind.u64.wrap (n : Int) = n ∧ ∃ T : Nat,1 ≤ T ∧ T ≤ 16 ∧ IntKind.i64.wrap (1 * 2 ^ min n IntKind.i64.bits) = (T : Int) := by
 obtain rfl | rfl | rfl | rfl | rfl : n = 0 ∨ n = 1 ∨ n = 2 ∨ n = 3 ∨ n = 4 := by omega
 ·exact ⟨by decide,1,by decide,by decide,by decide⟩
 ·exact ⟨by decide,2,by decide,by decide,by decide⟩
 ·exact ⟨by decide,4,by decide,by decide,by decide⟩
 ·exact ⟨by decide,8,by decide,by decide,by decide⟩
 ·exact ⟨by decide,16,by decide,by decide,by decide⟩
theorem and_one (x : Int) : ∃ q : Nat,q ≤ 1 ∧ IntKind.i64.wrap ((BitVec.ofInt IntKind.i64.bits x &&& BitVec.ofInt IntKind.i64.bits 1).toNat : Int) = (q : Int) := by
 refine ⟨(BitVec.ofInt IntKind.i64.bits x &&& BitVec.ofInt IntKind.i64.bits 1).toNat,?_,?_⟩
 ·rw [BitVec.toNat_and,show (BitVec.ofInt IntKind.i64.bits 1).toNat = 1 from by decide,Nat.and_one_is_mod]
  omega
 ·have h : (BitVec.ofInt IntKind.i64.bits x &&& BitVec.ofInt IntKind.i64.bits 1).toNat ≤ 1 := by
   rw [BitVec.toNat_and,show (BitVec.ofInt IntKind.i64.bits 1).toNat = 1 from by decide,Nat.and_one_is_mod]
   omega
  generalize (BitVec.ofInt IntKind.i64.bits x &&& BitVec.ofInt IntKind.i64.bits 1).toNat = q at h
  obtain rfl | rfl : q = 0 ∨ q = 1 := by omega
  ·decide
  ·decide
theorem numbers_parts : ic4 = .seq (ic4.l) (.seq (ic4.r.l) (.seq (.seq (ic4.r.r.l.l) (.block 0 (.loop (.seq (ic4.r.r.l.r.l.l.l) (.seq (.block 1 (.seq (ic4.r.r.l.r.l.l.r.l.l.l) (.block 2 (.loop (.seq (ic4.r.r.l.r.l.l.r.l.l.r.l.l.l) (.seq (.block 3 (.seq (ic4.r.r.l.r.l.l.r.l.l.r.l.l.r.l.l.l) (.seq (.seq (ic4.r.r.l.r.l.l.r.l.l.r.l.l.r.l.l.r.l.l) (.block 4 (.loop (.seq (ic4.r.r.l.r.l.l.r.l.l.r.l.l.r.l.l.r.l.r.l.l.l) (.seq (.block 5 (ic4.r.r.l.r.l.l.r.l.l.r.l.l.r.l.l.r.l.r.l.l.r.l.l)) (ic4.r.r.l.r.l.l.r.l.l.r.l.l.r.l.l.r.l.r.l.l.r.r)))))) (ic4.r.r.l.r.l.l.r.l.l.r.l.l.r.l.l.r.r)))) (ic4.r.r.l.r.l.l.r.l.l.r.l.l.r.r))))))) (ic4.r.r.l.r.l.l.r.r)))))) (ic4.r.r.r))) := rfl
set_option maxHeartbeats 0 in
theorem diffNumbers_d : D Tryd.prog 4 [] [] (.ret (.sc (.bool true))) [] := by
 refine D_of_DK (Nat.le_refl _) (DK_of_SE (vecs := []) (fn := Tryd.f4) (c := Tryd.f4.body.getD .skip) (ic := ic4) (rs := [.t 0]) Tryd.func4 (by kernel_rfl) (by kernel_rfl) (by kernel_rfl) ?_)
 have hn : Tryd.f4.ntmps = 137 := by kernel_rfl
 rw [hn]
 obtain ⟨js,hjs⟩ : ∃ js : Nat → AV,[] ++ List.replicate (137 - ([] : List AV).length) (.tup []) = mk [none,none,none,none,none,none,none,none,none,none,none,none,none,none,none,none,none,none,none,none,none,none,none,none,none,none,none,none,none,none,none,none,none,none,none,none,none,none,none,none,none,none,none,none,none,none,none,none,none,none,none,none,none,none,none,none,none,none,none,none,none,none,none,none,none,none,none,none,none,none,none,none,none,none,none,none,none,none,none,none,none,none,none,none,none,none,none,none,none,none,none,none,none,none,none,none,none,none,none,none,none,none,none,none,none,none,none,none,none,none,none,none,none,none,none,none,none,none,none,none,none,none,none,none,none,none,none,none,none,none,none,none,none,none,none,none,none] js := ⟨fun _ => .tup [],rfl⟩
 rw [hjs,numbers_parts]
 obtain ⟨o0,ho0⟩ : ∃ x,x = ic4.l := ⟨_,rfl⟩
 obtain ⟨o1,ho1⟩ : ∃ x,x = ic4.r.l := ⟨_,rfl⟩
 obtain ⟨c0,hc0⟩ : ∃ x,x = ic4.r.r.l.l := ⟨_,rfl⟩
 obtain ⟨g0,hg0⟩ : ∃ x,x = ic4.r.r.l.r.l.l.l := ⟨_,rfl⟩
 obtain ⟨k0,hk0⟩ : ∃ x,x = ic4.r.r.l.r.l.l.r.l.l.l := ⟨_,rfl⟩
 obtain ⟨g2,hg2⟩ : ∃ x,x = ic4.r.r.l.r.l.l.r.l.l.r.l.l.l := ⟨_,rfl⟩
 obtain ⟨l0,hl0⟩ : ∃ x,x = ic4.r.r.l.r.l.l.r.l.l.r.l.l.r.l.l.l := ⟨_,rfl⟩
 obtain ⟨i0,hi0⟩ : ∃ x,x = ic4.r.r.l.r.l.l.r.l.l.r.l.l.r.l.l.r.l.l := ⟨_,rfl⟩
 obtain ⟨g4,hg4⟩ : ∃ x,x = ic4.r.r.l.r.l.l.r.l.l.r.l.l.r.l.l.r.l.r.l.l.l := ⟨_,rfl⟩
 obtain ⟨bd,hbd⟩ : ∃ x,x = ic4.r.r.l.r.l.l.r.l.l.r.l.l.r.l.l.r.l.r.l.l.r.l.l := ⟨_,rfl⟩
 obtain ⟨n4,hn4⟩ : ∃ x,x = ic4.r.r.l.r.l.l.r.l.l.r.l.l.r.l.l.r.l.r.l.l.r.r := ⟨_,rfl⟩
 obtain ⟨ap,hap⟩ : ∃ x,x = ic4.r.r.l.r.l.l.r.l.l.r.l.l.r.l.l.r.r := ⟨_,rfl⟩
 obtain ⟨n2,hn2⟩ : ∃ x,x = ic4.r.r.l.r.l.l.r.l.l.r.l.l.r.r := ⟨_,rfl⟩
 obtain ⟨n0,hn0⟩ : ∃ x,x = ic4.r.r.l.r.l.l.r.r := ⟨_,rfl⟩
 obtain ⟨tl,htl⟩ : ∃ x,x = ic4.r.r.r := ⟨_,rfl⟩
 rw [← ho0,← ho1,← hc0,← hg0,← hk0,← hg2,← hl0,← hi0,← hg4,← hbd,← hn4,← hap,← hn2,← hn0,← htl]
 simp only [ic4,IC.l,IC.r] at ho0 ho1 hc0 hg0 hk0 hg2 hl0 hi0 hg4 hbd hn4 hap hn2 hn0
 refine SE.seq (SE.of_ES ?_)
 rw [ho0]
 simp -implicitDefEqProofs (maxSteps := 99999999) (disch := first | omega | (simp only [AHeap.set_length,killO_length,List.length_cons,List.length_nil]; first | done | omega)) only [vu,mk,va,vg,vs,vw,Nat.reduceMul,ite_true,ite_false,eq_self,forall_const,implies_true,Nat.reduceAdd,Nat.reduceSub,Nat.reduceLT,Nat.reduceLeDiff,↓reduceIte,reduceCtorEq,Int.reduceEq,Int.reduceLT,Int.reduceLE,Int.reduceGT,Int.reduceGE,Int.reduceAdd,Int.reduceSub,Int.reduceNeg,Int.reduceToNat,Nat.reduceBEq,Nat.reduceEqDiff]
 refine SE.seq (SE.of_ES ?_)
 rw [ho1]
 simp -implicitDefEqProofs (maxSteps := 99999999) (disch := first | omega | (simp only [AHeap.set_length,killO_length,List.length_cons,List.length_nil]; first | done | omega)) only [vu,va,vg,vs,vw,Nat.reduceMul,ite_true,ite_false,eq_self,forall_const,implies_true,Nat.reduceAdd,Nat.reduceSub,Nat.reduceLT,Nat.reduceLeDiff,↓reduceIte,reduceCtorEq,Int.reduceEq,Int.reduceLT,Int.reduceLE,Int.reduceGT,Int.reduceGE,Int.reduceAdd,Int.reduceSub,Int.reduceNeg,Int.reduceToNat,Nat.reduceBEq,Nat.reduceEqDiff]
 refine SE.seq (SE.seq (SE.of_ES ?_))
 rw [hc0]
 simp -implicitDefEqProofs (maxSteps := 99999999) (disch := first | omega | (simp only [AHeap.set_length,killO_length,List.length_cons,List.length_nil]; first | done | omega)) only [vu,va,vg,vs,vw,Nat.reduceMul,ite_true,ite_false,eq_self,forall_const,implies_true,Nat.reduceAdd,Nat.reduceSub,Nat.reduceLT,Nat.reduceLeDiff,↓reduceIte,reduceCtorEq,Int.reduceEq,Int.reduceLT,Int.reduceLE,Int.reduceGT,Int.reduceGE,Int.reduceAdd,Int.reduceSub,Int.reduceNeg,Int.reduceToNat,Nat.reduceBEq,Nat.reduceEqDiff]
 refine SE.gen fun K hK => ?_
 refine SE.block (SE.loopL (fun ts G => ∃ (n : Nat) (rows : List (List ByteArray)) (v : AV),n ≤ 5 ∧ rows.length ≤ 16 * n ∧ (∀ r ∈ rows,r.length ≤ 4) ∧ AllV G rows v ∧ Fr [some (.sc (.bool false)),some (v),some (.sc (.int .i64 n)),none,none,none,none,none,none,none,none,none,none,none,none,none,none,none,none,none,none,none,none,none,none,none,none,none,none,none,none,none,none,none,none,none,none,none,none,none,none,none,none,none,none,none,none,none,none,none,none,none,none,none,none,none,none,none,none,none,none,none,none,none,none,none,none,none,none,none,none,none,none,none,none,none,none,none,none,none,none,none,none,none,none,none,none,none,none,none,none,none,none,none,none,none,none,none,none,none,none,none,none,none,none,none,none,none,none,none,none,none,none,none,none,none,none,none,none,none,none,none,none,none,none,none,none,none,none,none,none,none,none,none,none,none,none] ts) (fun ts _ => 5 - (intV (ts.getD 2 .top)).toNat) ?_ ?_)
 ·exact ⟨0,[],nlA,by omega,by simp,by simp,.inl ⟨rfl,rfl⟩,by simp [Fr,nlA_eq]⟩
 rintro ts G ⟨n,rows,v,hn5,hrn,hr4,hall,hfr⟩ L1 hL1
 obtain ⟨js,rfl⟩ := hfr.opened
 clear hfr
 refine SE.seq (SE.of_ES ?_)
 rw [hg0]
 by_cases hd : n ≤ 4
 ·have h1 : (n : Int) ≤ 4 := by omega
  simp -implicitDefEqProofs (maxSteps := 99999999) (disch := first | omega | (simp only [AHeap.set_length,killO_length,List.length_cons,List.length_nil]; first | done | omega)) only [vu,mk,h1,va,vg,vs,vw,Nat.reduceMul,ite_true,ite_false,eq_self,forall_const,implies_true,Nat.reduceAdd,Nat.reduceSub,Nat.reduceLT,Nat.reduceLeDiff,↓reduceIte,reduceCtorEq,Int.reduceEq,Int.reduceLT,Int.reduceLE,Int.reduceGT,Int.reduceGE,Int.reduceAdd,Int.reduceSub,Int.reduceNeg,Int.reduceToNat,Nat.reduceBEq,Nat.reduceEqDiff]
  obtain ⟨s1,T,T1,T2,s2⟩ := shl_one hd
  have s0 : ¬ (n : Int) < 0 := by omega
  refine SE.seq (SE.gen fun K2 hK2 => ?_)
  refine SE.block (SE.seq (SE.of_ES ?_))
  rw [hk0]
  simp -implicitDefEqProofs (maxSteps := 99999999) (disch := first | omega | (simp only [AHeap.set_length,killO_length,List.length_cons,List.length_nil]; first | done | omega)) only [vu,va,vg,vs,vw,Nat.reduceMul,ite_true,ite_false,eq_self,forall_const,implies_true,Nat.reduceAdd,Nat.reduceSub,Nat.reduceLT,Nat.reduceLeDiff,↓reduceIte,reduceCtorEq,Int.reduceEq,Int.reduceLT,Int.reduceLE,Int.reduceGT,Int.reduceGE,Int.reduceAdd,Int.reduceSub,Int.reduceNeg,Int.reduceToNat,Nat.reduceBEq,Nat.reduceEqDiff]
  refine SE.gen fun K3 hK3 => ?_
  refine SE.block (SE.loopL (fun ts G => ∃ (k : Nat) (rows : List (List ByteArray)) (v : AV),k ≤ T ∧ rows.length ≤ 16 * n + k ∧ (∀ r ∈ rows,r.length ≤ 4) ∧ AllV G rows v ∧ Fr [some (.sc (.bool false)),some (v),some (.sc (.int .i64 n)),some (.sc (.int .i64 k)),none,none,none,none,none,none,none,none,none,none,none,none,none,none,none,none,none,none,none,none,none,none,none,none,none,none,none,none,none,none,none,none,none,none,none,none,none,none,none,none,none,none,none,none,none,none,none,none,none,none,none,none,none,none,none,none,none,none,none,none,none,none,none,none,none,none,none,none,none,none,none,none,none,none,none,none,none,none,none,none,none,none,none,none,none,none,none,none,none,none,none,none,none,none,none,none,none,none,none,none,none,none,none,none,none,none,none,none,none,none,none,none,none,none,none,none,none,none,none,none,none,none,none,none,none,none,none,none,none,none,none,none,none] ts) (fun ts _ => T - (intV (ts.getD 3 .top)).toNat) ?_ ?_)
  ·exact ⟨0,rows,v,by omega,by omega,hr4,hall,by simp [Fr]⟩
  clear hall hr4 hrn
  rintro ts F ⟨k,rows,v,hk,hrn,hr4,hall,hfr⟩ L2 hL2
  obtain ⟨js,rfl⟩ := hfr.opened
  clear hfr
  refine SE.seq (SE.of_ES ?_)
  rw [hg2]
  by_cases hd2 : k < T
  ·have h2 : (k : Int) < T := by omega
   simp -implicitDefEqProofs (maxSteps := 99999999) (disch := first | omega | (simp only [AHeap.set_length,killO_length,List.length_cons,List.length_nil]; first | done | omega)) only [vu,mk,h1,h2,s0,s1,s2,va,vg,vs,vw,Nat.reduceMul,ite_true,ite_false,eq_self,forall_const,implies_true,Nat.reduceAdd,Nat.reduceSub,Nat.reduceLT,Nat.reduceLeDiff,↓reduceIte,reduceCtorEq,Int.reduceEq,Int.reduceLT,Int.reduceLE,Int.reduceGT,Int.reduceGE,Int.reduceAdd,Int.reduceSub,Int.reduceNeg,Int.reduceToNat,Nat.reduceBEq,Nat.reduceEqDiff]
   refine SE.seq (SE.gen fun K4 hK4 => ?_)
   refine SE.block (SE.seq (SE.of_ES ?_))
   rw [hl0]
   simp -implicitDefEqProofs (maxSteps := 99999999) (disch := first | omega | (simp only [AHeap.set_length,killO_length,List.length_cons,List.length_nil]; first | done | omega)) only [vu,va,vg,vs,vw,Nat.reduceMul,ite_true,ite_false,eq_self,forall_const,implies_true,Nat.reduceAdd,Nat.reduceSub,Nat.reduceLT,Nat.reduceLeDiff,↓reduceIte,reduceCtorEq,Int.reduceEq,Int.reduceLT,Int.reduceLE,Int.reduceGT,Int.reduceGE,Int.reduceAdd,Int.reduceSub,Int.reduceNeg,Int.reduceToNat,Nat.reduceBEq,Nat.reduceEqDiff]
   refine SE.seq (SE.seq (SE.of_ES ?_))
   rw [hi0]
   simp -implicitDefEqProofs (maxSteps := 99999999) (disch := first | omega | (simp only [AHeap.set_length,killO_length,List.length_cons,List.length_nil]; first | done | omega)) only [vu,va,vg,vs,vw,Nat.reduceMul,ite_true,ite_false,eq_self,forall_const,implies_true,Nat.reduceAdd,Nat.reduceSub,Nat.reduceLT,Nat.reduceLeDiff,↓reduceIte,reduceCtorEq,Int.reduceEq,Int.reduceLT,Int.reduceLE,Int.reduceGT,Int.reduceGE,Int.reduceAdd,Int.reduceSub,Int.reduceNeg,Int.reduceToNat,Nat.reduceBEq,Nat.reduceEqDiff]
   refine SE.gen fun K5 hK5 => ?_
   refine SE.block (SE.loopL (fun ts G => ∃ (i : Nat) (r : List ByteArray) (lv : AV),(i ≤ n ∧ r.length = i ∧ F.length ≤ G.length ∧ (∀ id,id < F.length → AHeap.find G id = AHeap.find F id) ∧ ((i = 0 ∧ lv = nlA) ∨ ∃ id,F.length ≤ id ∧ lv = .vec 1 id 0 i none ∧ AHeap.find G id = some ⟨1,strs r,false,9⟩)) ∧ Fr [some (.sc (.bool false)),some (v),some (.sc (.int .i64 n)),some (.sc (.int .i64 k)),some (lv),some (.sc (.int .i64 i)),none,none,none,none,none,none,none,none,none,none,none,none,none,none,none,none,none,none,none,none,none,none,none,none,none,none,none,none,none,none,none,none,none,none,none,none,none,none,none,none,none,none,none,none,none,none,none,none,none,none,none,none,none,none,none,none,none,none,none,none,none,none,none,none,none,none,none,none,none,none,none,none,none,none,none,none,none,none,none,none,none,none,none,none,none,none,none,none,none,none,none,none,none,none,none,none,none,none,none,none,none,none,none,none,none,none,none,none,none,none,none,none,none,none,none,none,none,none,none,none,none,none,none,none,none,none,none,none,none,none,none] ts) (fun ts _ => n - (intV (ts.getD 5 .top)).toNat) ?_ ?_)
   ·exact ⟨0,[],nlA,⟨by omega,rfl,Nat.le_refl _,fun _ _ => rfl,.inl ⟨rfl,rfl⟩⟩,by simp [Fr,nlA_eq]⟩
   rintro ts G ⟨i,r,lv,⟨hi,hrl,hFG,hold,hlv⟩,hfr⟩ L3 hL3
   obtain ⟨js,rfl⟩ := hfr.opened
   clear hfr
   refine SE.seq (SE.of_ES ?_)
   rw [hg4]
   by_cases hd3 : i < n
   ·have h3 : (i : Int) < n := by omega
    obtain ⟨q1,-⟩ := shl_one (n := i) (by omega)
    have q0 : ¬ (i : Int) < 0 := by omega
    simp -implicitDefEqProofs (maxSteps := 99999999) (disch := first | omega | (simp only [AHeap.set_length,killO_length,List.length_cons,List.length_nil]; first | done | omega)) only [vu,mk,h3,va,vg,vs,vw,Nat.reduceMul,ite_true,ite_false,eq_self,forall_const,implies_true,Nat.reduceAdd,Nat.reduceSub,Nat.reduceLT,Nat.reduceLeDiff,↓reduceIte,reduceCtorEq,Int.reduceEq,Int.reduceLT,Int.reduceLE,Int.reduceGT,Int.reduceGE,Int.reduceAdd,Int.reduceSub,Int.reduceNeg,Int.reduceToNat,Nat.reduceBEq,Nat.reduceEqDiff]
    refine SE.seq (SE.gen fun K6 hK6 => ?_)
    refine SE.block (SE.of_ES ?_)
    rw [hbd]
    obtain ⟨q,hq,hq2⟩ := and_one ((k : Int).fdiv (2 ^ min i IntKind.i64.bits))
    obtain ⟨x,hx⟩ : ∃ x,[AV.sc (.string ⟨#[97,10]⟩),AV.sc (.string ⟨#[98,10]⟩)].getD q .top = .sc (.string x) := by
     obtain rfl | rfl : q = 0 ∨ q = 1 := by omega
     ·exact ⟨_,rfl⟩
     ·exact ⟨_,rfl⟩
    have next : ∀ (G' : AHeap) (ts : List AV) (id m : Nat),m = i + 1 → F.length ≤ id → F.length ≤ G'.length → (∀ id,id < F.length → AHeap.find G' id = AHeap.find F id) → AHeap.find G' id = some ⟨1,strs (r ++ [x]),false,9⟩ → Fr [some (.sc (.bool false)),some (v),some (.sc (.int .i64 n)),some (.sc (.int .i64 k)),some (.vec 1 id 0 m none),some (.sc (.int .i64 i)),none,none,none,none,none,none,none,none,none,none,none,none,none,none,none,none,none,none,none,none,none,none,none,none,none,none,none,none,none,none,none,none,none,none,none,none,none,none,none,none,none,none,none,none,none,none,none,none,none,none,none,none,none,none,none,none,none,none,none,none,none,none,none,none,none,none,none,none,none,none,none,none,none,none,none,none,none,none,none,none,none,none,none,none,none,none,none,none,none,none,none,none,none,none,none,none,none,none,none,none,none,none,none,none,none,none,none,none,none,none,none,none,none,none,none,none,none,none,none,none,none,none,none,none,none,none,none,none,none,none,none] ts → K6 .normal ts G' := fun G' ts id m g0 g1 g2 g3 g4 hfr => by
     obtain ⟨js,rfl⟩ := hfr.opened
     clear hfr
     subst g0
     refine hK6 _ _ _ ?_
     simp -implicitDefEqProofs (maxSteps := 99999999) (disch := first | omega | (simp only [AHeap.set_length,killO_length,List.length_cons,List.length_nil]; first | done | omega)) only [vu,mk,va,vg,vs,vw,Nat.reduceMul,ite_true,ite_false,eq_self,forall_const,implies_true,Nat.reduceAdd,Nat.reduceSub,Nat.reduceLT,Nat.reduceLeDiff,↓reduceIte,reduceCtorEq,Int.reduceEq,Int.reduceLT,Int.reduceLE,Int.reduceGT,Int.reduceGE,Int.reduceAdd,Int.reduceSub,Int.reduceNeg,Int.reduceToNat,Nat.reduceBEq,Nat.reduceEqDiff]
     refine SE.of_ES ?_
     rw [hn4]
     simp -implicitDefEqProofs (maxSteps := 99999999) (disch := first | omega | (simp only [AHeap.set_length,killO_length,List.length_cons,List.length_nil]; first | done | omega)) only [vu,va,vg,vs,vw,Nat.reduceMul,ite_true,ite_false,eq_self,forall_const,implies_true,Nat.reduceAdd,Nat.reduceSub,Nat.reduceLT,Nat.reduceLeDiff,↓reduceIte,reduceCtorEq,Int.reduceEq,Int.reduceLT,Int.reduceLE,Int.reduceGT,Int.reduceGE,Int.reduceAdd,Int.reduceSub,Int.reduceNeg,Int.reduceToNat,Nat.reduceBEq,Nat.reduceEqDiff]
     exact hL3 _ _ ⟨i + 1,r ++ [x],.vec 1 id 0 (i + 1) none,⟨by omega,by simp [hrl],g2,g3,.inr ⟨id,g1,rfl,g4⟩⟩,by simp [Fr]⟩ (by simp [intV,mk]; omega)
    clear hL3 hK6 hK5 hK4 hK3 hK2 hK hL2 hL1
    rcases hlv with ⟨hi0,rfl⟩ | ⟨id,i1,rfl,i2⟩
    ·obtain rfl := List.eq_nil_of_length_eq_zero (hrl.trans hi0)
     simp -implicitDefEqProofs (maxSteps := 99999999) (disch := first | omega | (simp only [AHeap.set_length,killO_length,List.length_cons,List.length_nil]; first | done | omega)) only [vu,q0,q1,hq2,hx,va,vg,vs,vw,Nat.reduceMul,ite_true,ite_false,eq_self,forall_const,implies_true,Nat.reduceAdd,Nat.reduceSub,Nat.reduceLT,Nat.reduceLeDiff,↓reduceIte,reduceCtorEq,Int.reduceEq,Int.reduceLT,Int.reduceLE,Int.reduceGT,Int.reduceGE,Int.reduceAdd,Int.reduceSub,Int.reduceNeg,Int.reduceToNat,Nat.reduceBEq,Nat.reduceEqDiff]
     refine ⟨by omega,next _ _ G.length 1 (by omega) hFG (by simp; omega) (fun id h => ?_) (find_top rfl) (by simp [Fr])⟩
     rw [find_past (by omega)]
     exact hold id h
    ·have hll : (strs r).length = i := by rw [strs_length,hrl]
     simp -implicitDefEqProofs (maxSteps := 99999999) (disch := first | omega | (simp only [AHeap.set_length,killO_length,List.length_cons,List.length_nil]; first | done | omega)) only [vu,q0,q1,hq2,hx,i2,hll,va,vg,vs,vw,Nat.reduceMul,ite_true,ite_false,eq_self,forall_const,implies_true,Nat.reduceAdd,Nat.reduceSub,Nat.reduceLT,Nat.reduceLeDiff,↓reduceIte,reduceCtorEq,Int.reduceEq,Int.reduceLT,Int.reduceLE,Int.reduceGT,Int.reduceGE,Int.reduceAdd,Int.reduceSub,Int.reduceNeg,Int.reduceToNat,Nat.reduceBEq,Nat.reduceEqDiff]
     refine ⟨by omega,by omega,next _ _ G.length (i + 1) rfl hFG (by simp [AHeap.set_length]; omega) (fun id h => ?_) ?_ (by simp [Fr])⟩
     ·rw [find_past (by rw [AHeap.set_length]; omega),find_set_other (by omega)]
      exact hold id h
     ·rw [strs_append]
      exact find_top (by rw [AHeap.set_length])
   ·have h3 : ¬ (i : Int) < n := by omega
    obtain rfl : i = n := by omega
    simp -implicitDefEqProofs (maxSteps := 99999999) (disch := first | omega | (simp only [AHeap.set_length,killO_length,List.length_cons,List.length_nil]; first | done | omega)) only [vu,mk,h3,va,vg,vs,vw,Nat.reduceMul,ite_true,ite_false,eq_self,forall_const,implies_true,Nat.reduceAdd,Nat.reduceSub,Nat.reduceLT,Nat.reduceLeDiff,↓reduceIte,reduceCtorEq,Int.reduceEq,Int.reduceLT,Int.reduceLE,Int.reduceGT,Int.reduceGE,Int.reduceAdd,Int.reduceSub,Int.reduceNeg,Int.reduceToNat,Nat.reduceBEq,Nat.reduceEqDiff]
    clear hL3
    refine hK5 _ _ _ ?_
    clear hK5
    simp -implicitDefEqProofs (maxSteps := 99999999) (disch := first | omega | (simp only [AHeap.set_length,killO_length,List.length_cons,List.length_nil]; first | done | omega)) only [vu,va,vg,vs,vw,Nat.reduceMul,ite_true,ite_false,eq_self,forall_const,implies_true,Nat.reduceAdd,Nat.reduceSub,Nat.reduceLT,Nat.reduceLeDiff,↓reduceIte,reduceCtorEq,Int.reduceEq,Int.reduceLT,Int.reduceLE,Int.reduceGT,Int.reduceGE,Int.reduceAdd,Int.reduceSub,Int.reduceNeg,Int.reduceToNat,Nat.reduceBEq,Nat.reduceEqDiff]
    refine SE.of_ES ?_
    rw [hap]
    have fin : ∀ (G' : AHeap) (v' : AV) (ts : List AV),AllV G' (rows ++ [r]) v' → Fr [some (.sc (.bool false)),some (v'),some (.sc (.int .i64 i)),some (.sc (.int .i64 k)),none,none,none,none,none,none,none,none,none,none,none,none,none,none,none,none,none,none,none,none,none,none,none,none,none,none,none,none,none,none,none,none,none,none,none,none,none,none,none,none,none,none,none,none,none,none,none,none,none,none,none,none,none,none,none,none,none,none,none,none,none,none,none,none,none,none,none,none,none,none,none,none,none,none,none,none,none,none,none,none,none,none,none,none,none,none,none,none,none,none,none,none,none,none,none,none,none,none,none,none,none,none,none,none,none,none,none,none,none,none,none,none,none,none,none,none,none,none,none,none,none,none,none,none,none,none,none,none,none,none,none,none,none] ts → K4 .normal ts G' := fun G' v' ts g1 hfr => by
     obtain ⟨js,rfl⟩ := hfr.opened
     clear hfr
     refine hK4 _ _ _ ?_
     simp -implicitDefEqProofs (maxSteps := 99999999) (disch := first | omega | (simp only [AHeap.set_length,killO_length,List.length_cons,List.length_nil]; first | done | omega)) only [vu,mk,va,vg,vs,vw,Nat.reduceMul,ite_true,ite_false,eq_self,forall_const,implies_true,Nat.reduceAdd,Nat.reduceSub,Nat.reduceLT,Nat.reduceLeDiff,↓reduceIte,reduceCtorEq,Int.reduceEq,Int.reduceLT,Int.reduceLE,Int.reduceGT,Int.reduceGE,Int.reduceAdd,Int.reduceSub,Int.reduceNeg,Int.reduceToNat,Nat.reduceBEq,Nat.reduceEqDiff]
     refine SE.of_ES ?_
     rw [hn2]
     simp -implicitDefEqProofs (maxSteps := 99999999) (disch := first | omega | (simp only [AHeap.set_length,killO_length,List.length_cons,List.length_nil]; first | done | omega)) only [vu,va,vg,vs,vw,Nat.reduceMul,ite_true,ite_false,eq_self,forall_const,implies_true,Nat.reduceAdd,Nat.reduceSub,Nat.reduceLT,Nat.reduceLeDiff,↓reduceIte,reduceCtorEq,Int.reduceEq,Int.reduceLT,Int.reduceLE,Int.reduceGT,Int.reduceGE,Int.reduceAdd,Int.reduceSub,Int.reduceNeg,Int.reduceToNat,Nat.reduceBEq,Nat.reduceEqDiff]
     refine hL2 _ _ ⟨k + 1,rows ++ [r],v',by omega,by rw [List.length_append]; simp; omega,fun y hy => ?_,g1,by simp [Fr]⟩ (by simp [intV,mk]; omega)
     rcases List.mem_append.1 hy with hy | hy
     ·exact hr4 y hy
     ·rw [List.mem_singleton.1 hy,hrl]
      exact hd
    clear hL2 hK4 hK3 hK2 hK hL1
    have hrow : RowV G G.length r lv := by
     rcases hlv with ⟨hi0,rfl⟩ | ⟨id,i1,rfl,i2⟩
     ·exact .inl ⟨List.eq_nil_of_length_eq_zero (hrl.trans hi0),rfl⟩
     ·exact .inr ⟨id,AHeap.find_lt i2,by rw [hrl],i2⟩
    have hlt : lv.isTop = false ∧ lv.ncells = 1 := by
     rcases hlv with ⟨hi0,rfl⟩ | ⟨id,i1,rfl,i2⟩
     ·exact ⟨rfl,rfl⟩
     ·exact ⟨rfl,rfl⟩
    clear hlv
    rcases hall with ⟨rfl,rfl⟩ | ⟨aid,es,rfl,a2,a3⟩
    ·simp -implicitDefEqProofs (maxSteps := 99999999) (disch := first | omega | (simp only [AHeap.set_length,killO_length,List.length_cons,List.length_nil]; first | done | omega)) only [vu,hlt.1,hlt.2,va,vg,vs,vw,Nat.reduceMul,ite_true,ite_false,eq_self,forall_const,implies_true,Nat.reduceAdd,Nat.reduceSub,Nat.reduceLT,Nat.reduceLeDiff,↓reduceIte,reduceCtorEq,Int.reduceEq,Int.reduceLT,Int.reduceLE,Int.reduceGT,Int.reduceGE,Int.reduceAdd,Int.reduceSub,Int.reduceNeg,Int.reduceToNat,Nat.reduceBEq,Nat.reduceEqDiff]
     refine fin _ _ _ (.inr ⟨G.length,[lv],rfl,find_top rfl,⟨hrow.keep (fun id blk h1 h2 _ => ?_) (by simp),trivial⟩⟩) (by simp [Fr])
     rw [find_past h1]
     exact h2
    ·have hal := AHeap.find_lt a2
     have a4 : AHeap.find G aid = some ⟨1,es,false,22⟩ := by rw [hold _ hal]; exact a2
     have hvl := a3.len
     simp -implicitDefEqProofs (maxSteps := 99999999) (disch := first | omega | (simp only [AHeap.set_length,killO_length,List.length_cons,List.length_nil]; first | done | omega)) only [vu,hlt.1,hlt.2,a4,hvl,va,vg,vs,vw,Nat.reduceMul,ite_true,ite_false,eq_self,forall_const,implies_true,Nat.reduceAdd,Nat.reduceSub,Nat.reduceLT,Nat.reduceLeDiff,↓reduceIte,reduceCtorEq,Int.reduceEq,Int.reduceLT,Int.reduceLE,Int.reduceGT,Int.reduceGE,Int.reduceAdd,Int.reduceSub,Int.reduceNeg,Int.reduceToNat,Nat.reduceBEq,Nat.reduceEqDiff]
     refine ⟨by omega,fin _ (.vec 1 G.length 0 (rows.length + 1) none) _ (.inr ⟨G.length,es ++ [lv],by simp,find_top (by rw [AHeap.set_length]),(a3.keep (fun id blk h1 h2 h3 => ?_) ?_).snoc (hrow.keep (fun id blk h1 h2 h3 => ?_) ?_)⟩) (by simp [Fr])⟩
     ·have hne : id ≠ aid := fun e => by
       rw [e,a2] at h2
       cases h2
       simp at h3
      rw [find_past (by rw [AHeap.set_length]; omega),find_set_other (by omega),hold _ h1]
      exact h2
     ·simp [AHeap.set_length]
      omega
     ·have hne : id ≠ aid := fun e => by
       rw [e,a4] at h2
       cases h2
       simp at h3
      rw [find_past (by rw [AHeap.set_length]; omega),find_set_other (by omega)]
      exact h2
     ·simp [AHeap.set_length]
  ·have h2 : ¬ (k : Int) < T := by omega
   simp -implicitDefEqProofs (maxSteps := 99999999) (disch := first | omega | (simp only [AHeap.set_length,killO_length,List.length_cons,List.length_nil]; first | done | omega)) only [vu,mk,h1,h2,s0,s1,s2,va,vg,vs,vw,Nat.reduceMul,ite_true,ite_false,eq_self,forall_const,implies_true,Nat.reduceAdd,Nat.reduceSub,Nat.reduceLT,Nat.reduceLeDiff,↓reduceIte,reduceCtorEq,Int.reduceEq,Int.reduceLT,Int.reduceLE,Int.reduceGT,Int.reduceGE,Int.reduceAdd,Int.reduceSub,Int.reduceNeg,Int.reduceToNat,Nat.reduceBEq,Nat.reduceEqDiff]
   clear hL2
   refine hK3 _ _ _ ?_
   simp -implicitDefEqProofs (maxSteps := 99999999) (disch := first | omega | (simp only [AHeap.set_length,killO_length,List.length_cons,List.length_nil]; first | done | omega)) only [vu,va,vg,vs,vw,Nat.reduceMul,ite_true,ite_false,eq_self,forall_const,implies_true,Nat.reduceAdd,Nat.reduceSub,Nat.reduceLT,Nat.reduceLeDiff,↓reduceIte,reduceCtorEq,Int.reduceEq,Int.reduceLT,Int.reduceLE,Int.reduceGT,Int.reduceGE,Int.reduceAdd,Int.reduceSub,Int.reduceNeg,Int.reduceToNat,Nat.reduceBEq,Nat.reduceEqDiff]
   refine hK2 _ _ _ ?_
   simp -implicitDefEqProofs (maxSteps := 99999999) (disch := first | omega | (simp only [AHeap.set_length,killO_length,List.length_cons,List.length_nil]; first | done | omega)) only [vu,va,vg,vs,vw,Nat.reduceMul,ite_true,ite_false,eq_self,forall_const,implies_true,Nat.reduceAdd,Nat.reduceSub,Nat.reduceLT,Nat.reduceLeDiff,↓reduceIte,reduceCtorEq,Int.reduceEq,Int.reduceLT,Int.reduceLE,Int.reduceGT,Int.reduceGE,Int.reduceAdd,Int.reduceSub,Int.reduceNeg,Int.reduceToNat,Nat.reduceBEq,Nat.reduceEqDiff]
   refine SE.of_ES ?_
   rw [hn0]
   simp -implicitDefEqProofs (maxSteps := 99999999) (disch := first | omega | (simp only [AHeap.set_length,killO_length,List.length_cons,List.length_nil]; first | done | omega)) only [vu,va,vg,vs,vw,Nat.reduceMul,ite_true,ite_false,eq_self,forall_const,implies_true,Nat.reduceAdd,Nat.reduceSub,Nat.reduceLT,Nat.reduceLeDiff,↓reduceIte,reduceCtorEq,Int.reduceEq,Int.reduceLT,Int.reduceLE,Int.reduceGT,Int.reduceGE,Int.reduceAdd,Int.reduceSub,Int.reduceNeg,Int.reduceToNat,Nat.reduceBEq,Nat.reduceEqDiff]
   exact hL1 _ _ ⟨n + 1,rows,v,by omega,by omega,hr4,hall,by simp [Fr]⟩ (by simp [intV,mk]; omega)
 ·have h1 : ¬ (n : Int) ≤ 4 := by omega
  simp -implicitDefEqProofs (maxSteps := 99999999) (disch := first | omega | (simp only [AHeap.set_length,killO_length,List.length_cons,List.length_nil]; first | done | omega)) only [vu,mk,h1,va,vg,vs,vw,Nat.reduceMul,ite_true,ite_false,eq_self,forall_const,implies_true,Nat.reduceAdd,Nat.reduceSub,Nat.reduceLT,Nat.reduceLeDiff,↓reduceIte,reduceCtorEq,Int.reduceEq,Int.reduceLT,Int.reduceLE,Int.reduceGT,Int.reduceGE,Int.reduceAdd,Int.reduceSub,Int.reduceNeg,Int.reduceToNat,Nat.reduceBEq,Nat.reduceEqDiff]
  clear hL1
  refine hK _ _ _ ?_
  clear hK
  simp -implicitDefEqProofs (maxSteps := 99999999) (disch := first | omega | (simp only [AHeap.set_length,killO_length,List.length_cons,List.length_nil]; first | done | omega)) only [vu,va,vg,vs,vw,Nat.reduceMul,ite_true,ite_false,eq_self,forall_const,implies_true,Nat.reduceAdd,Nat.reduceSub,Nat.reduceLT,Nat.reduceLeDiff,↓reduceIte,reduceCtorEq,Int.reduceEq,Int.reduceLT,Int.reduceLE,Int.reduceGT,Int.reduceGE,Int.reduceAdd,Int.reduceSub,Int.reduceNeg,Int.reduceToNat,Nat.reduceBEq,Nat.reduceEqDiff]
  rw [htl]
  refine SE.freeze (ts' := mk [some (.sc (.bool false)),some (.lst 1 (rws rows) none),none,none,none,none,none,none,none,none,none,none,none,none,none,none,none,none,none,none,none,none,none,none,none,none,none,none,none,none,none,none,none,none,none,none,none,none,none,none,none,none,none,none,none,none,none,none,none,none,none,none,none,none,none,none,none,none,none,none,none,none,none,none,none,none,none,none,none,none,none,none,none,none,none,none,none,none,none,none,none,none,none,none,none,none,none,none,none,none,none,none,none,none,none,none,none,none,none,none,none,none,none,none,none,none,none,none,none,none,none,none,none,none,none,none,none,none,none,none,none,none,none,none,none,none,none,none,none,none,none,none,none,none,none,none,none] fun _ => .top) ?_ (numbers_rows rows hr4 (by omega) _ _ (by simp [Fr,mk]))
  have hv := hall.view
  simp only [mk]
  refine .view .sc ?_
  repeat' first | exact TViewL.nil | refine TViewL.top ?_ | refine TViewL.view hv ?_
end Go.Proofs.YtigmpablpmanpaaDoor
