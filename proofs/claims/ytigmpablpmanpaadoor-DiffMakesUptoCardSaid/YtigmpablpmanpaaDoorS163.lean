/- law02.DiffMakes: the walk. -/
import Derived.Test.YtigmpablpmanpaaDoorS162
namespace Go.Proofs.YtigmpablpmanpaaDoor
open Go.RowKit
set_option maxRecDepth 100000
set_option linter.unusedVariables false
set_option linter.unusedSimpArgs false
theorem weak_end {F : AHeap} {v : Value} : Weak [] (.ret (.sc v)) F (.ret (.sc v)) [] :=
 weak_gen [] (by simp) (by simp) (by simp) (fun id k hid hk => by simp at hid) (fun i s k hs => by simp at hs) (.same trivial)
theorem upL_map {n : Nat} {α : Type} (f : α → AV) (hf : ∀ x,AV.up n (f x) = f x) : ∀ (l : List α),AV.upL n (l.map f) = l.map f
 | [] => rfl
 | x :: r => by simp only [List.map_cons,AV.upL,hf,upL_map f hf r]
theorem upL_prs {n : Nat} (l : List (Nat × Nat)) : AV.upL n (prs l) = prs l := upL_map _ (fun x => by simp [AV.up,AV.upL]) l
theorem op_prs (l : List (Nat × Nat)) : AV.opL (prs l) = true := by
 induction l with
 | nil => rfl
 | cons s r ih => simpa [prs,AV.opL,AV.op] using ih
theorem up_OwnB {n k : Nat} {ty : TypeId} {xs : List AV} : (OwnB k ty xs).map (ABlk.up n) = OwnB k ty (AV.upL n xs) := by
 cases xs <;> simp [OwnB,ABlk.up,AV.upL]
theorem common_v {H : AHeap} {a b : List ByteArray} {x y : AV} (hx : View H x (.lst 1 (strs a) none)) (hy : View H y (.lst 1 (strs b) none)) (hla : a.length ≤ 100000) (hlb : b.length ≤ 100000) :
  D Tryd.prog 9 [x,y] H (.ret (OwnV 2 (prs (cmL a b)) H.length)) (OwnB 2 40 (prs (cmL a b)) :: H) := by
 have h := D_viewO (.cons hx (.cons hy .nil)) OwnV_op (fun id k hk => ?_) (common_g a b hla hlb [])
 ·rw [OwnV_up] at h
  simpa [AHeap.up,up_OwnB,upL_prs] using h
 ·rcases id with _ | id
  ·rw [show AHeap.find [OwnB 2 40 (prs (cmL a b))] 0 = OwnB 2 40 (prs (cmL a b)) from rfl] at hk
   obtain ⟨_,rfl⟩ := OwnB_some hk
   exact op_prs _
  ·exact absurd (AHeap.find_lt hk) (by simp)
theorem OutW.view {F : AHeap} {n0 : Nat} {S : List ByteArray} {v : AV} (h : OutW F n0 S v) : View F v (.lst 1 (strs S) none) := by
 rcases h with ⟨rfl,rfl⟩ | ⟨id,c,junk,rfl,hf,_,_,_⟩
 ·exact .nil
 ·refine .vec hf rfl (by simp [strs_length]) ?_
  rw [List.drop_zero,strs_append,List.take_append_of_le_length (by rw [strs_length]; exact Nat.le_refl _),List.take_of_length_le (by rw [strs_length]; exact Nat.le_refl _)]
  exact strs_view
theorem OutW.keep {F G : AHeap} {n0 : Nat} {S : List ByteArray} {v : AV} (h : OutW F n0 S v) (hk : ∀ i,i < F.length → n0 ≤ i → AHeap.find G i = AHeap.find F i) : OutW G n0 S v := by
 rcases h with h | ⟨id,c,junk,rfl,hf,h1,h2,h3⟩
 ·exact .inl h
 ·exact .inr ⟨id,c,junk,rfl,by rw [hk id (AHeap.find_lt hf) h3]; exact hf,h1,h2,h3⟩
theorem OutW.len {F : AHeap} {n0 : Nat} {S : List ByteArray} {v : AV} (h : OutW F n0 S v) : lenN v = S.length ∧ lenOk v = True := by
 rcases h with ⟨rfl,rfl⟩ | ⟨id,c,junk,rfl,_⟩
 ·exact ⟨rfl,by simp [lenOk]⟩
 ·exact ⟨rfl,by simp [lenOk]⟩
/-- Pairs rise, one by one. -/
theorem Rise.next {n m : Nat} : ∀ {l : List (Nat × Nat)} {i j k : Nat},Rise n m i j l → k + 1 < l.length → (nthP l k).1 < (nthP l (k + 1)).1 ∧ (nthP l k).2 < (nthP l (k + 1)).2
 | [],_,_,_,_,h => by simp at h
 | [p],_,_,_,_,h => by simp at h
 | (x,y) :: (x2,y2) :: r,i,j,0,h,_ => by
  obtain ⟨_,⟨h1,_⟩⟩ := h
  simp only [nthP,List.getD_cons_zero,List.getD_cons_succ]
  omega
 | (x,y) :: q :: r,i,j,k + 1,h,hk => by
  have := Rise.next (k := k) h.2 (by simpa using hk)
  simpa [nthP] using this
theorem nthP_mem {l : List (Nat × Nat)} {k : Nat} (h : k < l.length) : nthP l k ∈ l := by
 simp [nthP,List.getD,h]
/-- Numbers that came in. -/
def intsA (l : List Int) : List AV := l.map fun n => .sc (.int .i64 n)
theorem intsA_length (l : List Int) : (intsA l).length = l.length := by simp [intsA]
theorem intsA_get {l : List Int} {k : Nat} (h : k < l.length) : (intsA l).getD k .top = .sc (.int .i64 (l.getD k 0)) := by simp [intsA,List.getD,h]
theorem tail_parts : ic5.r.r.r.r.r.r.r.r.r = .seq (.seq (ic5.r.r.r.r.r.r.r.r.r.l.l) (.block 2 (.loop (.seq (ic5.r.r.r.r.r.r.r.r.r.l.r.l.l.l) (.seq (.block 3 (.seq (ic5.r.r.r.r.r.r.r.r.r.l.r.l.l.r.l.l.l) (.seq (ic5.r.r.r.r.r.r.r.r.r.l.r.l.l.r.l.l.r.l) (ic5.r.r.r.r.r.r.r.r.r.l.r.l.l.r.l.l.r.r)))) (ic5.r.r.r.r.r.r.r.r.r.l.r.l.l.r.r)))))) (.seq (ic5.r.r.r.r.r.r.r.r.r.r.l) (ic5.r.r.r.r.r.r.r.r.r.r.r)) := rfl
def putT0 : ByteArray := ⟨#[112,117,116,32,105,110,10]⟩
set_option maxHeartbeats 0 in
theorem makes_tail (a b : List ByteArray) (at_ : List Int) (p : List (Nat × Nat)) (la : a.length ≤ 300) (lb : b.length ≤ 300) (hat : at_.length ≤ 300) (hlcs : p.length = lcs a b) (v : AV) (F : AHeap) (ts : List AV) (hout : OutW F 1 a v) (hfr : Fr [some (.lst 1 (strs a) none),some (.lst 1 (strs b) none),some (.lst 1 (intsA at_) none),none,none,none,none,none,none,none,some (OwnV 2 (prs p) 0),none,none,none,some (v),none,none,none,none,none,none,none,none,none,none,none,none,none,none,none,none,none,none,none,none,none,none,none,none,none,none,none,none,none,none,none,none,none,none,none,none,none,none,none,none,none,none,none,none,none,none,none,none,none,none,none,none,none,none,none,none,none,none,none,none,none,none,none,none,none,none,none,none,none,none,none,none,none,none,none,none,none,none,none,none,none,none,none,none,none,none,none,none,none,none,none,none,none,none,none,none,none,none,none,none,none,none,none,none,none,none,none,none,none,none,none,none,none,none,none,none,none,none,none,none,none,none,none,none,none,none,none,none,none,none,none,none,none,none,none,none,none,none,none,none,none,none,none,none,none,none,none,none,none,none,none,none,none,none,none,none,none,none,none,none,none,none,none,none,none,none] ts) :
  SE Tryd.prog [] (ic5.r.r.r.r.r.r.r.r.r) (bodyS [RV.t 6] fun e1 H1 => Weak [] e1 H1 (.ret (.sc (.bool true))) []) ts F := by
 obtain ⟨js,rfl⟩ := hfr.opened
 clear hfr
 rw [tail_parts]
 obtain ⟨w0,hw0⟩ : ∃ x,x = ic5.r.r.r.r.r.r.r.r.r.l.l := ⟨_,rfl⟩
 obtain ⟨w1,hw1⟩ : ∃ x,x = ic5.r.r.r.r.r.r.r.r.r.l.r.l.l.l := ⟨_,rfl⟩
 obtain ⟨w2,hw2⟩ : ∃ x,x = ic5.r.r.r.r.r.r.r.r.r.l.r.l.l.r.l.l.l := ⟨_,rfl⟩
 obtain ⟨w3,hw3⟩ : ∃ x,x = ic5.r.r.r.r.r.r.r.r.r.l.r.l.l.r.l.l.r.l := ⟨_,rfl⟩
 obtain ⟨w4,hw4⟩ : ∃ x,x = ic5.r.r.r.r.r.r.r.r.r.l.r.l.l.r.l.l.r.r := ⟨_,rfl⟩
 obtain ⟨w5,hw5⟩ : ∃ x,x = ic5.r.r.r.r.r.r.r.r.r.l.r.l.l.r.r := ⟨_,rfl⟩
 obtain ⟨w6,hw6⟩ : ∃ x,x = ic5.r.r.r.r.r.r.r.r.r.r.l := ⟨_,rfl⟩
 obtain ⟨w7,hw7⟩ : ∃ x,x = ic5.r.r.r.r.r.r.r.r.r.r.r := ⟨_,rfl⟩
 rw [← hw0,← hw1,← hw2,← hw3,← hw4,← hw5,← hw6,← hw7]
 simp only [ic5,IC.l,IC.r] at hw0 hw1 hw2 hw3 hw4 hw5 hw6 hw7
 refine SE.seq (SE.seq (SE.of_ES ?_))
 rw [hw0]
 simp -implicitDefEqProofs (maxSteps := 99999999) (disch := first | omega | (simp only [AHeap.set_length,killO_length,List.length_cons,List.length_nil]; first | done | omega)) only [vu,mk,va,vg,vs,vw,Nat.reduceMul,ite_true,ite_false,eq_self,forall_const,implies_true,Nat.reduceAdd,Nat.reduceSub,Nat.reduceLT,Nat.reduceLeDiff,↓reduceIte,reduceCtorEq,Int.reduceEq,Int.reduceLT,Int.reduceLE,Int.reduceGT,Int.reduceGE,Int.reduceAdd,Int.reduceSub,Int.reduceNeg,Int.reduceToNat,Nat.reduceBEq,Nat.reduceEqDiff]
 refine SE.gen fun K hK => ?_
 have hpl := prs_length p
 refine SE.block (SE.loopL (fun ts G => ∃ (i : Nat) (M : List ByteArray) (v : AV),i ≤ at_.length ∧ a.Sublist M ∧ M.length = a.length + i ∧ F.length ≤ G.length ∧ OutW G 1 M v ∧
  Fr [some (.lst 1 (strs a) none),some (.lst 1 (strs b) none),some (.lst 1 (intsA at_) none),none,none,none,none,none,none,none,some (OwnV 2 (prs p) 0),none,none,none,some (v),some (.sc (.int .i64 i)),none,none,none,none,none,none,none,none,none,none,none,none,none,none,none,none,none,none,none,none,none,none,none,none,none,none,none,none,none,none,none,none,none,none,none,none,none,none,none,none,none,none,none,none,none,none,none,none,none,none,none,none,none,none,none,none,none,none,none,none,none,none,none,none,none,none,none,none,none,none,none,none,none,none,none,none,none,none,none,none,none,none,none,none,none,none,none,none,none,none,none,none,none,none,none,none,none,none,none,none,none,none,none,none,none,none,none,none,none,none,none,none,none,none,none,none,none,none,none,none,none,none,none,none,none,none,none,none,none,none,none,none,none,none,none,none,none,none,none,none,none,none,none,none,none,none,none,none,none,none,none,none,none,none,none,none,none,none,none,none,none,none,none,none,none] ts) (fun ts _ => at_.length - (intV (ts.getD 15 .top)).toNat) ?_ ?_)
 ·exact ⟨0,a,v,Nat.zero_le _,List.Sublist.refl _,rfl,Nat.le_refl _,hout,by simp [Fr]⟩
 clear hout
 rintro ts F ⟨i,S,v,hi,hsub,hSl,hFl,hout,hfr⟩ L1 hL1
 obtain ⟨js,rfl⟩ := hfr.opened
 clear hfr
 by_cases hd : i < at_.length
 ·have h1 : (i : Int) < at_.length := by omega
  have hgi := intsA_get hd
  have hpr := pickN_rng (x := at_.getD i 0) (n := ((S.length : Int) + 1)) (by omega)
  obtain ⟨q,hq⟩ : ∃ q : Nat,pickN (at_.getD i 0) ((S.length : Int) + 1) = q := ⟨(pickN (at_.getD i 0) ((S.length : Int) + 1)).toNat,by omega⟩
  rw [hq] at hpr
  have hqS : q ≤ S.length := by omega
  have hpick := fun G => pick_d (at_.getD i 0) ((S.length : Int) + 1) (by omega) G
  rw [hq] at hpick
  have main : ∀ (id m : Nat) (junk : List ByteArray) (js : Nat → AV),AHeap.find F id = some ⟨1,strs (S ++ junk),false,9⟩ → S.length ≤ m → 0 < m → 1 ≤ id → SE Tryd.prog [] (.seq w1 (.seq (.block 3 (.seq w2 (.seq w3 w4))) w5)) (thenK L1 (blockK 2 K)) (mk [some (.lst 1 (strs a) none),some (.lst 1 (strs b) none),some (.lst 1 (intsA at_) none),none,none,none,none,none,none,none,some (OwnV 2 (prs p) 0),none,none,none,some (.vec 1 id 0 S.length (some m)),some (.sc (.int .i64 i)),none,none,none,none,none,none,none,none,none,none,none,none,none,none,none,none,none,none,none,none,none,none,none,none,none,none,none,none,none,none,none,none,none,none,none,none,none,none,none,none,none,none,none,none,none,none,none,none,none,none,none,none,none,none,none,none,none,none,none,none,none,none,none,none,none,none,none,none,none,none,none,none,none,none,none,none,none,none,none,none,none,none,none,none,none,none,none,none,none,none,none,none,none,none,none,none,none,none,none,none,none,none,none,none,none,none,none,none,none,none,none,none,none,none,none,none,none,none,none,none,none,none,none,none,none,none,none,none,none,none,none,none,none,none,none,none,none,none,none,none,none,none,none,none,none,none,none,none,none,none,none,none,none,none,none,none,none,none,none,none,none,none,none,none,none] js) F := fun id m junk js hf hm hm0 hid => by
   refine SE.of_ES ?_
   refine ES_seq_gen fun L hL => ?_
   rw [hw1]
   simp -implicitDefEqProofs (maxSteps := 99999999) (disch := first | omega | (simp only [AHeap.set_length,killO_length,List.length_cons,List.length_nil]; first | done | omega)) only [vu,mk,h1,intsA_length,va,vg,vs,vw,Nat.reduceMul,ite_true,ite_false,eq_self,forall_const,implies_true,Nat.reduceAdd,Nat.reduceSub,Nat.reduceLT,Nat.reduceLeDiff,↓reduceIte,reduceCtorEq,Int.reduceEq,Int.reduceLT,Int.reduceLE,Int.reduceGT,Int.reduceGE,Int.reduceAdd,Int.reduceSub,Int.reduceNeg,Int.reduceToNat,Nat.reduceBEq,Nat.reduceEqDiff]
   refine hL _ _ ?_
   clear hL
   refine ES_seq_gen fun L2 hL2 => ?_
   rw [ES_block]
   refine ES_seq_gen fun L hL => ?_
   rw [hw2]
   simp -implicitDefEqProofs (maxSteps := 99999999) (disch := first | omega | (simp only [AHeap.set_length,killO_length,List.length_cons,List.length_nil]; first | done | omega)) only [vu,h1,intsA_length,hgi,va,vg,vs,vw,Nat.reduceMul,ite_true,ite_false,eq_self,forall_const,implies_true,Nat.reduceAdd,Nat.reduceSub,Nat.reduceLT,Nat.reduceLeDiff,↓reduceIte,reduceCtorEq,Int.reduceEq,Int.reduceLT,Int.reduceLE,Int.reduceGT,Int.reduceGE,Int.reduceAdd,Int.reduceSub,Int.reduceNeg,Int.reduceToNat,Nat.reduceBEq,Nat.reduceEqDiff]
   refine ⟨by omega,callR_ret (hpick _) ?_⟩
   simp -implicitDefEqProofs (maxSteps := 99999999) (disch := first | omega | (simp only [AHeap.set_length,killO_length,List.length_cons,List.length_nil]; first | done | omega)) only [vu,va,vg,vs,vw,Nat.reduceMul,ite_true,ite_false,eq_self,forall_const,implies_true,Nat.reduceAdd,Nat.reduceSub,Nat.reduceLT,Nat.reduceLeDiff,↓reduceIte,reduceCtorEq,Int.reduceEq,Int.reduceLT,Int.reduceLE,Int.reduceGT,Int.reduceGE,Int.reduceAdd,Int.reduceSub,Int.reduceNeg,Int.reduceToNat,Nat.reduceBEq,Nat.reduceEqDiff]
   refine hL _ _ ?_
   clear hL
   refine ES_seq_gen fun L hL => ?_
   rw [hw3]
   have hfl := AHeap.find_lt hf
   have hjl : (strs (S ++ junk)).length = S.length + junk.length := by rw [strs_length,List.length_append]
   have hT2 : ((strs (S ++ junk)).drop q).take (S.length - q) = strs (S.drop q) := by
    rw [strs_append,List.drop_append_of_le_length (by rw [strs_length]; omega),List.take_append_of_le_length (by rw [List.length_drop,strs_length]; omega),List.take_of_length_le (by rw [List.length_drop,strs_length]; omega),strs_dr]
   have hls : lsV F (if q < m then .vec 1 id q (S.length - q) (some (m - q)) else .lst 1 [] none) = strs (S.drop q) ∧ lsOk F 1 (if q < m then .vec 1 id q (S.length - q) (some (m - q)) else .lst 1 [] none) = True := by
    by_cases hlt : q < m
    ·rw [if_pos hlt]
     simp only [lsV,lsOk,hf]
     exact ⟨hT2,by simp [hjl]; omega⟩
    ·rw [if_neg hlt]
     have : S.drop q = [] := List.eq_nil_of_length_eq_zero (by rw [List.length_drop]; omega)
     rw [this]
     simp [lsV,lsOk,strs]
   simp -implicitDefEqProofs (maxSteps := 99999999) (disch := first | omega | (simp only [AHeap.set_length,killO_length,List.length_cons,List.length_nil]; first | done | omega)) only [vu,hls.1,hls.2,apV_w,apH_w,apOk_w,va,vg,vs,vw,Nat.reduceMul,ite_true,ite_false,eq_self,forall_const,implies_true,Nat.reduceAdd,Nat.reduceSub,Nat.reduceLT,Nat.reduceLeDiff,↓reduceIte,reduceCtorEq,Int.reduceEq,Int.reduceLT,Int.reduceLE,Int.reduceGT,Int.reduceGE,Int.reduceAdd,Int.reduceSub,Int.reduceNeg,Int.reduceToNat,Nat.reduceBEq,Nat.reduceEqDiff]
   refine ⟨⟨by omega,rfl,by omega,by omega⟩,by rw [List.length_drop]; omega,hL _ _ ?_⟩
   clear hL hls
   rw [hw4]
   obtain ⟨R,hR⟩ : ∃ R,R = S.drop q := ⟨_,rfl⟩
   have hRl : R.length = S.length - q := by rw [hR,List.length_drop]
   have hS3 : (S.take q ++ [putT0] ++ R).Sublist (S.take q ++ [putT0] ++ R) ∧ S.Sublist (S.take q ++ [putT0] ++ R) := ⟨List.Sublist.refl _,by rw [hR,List.append_assoc]; exact put_sub⟩
   rw [← hR]
   have hw := apW_len (l := R) (H := F)
   have f1 : AHeap.find (apW R F) id = some ⟨1,strs (S ++ junk),false,9⟩ := by rw [apW_old hfl]; exact hf
   have f3 : R ≠ [] → AHeap.find (apW R F) F.length = OutB R := fun e => apW_new e
   generalize apW R F = F1 at hw f1 f3 ⊢
   obtain ⟨rv,hrv⟩ : ∃ rv,rv = OwnW R F.length := ⟨_,rfl⟩
   have hrs : ∀ G,(R ≠ [] → AHeap.find G F.length = OutB R) → lsV G rv = strs R ∧ lsOk G 1 rv = True := fun G h => by rw [hrv]; exact OwnW_ls h
   rw [← hrv]
   clear hrv
   have ht0 : (strs (S ++ junk)).take q = strs (S.take q) := by rw [strs_tk,List.take_append_of_le_length (by omega)]
   have htl : (strs (S.take q)).length = q := by rw [strs_length,List.length_take]; omega
   have hRsl : (strs R).length = R.length := strs_length R
   have htk : (S.take q).length = q := by rw [List.length_take]; omega
   have hSjl : (S ++ junk).length = S.length + junk.length := List.length_append
   have hcl : (S.take q ++ [putT0] ++ R).length = q + (1 + R.length) := by rw [List.length_append,List.length_append,htk,List.length_singleton]; omega
   have hid1 : id < F1.length := by omega
   have fin : ∀ (v : AV) (G : AHeap) ts,F1.length ≤ G.length → OutW G 1 (S.take q ++ [putT0] ++ R) v → Fr [some (.lst 1 (strs a) none),some (.lst 1 (strs b) none),some (.lst 1 (intsA at_) none),none,none,none,none,none,none,none,some (OwnV 2 (prs p) 0),none,none,none,some (v),some (.sc (.int .i64 i)),none,none,none,none,none,none,none,none,none,none,none,none,none,none,none,none,none,none,none,none,none,none,none,none,none,none,none,none,none,none,none,none,none,none,none,none,none,none,none,none,none,none,none,none,none,none,none,none,none,none,none,none,none,none,none,none,none,none,none,none,none,none,none,none,none,none,none,none,none,none,none,none,none,none,none,none,none,none,none,none,none,none,none,none,none,none,none,none,none,none,none,none,none,none,none,none,none,none,none,none,none,none,none,none,none,none,none,none,none,none,none,none,none,none,none,none,none,none,none,none,none,none,none,none,none,none,none,none,none,none,none,none,none,none,none,none,none,none,none,none,none,none,none,none,none,none,none,none,none,none,none,none,none,none,none,none,none,none,none,none,none,none,none,none,none] ts → L2 ts G := fun v G ts g1 g2 hfr => by
    refine hL2 _ _ ?_
    obtain ⟨js,rfl⟩ := hfr.opened
    clear hfr
    rw [hw5]
    simp -implicitDefEqProofs (maxSteps := 99999999) (disch := first | omega | (simp only [AHeap.set_length,killO_length,List.length_cons,List.length_nil]; first | done | omega)) only [vu,mk,va,vg,vs,vw,Nat.reduceMul,ite_true,ite_false,eq_self,forall_const,implies_true,Nat.reduceAdd,Nat.reduceSub,Nat.reduceLT,Nat.reduceLeDiff,↓reduceIte,reduceCtorEq,Int.reduceEq,Int.reduceLT,Int.reduceLE,Int.reduceGT,Int.reduceGE,Int.reduceAdd,Int.reduceSub,Int.reduceNeg,Int.reduceToNat,Nat.reduceBEq,Nat.reduceEqDiff]
    refine hL1 _ _ ⟨i + 1,_,v,by omega,hsub.trans hS3.2,by rw [hcl]; omega,by omega,g2,by simp [Fr]⟩ ?_
    simp [mk,intV]
    omega
   clear hL2
   have hTm : ∀ (l : List AV),AV.sc (.string ⟨#[112,117,116,32,105,110,10]⟩) :: l = strs [putT0] ++ l := fun l => rfl
   by_cases c4 : q + 1 ≤ m
   ·have hidn : ¬ (F.length = id) := by omega
    obtain ⟨E1,hE1⟩ : ∃ E1,E1 = S.take q ++ [putT0] ++ (S ++ junk).drop (q + 1) := ⟨_,rfl⟩
    have hE : strs (S.take q) ++ (AV.sc (.string ⟨#[112,117,116,32,105,110,10]⟩) :: (strs (S ++ junk)).drop (q + 1)) = strs E1 := by rw [hE1,strs_dr,strs_append,strs_append,List.append_assoc]; rfl
    have hE1l : q + 1 ≤ E1.length := by rw [hE1,List.length_append,List.length_append,htk,List.length_singleton]; omega
    have hE2 : (strs E1).take (q + 1) = strs (S.take q) ++ strs [putT0] := by
     rw [hE1,strs_tk,List.take_append_of_le_length (by rw [List.length_append,htk,List.length_singleton]; omega),List.take_of_length_le (by rw [List.length_append,htk,List.length_singleton]; omega),strs_append]
    have hls := hrs (AHeap.set F1 id (some ⟨1,strs E1,false,9⟩)) (fun e => by rw [find_set_other hidn]; exact f3 e)
    by_cases c5 : q + (R.length + 1) ≤ m
    ·have c5' : q + (1 + R.length) ≤ m := by omega
     simp -implicitDefEqProofs (maxSteps := 99999999) (disch := first | omega | (simp only [AHeap.set_length,killO_length,List.length_cons,List.length_nil]; first | done | omega)) only [vu,Nat.sub_zero,f1,hm0,c4,c5,c5',ht0,htl,hRsl,hE,hE2,hls.1,hls.2,va,vg,vs,vw,Nat.reduceMul,ite_true,ite_false,eq_self,forall_const,implies_true,Nat.reduceAdd,Nat.reduceSub,Nat.reduceLT,Nat.reduceLeDiff,↓reduceIte,reduceCtorEq,Int.reduceEq,Int.reduceLT,Int.reduceLE,Int.reduceGT,Int.reduceGE,Int.reduceAdd,Int.reduceSub,Int.reduceNeg,Int.reduceToNat,Nat.reduceBEq,Nat.reduceEqDiff]
     refine ⟨⟨by omega,rfl,by omega,by omega⟩,⟨by omega,by omega⟩,⟨by omega,hE1l⟩,fin _ _ _ (by simp [AHeap.set_length]) (.inr ⟨id,some m,E1.drop (q + (1 + R.length)),by rw [hcl],?_,fun e => (by cases e),fun m' e => ?_,hid⟩) (by simp [Fr])⟩
     ·rw [AHeap.find_set_same (by rw [AHeap.set_length]; exact hid1)]
      simp only [strs_append,strs_dr,List.append_assoc]
     ·cases e
      exact ⟨by omega,hm0⟩
    ·have c5' : ¬ q + (1 + R.length) ≤ m := by omega
     simp -implicitDefEqProofs (maxSteps := 99999999) (disch := first | omega | (simp only [AHeap.set_length,killO_length,List.length_cons,List.length_nil]; first | done | omega)) only [vu,Nat.sub_zero,f1,hm0,c4,c5,c5',ht0,htl,hRsl,hE,hE2,hls.1,hls.2,va,vg,vs,vw,Nat.reduceMul,ite_true,ite_false,eq_self,forall_const,implies_true,Nat.reduceAdd,Nat.reduceSub,Nat.reduceLT,Nat.reduceLeDiff,↓reduceIte,reduceCtorEq,Int.reduceEq,Int.reduceLT,Int.reduceLE,Int.reduceGT,Int.reduceGE,Int.reduceAdd,Int.reduceSub,Int.reduceNeg,Int.reduceToNat,Nat.reduceBEq,Nat.reduceEqDiff]
     refine ⟨⟨by omega,rfl,by omega,by omega⟩,⟨by omega,by omega⟩,⟨by omega,hE1l⟩,fin _ _ _ (by simp [AHeap.set_length]) (.inr ⟨F1.length,none,[],by rw [hcl],?_,fun _ => ⟨rfl,fun e => by rw [e] at hcl; simp at hcl; omega⟩,fun m' e => (by cases e),by omega⟩) (by simp [Fr])⟩
     rw [List.append_nil,strs_append,strs_append,List.append_assoc]
     exact find_top (by rw [AHeap.set_length])
   ·have hls := hrs (some ⟨1,strs (S.take q) ++ [.sc (.string ⟨#[112,117,116,32,105,110,10]⟩)],false,9⟩ :: F1) (fun e => by rw [find_past (by have := hw.2 e; omega)]; exact f3 e)
    simp -implicitDefEqProofs (maxSteps := 99999999) (disch := first | omega | (simp only [AHeap.set_length,killO_length,List.length_cons,List.length_nil]; first | done | omega)) only [vu,Nat.sub_zero,f1,hm0,c4,ht0,htl,hRsl,hls.1,hls.2,va,vg,vs,vw,Nat.reduceMul,ite_true,ite_false,eq_self,forall_const,implies_true,Nat.reduceAdd,Nat.reduceSub,Nat.reduceLT,Nat.reduceLeDiff,↓reduceIte,reduceCtorEq,Int.reduceEq,Int.reduceLT,Int.reduceLE,Int.reduceGT,Int.reduceGE,Int.reduceAdd,Int.reduceSub,Int.reduceNeg,Int.reduceToNat,Nat.reduceBEq,Nat.reduceEqDiff]
    refine ⟨⟨by omega,rfl,by omega,by omega⟩,⟨by omega,by omega⟩,⟨by omega,by rw [List.length_append,htl]; rfl⟩,fin _ _ _ (by simp; omega) (.inr ⟨F1.length + 1,none,[],by rw [hcl],?_,fun _ => ⟨rfl,fun e => by rw [e] at hcl; simp at hcl; omega⟩,fun m' e => (by cases e),by omega⟩) (by simp [Fr])⟩
    rw [List.append_nil,strs_append,strs_append,List.append_assoc]
    exact find_top rfl
  rcases hout with ⟨hnil,rfl⟩ | ⟨id,c,junk,rfl,hf,hj,hm,hge⟩
  ·have hS0 : S.length = 0 := by rw [hnil]; rfl
   have q0 : q = 0 := by omega
   rw [q0] at hpick
   rw [hS0] at hpick
   refine SE.of_ES ?_
   refine ES_seq_gen fun L hL => ?_
   rw [hw1]
   simp -implicitDefEqProofs (maxSteps := 99999999) (disch := first | omega | (simp only [AHeap.set_length,killO_length,List.length_cons,List.length_nil]; first | done | omega)) only [vu,mk,h1,intsA_length,va,vg,vs,vw,Nat.reduceMul,ite_true,ite_false,eq_self,forall_const,implies_true,Nat.reduceAdd,Nat.reduceSub,Nat.reduceLT,Nat.reduceLeDiff,↓reduceIte,reduceCtorEq,Int.reduceEq,Int.reduceLT,Int.reduceLE,Int.reduceGT,Int.reduceGE,Int.reduceAdd,Int.reduceSub,Int.reduceNeg,Int.reduceToNat,Nat.reduceBEq,Nat.reduceEqDiff]
   refine hL _ _ ?_
   clear hL
   refine ES_seq_gen fun L2 hL2 => ?_
   rw [ES_block]
   refine ES_seq_gen fun L hL => ?_
   rw [hw2]
   simp -implicitDefEqProofs (maxSteps := 99999999) (disch := first | omega | (simp only [AHeap.set_length,killO_length,List.length_cons,List.length_nil]; first | done | omega)) only [vu,h1,intsA_length,hgi,va,vg,vs,vw,Nat.reduceMul,ite_true,ite_false,eq_self,forall_const,implies_true,Nat.reduceAdd,Nat.reduceSub,Nat.reduceLT,Nat.reduceLeDiff,↓reduceIte,reduceCtorEq,Int.reduceEq,Int.reduceLT,Int.reduceLE,Int.reduceGT,Int.reduceGE,Int.reduceAdd,Int.reduceSub,Int.reduceNeg,Int.reduceToNat,Nat.reduceBEq,Nat.reduceEqDiff]
   refine ⟨by omega,callR_ret (hpick _) ?_⟩
   simp -implicitDefEqProofs (maxSteps := 99999999) (disch := first | omega | (simp only [AHeap.set_length,killO_length,List.length_cons,List.length_nil]; first | done | omega)) only [vu,va,vg,vs,vw,Nat.reduceMul,ite_true,ite_false,eq_self,forall_const,implies_true,Nat.reduceAdd,Nat.reduceSub,Nat.reduceLT,Nat.reduceLeDiff,↓reduceIte,reduceCtorEq,Int.reduceEq,Int.reduceLT,Int.reduceLE,Int.reduceGT,Int.reduceGE,Int.reduceAdd,Int.reduceSub,Int.reduceNeg,Int.reduceToNat,Nat.reduceBEq,Nat.reduceEqDiff]
   refine hL _ _ ?_
   clear hL
   refine ES_seq_gen fun L hL => ?_
   rw [hw3]
   simp -implicitDefEqProofs (maxSteps := 99999999) (disch := first | omega | (simp only [AHeap.set_length,killO_length,List.length_cons,List.length_nil]; first | done | omega)) only [vu,va,vg,vs,vw,Nat.reduceMul,ite_true,ite_false,eq_self,forall_const,implies_true,Nat.reduceAdd,Nat.reduceSub,Nat.reduceLT,Nat.reduceLeDiff,↓reduceIte,reduceCtorEq,Int.reduceEq,Int.reduceLT,Int.reduceLE,Int.reduceGT,Int.reduceGE,Int.reduceAdd,Int.reduceSub,Int.reduceNeg,Int.reduceToNat,Nat.reduceBEq,Nat.reduceEqDiff]
   refine hL _ _ ?_
   clear hL
   rw [hw4]
   simp -implicitDefEqProofs (maxSteps := 99999999) (disch := first | omega | (simp only [AHeap.set_length,killO_length,List.length_cons,List.length_nil]; first | done | omega)) only [vu,va,vg,vs,vw,Nat.reduceMul,ite_true,ite_false,eq_self,forall_const,implies_true,Nat.reduceAdd,Nat.reduceSub,Nat.reduceLT,Nat.reduceLeDiff,↓reduceIte,reduceCtorEq,Int.reduceEq,Int.reduceLT,Int.reduceLE,Int.reduceGT,Int.reduceGE,Int.reduceAdd,Int.reduceSub,Int.reduceNeg,Int.reduceToNat,Nat.reduceBEq,Nat.reduceEqDiff]
   refine hL2 _ _ ?_
   rw [hw5]
   simp -implicitDefEqProofs (maxSteps := 99999999) (disch := first | omega | (simp only [AHeap.set_length,killO_length,List.length_cons,List.length_nil]; first | done | omega)) only [vu,va,vg,vs,vw,Nat.reduceMul,ite_true,ite_false,eq_self,forall_const,implies_true,Nat.reduceAdd,Nat.reduceSub,Nat.reduceLT,Nat.reduceLeDiff,↓reduceIte,reduceCtorEq,Int.reduceEq,Int.reduceLT,Int.reduceLE,Int.reduceGT,Int.reduceGE,Int.reduceAdd,Int.reduceSub,Int.reduceNeg,Int.reduceToNat,Nat.reduceBEq,Nat.reduceEqDiff]
   refine hL1 _ _ ⟨i + 1,[putT0],.vec 1 (F.length + 1) 0 1 none,by omega,?_,by rw [List.length_singleton]; omega,by simp; omega,.inr ⟨F.length + 1,none,[],rfl,?_,fun _ => ⟨rfl,by simp⟩,fun m hm => (by cases hm),by omega⟩,by simp [Fr]⟩ ?_
   ·have : a = [] := List.eq_nil_of_length_eq_zero (by omega)
    rw [this]
    exact List.nil_sublist _
   ·exact find_top (by simp)
   ·simp [mk,intV]
    omega
  ·cases c with
   | some m => exact main id m junk js hf (hm m rfl).1 (hm m rfl).2 hge
   | none =>
    refine SE.opened 14 (k := 1) (id := id) (off := 0) (n := S.length) rfl fun c hc hcm => ?_
    obtain ⟨rfl,hne⟩ := hj rfl
    exact main id c [] js hf hc (by have := List.length_pos_iff.2 hne; omega) hge
 ·have h1 : ¬ (i : Int) < at_.length := by omega
  refine SE.of_ES ?_
  refine ES_seq_gen fun L hL => ?_
  rw [hw1]
  simp -implicitDefEqProofs (maxSteps := 99999999) (disch := first | omega | (simp only [AHeap.set_length,killO_length,List.length_cons,List.length_nil]; first | done | omega)) only [vu,mk,h1,intsA_length,va,vg,vs,vw,Nat.reduceMul,ite_true,ite_false,eq_self,forall_const,implies_true,Nat.reduceAdd,Nat.reduceSub,Nat.reduceLT,Nat.reduceLeDiff,↓reduceIte,reduceCtorEq,Int.reduceEq,Int.reduceLT,Int.reduceLE,Int.reduceGT,Int.reduceGE,Int.reduceAdd,Int.reduceSub,Int.reduceNeg,Int.reduceToNat,Nat.reduceBEq,Nat.reduceEqDiff]
  clear hL1
  refine hK _ _ _ ?_
  clear hK
  obtain ⟨v1,v2⟩ := hout.len
  refine SE.of_ES ?_
  by_cases c6 : (S.length : Int) > 300
  ·rw [hw6]
   simp -implicitDefEqProofs (maxSteps := 99999999) (disch := first | omega | (simp only [AHeap.set_length,killO_length,List.length_cons,List.length_nil]; first | done | omega)) only [vu,v1,v2,c6,va,vg,vs,vw,Nat.reduceMul,ite_true,ite_false,eq_self,forall_const,implies_true,Nat.reduceAdd,Nat.reduceSub,Nat.reduceLT,Nat.reduceLeDiff,↓reduceIte,reduceCtorEq,Int.reduceEq,Int.reduceLT,Int.reduceLE,Int.reduceGT,Int.reduceGE,Int.reduceAdd,Int.reduceSub,Int.reduceNeg,Int.reduceToNat,Nat.reduceBEq,Nat.reduceEqDiff]
   exact weak_end
  refine ES_seq_gen fun L3 hL3 => ?_
  rw [hw6]
  simp -implicitDefEqProofs (maxSteps := 99999999) (disch := first | omega | (simp only [AHeap.set_length,killO_length,List.length_cons,List.length_nil]; first | done | omega)) only [vu,v1,v2,c6,va,vg,vs,vw,Nat.reduceMul,ite_true,ite_false,eq_self,forall_const,implies_true,Nat.reduceAdd,Nat.reduceSub,Nat.reduceLT,Nat.reduceLeDiff,↓reduceIte,reduceCtorEq,Int.reduceEq,Int.reduceLT,Int.reduceLE,Int.reduceGT,Int.reduceGE,Int.reduceAdd,Int.reduceSub,Int.reduceNeg,Int.reduceToNat,Nat.reduceBEq,Nat.reduceEqDiff]
  refine hL3 _ _ ?_
  clear hL3
  rw [hw7]
  have e1 : (cmn a S 0 0).length = a.length := by rw [cmn_lcs]; exact lcs_sub a S hsub
  have e2 : (cmn S a 0 0).length = a.length := by rw [cmn_lcs,lcs_comm]; exact lcs_sub a S hsub
  have e3 : (cmn b a 0 0).length = p.length := by rw [cmn_lcs,lcs_comm,hlcs]
  simp -implicitDefEqProofs (maxSteps := 99999999) (disch := first | omega | (simp only [AHeap.set_length,killO_length,List.length_cons,List.length_nil]; first | done | omega)) only [vu,va,vg,vs,vw,Nat.reduceMul,ite_true,ite_false,eq_self,forall_const,implies_true,Nat.reduceAdd,Nat.reduceSub,Nat.reduceLT,Nat.reduceLeDiff,↓reduceIte,reduceCtorEq,Int.reduceEq,Int.reduceLT,Int.reduceLE,Int.reduceGT,Int.reduceGE,Int.reduceAdd,Int.reduceSub,Int.reduceNeg,Int.reduceToNat,Nat.reduceBEq,Nat.reduceEqDiff]
  refine callR_ret (common_v (a := a) (b := S) (.lst strs_view) hout.view (by omega) (by omega)) ?_
  rw [cmL_short (by omega) (by omega)]
  simp -implicitDefEqProofs (maxSteps := 99999999) (disch := first | omega | (simp only [AHeap.set_length,killO_length,List.length_cons,List.length_nil]; first | done | omega)) only [vu,prs_length,e1,strs_length,va,vg,vs,vw,Nat.reduceMul,ite_true,ite_false,eq_self,forall_const,implies_true,Nat.reduceAdd,Nat.reduceSub,Nat.reduceLT,Nat.reduceLeDiff,↓reduceIte,reduceCtorEq,Int.reduceEq,Int.reduceLT,Int.reduceLE,Int.reduceGT,Int.reduceGE,Int.reduceAdd,Int.reduceSub,Int.reduceNeg,Int.reduceToNat,Nat.reduceBEq,Nat.reduceEqDiff]
  refine callR_ret (common_v (a := S) (b := a) (hout.keep fun i hi _ => find_past hi).view (.lst strs_view) (by omega) (by omega)) ?_
  rw [cmL_short (by omega) (by omega)]
  simp -implicitDefEqProofs (maxSteps := 99999999) (disch := first | omega | (simp only [AHeap.set_length,killO_length,List.length_cons,List.length_nil]; first | done | omega)) only [vu,prs_length,e2,strs_length,va,vg,vs,vw,Nat.reduceMul,ite_true,ite_false,eq_self,forall_const,implies_true,Nat.reduceAdd,Nat.reduceSub,Nat.reduceLT,Nat.reduceLeDiff,↓reduceIte,reduceCtorEq,Int.reduceEq,Int.reduceLT,Int.reduceLE,Int.reduceGT,Int.reduceGE,Int.reduceAdd,Int.reduceSub,Int.reduceNeg,Int.reduceToNat,Nat.reduceBEq,Nat.reduceEqDiff]
  refine callR_ret (common_v (a := b) (b := a) (.lst strs_view) (.lst strs_view) (by omega) (by omega)) ?_
  rw [cmL_short (by omega) (by omega)]
  simp -implicitDefEqProofs (maxSteps := 99999999) (disch := first | omega | (simp only [AHeap.set_length,killO_length,List.length_cons,List.length_nil]; first | done | omega)) only [vu,prs_length,e3,strs_length,va,vg,vs,vw,Nat.reduceMul,ite_true,ite_false,eq_self,forall_const,implies_true,Nat.reduceAdd,Nat.reduceSub,Nat.reduceLT,Nat.reduceLeDiff,↓reduceIte,reduceCtorEq,Int.reduceEq,Int.reduceLT,Int.reduceLE,Int.reduceGT,Int.reduceGE,Int.reduceAdd,Int.reduceSub,Int.reduceNeg,Int.reduceToNat,Nat.reduceBEq,Nat.reduceEqDiff]
  exact weak_end
theorem makes_parts : ic5 = .seq (ic5.l) (.seq (ic5.r.l) (.seq (ic5.r.r.l) (.seq (ic5.r.r.r.l) (.seq (ic5.r.r.r.r.l) (.seq (ic5.r.r.r.r.r.l) (.seq (ic5.r.r.r.r.r.r.l) (.seq (ic5.r.r.r.r.r.r.r.l) (.seq (ic5.r.r.r.r.r.r.r.r.l) (ic5.r.r.r.r.r.r.r.r.r))))))))) := rfl
set_option maxHeartbeats 0 in
theorem diffMakes_d (a b : List ByteArray) (at_ : List Int) (ha : Short a) (hb : Short b) (hat : at_.length ≤ 100000000) : D Tryd.prog 5 [.lst 1 (strs a) none,.lst 1 (strs b) none,.lst 1 (intsA at_) none] [] (.ret (.sc (.bool true))) [] := by
 refine D_of_DK (Nat.le_refl _) (DK_of_SE (vecs := []) (fn := Tryd.f5) (c := Tryd.f5.body.getD .skip) (ic := ic5) (rs := [.t 6]) Tryd.func5 (by kernel_rfl) (by kernel_rfl) (by kernel_rfl) ?_)
 have hn : Tryd.f5.ntmps = 181 := by kernel_rfl
 rw [hn]
 obtain ⟨u0,hu0⟩ : ∃ x,x = ic5.l := ⟨_,rfl⟩
 obtain ⟨u1,hu1⟩ : ∃ x,x = ic5.r.l := ⟨_,rfl⟩
 obtain ⟨u2,hu2⟩ : ∃ x,x = ic5.r.r.l := ⟨_,rfl⟩
 obtain ⟨u3,hu3⟩ : ∃ x,x = ic5.r.r.r.l := ⟨_,rfl⟩
 obtain ⟨u4,hu4⟩ : ∃ x,x = ic5.r.r.r.r.l := ⟨_,rfl⟩
 obtain ⟨u5,hu5⟩ : ∃ x,x = ic5.r.r.r.r.r.l := ⟨_,rfl⟩
 obtain ⟨u6,hu6⟩ : ∃ x,x = ic5.r.r.r.r.r.r.l := ⟨_,rfl⟩
 obtain ⟨u7,hu7⟩ : ∃ x,x = ic5.r.r.r.r.r.r.r.l := ⟨_,rfl⟩
 obtain ⟨u8,hu8⟩ : ∃ x,x = ic5.r.r.r.r.r.r.r.r.l := ⟨_,rfl⟩
 obtain ⟨t9,ht9⟩ : ∃ x,x = ic5.r.r.r.r.r.r.r.r.r := ⟨_,rfl⟩
 rw [makes_parts,← hu0,← hu1,← hu2,← hu3,← hu4,← hu5,← hu6,← hu7,← hu8,← ht9]
 simp only [ic5,IC.l,IC.r] at hu0 hu1 hu2 hu3 hu4 hu5 hu6 hu7 hu8
 refine SE.seq (SE.of_ES ?_)
 rw [hu0]
 simp -implicitDefEqProofs (maxSteps := 99999999) (disch := first | omega | (simp only [AHeap.set_length,killO_length,List.length_cons,List.length_nil]; first | done | omega)) only [vu,va,vg,vs,vw,Nat.reduceMul,ite_true,ite_false,eq_self,forall_const,implies_true,Nat.reduceAdd,Nat.reduceSub,Nat.reduceLT,Nat.reduceLeDiff,↓reduceIte,reduceCtorEq,Int.reduceEq,Int.reduceLT,Int.reduceLE,Int.reduceGT,Int.reduceGE,Int.reduceAdd,Int.reduceSub,Int.reduceNeg,Int.reduceToNat,Nat.reduceBEq,Nat.reduceEqDiff]
 refine SE.seq (SE.of_ES ?_)
 rw [hu1]
 simp -implicitDefEqProofs (maxSteps := 99999999) (disch := first | omega | (simp only [AHeap.set_length,killO_length,List.length_cons,List.length_nil]; first | done | omega)) only [vu,va,vg,vs,vw,Nat.reduceMul,ite_true,ite_false,eq_self,forall_const,implies_true,Nat.reduceAdd,Nat.reduceSub,Nat.reduceLT,Nat.reduceLeDiff,↓reduceIte,reduceCtorEq,Int.reduceEq,Int.reduceLT,Int.reduceLE,Int.reduceGT,Int.reduceGE,Int.reduceAdd,Int.reduceSub,Int.reduceNeg,Int.reduceToNat,Nat.reduceBEq,Nat.reduceEqDiff]
 refine callR_ret (awakeD_d _) ?_
 simp -implicitDefEqProofs (maxSteps := 99999999) (disch := first | omega | (simp only [AHeap.set_length,killO_length,List.length_cons,List.length_nil]; first | done | omega)) only [vu,va,vg,vs,vw,Nat.reduceMul,ite_true,ite_false,eq_self,forall_const,implies_true,Nat.reduceAdd,Nat.reduceSub,Nat.reduceLT,Nat.reduceLeDiff,↓reduceIte,reduceCtorEq,Int.reduceEq,Int.reduceLT,Int.reduceLE,Int.reduceGT,Int.reduceGE,Int.reduceAdd,Int.reduceSub,Int.reduceNeg,Int.reduceToNat,Nat.reduceBEq,Nat.reduceEqDiff]
 refine SE.seq (SE.of_ES ?_)
 rw [hu2]
 simp -implicitDefEqProofs (maxSteps := 99999999) (disch := first | omega | (simp only [AHeap.set_length,killO_length,List.length_cons,List.length_nil]; first | done | omega)) only [vu,va,vg,vs,vw,Nat.reduceMul,ite_true,ite_false,eq_self,forall_const,implies_true,Nat.reduceAdd,Nat.reduceSub,Nat.reduceLT,Nat.reduceLeDiff,↓reduceIte,reduceCtorEq,Int.reduceEq,Int.reduceLT,Int.reduceLE,Int.reduceGT,Int.reduceGE,Int.reduceAdd,Int.reduceSub,Int.reduceNeg,Int.reduceToNat,Nat.reduceBEq,Nat.reduceEqDiff]
 refine callR_ret (great2_d a b none none _ ha hb) ?_
 cases hg : greatB a b
 case true =>
  simp -implicitDefEqProofs (maxSteps := 99999999) (disch := first | omega | (simp only [AHeap.set_length,killO_length,List.length_cons,List.length_nil]; first | done | omega)) only [vu,va,vg,vs,vw,Nat.reduceMul,ite_true,ite_false,eq_self,forall_const,implies_true,Nat.reduceAdd,Nat.reduceSub,Nat.reduceLT,Nat.reduceLeDiff,↓reduceIte,reduceCtorEq,Int.reduceEq,Int.reduceLT,Int.reduceLE,Int.reduceGT,Int.reduceGE,Int.reduceAdd,Int.reduceSub,Int.reduceNeg,Int.reduceToNat,Nat.reduceBEq,Nat.reduceEqDiff]
  exact weak_end
 obtain ⟨la,lb⟩ := greatB_le hg
 by_cases c1 : (at_.length : Int) > 300
 ·simp -implicitDefEqProofs (maxSteps := 99999999) (disch := first | omega | (simp only [AHeap.set_length,killO_length,List.length_cons,List.length_nil]; first | done | omega)) only [vu,intsA_length,c1,va,vg,vs,vw,Nat.reduceMul,ite_true,ite_false,eq_self,forall_const,implies_true,Nat.reduceAdd,Nat.reduceSub,Nat.reduceLT,Nat.reduceLeDiff,↓reduceIte,reduceCtorEq,Int.reduceEq,Int.reduceLT,Int.reduceLE,Int.reduceGT,Int.reduceGE,Int.reduceAdd,Int.reduceSub,Int.reduceNeg,Int.reduceToNat,Nat.reduceBEq,Nat.reduceEqDiff]
  exact weak_end
 simp -implicitDefEqProofs (maxSteps := 99999999) (disch := first | omega | (simp only [AHeap.set_length,killO_length,List.length_cons,List.length_nil]; first | done | omega)) only [vu,intsA_length,c1,va,vg,vs,vw,Nat.reduceMul,ite_true,ite_false,eq_self,forall_const,implies_true,Nat.reduceAdd,Nat.reduceSub,Nat.reduceLT,Nat.reduceLeDiff,↓reduceIte,reduceCtorEq,Int.reduceEq,Int.reduceLT,Int.reduceLE,Int.reduceGT,Int.reduceGE,Int.reduceAdd,Int.reduceSub,Int.reduceNeg,Int.reduceToNat,Nat.reduceBEq,Nat.reduceEqDiff]
 refine SE.seq (SE.of_ES ?_)
 rw [hu3]
 simp -implicitDefEqProofs (maxSteps := 99999999) (disch := first | omega | (simp only [AHeap.set_length,killO_length,List.length_cons,List.length_nil]; first | done | omega)) only [vu,va,vg,vs,vw,Nat.reduceMul,ite_true,ite_false,eq_self,forall_const,implies_true,Nat.reduceAdd,Nat.reduceSub,Nat.reduceLT,Nat.reduceLeDiff,↓reduceIte,reduceCtorEq,Int.reduceEq,Int.reduceLT,Int.reduceLE,Int.reduceGT,Int.reduceGE,Int.reduceAdd,Int.reduceSub,Int.reduceNeg,Int.reduceToNat,Nat.reduceBEq,Nat.reduceEqDiff]
 refine callR_ret (hunks_d a b (by omega) (by omega) _) ?_
 simp -implicitDefEqProofs (maxSteps := 99999999) (disch := first | omega | (simp only [AHeap.set_length,killO_length,List.length_cons,List.length_nil]; first | done | omega)) only [vu,va,vg,vs,vw,Nat.reduceMul,ite_true,ite_false,eq_self,forall_const,implies_true,Nat.reduceAdd,Nat.reduceSub,Nat.reduceLT,Nat.reduceLeDiff,↓reduceIte,reduceCtorEq,Int.reduceEq,Int.reduceLT,Int.reduceLE,Int.reduceGT,Int.reduceGE,Int.reduceAdd,Int.reduceSub,Int.reduceNeg,Int.reduceToNat,Nat.reduceBEq,Nat.reduceEqDiff]
 refine SE.seq (SE.of_ES ?_)
 rw [hu4]
 simp -implicitDefEqProofs (maxSteps := 99999999) (disch := first | omega | (simp only [AHeap.set_length,killO_length,List.length_cons,List.length_nil]; first | done | omega)) only [vu,va,vg,vs,vw,Nat.reduceMul,ite_true,ite_false,eq_self,forall_const,implies_true,Nat.reduceAdd,Nat.reduceSub,Nat.reduceLT,Nat.reduceLeDiff,↓reduceIte,reduceCtorEq,Int.reduceEq,Int.reduceLT,Int.reduceLE,Int.reduceGT,Int.reduceGE,Int.reduceAdd,Int.reduceSub,Int.reduceNeg,Int.reduceToNat,Nat.reduceBEq,Nat.reduceEqDiff]
 refine callR_ret (changed_d a b la lb _) ?_
 simp -implicitDefEqProofs (maxSteps := 99999999) (disch := first | omega | (simp only [AHeap.set_length,killO_length,List.length_cons,List.length_nil]; first | done | omega)) only [vu,va,vg,vs,vw,Nat.reduceMul,ite_true,ite_false,eq_self,forall_const,implies_true,Nat.reduceAdd,Nat.reduceSub,Nat.reduceLT,Nat.reduceLeDiff,↓reduceIte,reduceCtorEq,Int.reduceEq,Int.reduceLT,Int.reduceLE,Int.reduceGT,Int.reduceGE,Int.reduceAdd,Int.reduceSub,Int.reduceNeg,Int.reduceToNat,Nat.reduceBEq,Nat.reduceEqDiff]
 refine SE.seq (SE.of_ES ?_)
 rw [hu5]
 simp -implicitDefEqProofs (maxSteps := 99999999) (disch := first | omega | (simp only [AHeap.set_length,killO_length,List.length_cons,List.length_nil]; first | done | omega)) only [vu,va,vg,vs,vw,Nat.reduceMul,ite_true,ite_false,eq_self,forall_const,implies_true,Nat.reduceAdd,Nat.reduceSub,Nat.reduceLT,Nat.reduceLeDiff,↓reduceIte,reduceCtorEq,Int.reduceEq,Int.reduceLT,Int.reduceLE,Int.reduceGT,Int.reduceGE,Int.reduceAdd,Int.reduceSub,Int.reduceNeg,Int.reduceToNat,Nat.reduceBEq,Nat.reduceEqDiff]
 refine callR_ret (sameTexts_d b b none none _ (by omega)) ?_
 simp -implicitDefEqProofs (maxSteps := 99999999) (disch := first | omega | (simp only [AHeap.set_length,killO_length,List.length_cons,List.length_nil]; first | done | omega)) only [vu,va,vg,vs,vw,Nat.reduceMul,ite_true,ite_false,eq_self,forall_const,implies_true,Nat.reduceAdd,Nat.reduceSub,Nat.reduceLT,Nat.reduceLeDiff,↓reduceIte,reduceCtorEq,Int.reduceEq,Int.reduceLT,Int.reduceLE,Int.reduceGT,Int.reduceGE,Int.reduceAdd,Int.reduceSub,Int.reduceNeg,Int.reduceToNat,Nat.reduceBEq,Nat.reduceEqDiff]
 refine callR_ret (hunks_d a a (by omega) (by omega) _) ?_
 rw [difH_self]
 simp -implicitDefEqProofs (maxSteps := 99999999) (disch := first | omega | (simp only [AHeap.set_length,killO_length,List.length_cons,List.length_nil]; first | done | omega)) only [vu,show hks [] = [] from rfl,va,vg,vs,vw,Nat.reduceMul,ite_true,ite_false,eq_self,forall_const,implies_true,Nat.reduceAdd,Nat.reduceSub,Nat.reduceLT,Nat.reduceLeDiff,↓reduceIte,reduceCtorEq,Int.reduceEq,Int.reduceLT,Int.reduceLE,Int.reduceGT,Int.reduceGE,Int.reduceAdd,Int.reduceSub,Int.reduceNeg,Int.reduceToNat,Nat.reduceBEq,Nat.reduceEqDiff]
 refine SE.seq (SE.of_ES ?_)
 rw [hu6]
 simp -implicitDefEqProofs (maxSteps := 99999999) (disch := first | omega | (simp only [AHeap.set_length,killO_length,List.length_cons,List.length_nil]; first | done | omega)) only [vu,va,vg,vs,vw,Nat.reduceMul,ite_true,ite_false,eq_self,forall_const,implies_true,Nat.reduceAdd,Nat.reduceSub,Nat.reduceLT,Nat.reduceLeDiff,↓reduceIte,reduceCtorEq,Int.reduceEq,Int.reduceLT,Int.reduceLE,Int.reduceGT,Int.reduceGE,Int.reduceAdd,Int.reduceSub,Int.reduceNeg,Int.reduceToNat,Nat.reduceBEq,Nat.reduceEqDiff]
 refine callR_ret (common_o a b (by omega) (by omega) _) ?_
 simp -implicitDefEqProofs (maxSteps := 99999999) (disch := first | omega | (simp only [AHeap.set_length,killO_length,List.length_cons,List.length_nil]; first | done | omega)) only [vu,va,vg,vs,vw,Nat.reduceMul,ite_true,ite_false,eq_self,forall_const,implies_true,Nat.reduceAdd,Nat.reduceSub,Nat.reduceLT,Nat.reduceLeDiff,↓reduceIte,reduceCtorEq,Int.reduceEq,Int.reduceLT,Int.reduceLE,Int.reduceGT,Int.reduceGE,Int.reduceAdd,Int.reduceSub,Int.reduceNeg,Int.reduceToNat,Nat.reduceBEq,Nat.reduceEqDiff]
 refine SE.seq (SE.of_ES ?_)
 rw [hu7]
 have hcn := cmn_le a b 0 0 (Nat.zero_le _)
 have hsame := cmn_same a b 0 0
 have hrise := cmn_rise a b 0 0 (Nat.zero_le _) (Nat.zero_le _)
 have hlcs : (cmn a b 0 0).length = lcs a b := cmn_lcs a b
 obtain ⟨p,hp⟩ : ∃ p,p = cmn a b 0 0 := ⟨_,rfl⟩
 rw [← hp] at hcn hsame hrise hlcs ⊢
 clear hp
 have hpl := prs_length p
 refine ES_gen fun K hK => ?_
 simp -implicitDefEqProofs (maxSteps := 99999999) (disch := first | omega | (simp only [AHeap.set_length,killO_length,List.length_cons,List.length_nil]; first | done | omega)) only [vu,va,vg,vs,vw,Nat.reduceMul,ite_true,ite_false,eq_self,forall_const,implies_true,Nat.reduceAdd,Nat.reduceSub,Nat.reduceLT,Nat.reduceLeDiff,↓reduceIte,reduceCtorEq,Int.reduceEq,Int.reduceLT,Int.reduceLE,Int.reduceGT,Int.reduceGE,Int.reduceAdd,Int.reduceSub,Int.reduceNeg,Int.reduceToNat,Nat.reduceBEq,Nat.reduceEqDiff]
 refine ES_loopL (fun ts F => ∃ k : Nat,k ≤ p.length ∧ F = [OwnB 2 40 (prs p)] ∧ Fr [some (.lst 1 (strs a) none),some (.lst 1 (strs b) none),some (.lst 1 (intsA at_) none),none,none,none,none,none,none,none,some (OwnV 2 (prs p) 0),some (.sc (.int .i64 k)),none,none,none,none,none,none,none,none,none,none,none,none,none,none,none,none,none,none,none,none,none,none,none,none,none,none,none,none,none,none,none,none,none,none,none,none,none,none,none,none,none,none,none,none,none,none,none,none,none,none,none,none,none,none,none,none,none,none,none,none,none,none,none,none,none,none,none,none,none,none,none,none,none,none,none,none,none,none,none,none,none,none,none,none,none,none,none,none,none,none,none,none,none,none,none,none,none,none,none,none,none,none,none,none,none,none,none,none,none,none,none,none,none,none,none,none,none,none,none,none,none,none,none,none,none,none,none,none,none,none,none,none,none,none,none,none,none,none,none,none,none,none,none,none,none,none,none,none,none,none,none,none,none,none,none,none,none,none,none,none,none,none,none,none,none,none,none,none,none] ts) (fun ts _ => p.length - (intV (ts.getD 11 .top)).toNat) ?_ ?_
 ·exact ⟨0,Nat.zero_le _,rfl,by simp [Fr]⟩
 ·rintro ts F ⟨k,hk,rfl,hfr⟩ L1 hL1
  obtain ⟨js,rfl⟩ := hfr.opened
  clear hfr
  by_cases hd : k < p.length
  ·have h1 : (k : Int) < p.length := by omega
   have hne : prs p ≠ [] := fun e => by rw [e] at hpl; simp at hpl; omega
   have hO : OwnV 2 (prs p) 0 = .vec 2 0 0 p.length none := by rw [OwnV_ne hne,hpl]
   have hB := OwnB_ne (k := 2) (ty := 40) hne
   have hm := hsame _ (nthP_mem hd)
   obtain ⟨m1,m2,m3⟩ := hm
   have hg := prs_nth hd
   obtain ⟨x,hx⟩ : ∃ x,x = (nthP p k).1 := ⟨_,rfl⟩
   obtain ⟨y,hy⟩ : ∃ y,y = (nthP p k).2 := ⟨_,rfl⟩
   rw [← hx,← hy] at m1 hg
   rw [← hx] at m2
   rw [← hy] at m3
   have b1 : ¬ (x : Int) < 0 := by omega
   have b2 : ¬ (y : Int) < 0 := by omega
   have b3 : ¬ (x : Int) ≥ a.length := by omega
   have b4 : ¬ (y : Int) ≥ b.length := by omega
   rw [hO,hB]
   have done : ∀ ts,Fr [some (.lst 1 (strs a) none),some (.lst 1 (strs b) none),some (.lst 1 (intsA at_) none),none,none,none,none,none,none,none,some (.vec 2 0 0 p.length none),some (.sc (.int .i64 (k + 1 : Nat))),none,none,none,none,none,none,none,none,none,none,none,none,none,none,none,none,none,none,none,none,none,none,none,none,none,none,none,none,none,none,none,none,none,none,none,none,none,none,none,none,none,none,none,none,none,none,none,none,none,none,none,none,none,none,none,none,none,none,none,none,none,none,none,none,none,none,none,none,none,none,none,none,none,none,none,none,none,none,none,none,none,none,none,none,none,none,none,none,none,none,none,none,none,none,none,none,none,none,none,none,none,none,none,none,none,none,none,none,none,none,none,none,none,none,none,none,none,none,none,none,none,none,none,none,none,none,none,none,none,none,none,none,none,none,none,none,none,none,none,none,none,none,none,none,none,none,none,none,none,none,none,none,none,none,none,none,none,none,none,none,none,none,none,none,none,none,none,none,none] ts → p.length - (intV (ts.getD 11 .top)).toNat < p.length - k → L1 ts [some ⟨2,prs p,false,40⟩] := fun ts hfr hlt => by
    rw [← hO] at hfr
    refine hL1 _ _ ⟨k + 1,by omega,by rw [hB],hfr⟩ ?_
    simpa [mk,intV] using hlt
   by_cases z : 0 < k
   ·have z1 : (k : Int) > 0 := by omega
    have z2 : ((k : Int) - 1).toNat = k - 1 := by omega
    have hg2 := prs_nth (l := p) (k := k - 1) (by omega)
    have hr := hrise.next (k := k - 1) (by omega)
    rw [show k - 1 + 1 = k by omega,← hx,← hy] at hr
    have b5 : ¬ ((nthP p (k - 1)).1 : Int) ≥ (x : Int) := by omega
    have b6 : ¬ ((nthP p (k - 1)).2 : Int) ≥ (y : Int) := by omega
    simp -implicitDefEqProofs (maxSteps := 99999999) (disch := first | omega | (simp only [AHeap.set_length,killO_length,List.length_cons,List.length_nil]; first | done | omega)) only [vu,mk,h1,hpl,hg,strs_length,b1,b2,b3,b4,strs_get m2,strs_get m3,m1,z1,z2,hg2,b5,b6,va,vg,vs,vw,Nat.reduceMul,ite_true,ite_false,eq_self,forall_const,implies_true,Nat.reduceAdd,Nat.reduceSub,Nat.reduceLT,Nat.reduceLeDiff,↓reduceIte,reduceCtorEq,Int.reduceEq,Int.reduceLT,Int.reduceLE,Int.reduceGT,Int.reduceGE,Int.reduceAdd,Int.reduceSub,Int.reduceNeg,Int.reduceToNat,Nat.reduceBEq,Nat.reduceEqDiff]
    and_intros <;> first | omega | skip
    refine done _ (by simp [Fr]) ?_
    simp [mk,intV]
    omega
   ·have z1 : ¬ (k : Int) > 0 := by omega
    simp -implicitDefEqProofs (maxSteps := 99999999) (disch := first | omega | (simp only [AHeap.set_length,killO_length,List.length_cons,List.length_nil]; first | done | omega)) only [vu,mk,h1,hpl,hg,strs_length,b1,b2,b3,b4,strs_get m2,strs_get m3,m1,z1,va,vg,vs,vw,Nat.reduceMul,ite_true,ite_false,eq_self,forall_const,implies_true,Nat.reduceAdd,Nat.reduceSub,Nat.reduceLT,Nat.reduceLeDiff,↓reduceIte,reduceCtorEq,Int.reduceEq,Int.reduceLT,Int.reduceLE,Int.reduceGT,Int.reduceGE,Int.reduceAdd,Int.reduceSub,Int.reduceNeg,Int.reduceToNat,Nat.reduceBEq,Nat.reduceEqDiff]
    and_intros <;> first | omega | skip
    refine done _ (by simp [Fr]) ?_
    simp [mk,intV]
    omega
  ·have h1 : ¬ (k : Int) < p.length := by omega
   simp -implicitDefEqProofs (maxSteps := 99999999) (disch := first | omega | (simp only [AHeap.set_length,killO_length,List.length_cons,List.length_nil]; first | done | omega)) only [vu,mk,h1,hpl,va,vg,vs,vw,Nat.reduceMul,ite_true,ite_false,eq_self,forall_const,implies_true,Nat.reduceAdd,Nat.reduceSub,Nat.reduceLT,Nat.reduceLeDiff,↓reduceIte,reduceCtorEq,Int.reduceEq,Int.reduceLT,Int.reduceLE,Int.reduceGT,Int.reduceGE,Int.reduceAdd,Int.reduceSub,Int.reduceNeg,Int.reduceToNat,Nat.reduceBEq,Nat.reduceEqDiff]
   clear hL1
   refine hK _ _ _ ?_
   clear hK
   simp -implicitDefEqProofs (maxSteps := 99999999) (disch := first | omega | (simp only [AHeap.set_length,killO_length,List.length_cons,List.length_nil]; first | done | omega)) only [vu,va,vg,vs,vw,Nat.reduceMul,ite_true,ite_false,eq_self,forall_const,implies_true,Nat.reduceAdd,Nat.reduceSub,Nat.reduceLT,Nat.reduceLeDiff,↓reduceIte,reduceCtorEq,Int.reduceEq,Int.reduceLT,Int.reduceLE,Int.reduceGT,Int.reduceGE,Int.reduceAdd,Int.reduceSub,Int.reduceNeg,Int.reduceToNat,Nat.reduceBEq,Nat.reduceEqDiff]
   refine SE.seq (SE.of_ES ?_)
   rw [hu8]
   simp -implicitDefEqProofs (maxSteps := 99999999) (disch := first | omega | (simp only [AHeap.set_length,killO_length,List.length_cons,List.length_nil]; first | done | omega)) only [vu,apV_w,apH_w,apOk_w,va,vg,vs,vw,Nat.reduceMul,ite_true,ite_false,eq_self,forall_const,implies_true,Nat.reduceAdd,Nat.reduceSub,Nat.reduceLT,Nat.reduceLeDiff,↓reduceIte,reduceCtorEq,Int.reduceEq,Int.reduceLT,Int.reduceLE,Int.reduceGT,Int.reduceGE,Int.reduceAdd,Int.reduceSub,Int.reduceNeg,Int.reduceToNat,Nat.reduceBEq,Nat.reduceEqDiff]
   refine ⟨by omega,?_⟩
   rw [ht9]
   have hout : OutW (apW a [OwnB 2 40 (prs p)]) 1 a (OwnW a 1) := by
    cases a with
    | nil => exact .inl ⟨rfl,rfl⟩
    | cons s r => exact .inr ⟨1,none,[],rfl,by rw [List.append_nil]; exact find_top rfl,fun _ => ⟨rfl,by simp⟩,fun m hm => (by cases hm),Nat.le_refl _⟩
   exact makes_tail a b at_ p la lb (by omega) hlcs _ _ _ hout (by simp [Fr])
end Go.Proofs.YtigmpablpmanpaaDoor
