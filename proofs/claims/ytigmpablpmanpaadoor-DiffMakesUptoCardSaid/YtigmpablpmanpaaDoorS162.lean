/- law02.changed: the hunks make the other row. -/
import Derived.Test.YtigmpablpmanpaaDoorS161
import Derived.Test.YtigmpablpmanpaaDoorS158
import Derived.Test.YtigmpablpmanpaaDoorV41
import Derived.Test.YtigmpablpmanpaaDoorIc24
namespace Go.Proofs.YtigmpablpmanpaaDoor
open Go.RowKit
set_option maxRecDepth 100000
set_option linter.unusedVariables false
set_option linter.unusedSimpArgs false
/-- A row of texts that grows: nothing, or a slice of an own block, perhaps with a known room. -/
def OutW (F : AHeap) (n0 : Nat) (S : List ByteArray) (v : AV) : Prop := (S = [] ∧ v = .lst 1 [] (some [])) ∨
 ∃ (id : Nat) (c : Option Nat) (junk : List ByteArray),v = .vec 1 id 0 S.length c ∧ AHeap.find F id = some ⟨1,strs (S ++ junk),false,9⟩ ∧ (c = none → junk = [] ∧ S ≠ []) ∧ (∀ m,c = some m → S.length ≤ m ∧ 0 < m) ∧ n0 ≤ id
def IC.l : IC → IC
 | .seq a _ => a
 | .block _ a => a
 | .loop a => a
 | _ => .skip
def IC.r : IC → IC
 | .seq _ a => a
 | _ => .skip
theorem OwnW_ls {l : List ByteArray} {id : Nat} {G : AHeap} (h : l ≠ [] → AHeap.find G id = OutB l) : lsV G (OwnW l id) = strs l ∧ lsOk G 1 (OwnW l id) = True := by
 cases l with
 | nil => simp [OwnW,lsV,lsOk,strs]
 | cons s r =>
  have h1 := h (by simp)
  rw [OutB_ne (by simp)] at h1
  simp only [OwnW,lsV,lsOk,h1]
  refine ⟨?_,by simp [strs]⟩
  rw [List.drop_zero,List.take_of_length_le (by simp [strs_length])]
/-- Its text's parts. -/
def partI : Nat → IC → IC
 | 0,.seq a _ => a
 | 1,.seq _ (.seq a _) => a
 | 2,.seq _ (.seq _ (.seq (.seq a _) _)) => a
 | 3,.seq _ (.seq _ (.seq (.seq _ (.block _ (.loop a))) _)) => a
 | 4,.seq _ (.seq _ (.seq _ a)) => a
 | _,_ => .skip
theorem strs_view {H : AHeap} : ∀ {l : List ByteArray},ViewL H (strs l) (strs l)
 | [] => .nil
 | _ :: _ => .cons .sc strs_view
theorem changed_parts : ic18 = .seq (partI 0 ic18) (.seq (partI 1 ic18) (.seq (.seq (partI 2 ic18) (.block 0 (.loop (partI 3 ic18)))) (partI 4 ic18))) := rfl
set_option maxHeartbeats 0 in
theorem changed_d (a b : List ByteArray) (hla : a.length ≤ 300) (hlb : b.length ≤ 300) (H : AHeap) :
  D Tryd.prog 18 [.lst 1 (strs a) none,.lst 3 (hks (difH a b)) none] H (.ret (.tup [.lst 1 (strs b) none,.sc (.bool true)])) H := by
 refine D_of_DK (Nat.le_refl _) (DK_of_SE (vecs := []) (fn := Tryd.f18) (c := Tryd.f18.body.getD .skip) (ic := ic18) (rs := [.t 4,.t 5]) Tryd.func18 (by kernel_rfl) (by kernel_rfl) (by kernel_rfl) ?_)
 have hn : Tryd.f18.ntmps = 97 := by kernel_rfl
 rw [hn]
 obtain ⟨p0,hp0⟩ : ∃ x,x = partI 0 ic18 := ⟨_,rfl⟩
 obtain ⟨p1,hp1⟩ : ∃ x,x = partI 1 ic18 := ⟨_,rfl⟩
 obtain ⟨p2,hp2⟩ : ∃ x,x = partI 2 ic18 := ⟨_,rfl⟩
 obtain ⟨p3,hp3⟩ : ∃ x,x = partI 3 ic18 := ⟨_,rfl⟩
 obtain ⟨p4,hp4⟩ : ∃ x,x = partI 4 ic18 := ⟨_,rfl⟩
 rw [changed_parts,← hp0,← hp1,← hp2,← hp3,← hp4]
 refine SE.seq (SE.of_ES ?_)
 rw [hp0]
 simp -implicitDefEqProofs (maxSteps := 99999999) (disch := first | omega | (simp only [AHeap.set_length,killO_length,List.length_cons,List.length_nil]; first | done | omega)) only [vu,partI,ic18,va,vg,vs,vw,Nat.reduceMul,ite_true,ite_false,eq_self,forall_const,implies_true,Nat.reduceAdd,Nat.reduceSub,Nat.reduceLT,Nat.reduceLeDiff,↓reduceIte,reduceCtorEq,Int.reduceEq,Int.reduceLT,Int.reduceLE,Int.reduceGT,Int.reduceGE,Int.reduceAdd,Int.reduceSub,Int.reduceNeg,Int.reduceToNat,Nat.reduceBEq,Nat.reduceEqDiff]
 refine SE.seq (SE.of_ES ?_)
 rw [hp1]
 simp -implicitDefEqProofs (maxSteps := 99999999) (disch := first | omega | (simp only [AHeap.set_length,killO_length,List.length_cons,List.length_nil]; first | done | omega)) only [vu,apV_w,apH_w,apOk_w,partI,ic18,va,vg,vs,vw,Nat.reduceMul,ite_true,ite_false,eq_self,forall_const,implies_true,Nat.reduceAdd,Nat.reduceSub,Nat.reduceLT,Nat.reduceLeDiff,↓reduceIte,reduceCtorEq,Int.reduceEq,Int.reduceLT,Int.reduceLE,Int.reduceGT,Int.reduceGE,Int.reduceAdd,Int.reduceSub,Int.reduceNeg,Int.reduceToNat,Nat.reduceBEq,Nat.reduceEqDiff]
 refine ⟨by omega,SE.seq (SE.seq (SE.of_ES ?_))⟩
 have hql : (difQ a b).length ≤ 301 := by
  have := difQ_len a b
  omega
 have hhl : (hks (difH a b)).length = (difQ a b).length := by rw [hks_length,difH_Q,List.length_map]
 rw [hp2]
 simp -implicitDefEqProofs (maxSteps := 99999999) (disch := first | omega | (simp only [AHeap.set_length,killO_length,List.length_cons,List.length_nil]; first | done | omega)) only [vu,hhl,partI,ic18,va,vg,vs,vw,Nat.reduceMul,ite_true,ite_false,eq_self,forall_const,implies_true,Nat.reduceAdd,Nat.reduceSub,Nat.reduceLT,Nat.reduceLeDiff,↓reduceIte,reduceCtorEq,Int.reduceEq,Int.reduceLT,Int.reduceLE,Int.reduceGT,Int.reduceGE,Int.reduceAdd,Int.reduceSub,Int.reduceNeg,Int.reduceToNat,Nat.reduceBEq,Nat.reduceEqDiff]
 refine SE.gen fun K hK => ?_
 refine SE.block (SE.loopL (fun ts F => ∃ (k i1 j1 : Nat) (v : AV),(k ≤ (difQ a b).length ∧ Chain a b i1 j1 ((difQ a b).drop k) ∧ (∀ q,0 < k → (difQ a b)[k - 1]? = some q → i1 = q.x ∧ j1 = q.y) ∧ (k = 0 → i1 = 0 ∧ j1 = 0)) ∧ H.length ≤ F.length ∧ OutW F H.length (a.take i1 ++ b.drop j1) v ∧ (∀ id,id < H.length → AHeap.find F id = AHeap.find H id) ∧
  Fr [some (.lst 1 (strs a) none),some (.lst 3 (hks (difH a b)) none),none,none,none,none,some (v),some (.sc (.int .i64 (k - 1))),none,none,none,none,none,none,none,none,none,none,none,none,none,none,none,none,none,none,none,none,none,none,none,none,none,none,none,none,none,none,none,none,none,none,none,none,none,none,none,none,none,none,none,none,none,none,none,none,none,none,none,none,none,none,none,none,none,none,none,none,none,none,none,none,none,none,none,none,none,none,none,none,none,none,none,none,none,none,none,none,none,none,none,none,none,none,none,none,none] ts) (fun ts _ => (intV (ts.getD 7 .top) + 1).toNat) ?_ ?_)
 ·obtain ⟨i1,j1,h1,h2,h3⟩ := Chain.drop (difQ a b).length (difQ_chain a b) (Nat.le_refl _)
  have hS : a.take i1 ++ b.drop j1 = a := by
   rw [List.drop_length] at h1
   rw [← h1.2.2,List.take_append_drop]
  refine ⟨(difQ a b).length,i1,j1,OwnW a H.length,⟨Nat.le_refl _,h1,h2,h3⟩,apW_len.1,?_,fun id hid => apW_old hid,by simp [Fr]⟩
  rw [hS]
  cases a with
  | nil => exact .inl ⟨rfl,rfl⟩
  | cons s r => exact .inr ⟨H.length,none,[],rfl,by rw [List.append_nil]; exact find_top rfl,fun _ => ⟨rfl,by simp⟩,fun m hm => (by cases hm),Nat.le_refl _⟩
 ·rintro ts F ⟨k,i1,j1,v,⟨hkl,hch,hnx,hz⟩,hFl,hout,hold,hfr⟩ L1 hL1
  obtain ⟨js,rfl⟩ := hfr.opened
  clear hfr
  cases k with
  | zero =>
   obtain ⟨rfl,rfl⟩ := hz rfl
   have h1 : ¬ ((0 : Nat) : Int) - 1 ≥ 0 := by omega
   refine SE.of_ES ?_
   rw [hp3]
   simp -implicitDefEqProofs (maxSteps := 99999999) (disch := first | omega | (simp only [AHeap.set_length,killO_length,List.length_cons,List.length_nil]; first | done | omega)) only [vu,mk,h1,partI,ic18,va,vg,vs,vw,Nat.reduceMul,ite_true,ite_false,eq_self,forall_const,implies_true,Nat.reduceAdd,Nat.reduceSub,Nat.reduceLT,Nat.reduceLeDiff,↓reduceIte,reduceCtorEq,Int.reduceEq,Int.reduceLT,Int.reduceLE,Int.reduceGT,Int.reduceGE,Int.reduceAdd,Int.reduceSub,Int.reduceNeg,Int.reduceToNat,Nat.reduceBEq,Nat.reduceEqDiff]
   clear hL1
   refine hK _ _ _ ?_
   clear hK
   refine SE.of_ES ?_
   rw [hp4]
   simp -implicitDefEqProofs (maxSteps := 99999999) (disch := first | omega | (simp only [AHeap.set_length,killO_length,List.length_cons,List.length_nil]; first | done | omega)) only [vu,partI,ic18,va,vg,vs,vw,Nat.reduceMul,ite_true,ite_false,eq_self,forall_const,implies_true,Nat.reduceAdd,Nat.reduceSub,Nat.reduceLT,Nat.reduceLeDiff,↓reduceIte,reduceCtorEq,Int.reduceEq,Int.reduceLT,Int.reduceLE,Int.reduceGT,Int.reduceGE,Int.reduceAdd,Int.reduceSub,Int.reduceNeg,Int.reduceToNat,Nat.reduceBEq,Nat.reduceEqDiff]
   simp only [List.take_zero,List.drop_zero,List.nil_append] at hout
   refine weak_frz hold (.tup (.cons ?_ (.cons (.same trivial) .nil)))
   rcases hout with ⟨rfl,rfl⟩ | ⟨id,c,junk,rfl,hf,_,_,hge⟩
   ·exact .nil
   ·refine .vec (newId_nil hge) hf rfl (by simp [strs_length]) ?_
    rw [List.drop_zero,strs_append,List.take_append_of_le_length (by rw [strs_length]; exact Nat.le_refl _),List.take_of_length_le (by rw [strs_length]; exact Nat.le_refl _)]
    exact strs_gzl
  | succ k =>
   have hk' : k < (difQ a b).length := by omega
   obtain ⟨q,hq⟩ : ∃ q,(difQ a b)[k]? = some q := ⟨_,List.getElem?_eq_getElem hk'⟩
   obtain ⟨i0,j0,hc0,hx0,hz0⟩ := Chain.drop k (difQ_chain a b) (by omega)
   have hdr : (difQ a b).drop k = q :: (difQ a b).drop (k + 1) := by
    rw [List.drop_eq_getElem_cons hk']
    rw [List.getElem?_eq_getElem hk'] at hq
    rw [Option.some.inj hq]
   have hcd := hc0
   rw [hdr] at hcd
   obtain ⟨⟨⟨a1,a2,a3,a4,a5,a6⟩,a7⟩,hsg,-,-⟩ := hcd
   obtain ⟨rfl,rfl⟩ := hnx q (by omega) (by simpa using hq)
   have hprev : 0 < k → ∃ p,(difQ a b)[k - 1]? = some p ∧ p.x < q.i ∧ p.i ≤ p.x ∧ p.x ≤ a.length := fun h0 => by
    obtain ⟨p,hp⟩ : ∃ p,(difQ a b)[k - 1]? = some p := ⟨_,List.getElem?_eq_getElem (by omega)⟩
    obtain ⟨i2,j2,hc2,_,_⟩ := Chain.drop (k - 1) (difQ_chain a b) (by omega)
    have hdr2 : (difQ a b).drop (k - 1) = p :: (difQ a b).drop k := by
     rw [List.drop_eq_getElem_cons (by omega)]
     rw [List.getElem?_eq_getElem (by omega)] at hp
     rw [Option.some.inj hp,show k - 1 + 1 = k by omega]
    rw [hdr2] at hc2
    obtain ⟨⟨⟨b1,b2,b3,b4,b5,b6⟩,_⟩,_,b8,_⟩ := hc2
    exact ⟨p,hp,b8 q (by rw [hdr]; rfl),b3,b5⟩
   have hgk : (hks (difH a b)).getD k .top = hk (q.hk a b) := by
    rw [difH_Q]
    simp [hks,List.getD,hq]
   have hgp : ∀ p,(difQ a b)[k - 1]? = some p → (hks (difH a b)).getD (k - 1) .top = hk (p.hk a b) := fun p hp => by
    rw [difH_Q]
    simp [hks,List.getD,hp]
   obtain ⟨S,hS⟩ : ∃ S,S = a.take q.x ++ b.drop q.y := ⟨_,rfl⟩
   have hSl : S.length = q.x + (b.length - q.y) := by rw [hS,List.length_append,List.length_take,List.length_drop]; omega
   have hS1 : (S.take q.x).drop q.i = seg a q.i q.x := by
    rw [hS,List.take_append_of_le_length (by rw [List.length_take]; omega),List.take_take,Nat.min_self]
    rfl
   have hS2 : S.drop q.x = b.drop q.y := by
    rw [hS,List.drop_append_of_le_length (by rw [List.length_take]; omega),List.drop_of_length_le (by rw [List.length_take]; omega),List.nil_append]
   have hS3 : S.take q.i ++ seg b q.j q.y ++ b.drop q.y = a.take i0 ++ b.drop j0 := by
    rw [hS,List.take_append_of_le_length (by rw [List.length_take]; omega),List.take_take,Nat.min_eq_left a3,List.append_assoc,← drop_seg a4,take_seg a1,hsg,List.append_assoc,← drop_seg a2]
   rw [← hS] at hout
   clear hS hch hnx hz
   have l1 := seg_len (l := a) (i := q.i) a5
   have l2 := seg_len (l := b) (i := q.j) a6
   have e1 : ((k + 1 : Nat) : Int) - 1 = (k : Int) := by omega
   have h1 : (k : Int) ≥ 0 := by omega
   have h2 : (k : Int) < (difQ a b).length := by omega
   have c0 : ¬ (q.i : Int) < 0 := by omega
   have e2 : (q.i : Int) + ((q.x - q.i : Nat) : Int) = (q.x : Int) := by clear hS1 hS2 hS3 hgk hgp hprev; omega
   have c1 : ¬ (q.x : Int) > (S.length : Int) := by omega
   have c3 : ¬ ((q.x - q.i : Nat) : Int) + ((q.y - q.j : Nat) : Int) = 0 := by omega
   have hc3 : p3 = .seq p3.l (.seq (.block 1 (.seq p3.r.l.l.l (.seq p3.r.l.l.r.l (.seq p3.r.l.l.r.r.l (.seq p3.r.l.l.r.r.r.l p3.r.l.l.r.r.r.r))))) p3.r.r) := by rw [hp3]; rfl
   obtain ⟨u0,hu0⟩ : ∃ x,x = p3.l := ⟨_,rfl⟩
   obtain ⟨u1,hu1⟩ : ∃ x,x = p3.r.l.l.l := ⟨_,rfl⟩
   obtain ⟨u2,hu2⟩ : ∃ x,x = p3.r.l.l.r.l := ⟨_,rfl⟩
   obtain ⟨u3,hu3⟩ : ∃ x,x = p3.r.l.l.r.r.l := ⟨_,rfl⟩
   obtain ⟨u4,hu4⟩ : ∃ x,x = p3.r.l.l.r.r.r.l := ⟨_,rfl⟩
   obtain ⟨u5,hu5⟩ : ∃ x,x = p3.r.l.l.r.r.r.r := ⟨_,rfl⟩
   obtain ⟨u6,hu6⟩ : ∃ x,x = p3.r.r := ⟨_,rfl⟩
   rw [← hu0,← hu1,← hu2,← hu3,← hu4,← hu5,← hu6] at hc3
   rw [hp3] at hu0 hu1 hu2 hu3 hu4 hu5 hu6
   simp only [partI,ic18,IC.l,IC.r] at hu0 hu1 hu2 hu3 hu4 hu5 hu6
   have main : ∀ (id m : Nat) (junk : List ByteArray) (js : Nat → AV),AHeap.find F id = some ⟨1,strs (S ++ junk),false,9⟩ → S.length ≤ m → 0 < m → H.length ≤ id → SE Tryd.prog [] p3 (thenK L1 (blockK 0 K)) (mk [some (.lst 1 (strs a) none),some (.lst 3 (hks (difH a b)) none),none,none,none,none,some (.vec 1 id 0 S.length (some m)),some (.sc (.int .i64 k)),none,none,none,none,none,none,none,none,none,none,none,none,none,none,none,none,none,none,none,none,none,none,none,none,none,none,none,none,none,none,none,none,none,none,none,none,none,none,none,none,none,none,none,none,none,none,none,none,none,none,none,none,none,none,none,none,none,none,none,none,none,none,none,none,none,none,none,none,none,none,none,none,none,none,none,none,none,none,none,none,none,none,none,none,none,none,none,none,none] js) F := fun id m junk js hf hm hm0 hid => by
    refine SE.of_ES ?_
    rw [hc3]
    refine ES_seq_gen fun L hL => ?_
    rw [hu0]
    simp -implicitDefEqProofs (maxSteps := 99999999) (disch := first | omega | (simp only [AHeap.set_length,killO_length,List.length_cons,List.length_nil]; first | done | omega)) only [vu,mk,h1,va,vg,vs,vw,Nat.reduceMul,ite_true,ite_false,eq_self,forall_const,implies_true,Nat.reduceAdd,Nat.reduceSub,Nat.reduceLT,Nat.reduceLeDiff,↓reduceIte,reduceCtorEq,Int.reduceEq,Int.reduceLT,Int.reduceLE,Int.reduceGT,Int.reduceGE,Int.reduceAdd,Int.reduceSub,Int.reduceNeg,Int.reduceToNat,Nat.reduceBEq,Nat.reduceEqDiff]
    refine hL _ _ ?_
    clear hL
    refine ES_seq_gen fun L2 hL2 => ?_
    rw [ES_block]
    refine ES_seq_gen fun L hL => ?_
    rw [hu1]
    simp -implicitDefEqProofs (maxSteps := 99999999) (disch := first | omega | (simp only [AHeap.set_length,killO_length,List.length_cons,List.length_nil]; first | done | omega)) only [vu,h1,h2,hhl,hgk,Qd.hk,va,vg,vs,vw,Nat.reduceMul,ite_true,ite_false,eq_self,forall_const,implies_true,Nat.reduceAdd,Nat.reduceSub,Nat.reduceLT,Nat.reduceLeDiff,↓reduceIte,reduceCtorEq,Int.reduceEq,Int.reduceLT,Int.reduceLE,Int.reduceGT,Int.reduceGE,Int.reduceAdd,Int.reduceSub,Int.reduceNeg,Int.reduceToNat,Nat.reduceBEq,Nat.reduceEqDiff]
    refine hL _ _ ?_
    clear hL
    refine ES_seq_gen fun L hL => ?_
    rw [hu2]
    simp -implicitDefEqProofs (maxSteps := 99999999) (disch := first | omega | (simp only [AHeap.set_length,killO_length,List.length_cons,List.length_nil]; first | done | omega)) only [vu,strs_length,l1,l2,e2,va,vg,vs,vw,Nat.reduceMul,ite_true,ite_false,eq_self,forall_const,implies_true,Nat.reduceAdd,Nat.reduceSub,Nat.reduceLT,Nat.reduceLeDiff,↓reduceIte,reduceCtorEq,Int.reduceEq,Int.reduceLT,Int.reduceLE,Int.reduceGT,Int.reduceGE,Int.reduceAdd,Int.reduceSub,Int.reduceNeg,Int.reduceToNat,Nat.reduceBEq,Nat.reduceEqDiff]
    refine hL _ _ ?_
    clear hL
    refine ES_seq_gen fun L hL => ?_
    rw [hu3]
    have hfl := AHeap.find_lt hf
    have hT1 : ((strs (S ++ junk)).drop q.i).take (q.x - q.i) = strs (seg a q.i q.x) := by
     rw [← hS1,strs_append,List.drop_append_of_le_length (by rw [strs_length]; omega),List.take_append_of_le_length (by rw [List.length_drop,strs_length]; omega),← List.drop_take,strs_tk,strs_dr]
    have hT2 : ((strs (S ++ junk)).drop q.x).take (S.length - q.x) = strs (b.drop q.y) := by
     rw [← hS2,strs_append,List.drop_append_of_le_length (by rw [strs_length]; omega),List.take_append_of_le_length (by rw [List.length_drop,strs_length]; omega),List.take_of_length_le (by rw [List.length_drop,strs_length]; omega),strs_dr]
    have hjl : (strs (S ++ junk)).length = S.length + junk.length := by rw [strs_length,List.length_append]
    have hsame : ∀ (v : AV) (G : AHeap),(q.i < m → v = .vec 1 id q.i (q.x - q.i) (some (m - q.i)) ∧ AHeap.find G id = AHeap.find F id) → (¬ q.i < m → v = .lst 1 [] none) → D Tryd.prog 19 [v,.lst 1 (strs (seg a q.i q.x)) none] G (.ret (.sc (.bool true))) G := fun v G g1 g2 => by
     have hd : decide (seg a q.i q.x = seg a q.i q.x) = true := by simp
     rw [← hd]
     by_cases hlt : q.i < m
     ·obtain ⟨rfl,g⟩ := g1 hlt
      refine D_view (.cons (.vec (by rw [g]; exact hf) rfl (by rw [hjl]; omega) ?_) (.cons (.lst strs_view) .nil)) .sc (sameTexts_d (seg a q.i q.x) (seg a q.i q.x) none none [] (by omega))
      rw [hT1]
      exact strs_view
     ·obtain rfl := g2 hlt
      have : seg a q.i q.x = [] := List.eq_nil_of_length_eq_zero (by omega)
      rw [this]
      exact sameTexts_d [] [] none none G (by simp)
    have hlsV : ∀ G,AHeap.find G id = AHeap.find F id → lsV G (if q.x < m then .vec 1 id q.x (S.length - q.x) (some (m - q.x)) else .lst 1 [] none) = strs (b.drop q.y) ∧ lsOk G 1 (if q.x < m then .vec 1 id q.x (S.length - q.x) (some (m - q.x)) else .lst 1 [] none) = True := fun G hg => by
     by_cases hlt : q.x < m
     ·rw [if_pos hlt]
      simp only [lsV,lsOk,hg,hf]
      exact ⟨hT2,by simp [hjl]; omega⟩
     ·rw [if_neg hlt]
      have : b.drop q.y = [] := List.eq_nil_of_length_eq_zero (by rw [List.length_drop]; omega)
      rw [this]
      simp [lsV,lsOk,strs]
    simp -implicitDefEqProofs (maxSteps := 99999999) (disch := first | omega | (simp only [AHeap.set_length,killO_length,List.length_cons,List.length_nil]; first | done | omega)) only [vu,strs_length,l1,l2,c0,c1,va,vg,vs,vw,Nat.reduceMul,ite_true,ite_false,eq_self,forall_const,implies_true,Nat.reduceAdd,Nat.reduceSub,Nat.reduceLT,Nat.reduceLeDiff,↓reduceIte,reduceCtorEq,Int.reduceEq,Int.reduceLT,Int.reduceLE,Int.reduceGT,Int.reduceGE,Int.reduceAdd,Int.reduceSub,Int.reduceNeg,Int.reduceToNat,Nat.reduceBEq,Nat.reduceEqDiff]
    refine ⟨⟨by omega,by omega,rfl,a3,by omega⟩,callD_same (hsame _ _ (fun h => ⟨if_pos h,find_past hfl⟩) (fun h => if_neg h)) ?_⟩
    simp -implicitDefEqProofs (maxSteps := 99999999) (disch := first | omega | (simp only [AHeap.set_length,killO_length,List.length_cons,List.length_nil]; first | done | omega)) only [vu,strs_length,l1,l2,c3,va,vg,vs,vw,Nat.reduceMul,ite_true,ite_false,eq_self,forall_const,implies_true,Nat.reduceAdd,Nat.reduceSub,Nat.reduceLT,Nat.reduceLeDiff,↓reduceIte,reduceCtorEq,Int.reduceEq,Int.reduceLT,Int.reduceLE,Int.reduceGT,Int.reduceGE,Int.reduceAdd,Int.reduceSub,Int.reduceNeg,Int.reduceToNat,Nat.reduceBEq,Nat.reduceEqDiff]
    refine hL _ _ ?_
    clear hL
    have tail : ∀ ts,Fr [some (.lst 1 (strs a) none),some (.lst 3 (hks (difH a b)) none),none,none,none,none,some (.vec 1 id 0 S.length (some m)),some (.sc (.int .i64 k)),some (.ptr 3 F.length 0 0),some (.sc (.int .i64 q.x)),none,none,none,none,none,none,none,none,none,none,none,none,none,none,none,none,none,none,none,none,none,none,none,none,none,none,none,none,none,none,none,none,none,none,none,none,none,none,none,none,none,none,none,none,none,none,none,none,none,none,none,none,none,none,none,none,none,none,none,none,none,none,none,none,none,none,none,none,none,none,none,none,none,none,none,none,none,none,none,none,none,none,none,none,none,none,none] ts → ES Tryd.prog u5 (blockK 1 (thenK L2 (thenK L1 (blockK 0 K)))) ts (some ⟨3,[.agg [.sc (.int .i64 q.i),.lst 1 (strs (seg a q.i q.x)) none,.lst 1 (strs (seg b q.j q.y)) none]],true,46⟩ :: F) := by
     intro ts hfr
     obtain ⟨js,rfl⟩ := hfr.opened
     clear hfr
     rw [hu5]
     refine ES_seq_gen fun L hL => ?_
     have hls := hlsV (some ⟨3,[.agg [.sc (.int .i64 q.i),.lst 1 (strs (seg a q.i q.x)) none,.lst 1 (strs (seg b q.j q.y)) none]],true,46⟩ :: F) (find_past hfl)
     simp -implicitDefEqProofs (maxSteps := 99999999) (disch := first | omega | (simp only [AHeap.set_length,killO_length,List.length_cons,List.length_nil]; first | done | omega)) only [vu,mk,hls.1,hls.2,apV_w,apH_w,apOk_w,va,vg,vs,vw,Nat.reduceMul,ite_true,ite_false,eq_self,forall_const,implies_true,Nat.reduceAdd,Nat.reduceSub,Nat.reduceLT,Nat.reduceLeDiff,↓reduceIte,reduceCtorEq,Int.reduceEq,Int.reduceLT,Int.reduceLE,Int.reduceGT,Int.reduceGE,Int.reduceAdd,Int.reduceSub,Int.reduceNeg,Int.reduceToNat,Nat.reduceBEq,Nat.reduceEqDiff]
     refine ⟨⟨by omega,rfl,by omega,by omega⟩,by rw [List.length_drop]; omega,hL _ _ ?_⟩
     clear hL hls hlsV hsame
     obtain ⟨R,hR⟩ : ∃ R,R = b.drop q.y := ⟨_,rfl⟩
     obtain ⟨N,hN⟩ : ∃ N,N = seg b q.j q.y := ⟨_,rfl⟩
     have hRl : R.length = b.length - q.y := by rw [hR,List.length_drop]
     have hNl : N.length = q.y - q.j := by rw [hN]; exact l2
     rw [← hR,← hN] at hS3 ⊢
     have hw := apW_len (l := R) (H := some ⟨3,[.agg [.sc (.int .i64 q.i),.lst 1 (strs (seg a q.i q.x)) none,.lst 1 (strs N) none]],true,46⟩ :: F)
     have f1 : AHeap.find (apW R (some ⟨3,[.agg [.sc (.int .i64 q.i),.lst 1 (strs (seg a q.i q.x)) none,.lst 1 (strs N) none]],true,46⟩ :: F)) id = some ⟨1,strs (S ++ junk),false,9⟩ := by rw [apW_old (by simp; omega),find_past hfl]; exact hf
     have f2 : AHeap.find (apW R (some ⟨3,[.agg [.sc (.int .i64 q.i),.lst 1 (strs (seg a q.i q.x)) none,.lst 1 (strs N) none]],true,46⟩ :: F)) F.length = some ⟨3,[.agg [.sc (.int .i64 q.i),.lst 1 (strs (seg a q.i q.x)) none,.lst 1 (strs N) none]],true,46⟩ := by rw [apW_old (by simp)]; exact find_top rfl
     have f3 : R ≠ [] → AHeap.find (apW R (some ⟨3,[.agg [.sc (.int .i64 q.i),.lst 1 (strs (seg a q.i q.x)) none,.lst 1 (strs N) none]],true,46⟩ :: F)) (F.length + 1) = OutB R := fun e => apW_new e
     have f4 : ∀ i,i < F.length → AHeap.find (apW R (some ⟨3,[.agg [.sc (.int .i64 q.i),.lst 1 (strs (seg a q.i q.x)) none,.lst 1 (strs N) none]],true,46⟩ :: F)) i = AHeap.find F i := fun i hi => by rw [apW_old (by simp; omega),find_past hi]
     simp only [List.length_cons] at hw
     generalize apW R (some ⟨3,[.agg [.sc (.int .i64 q.i),.lst 1 (strs (seg a q.i q.x)) none,.lst 1 (strs N) none]],true,46⟩ :: F) = F1 at hw f1 f2 f3 f4 ⊢
     obtain ⟨rv,hrv⟩ : ∃ rv,rv = OwnW R (F.length + 1) := ⟨_,rfl⟩
     have hrs : ∀ G,(R ≠ [] → AHeap.find G (F.length + 1) = OutB R) → lsV G rv = strs R ∧ lsOk G 1 rv = True := fun G h => by rw [hrv]; exact OwnW_ls h
     rw [← hrv]
     clear hrv
     have hmn : min q.i S.length = q.i := by omega
     have hSl' : S.length = q.x + R.length := by omega
     have ht0 : (strs (S ++ junk)).take q.i = strs (S.take q.i) := by rw [strs_tk,List.take_append_of_le_length (by omega)]
     have htl : (strs (S.take q.i)).length = q.i := by rw [strs_length,List.length_take]; omega
     have hNsl : (strs N).length = N.length := strs_length N
     have hRsl : (strs R).length = R.length := strs_length R
     have fin : ∀ (v : AV) (G : AHeap) ts,F1.length ≤ G.length → OutW G H.length (S.take q.i ++ N ++ R) v → (∀ i,i < H.length → AHeap.find G i = AHeap.find F1 i) → Fr [some (.lst 1 (strs a) none),some (.lst 3 (hks (difH a b)) none),none,none,none,none,some (v),some (.sc (.int .i64 k)),none,none,none,none,none,none,none,none,none,none,none,none,none,none,none,none,none,none,none,none,none,none,none,none,none,none,none,none,none,none,none,none,none,none,none,none,none,none,none,none,none,none,none,none,none,none,none,none,none,none,none,none,none,none,none,none,none,none,none,none,none,none,none,none,none,none,none,none,none,none,none,none,none,none,none,none,none,none,none,none,none,none,none,none,none,none,none,none,none] ts → L2 ts G := fun v G ts g1 g2 g3 hfr => by
      refine hL2 _ _ ?_
      obtain ⟨js,rfl⟩ := hfr.opened
      clear hfr
      rw [hu6]
      simp -implicitDefEqProofs (maxSteps := 99999999) (disch := first | omega | (simp only [AHeap.set_length,killO_length,List.length_cons,List.length_nil]; first | done | omega)) only [vu,mk,va,vg,vs,vw,Nat.reduceMul,ite_true,ite_false,eq_self,forall_const,implies_true,Nat.reduceAdd,Nat.reduceSub,Nat.reduceLT,Nat.reduceLeDiff,↓reduceIte,reduceCtorEq,Int.reduceEq,Int.reduceLT,Int.reduceLE,Int.reduceGT,Int.reduceGE,Int.reduceAdd,Int.reduceSub,Int.reduceNeg,Int.reduceToNat,Nat.reduceBEq,Nat.reduceEqDiff]
      rw [hS3] at g2
      refine hL1 _ _ ⟨k,i0,j0,v,⟨by omega,hc0,hx0,hz0⟩,by omega,g2,fun i hi => by rw [g3 i hi,f4 i (by omega),hold i hi],by simp [Fr]⟩ ?_
      simp [mk,intV]
     clear hL2
     have htk : (S.take q.i).length = q.i := by rw [List.length_take]; omega
     have hSjl : (S ++ junk).length = S.length + junk.length := List.length_append
     have hcl : (S.take q.i ++ N ++ R).length = q.i + (N.length + R.length) := by rw [List.length_append,List.length_append,htk]; omega
     by_cases c4 : q.i + N.length ≤ m
     ·have hidn : ¬ (F.length + 1 = id) := by omega
      obtain ⟨E1,hE1⟩ : ∃ E1,E1 = S.take q.i ++ N ++ (S ++ junk).drop (q.i + N.length) := ⟨_,rfl⟩
      have hE : strs (S.take q.i) ++ (strs N ++ (strs (S ++ junk)).drop (q.i + N.length)) = strs E1 := by rw [hE1,strs_dr,strs_append,strs_append,List.append_assoc]
      have hE1l : q.i + N.length ≤ E1.length := by rw [hE1,List.length_append,List.length_append,htk]; omega
      have hE2 : (strs E1).take (q.i + N.length) = strs (S.take q.i) ++ strs N := by
       rw [hE1,strs_tk,List.take_append_of_le_length (by rw [List.length_append,htk]; omega),List.take_of_length_le (by rw [List.length_append,htk]; omega),strs_append]
      have hls := hrs (AHeap.set F1 id (some ⟨1,strs E1,false,9⟩)) (fun e => by rw [find_set_other hidn]; exact f3 e)
      have hid1 : id < F1.length := by omega
      by_cases c5 : q.i + (N.length + R.length) ≤ m
      ·simp -implicitDefEqProofs (maxSteps := 99999999) (disch := first | omega | (simp only [AHeap.set_length,killO_length,List.length_cons,List.length_nil]; first | done | omega)) only [vu,Nat.sub_zero,f1,f2,hm0,c4,c5,ht0,htl,hNsl,hRsl,hE,hE2,hls.1,hls.2,va,vg,vs,vw,Nat.reduceMul,ite_true,ite_false,eq_self,forall_const,implies_true,Nat.reduceAdd,Nat.reduceSub,Nat.reduceLT,Nat.reduceLeDiff,↓reduceIte,reduceCtorEq,Int.reduceEq,Int.reduceLT,Int.reduceLE,Int.reduceGT,Int.reduceGE,Int.reduceAdd,Int.reduceSub,Int.reduceNeg,Int.reduceToNat,Nat.reduceBEq,Nat.reduceEqDiff]
       refine ⟨⟨by omega,rfl,by omega,by omega⟩,⟨by omega,by omega⟩,⟨by omega,hE1l⟩,fin _ _ _ (by simp [AHeap.set_length]) (.inr ⟨id,some m,E1.drop (q.i + (N.length + R.length)),by rw [hcl],?_,fun e => (by cases e),fun m' e => ?_,hid⟩) (fun i hi => ?_) (by simp [Fr])⟩
       ·rw [AHeap.find_set_same (by rw [AHeap.set_length]; exact hid1)]
        simp only [strs_append,strs_dr,List.append_assoc]
       ·cases e
        exact ⟨by omega,hm0⟩
       ·rw [find_set_other (by omega),find_set_other (by omega)]
      ·simp -implicitDefEqProofs (maxSteps := 99999999) (disch := first | omega | (simp only [AHeap.set_length,killO_length,List.length_cons,List.length_nil]; first | done | omega)) only [vu,Nat.sub_zero,f1,f2,hm0,c4,c5,ht0,htl,hNsl,hRsl,hE,hE2,hls.1,hls.2,va,vg,vs,vw,Nat.reduceMul,ite_true,ite_false,eq_self,forall_const,implies_true,Nat.reduceAdd,Nat.reduceSub,Nat.reduceLT,Nat.reduceLeDiff,↓reduceIte,reduceCtorEq,Int.reduceEq,Int.reduceLT,Int.reduceLE,Int.reduceGT,Int.reduceGE,Int.reduceAdd,Int.reduceSub,Int.reduceNeg,Int.reduceToNat,Nat.reduceBEq,Nat.reduceEqDiff]
       refine ⟨⟨by omega,rfl,by omega,by omega⟩,⟨by omega,by omega⟩,⟨by omega,hE1l⟩,fin _ _ _ (by simp [AHeap.set_length]) (.inr ⟨F1.length,none,[],by rw [hcl],?_,fun _ => ⟨rfl,fun e => by rw [e] at hcl; simp at hcl; omega⟩,fun m' e => (by cases e),by omega⟩) (fun i hi => ?_) (by simp [Fr])⟩
       ·rw [List.append_nil,strs_append,strs_append,List.append_assoc]
        exact find_top (by rw [AHeap.set_length])
       ·rw [find_past (by rw [AHeap.set_length]; omega),find_set_other (by omega)]
     ·have hls := hrs (some ⟨1,strs (S.take q.i) ++ strs N,false,9⟩ :: F1) (fun e => by rw [find_past (by have := hw.2 e; omega)]; exact f3 e)
      simp -implicitDefEqProofs (maxSteps := 99999999) (disch := first | omega | (simp only [AHeap.set_length,killO_length,List.length_cons,List.length_nil]; first | done | omega)) only [vu,Nat.sub_zero,f1,f2,hm0,c4,ht0,htl,hNsl,hRsl,hls.1,hls.2,va,vg,vs,vw,Nat.reduceMul,ite_true,ite_false,eq_self,forall_const,implies_true,Nat.reduceAdd,Nat.reduceSub,Nat.reduceLT,Nat.reduceLeDiff,↓reduceIte,reduceCtorEq,Int.reduceEq,Int.reduceLT,Int.reduceLE,Int.reduceGT,Int.reduceGE,Int.reduceAdd,Int.reduceSub,Int.reduceNeg,Int.reduceToNat,Nat.reduceBEq,Nat.reduceEqDiff]
      refine ⟨⟨by omega,rfl,by omega,by omega⟩,⟨by omega,by omega⟩,⟨by omega,by rw [List.length_append,htl,hNsl]⟩,fin _ _ _ (by simp; omega) (.inr ⟨F1.length + 1,none,[],by rw [hcl],?_,fun _ => ⟨rfl,fun e => by rw [e] at hcl; simp at hcl; omega⟩,fun m hm => (by cases hm),by omega⟩) (fun i hi => ?_) (by simp [Fr])⟩
      ·rw [List.append_nil,strs_append,strs_append,List.append_assoc]
       exact find_top rfl
      ·rw [find_past (by simp; omega),find_past (by omega)]
    refine ES_seq_gen fun L hL => ?_
    rw [hu4]
    by_cases z : 0 < k
    ·obtain ⟨p,hp,y1,y2,y3⟩ := hprev z
     have z1 : (k : Int) > 0 := by omega
     have z2 : ((k : Int) - 1).toNat = k - 1 := by omega
     have z3 := seg_len (l := a) (i := p.i) y3
     have z4 : ¬ ((p.i : Int) + ((p.x - p.i : Nat) : Int) ≥ (q.i : Int)) := by omega
     simp -implicitDefEqProofs (maxSteps := 99999999) (disch := first | omega | (simp only [AHeap.set_length,killO_length,List.length_cons,List.length_nil]; first | done | omega)) only [vu,strs_length,z1,z2,z3,z4,hhl,hgp p hp,Qd.hk,va,vg,vs,vw,Nat.reduceMul,ite_true,ite_false,eq_self,forall_const,implies_true,Nat.reduceAdd,Nat.reduceSub,Nat.reduceLT,Nat.reduceLeDiff,↓reduceIte,reduceCtorEq,Int.reduceEq,Int.reduceLT,Int.reduceLE,Int.reduceGT,Int.reduceGE,Int.reduceAdd,Int.reduceSub,Int.reduceNeg,Int.reduceToNat,Nat.reduceBEq,Nat.reduceEqDiff]
     and_intros <;> first | omega | skip
     exact hL _ _ (tail _ (by simp [Fr]))
    ·have z1 : ¬ (k : Int) > 0 := by omega
     simp -implicitDefEqProofs (maxSteps := 99999999) (disch := first | omega | (simp only [AHeap.set_length,killO_length,List.length_cons,List.length_nil]; first | done | omega)) only [vu,z1,va,vg,vs,vw,Nat.reduceMul,ite_true,ite_false,eq_self,forall_const,implies_true,Nat.reduceAdd,Nat.reduceSub,Nat.reduceLT,Nat.reduceLeDiff,↓reduceIte,reduceCtorEq,Int.reduceEq,Int.reduceLT,Int.reduceLE,Int.reduceGT,Int.reduceGE,Int.reduceAdd,Int.reduceSub,Int.reduceNeg,Int.reduceToNat,Nat.reduceBEq,Nat.reduceEqDiff]
     refine hL _ _ (tail _ (by simp [Fr]))
   rw [e1]
   rcases hout with ⟨hnil,rfl⟩ | ⟨id,c,junk,rfl,hf,hj,hm,hge⟩
   ·have hS0 : S.length = 0 := by rw [hnil]; rfl
    have q1 : q.x = 0 := by omega
    have q2 : q.i = 0 := by omega
    have hsg0 : seg a q.i q.x = [] := List.eq_nil_of_length_eq_zero (by omega)
    obtain ⟨s,r,hN⟩ : ∃ s r,seg b q.j q.y = s :: r := by
     cases hN : seg b q.j q.y with
     | nil => rw [hN] at l2; simp at l2; omega
     | cons s r => exact ⟨s,r,rfl⟩
    have hR0 : b.drop q.y = [] := List.eq_nil_of_length_eq_zero (by rw [List.length_drop]; omega)
    rw [hnil,hN,hR0,List.take_nil,List.nil_append,List.append_nil] at hS3
    rw [q1,q2] at hsg0 e2 l1
    rw [hN] at l2
    have hk2 := hgk
    simp only [Qd.hk] at hk2
    rw [q1,q2,hsg0,hN] at hk2
    have h0 : ((0 : Nat) : Int) = 0 := rfl
    refine SE.of_ES ?_
    rw [hc3]
    refine ES_seq_gen fun L hL => ?_
    rw [hu0]
    simp -implicitDefEqProofs (maxSteps := 99999999) (disch := first | omega | (simp only [AHeap.set_length,killO_length,List.length_cons,List.length_nil]; first | done | omega)) only [vu,mk,h1,va,vg,vs,vw,Nat.reduceMul,ite_true,ite_false,eq_self,forall_const,implies_true,Nat.reduceAdd,Nat.reduceSub,Nat.reduceLT,Nat.reduceLeDiff,↓reduceIte,reduceCtorEq,Int.reduceEq,Int.reduceLT,Int.reduceLE,Int.reduceGT,Int.reduceGE,Int.reduceAdd,Int.reduceSub,Int.reduceNeg,Int.reduceToNat,Nat.reduceBEq,Nat.reduceEqDiff]
    refine hL _ _ ?_
    clear hL
    refine ES_seq_gen fun L2 hL2 => ?_
    rw [ES_block]
    refine ES_seq_gen fun L hL => ?_
    rw [hu1]
    simp -implicitDefEqProofs (maxSteps := 99999999) (disch := first | omega | (simp only [AHeap.set_length,killO_length,List.length_cons,List.length_nil]; first | done | omega)) only [vu,h1,h2,hhl,hk2,strs_nil,va,vg,vs,vw,Nat.reduceMul,ite_true,ite_false,eq_self,forall_const,implies_true,Nat.reduceAdd,Nat.reduceSub,Nat.reduceLT,Nat.reduceLeDiff,↓reduceIte,reduceCtorEq,Int.reduceEq,Int.reduceLT,Int.reduceLE,Int.reduceGT,Int.reduceGE,Int.reduceAdd,Int.reduceSub,Int.reduceNeg,Int.reduceToNat,Nat.reduceBEq,Nat.reduceEqDiff]
    refine hL _ _ ?_
    clear hL
    refine ES_seq_gen fun L hL => ?_
    rw [hu2]
    simp -implicitDefEqProofs (maxSteps := 99999999) (disch := first | omega | (simp only [AHeap.set_length,killO_length,List.length_cons,List.length_nil]; first | done | omega)) only [vu,h0,va,vg,vs,vw,Nat.reduceMul,ite_true,ite_false,eq_self,forall_const,implies_true,Nat.reduceAdd,Nat.reduceSub,Nat.reduceLT,Nat.reduceLeDiff,↓reduceIte,reduceCtorEq,Int.reduceEq,Int.reduceLT,Int.reduceLE,Int.reduceGT,Int.reduceGE,Int.reduceAdd,Int.reduceSub,Int.reduceNeg,Int.reduceToNat,Nat.reduceBEq,Nat.reduceEqDiff]
    refine hL _ _ ?_
    clear hL
    refine ES_seq_gen fun L hL => ?_
    rw [hu3]
    simp -implicitDefEqProofs (maxSteps := 99999999) (disch := first | omega | (simp only [AHeap.set_length,killO_length,List.length_cons,List.length_nil]; first | done | omega)) only [vu,h0,strs_nil,strs_cons,va,vg,vs,vw,Nat.reduceMul,ite_true,ite_false,eq_self,forall_const,implies_true,Nat.reduceAdd,Nat.reduceSub,Nat.reduceLT,Nat.reduceLeDiff,↓reduceIte,reduceCtorEq,Int.reduceEq,Int.reduceLT,Int.reduceLE,Int.reduceGT,Int.reduceGE,Int.reduceAdd,Int.reduceSub,Int.reduceNeg,Int.reduceToNat,Nat.reduceBEq,Nat.reduceEqDiff]
    refine callD_same (sameTexts_d [] [] (some []) none _ (by simp)) ?_
    have hrl : (strs r).length = r.length := strs_length r
    have hrl2 : r.length ≤ 300 := by rw [List.length_cons] at l2; omega
    have c5 : ¬ ((0 : Int) + ((r.length + 1 : Nat) : Int) = 0) := by omega
    simp -implicitDefEqProofs (maxSteps := 99999999) (disch := first | omega | (simp only [AHeap.set_length,killO_length,List.length_cons,List.length_nil]; first | done | omega)) only [vu,h0,hrl,c5,strs_nil,va,vg,vs,vw,Nat.reduceMul,ite_true,ite_false,eq_self,forall_const,implies_true,Nat.reduceAdd,Nat.reduceSub,Nat.reduceLT,Nat.reduceLeDiff,↓reduceIte,reduceCtorEq,Int.reduceEq,Int.reduceLT,Int.reduceLE,Int.reduceGT,Int.reduceGE,Int.reduceAdd,Int.reduceSub,Int.reduceNeg,Int.reduceToNat,Nat.reduceBEq,Nat.reduceEqDiff]
    refine hL _ _ ?_
    clear hL
    refine ES_seq_gen fun L hL => ?_
    rw [hu4]
    have hk00 : k = 0 := by
     by_cases z : 0 < k
     ·obtain ⟨p,hp,y1,y2,y3⟩ := hprev z
      omega
     ·omega
    have z1 : ¬ (k : Int) > 0 := by omega
    simp -implicitDefEqProofs (maxSteps := 99999999) (disch := first | omega | (simp only [AHeap.set_length,killO_length,List.length_cons,List.length_nil]; first | done | omega)) only [vu,z1,va,vg,vs,vw,Nat.reduceMul,ite_true,ite_false,eq_self,forall_const,implies_true,Nat.reduceAdd,Nat.reduceSub,Nat.reduceLT,Nat.reduceLeDiff,↓reduceIte,reduceCtorEq,Int.reduceEq,Int.reduceLT,Int.reduceLE,Int.reduceGT,Int.reduceGE,Int.reduceAdd,Int.reduceSub,Int.reduceNeg,Int.reduceToNat,Nat.reduceBEq,Nat.reduceEqDiff]
    refine hL _ _ ?_
    clear hL
    rw [hu5]
    refine ES_seq_gen fun L hL => ?_
    simp -implicitDefEqProofs (maxSteps := 99999999) (disch := first | omega | (simp only [AHeap.set_length,killO_length,List.length_cons,List.length_nil]; first | done | omega)) only [vu,h0,strs_nil,va,vg,vs,vw,Nat.reduceMul,ite_true,ite_false,eq_self,forall_const,implies_true,Nat.reduceAdd,Nat.reduceSub,Nat.reduceLT,Nat.reduceLeDiff,↓reduceIte,reduceCtorEq,Int.reduceEq,Int.reduceLT,Int.reduceLE,Int.reduceGT,Int.reduceGE,Int.reduceAdd,Int.reduceSub,Int.reduceNeg,Int.reduceToNat,Nat.reduceBEq,Nat.reduceEqDiff]
    refine hL _ _ ?_
    clear hL
    simp -implicitDefEqProofs (maxSteps := 99999999) (disch := first | omega | (simp only [AHeap.set_length,killO_length,List.length_cons,List.length_nil]; first | done | omega)) only [vu,h0,hrl,strs_nil,strs_cons,va,vg,vs,vw,Nat.reduceMul,ite_true,ite_false,eq_self,forall_const,implies_true,Nat.reduceAdd,Nat.reduceSub,Nat.reduceLT,Nat.reduceLeDiff,↓reduceIte,reduceCtorEq,Int.reduceEq,Int.reduceLT,Int.reduceLE,Int.reduceGT,Int.reduceGE,Int.reduceAdd,Int.reduceSub,Int.reduceNeg,Int.reduceToNat,Nat.reduceBEq,Nat.reduceEqDiff]
    refine ⟨by omega,by omega,hL2 _ _ ?_⟩
    rw [hu6]
    simp -implicitDefEqProofs (maxSteps := 99999999) (disch := first | omega | (simp only [AHeap.set_length,killO_length,List.length_cons,List.length_nil]; first | done | omega)) only [vu,va,vg,vs,vw,Nat.reduceMul,ite_true,ite_false,eq_self,forall_const,implies_true,Nat.reduceAdd,Nat.reduceSub,Nat.reduceLT,Nat.reduceLeDiff,↓reduceIte,reduceCtorEq,Int.reduceEq,Int.reduceLT,Int.reduceLE,Int.reduceGT,Int.reduceGE,Int.reduceAdd,Int.reduceSub,Int.reduceNeg,Int.reduceToNat,Nat.reduceBEq,Nat.reduceEqDiff]
    refine hL1 _ _ ⟨k,i0,j0,.vec 1 (F.length + 2) 0 (r.length + 1) none,⟨by omega,hc0,hx0,hz0⟩,by simp; omega,.inr ⟨F.length + 2,none,[],by rw [← hS3]; simp,?_,fun _ => ⟨rfl,fun e => by rw [← hS3] at e; simp at e⟩,fun m hm => (by cases hm),by omega⟩,fun i hi => ?_,by simp [Fr]⟩ ?_
    ·rw [← hS3,List.append_nil]
     exact find_top (by simp)
    ·rw [find_past (by simp; omega),find_past (by simp; omega),find_past (by omega),hold i hi]
    ·simp [mk,intV]
   ·cases c with
    | some m => exact main id m junk js hf (hm m rfl).1 (hm m rfl).2 hge
    | none =>
     refine SE.opened 6 (k := 1) (id := id) (off := 0) (n := S.length) rfl fun c hc hcm => ?_
     obtain ⟨rfl,hne⟩ := hj rfl
     exact main id c [] js hf hc (by have := List.length_pos_iff.2 hne; omega) hge
end Go.Proofs.YtigmpablpmanpaaDoor
