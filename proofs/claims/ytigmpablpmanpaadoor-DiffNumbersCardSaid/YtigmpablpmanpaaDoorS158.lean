/- The document's Hunks. -/
import Derived.Test.YtigmpablpmanpaaDoorS157
namespace Go.Proofs.YtigmpablpmanpaaDoor
open Go.RowKit
set_option maxRecDepth 100000
set_option linter.unusedVariables false
set_option linter.unusedSimpArgs false
/-- What 'append([]string{}, l...)' tells and leaves. -/
def OwnW (l : List ByteArray) (id : Nat) : AV := match l with
 | [] => .lst 1 [] (some [])
 | _ :: _ => .vec 1 id 0 l.length none
def apW (l : List ByteArray) (H : AHeap) : AHeap := match l with
 | [] => H
 | _ :: _ => OutB l :: H
theorem apV_w {H : AHeap} {l : List ByteArray} : apV H 1 (strs l) (.lst 1 [] (some [])) = OwnW l H.length := by
 cases l with
 | nil => rfl
 | cons s r => simp [apV,OwnW,strs]
theorem apH_w {H : AHeap} {l : List ByteArray} : apH H 1 9 (strs l) (.lst 1 [] (some [])) = apW l H := by
 cases l with
 | nil => rfl
 | cons s r => simp [apH,apW,strs,OutB,OwnB]
theorem apOk_w {H : AHeap} {l : List ByteArray} : apOk H 1 9 (strs l) (.lst 1 [] (some [])) = (l.length ≤ 100000000) := by
 simp [apOk,strs_length]
theorem OwnW_top {l : List ByteArray} {id : Nat} : (OwnW l id).isTop = false := by cases l <;> rfl
theorem OwnW_ncells {l : List ByteArray} {id : Nat} : (OwnW l id).ncells = 1 := by cases l <;> rfl
theorem OwnW_isAgg {l : List ByteArray} {id : Nat} : (OwnW l id).isAgg = false := by cases l <;> rfl
theorem OwnW_cells {l : List ByteArray} {id : Nat} : (OwnW l id).cells = [OwnW l id] := by cases l <;> rfl
theorem OwnW_fz {F : AHeap} {n0 id : Nat} {l : List ByteArray} (h : l ≠ [] → AHeap.find F id = OutB l ∧ n0 ≤ id) : Gz F n0 [] (OwnW l id) (.lst 1 (strs l) none) := by
 cases l with
 | nil => exact .nil
 | cons s r =>
  obtain ⟨h1,h2⟩ := h (by simp)
  refine .vec (newId_nil h2) (by rw [h1,OutB_ne (by simp)]) rfl (by simp [strs_length]) ?_
  rw [List.drop_zero,List.take_of_length_le (by simp [strs_length])]
  exact strs_gzl
theorem apW_len {l : List ByteArray} {H : AHeap} : H.length ≤ (apW l H).length ∧ (l ≠ [] → (apW l H).length = H.length + 1) := by
 cases l <;> simp [apW]
theorem apW_old {l : List ByteArray} {H : AHeap} {id : Nat} (h : id < H.length) : AHeap.find (apW l H) id = AHeap.find H id := by
 cases l with
 | nil => rfl
 | cons s r => exact find_past h
theorem apW_new {l : List ByteArray} {H : AHeap} (h : l ≠ []) : AHeap.find (apW l H) H.length = OutB l := by
 cases l with
 | nil => exact (h rfl).elim
 | cons s r => exact find_top rfl
theorem HOwn.keep1 {F G : AHeap} {n0 : Nat} {l : List HR} (h : HOwn F n0 l) (hk : ∀ id k,n0 ≤ id → AHeap.find F id = some k → k.k = 1 → AHeap.find G id = AHeap.find F id) : HOwn G n0 l := by
 intro x hx
 obtain ⟨h1,h2⟩ := h x hx
 refine ⟨fun e => ?_,fun e => ?_⟩
 ·obtain ⟨a,b⟩ := h1 e
  exact ⟨by rw [hk _ _ b (a.trans (OutB_ne e)) rfl]; exact a,b⟩
 ·obtain ⟨a,b⟩ := h2 e
  exact ⟨by rw [hk _ _ b (a.trans (OutB_ne e)) rfl]; exact a,b⟩
def hrw (l : List HR) : List AV := l.map fun x => .agg [.sc (.int .i64 x.1.at_),OwnW x.1.old x.2.1,OwnW x.1.new x.2.2]
theorem hrw_length (l : List HR) : (hrw l).length = l.length := by simp [hrw]
theorem hrw_ne {l : List HR} : hrw l ≠ [] ↔ l ≠ [] := by simp [hrw]
theorem hrw_frz {F : AHeap} {n0 : Nat} : ∀ {l : List HR},HOwn F n0 l → GzL F n0 [] (hrw l) (hks (l.map (·.1)))
 | [],_ => .nil
 | x :: r,h => by
  obtain ⟨h1,h2⟩ := h x (by simp)
  exact .cons (.agg (.cons (.same trivial) (.cons (OwnW_fz h1) (.cons (OwnW_fz h2) .nil)))) (hrw_frz fun y hy => h y (by simp [hy]))
theorem refHunks_d (a b : List ByteArray) (hla : a.length ≤ 4096) (hlb : b.length ≤ 4096) (H : AHeap) :
  D Tryd.prog 14 [.lst 1 (strs a) none,.lst 1 (strs b) none] H (.ret (.lst 3 (hks (difH a b)) none)) H := by
 refine D_of_DK (Nat.le_refl _) (dk14 (E_of_ES ?_))
 simp -implicitDefEqProofs (maxSteps := 99999999) (disch := first | omega | (simp only [AHeap.set_length,killO_length,List.length_cons,List.length_nil]; first | done | omega)) only [vu,ic14,va,vg,vs,vw,Nat.reduceMul,ite_true,ite_false,eq_self,forall_const,implies_true,Nat.reduceAdd,Nat.reduceSub,Nat.reduceLT,Nat.reduceLeDiff,↓reduceIte,reduceCtorEq,Int.reduceEq,Int.reduceLT,Int.reduceLE,Int.reduceGT,Int.reduceGE,Int.reduceAdd,Int.reduceSub,Int.reduceNeg,Int.reduceToNat,Nat.reduceBEq,Nat.reduceEqDiff]
 refine callR_ret (refCommon_o a b hla hlb _) ?_
 have hcl := cmn_le a b 0 0 (Nat.zero_le _)
 obtain ⟨ps,hps⟩ : ∃ ps,ps = cmn a b 0 0 ++ [(a.length,b.length)] := ⟨_,rfl⟩
 have hrise : Rise (a.length + 1) (b.length + 1) 0 0 ps := by rw [hps]; exact (cmn_rise a b 0 0 (Nat.zero_le _) (Nat.zero_le _)).app
 have hpl : ps.length ≤ 4097 := by rw [hps,List.length_append]; simp; omega
 have hpn : ps ≠ [] := by rw [hps]; simp
 have hap : prs (cmn a b 0 0) ++ [AV.agg [.sc (.int .i64 a.length),.sc (.int .i64 b.length)]] = prs ps := by rw [hps]; simp [prs]
 have hdif : difH a b = bet a b 0 0 ps := by rw [hps]; rfl
 rw [hdif]
 obtain ⟨pio,G,p1,p2,p3,p4,p5,p6⟩ := apAny (H := OwnB 2 40 (prs (cmn a b 0 0)) :: H) (k := 2) (ty := 40) (xs := prs (cmn a b 0 0)) (ys := [AV.agg [.sc (.int .i64 a.length),.sc (.int .i64 b.length)]]) (id := H.length) (fun h => find_top rfl) (by rw [prs_length]; simp; omega)
 rw [hap] at p2 p4
 have hpe : prs ps ≠ [] := by simpa [prs] using hpn
 obtain ⟨p4a,p4b⟩ := p4 hpe
 rw [OwnV_ne hpe,prs_length] at p2
 rw [OwnB_ne hpe] at p4a
 simp only [List.length_cons] at p5 p4b
 simp -implicitDefEqProofs (maxSteps := 99999999) (disch := first | omega | (simp only [AHeap.set_length,killO_length,List.length_cons,List.length_nil]; first | done | omega)) only [vu,strs_length,p1,p2,p3,va,vg,vs,vw,Nat.reduceMul,ite_true,ite_false,eq_self,forall_const,implies_true,Nat.reduceAdd,Nat.reduceSub,Nat.reduceLT,Nat.reduceLeDiff,↓reduceIte,reduceCtorEq,Int.reduceEq,Int.reduceLT,Int.reduceLE,Int.reduceGT,Int.reduceGE,Int.reduceAdd,Int.reduceSub,Int.reduceNeg,Int.reduceToNat,Nat.reduceBEq,Nat.reduceEqDiff]
 refine ES_gen fun K hK => ?_
 refine ES_loopL (fun ts F => ∃ (k i j vid : Nat) (xs : List HR),(k ≤ ps.length ∧ xs.map (·.1) ++ bet a b i j (ps.drop k) = bet a b 0 0 ps ∧ Rise (a.length + 1) (b.length + 1) i j (ps.drop k) ∧ xs.length ≤ k) ∧
   (AHeap.find F pio = some ⟨2,prs ps,false,40⟩ ∧ H.length < F.length) ∧
   ((HOwn F H.length xs ∧ (xs ≠ [] → AHeap.find F vid = some ⟨3,hrw xs,false,46⟩ ∧ H.length ≤ vid ∧ vid ≠ pio)) ∧ ∀ id,id < H.length → AHeap.find F id = AHeap.find H id) ∧
   Fr [some (.lst 1 (strs a) none),some (.lst 1 (strs b) none),none,none,none,some (OwnV 3 (hrw xs) vid),some (.sc (.int .i64 i)),some (.sc (.int .i64 j)),some (.vec 2 pio 0 ps.length none),some (.sc (.int .i64 k)),none,none,none,none,none,none,none,none,none,none,none,none,none,none,none,none,none,none,none,none,none,none,none,none,none,none,none,none,none,none,none,none,none,none,none,none,none,none,none,none,none,none,none,none,none,none,none,none,none,none,none,none,none,none,none,none,none,none] ts) (fun ts _ => ps.length - (intV (ts.getD 9 .top)).toNat) ?_ ?_
 ·refine ⟨0,0,0,0,[],⟨Nat.zero_le _,rfl,hrise,Nat.zero_le _⟩,⟨p4a,by omega⟩,⟨⟨.nil,fun h => (h rfl).elim⟩,fun id hid => ?_⟩,by simp [Fr]; rfl⟩
  rw [p6 id (by simp; omega) (fun _ => by omega),find_past hid]
 ·rintro ts F ⟨k,i,j,vid,xs,⟨hk,hx,hri,hxl⟩,⟨g2,g3⟩,⟨⟨c1,c5⟩,c3⟩,hfr⟩ L1 hL1
  obtain ⟨js,rfl⟩ := hfr.opened
  clear hfr
  have hpio := AHeap.find_lt g2
  by_cases hkl : k < ps.length
  ·have h1 : (k : Int) < ps.length := by omega
   obtain ⟨⟨x,y⟩,hxy⟩ : ∃ q,ps[k]? = some q := ⟨_,List.getElem?_eq_getElem hkl⟩
   have hdr : ps.drop k = (x,y) :: ps.drop (k + 1) := by
    rw [List.drop_eq_getElem_cons hkl]
    rw [List.getElem?_eq_getElem hkl] at hxy
    rw [Option.some.inj hxy]
   have hpg := prs_get hxy
   rw [hdr] at hri hx
   obtain ⟨⟨r1,r2⟩,r3⟩ := hri
   have r4 := r3.le
   by_cases hz : (x - i) + (y - j) = 0
   ·have hx' : xs.map (·.1) ++ bet a b (x + 1) (y + 1) (ps.drop (k + 1)) = bet a b 0 0 ps := by
     rw [← hx]
     simp only [bet,if_pos hz]
    have z1 : ¬ (i : Int) < x := by omega
    have z2 : ¬ (j : Int) < y := by omega
    simp -implicitDefEqProofs (maxSteps := 99999999) (disch := first | omega | (simp only [AHeap.set_length,killO_length,List.length_cons,List.length_nil]; first | done | omega)) only [vu,mk,h1,g2,prs_length,hpg,strs_length,z1,z2,va,vg,vs,vw,Nat.reduceMul,ite_true,ite_false,eq_self,forall_const,implies_true,Nat.reduceAdd,Nat.reduceSub,Nat.reduceLT,Nat.reduceLeDiff,↓reduceIte,reduceCtorEq,Int.reduceEq,Int.reduceLT,Int.reduceLE,Int.reduceGT,Int.reduceGE,Int.reduceAdd,Int.reduceSub,Int.reduceNeg,Int.reduceToNat,Nat.reduceBEq,Nat.reduceEqDiff]
    and_intros <;> first | omega | skip
    refine hL1 _ _ ⟨k + 1,x + 1,y + 1,vid,xs,⟨by omega,hx',r3,by omega⟩,⟨g2,g3⟩,⟨⟨c1,c5⟩,c3⟩,by simp [Fr]⟩ ?_
    simp [mk,intV]
    omega
   ·obtain ⟨l1,hl1⟩ : ∃ l1,l1 = (a.take x).drop i := ⟨_,rfl⟩
    obtain ⟨l2,hl2⟩ : ∃ l2,l2 = (b.take y).drop j := ⟨_,rfl⟩
    have hll1 : l1.length ≤ 4096 := by rw [hl1,List.length_drop,List.length_take]; omega
    have hll2 : l2.length ≤ 4096 := by rw [hl2,List.length_drop,List.length_take]; omega
    obtain ⟨F1,hF1⟩ : ∃ F1,F1 = apW l1 F := ⟨_,rfl⟩
    obtain ⟨F2,hF2⟩ : ∃ F2,F2 = apW l2 F1 := ⟨_,rfl⟩
    have w1 := apW_len (l := l1) (H := F)
    have w2 := apW_len (l := l2) (H := F1)
    rw [← hF1] at w1
    rw [← hF2] at w2
    have hold : ∀ id,id < F.length → AHeap.find F2 id = AHeap.find F id := fun id hid => by rw [hF2,apW_old (by omega),hF1,apW_old hid]
    have hn1 : l1 ≠ [] → AHeap.find F2 F.length = OutB l1 := fun e => by have := w1.2 e; rw [hF2,apW_old (by omega),hF1,apW_new e]
    have hn2 : l2 ≠ [] → AHeap.find F2 F1.length = OutB l2 := fun e => by rw [hF2,apW_new e]
    obtain ⟨h,hh⟩ : ∃ h : HR,h = (⟨i,l1,l2⟩,F.length,F1.length) := ⟨_,rfl⟩
    have hx' : (xs ++ [h]).map (·.1) ++ bet a b (x + 1) (y + 1) (ps.drop (k + 1)) = bet a b 0 0 ps := by
     rw [← hx,hh,hl1,hl2]
     simp only [bet,if_neg hz]
     simp
    obtain ⟨vid1,G1,q1,q2,q3,q4,q5,q6⟩ := apAny (H := F2) (k := 3) (ty := 46) (xs := hrw xs) (ys := [.agg [.sc (.int .i64 i),OwnW l1 F.length,OwnW l2 F1.length]]) (id := vid) (fun e => by rw [hold _ (AHeap.find_lt (c5 (hrw_ne.1 e)).1),(c5 (hrw_ne.1 e)).1,OwnB_ne e]) (by rw [hrw_length]; simp; omega)
    have hap2 : hrw xs ++ [AV.agg [.sc (.int .i64 i),OwnW l1 F.length,OwnW l2 F1.length]] = hrw (xs ++ [h]) := by rw [hh]; simp [hrw]
    have hne2 : hrw (xs ++ [h]) ≠ [] := hrw_ne.2 (by simp)
    rw [hap2] at q2 q4
    obtain ⟨q4a,q4b⟩ := q4 hne2
    rw [OwnB_ne hne2] at q4a
    have fin2 : ∀ ts',Fr [some (.lst 1 (strs a) none),some (.lst 1 (strs b) none),none,none,none,some (OwnV 3 (hrw (xs ++ [h])) vid1),some (.sc (.int .i64 (x + 1 : Nat))),some (.sc (.int .i64 (y + 1 : Nat))),some (.vec 2 pio 0 ps.length none),some (.sc (.int .i64 (k + 1 : Nat))),none,none,none,none,none,none,none,none,none,none,none,none,none,none,none,none,none,none,none,none,none,none,none,none,none,none,none,none,none,none,none,none,none,none,none,none,none,none,none,none,none,none,none,none,none,none,none,none,none,none,none,none,none,none,none,none,none,none] ts' → ps.length - (intV (ts'.getD 9 .top)).toNat < ps.length - k → L1 ts' G1 := fun ts' hfr hlt => by
     have hkeep : ∀ id,id < F.length → (xs ≠ [] → id ≠ vid) → AHeap.find G1 id = AHeap.find F id := fun id h1 h2 => by
      rw [q6 id (by omega) (fun e => h2 (hrw_ne.1 e)),hold id h1]
     have hw : h.1.old = l1 ∧ h.1.new = l2 ∧ h.2.1 = F.length ∧ h.2.2 = F1.length := by rw [hh]; exact ⟨rfl,rfl,rfl,rfl⟩
     obtain ⟨u1,u2,u3,u4⟩ := hw
     have hvl : xs ≠ [] → vid < F.length := fun e => AHeap.find_lt (c5 e).1
     refine hL1 _ _ ⟨k + 1,x + 1,y + 1,vid1,xs ++ [h],⟨by omega,hx',r3,by simp; omega⟩,⟨by rw [hkeep pio hpio (fun e => (c5 e).2.2.symm)]; exact g2,by omega⟩,⟨⟨?_,fun _ => ⟨q4a,by omega,by omega⟩⟩,fun id hid => ?_⟩,hfr⟩ (by simpa [mk,intV] using hlt)
     ·refine (c1.keep1 fun id k' h1 h2 h3 => hkeep id (AHeap.find_lt h2) (fun e q => ?_)).app (.one (fun e => ?_) (fun e => ?_))
      ·subst q
       rw [(c5 e).1] at h2
       cases h2
       cases h3
      ·rw [u1] at e
       have := w1.2 e
       rw [u3,u1,q6 _ (by omega) (fun e' => by have := hvl (hrw_ne.1 e'); omega)]
       exact ⟨hn1 e,by omega⟩
      ·rw [u2] at e
       have := w2.2 e
       rw [u4,u2,q6 _ (by omega) (fun e' => by have := hvl (hrw_ne.1 e'); omega)]
       exact ⟨hn2 e,by omega⟩
     ·rw [hkeep id (by omega) (fun e => by have := (c5 e).2.1; omega)]
      exact c3 id hid
    by_cases z1 : (i : Int) < x
    ·simp -implicitDefEqProofs (maxSteps := 99999999) (disch := first | omega | (simp only [AHeap.set_length,killO_length,List.length_cons,List.length_nil]; first | done | omega)) only [vu,mk,h1,g2,prs_length,hpg,strs_length,z1,strs_tk,strs_dr,← hl1,← hl2,apV_w,apH_w,apOk_w,OwnW_top,OwnW_ncells,OwnW_isAgg,OwnW_cells,← hF1,← hF2,q1,q2,q3,va,vg,vs,vw,Nat.reduceMul,ite_true,ite_false,eq_self,forall_const,implies_true,Nat.reduceAdd,Nat.reduceSub,Nat.reduceLT,Nat.reduceLeDiff,↓reduceIte,reduceCtorEq,Int.reduceEq,Int.reduceLT,Int.reduceLE,Int.reduceGT,Int.reduceGE,Int.reduceAdd,Int.reduceSub,Int.reduceNeg,Int.reduceToNat,Nat.reduceBEq,Nat.reduceEqDiff]
     and_intros <;> first | omega | skip
     refine fin2 _ (by simp [Fr]) ?_
     simp [mk,intV]
     omega
    ·have z2 : (j : Int) < y := by omega
     simp -implicitDefEqProofs (maxSteps := 99999999) (disch := first | omega | (simp only [AHeap.set_length,killO_length,List.length_cons,List.length_nil]; first | done | omega)) only [vu,mk,h1,g2,prs_length,hpg,strs_length,z1,z2,strs_tk,strs_dr,← hl1,← hl2,apV_w,apH_w,apOk_w,OwnW_top,OwnW_ncells,OwnW_isAgg,OwnW_cells,← hF1,← hF2,q1,q2,q3,va,vg,vs,vw,Nat.reduceMul,ite_true,ite_false,eq_self,forall_const,implies_true,Nat.reduceAdd,Nat.reduceSub,Nat.reduceLT,Nat.reduceLeDiff,↓reduceIte,reduceCtorEq,Int.reduceEq,Int.reduceLT,Int.reduceLE,Int.reduceGT,Int.reduceGE,Int.reduceAdd,Int.reduceSub,Int.reduceNeg,Int.reduceToNat,Nat.reduceBEq,Nat.reduceEqDiff]
     and_intros <;> first | omega | skip
     refine fin2 _ (by simp [Fr]) ?_
     simp [mk,intV]
     omega
  ·have : k = ps.length := by omega
   subst this
   have h1 : ¬ (ps.length : Int) < ps.length := by omega
   simp -implicitDefEqProofs (maxSteps := 99999999) (disch := first | omega | (simp only [AHeap.set_length,killO_length,List.length_cons,List.length_nil]; first | done | omega)) only [vu,mk,h1,va,vg,vs,vw,Nat.reduceMul,ite_true,ite_false,eq_self,forall_const,implies_true,Nat.reduceAdd,Nat.reduceSub,Nat.reduceLT,Nat.reduceLeDiff,↓reduceIte,reduceCtorEq,Int.reduceEq,Int.reduceLT,Int.reduceLE,Int.reduceGT,Int.reduceGE,Int.reduceAdd,Int.reduceSub,Int.reduceNeg,Int.reduceToNat,Nat.reduceBEq,Nat.reduceEqDiff]
   clear hL1
   refine hK _ _ _ ?_
   clear hK
   rw [List.drop_length] at hx
   simp only [bet,List.append_nil] at hx
   simp -implicitDefEqProofs (maxSteps := 99999999) (disch := first | omega | (simp only [AHeap.set_length,killO_length,List.length_cons,List.length_nil]; first | done | omega)) only [vu,va,vg,vs,vw,Nat.reduceMul,ite_true,ite_false,eq_self,forall_const,implies_true,Nat.reduceAdd,Nat.reduceSub,Nat.reduceLT,Nat.reduceLeDiff,↓reduceIte,reduceCtorEq,Int.reduceEq,Int.reduceLT,Int.reduceLE,Int.reduceGT,Int.reduceGE,Int.reduceAdd,Int.reduceSub,Int.reduceNeg,Int.reduceToNat,Nat.reduceBEq,Nat.reduceEqDiff]
   rw [← hx]
   refine weak_frz c3 (OwnV_fz (ty := 46) (fun e => newId_nil (c5 (hrw_ne.1 e)).2.1) (fun e => ?_) (hrw_frz c1))
   rw [OwnB_ne e]
   exact (c5 (hrw_ne.1 e)).1
end Go.Proofs.YtigmpablpmanpaaDoor
