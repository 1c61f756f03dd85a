/- diff.Hunks with texts of the call's own: a round; between; the whole. -/
import Derived.Test.YtigmpablpmanpaaDoorS156
import Derived.Test.YtigmpablpmanpaaDoorSF
namespace Go.Proofs.YtigmpablpmanpaaDoor
open Go.RowKit
set_option maxRecDepth 100000
set_option linter.unusedVariables false
set_option linter.unusedSimpArgs false
theorem HMade.keep {H F G : AHeap} {l : List HR} {vid : Nat} (h : HMade H F l vid) (hl : F.length ≤ G.length) (hk : ∀ id,H.length ≤ id → id < F.length → (id ∈ hids l ∨ (l ≠ [] ∧ id = vid)) → AHeap.find G id = AHeap.find F id) : HMade H G l vid where
 own := h.own.keep fun id hm h1 h2 => hk id h1 h2 (.inl hm)
 row := fun e => by
  obtain ⟨r1,r2,r3⟩ := h.row e
  exact ⟨by rw [hk _ r2 (AHeap.find_lt r1) (.inr ⟨e,rfl⟩)]; exact r1,r2,r3⟩
 ids := fun i hi => ⟨(h.ids i hi).1,Nat.lt_of_lt_of_le (h.ids i hi).2 hl⟩
 nd := h.nd
theorem HMade.step {H F G : AHeap} {l : List HR} {vid : Nat} (h : HMade H F l vid) (hHF : H.length ≤ F.length) (hl : F.length ≤ G.length) (hk : ∀ id ∈ hids l,AHeap.find G id = AHeap.find F id) (x : HR) (vid' : Nat)
  (h1 : x.1.old ≠ [] → AHeap.find G x.2.1 = OutB x.1.old) (h2 : x.1.new ≠ [] → AHeap.find G x.2.2 = OutB x.1.new) (hx : (F.length ≤ x.2.1 ∧ x.2.1 < G.length) ∧ (F.length ≤ x.2.2 ∧ x.2.2 < G.length) ∧ x.2.1 ≠ x.2.2)
  (hv : AHeap.find G vid' = some ⟨3,hrs (l ++ [x]),false,46⟩) (hv2 : F.length ≤ vid' ∧ vid' ≠ x.2.1 ∧ vid' ≠ x.2.2) : HMade H G (l ++ [x]) vid' where
 own := (h.own.keep fun id hm _ _ => hk id hm).app (.one (fun e => ⟨h1 e,by omega⟩) (fun e => ⟨h2 e,by omega⟩))
 row := fun _ => ⟨hv,by omega,fun hm => by
  rw [hids_app,List.mem_append] at hm
  rcases hm with hm | hm
  ·have := (h.ids _ hm).2
   omega
  ·simp [hids] at hm
   omega⟩
 ids := fun i hi => by
  rw [hids_app,List.mem_append] at hi
  rcases hi with hi | hi
  ·have := h.ids _ hi
   omega
  ·simp [hids] at hi
   omega
 nd := by
  rw [hids_app]
  refine List.nodup_append.2 ⟨h.nd,by simp [hids]; exact hx.2.2,fun a ha b hb => ?_⟩
  have := (h.ids _ ha).2
  simp [hids] at hb
  omega
/-- Own memory behind a round. -/
def hkFO (F : AHeap) (xs : List HR) (x : HR) (oid vid : Nat) : AHeap := some ⟨3,hrs (xs ++ [x]),false,46⟩ :: AHeap.set (killO (hrs xs) vid (some ⟨3,[hkO x.1 x.2.1 x.2.2],true,46⟩ :: F)) oid (some ⟨1,[OwnV 3 (hrs (xs ++ [x])) (F.length + 1)],true,28⟩)
theorem hunkO_dy {F : AHeap} {rid oid vid fn db : Nat} {ts0 : List AV} {js : Nat → AV} {xs : List HR} {x : HR} (hts : ts0 = mk [none,none,none,none,none,some (.ptr 1 oid 0 0),none,none,none,none,none,none,none,none,none,none] js)
  (hr : AHeap.find F rid = some (lpB (recB fn db #[10] (rcA Tryd.f10 0) (rcB Tryd.f10 0)) ts0)) (ho : AHeap.find F oid = some ⟨1,[OwnV 3 (hrs xs) vid],true,28⟩) (hv : xs ≠ [] → AHeap.find F vid = some ⟨3,hrs xs,false,46⟩)
  (d1 : rid ≠ oid) (d2 : xs ≠ [] → vid ≠ oid ∧ vid ≠ rid) (hl : xs.length + 1 ≤ 100000000) :
  DY Tryd.prog rid [hkO x.1 x.2.1 x.2.2] F (.ret (.sc (.bool true))) (hkFO F xs x oid vid) := by
 have hrl := AHeap.find_lt hr
 have hol := AHeap.find_lt ho
 refine DY_of_DKY (by unfold hkFO; simp [killO_length,AHeap.set_length]; omega) (DKY_of_ES rca10_0 rcb10_0 hr rfl rfl ?_)
 obtain ⟨tp,htp⟩ : ∃ tp,putPs [10] [hkO x.1 x.2.1 x.2.2] ts0 = tp := ⟨_,rfl⟩
 show ES _ _ _ (putPs [10] _ ts0) _
 rw [htp]
 rw [hts] at htp
 simp only [mk,putPs,List.set_cons_succ,List.set_cons_zero] at htp
 subst htp
 clear hts
 simp -implicitDefEqProofs (maxSteps := 99999999) (disch := first | omega | (simp only [AHeap.set_length,killO_length,List.length_cons,List.length_nil]; first | done | omega)) only [vu,ic10a0,asgS_n,va,vg,vs,vw,Nat.reduceMul,ite_true,ite_false,eq_self,forall_const,implies_true,Nat.reduceAdd,Nat.reduceSub,Nat.reduceLT,Nat.reduceLeDiff,↓reduceIte,reduceCtorEq,Int.reduceEq,Int.reduceLT,Int.reduceLE,Int.reduceGT,Int.reduceGE,Int.reduceAdd,Int.reduceSub,Int.reduceNeg,Int.reduceToNat,Nat.reduceBEq,Nat.reduceEqDiff]
 refine ⟨hr,?_⟩
 change ES _ _ _ _ (some ⟨3,[hkO x.1 x.2.1 x.2.2],true,46⟩ :: AHeap.set F rid (some (lpB { recB fn db #[10] (rcA Tryd.f10 0) (rcB Tryd.f10 0) with state := .busy } ts0)))
 generalize hB : lpB { recB fn db #[10] (rcA Tryd.f10 0) (rcB Tryd.f10 0) with state := .busy } ts0 = B
 have hr1 : AHeap.find (AHeap.set F rid (some B)) rid = some B := AHeap.find_set_same hrl
 have ho1 : AHeap.find (AHeap.set F rid (some B)) oid = some ⟨1,[OwnV 3 (hrs xs) vid],true,28⟩ := by rw [find_set hrl,if_neg d1]; exact ho
 have hv1 : xs ≠ [] → AHeap.find (AHeap.set F rid (some B)) vid = some ⟨3,hrs xs,false,46⟩ := fun h => by rw [find_set hrl,if_neg (fun e => (d2 h).2 e.symm)]; exact hv h
 have hlen : (AHeap.set F rid (some B)).length = F.length := AHeap.set_length _ _ _
 obtain ⟨F1,hF1⟩ : ∃ F1,F1 = AHeap.set F rid (some B) := ⟨_,rfl⟩
 rw [← hF1] at hr1 ho1 hv1 hlen ⊢
 have hol1 : oid < F1.length := AHeap.find_lt ho1
 have hq : oid ≠ F.length := by omega
 have hq2 : ¬ F.length = oid := by omega
 have hrq : rid ≠ F.length := by omega
 unfold hkFO
 cases xs with
 | nil =>
  simp only [show hrs [] = [] from rfl,OwnV_nil] at ho1
  simp -implicitDefEqProofs (maxSteps := 99999999) (disch := first | omega | (simp only [AHeap.set_length,killO_length,List.length_cons,List.length_nil]; first | done | omega)) only [vu,ic10b0,ho1,hlen,hq2,show hrs [] = [] from rfl,OwnV_nil,va,vg,vs,vw,Nat.reduceMul,ite_true,ite_false,eq_self,forall_const,implies_true,Nat.reduceAdd,Nat.reduceSub,Nat.reduceLT,Nat.reduceLeDiff,↓reduceIte,reduceCtorEq,Int.reduceEq,Int.reduceLT,Int.reduceLE,Int.reduceGT,Int.reduceGE,Int.reduceAdd,Int.reduceSub,Int.reduceNeg,Int.reduceToNat,Nat.reduceBEq,Nat.reduceEqDiff]
  rw [rndK_n]
  refine ⟨_,ts0,by rw [find_past (by simp [AHeap.set_length,hlen]; omega),find_past (by rw [AHeap.set_length,hlen]; exact hrl),find_set_other d1,hr1,← hB],?_⟩
  have e3 : AHeap.set (killO [] vid (some ⟨3,[hkO x.1 x.2.1 x.2.2],true,46⟩ :: F)) oid (some ⟨1,[OwnV 3 (hrs [x]) (F.length + 1)],true,28⟩) = some ⟨3,[hkO x.1 x.2.1 x.2.2],true,46⟩ :: AHeap.set F oid (some ⟨1,[AV.vec 3 (F.length + 1) 0 1 none],true,28⟩) := set_past hol
  rw [hF1,e3]
  exact (round_heap0T hr d1) ▸ Weak.refl _ _ _
 | cons y ys =>
  have hv2 := hv1 (by simp)
  have hvl := AHeap.find_lt hv2
  have hlc : (hrs (y :: ys)).length = ys.length + 1 := by simp [hrs_length]
  have hO : OwnV 3 (hrs (y :: ys)) vid = .vec 3 vid 0 (ys.length + 1) none := by simp [OwnV,hrs]
  rw [hO] at ho1
  have ho2 : AHeap.find (AHeap.set F1 vid none) oid = some ⟨1,[.vec 3 vid 0 (ys.length + 1) none],true,28⟩ := by rw [find_set_other (d2 (by simp)).1.symm]; exact ho1
  simp -implicitDefEqProofs (maxSteps := 99999999) (disch := first | omega | (simp only [AHeap.set_length,killO_length,List.length_cons,List.length_nil]; first | done | omega)) only [vu,ic10b0,ho1,hv2,hlc,ho2,hlen,hq2,va,vg,vs,vw,Nat.reduceMul,ite_true,ite_false,eq_self,forall_const,implies_true,Nat.reduceAdd,Nat.reduceSub,Nat.reduceLT,Nat.reduceLeDiff,↓reduceIte,reduceCtorEq,Int.reduceEq,Int.reduceLT,Int.reduceLE,Int.reduceGT,Int.reduceGE,Int.reduceAdd,Int.reduceSub,Int.reduceNeg,Int.reduceToNat,Nat.reduceBEq,Nat.reduceEqDiff]
  refine ⟨by simp at hl; omega,?_⟩
  rw [rndK_n]
  refine ⟨_,ts0,by rw [find_past (by simp [AHeap.set_length,hlen]; omega),find_past (by rw [AHeap.set_length,AHeap.set_length,hlen]; exact hrl),find_set_other d1,find_set_other (d2 (by simp)).2.symm,hr1,← hB],?_⟩
  have e1 : hrs (y :: ys) ++ [AV.agg [.sc (.int .i64 x.1.at_),OutV x.1.old x.2.1,OutV x.1.new x.2.2]] = hrs (y :: (ys ++ [x])) := by simp [hrs]
  have e2 : AV.vec 3 (F.length + 1) 0 (ys.length + 2) none = OwnV 3 (hrs (y :: (ys ++ [x]))) (F.length + 1) := by simp [OwnV,hrs]
  rw [e1,e2,hF1]
  exact (round_heapVT hr d1 (d2 (by simp)).2.symm) ▸ Weak.refl _ _ _
theorem hkFO_ok {F : AHeap} {xs : List HR} {x : HR} {oid vid : Nat} (ho : oid < F.length) (hv : xs ≠ [] → vid < F.length ∧ vid ≠ oid) :
  AHeap.find (hkFO F xs x oid vid) oid = some ⟨1,[OwnV 3 (hrs (xs ++ [x])) (F.length + 1)],true,28⟩ ∧ AHeap.find (hkFO F xs x oid vid) (F.length + 1) = some ⟨3,hrs (xs ++ [x]),false,46⟩ ∧ (hkFO F xs x oid vid).length = F.length + 2 ∧
  ∀ id,id < F.length → id ≠ oid → (xs ≠ [] → id ≠ vid) → AHeap.find (hkFO F xs x oid vid) id = AHeap.find F id := by
 unfold hkFO
 refine ⟨?_,find_top (by rw [AHeap.set_length,killO_length]; rfl),by simp [AHeap.set_length,killO_length],fun id hid h1 h2 => ?_⟩
 ·rw [find_past (by rw [AHeap.set_length,killO_length]; simp; omega),AHeap.find_set_same (by rw [killO_length]; simp; omega)]
 ·rw [find_past (by rw [AHeap.set_length,killO_length]; simp; omega),find_set_other h1]
  by_cases e : hrs xs = []
  ·rw [e]
   exact find_past hid
  ·rw [find_killO_other (fun _ => h2 (fun h => e (by rw [h]; rfl)))]
   exact find_past hid
theorem find_past4 {A B C D : Option ABlk} {H : AHeap} {i : Nat} (h : i < H.length) : AHeap.find (A :: B :: C :: D :: H) i = AHeap.find H i := by
 rw [find_past (by simp; omega),find_past (by simp; omega),find_past (by simp; omega),find_past h]
/-- The hunks, of rows of any length. -/
def difL (a b : List ByteArray) : List Hk := bet a b 0 0 (cmL a b ++ [(a.length,b.length)])
theorem cmL_rise (a b : List ByteArray) : Rise a.length b.length 0 0 (cmL a b) := by
 unfold cmL
 split
 ·exact ⟨Nat.zero_le _,Nat.zero_le _⟩
 ·exact cmn_rise a b 0 0 (Nat.zero_le _) (Nat.zero_le _)
theorem cmL_le (a b : List ByteArray) : (cmL a b).length ≤ 4096 ∧ (cmL a b).length ≤ a.length := by
 unfold cmL
 split
 ·simp
 ·have := cmn_le a b 0 0 (Nat.zero_le _)
  omega
theorem betwO_d (a b : List ByteArray) (hla : a.length ≤ 100000) (hlb : b.length ≤ 100000) {H : AHeap} {rid oid ca cb fn db : Nat} {ts0 : List AV} {js0 : Nat → AV} {t1 t2 : TypeId} (hts : ts0 = mk [none,none,none,none,none,some (.ptr 1 oid 0 0),none,none,none,none,none,none,none,none,none,none] js0)
  (hr : AHeap.find H rid = some (lpB (recB fn db #[10] (rcA Tryd.f10 0) (rcB Tryd.f10 0)) ts0)) (ho : AHeap.find H oid = some ⟨1,[.lst 0 [] (some [])],true,28⟩) (d1 : rid ≠ oid)
  (ha : AHeap.find H ca = some ⟨1,[.lst 1 (strs a) none],true,t1⟩) (hb : AHeap.find H cb = some ⟨1,[.lst 1 (strs b) none],true,t2⟩) (da : ca ≠ oid) (db' : cb ≠ oid) :
  D Tryd.prog 33 [.ptr 0 rid 0 1,.ptr 1 ca 0 0,.ptr 1 cb 0 0] H (.ret (.tup [])) (OwnB 3 46 (hrs (plc H.length (difL a b))) :: outs (txsH (difL a b)) (AHeap.set H oid (some ⟨1,[hrowV (difL a b) H.length],true,28⟩))) := by
 have hal := AHeap.find_lt ha
 have hbl := AHeap.find_lt hb
 have hrl := AHeap.find_lt hr
 have hol := AHeap.find_lt ho
 refine D_of_DK (by rw [List.length_cons,outs_length,AHeap.set_length]; omega) (dk33 (E_of_ES ?_))
 simp -implicitDefEqProofs (maxSteps := 99999999) (disch := first | omega | (simp only [AHeap.set_length,killO_length,List.length_cons,List.length_nil]; first | done | omega)) only [vu,ES_yld,guardK_n,ic33,ha,hb,va,vg,vs,vw,Nat.reduceMul,ite_true,ite_false,eq_self,forall_const,implies_true,Nat.reduceAdd,Nat.reduceSub,Nat.reduceLT,Nat.reduceLeDiff,↓reduceIte,reduceCtorEq,Int.reduceEq,Int.reduceLT,Int.reduceLE,Int.reduceGT,Int.reduceGE,Int.reduceAdd,Int.reduceSub,Int.reduceNeg,Int.reduceToNat,Nat.reduceBEq,Nat.reduceEqDiff]
 refine callD_ret (common_g a b hla hlb _) (chS_grow (G := [_]) (by simp; omega)) ?_
 have hcl := (cmL_le a b).1
 obtain ⟨ps,hps⟩ : ∃ ps,ps = cmL a b ++ [(a.length,b.length)] := ⟨_,rfl⟩
 have hrise : Rise (a.length + 1) (b.length + 1) 0 0 ps := by rw [hps]; exact (cmL_rise a b).app
 have hpl : ps.length ≤ 4097 := by rw [hps,List.length_append]; simp; omega
 have hpn : ps ≠ [] := by rw [hps]; simp
 have hap : prs (cmL a b) ++ [AV.agg [.sc (.int .i64 a.length),.sc (.int .i64 b.length)]] = prs ps := by rw [hps]; simp [prs]
 have hdif : difL a b = bet a b 0 0 ps := by rw [hps]; rfl
 rw [hdif]
 obtain ⟨pio,G,p1,p2,p3,p4,p5,p6⟩ := apAny (H := OwnB 2 40 (prs (cmL a b)) :: some ⟨2,[AV.agg [.sc (.int .i64 0),.sc (.int .i64 0)]],true,40⟩ :: H) (k := 2) (ty := 40) (xs := prs (cmL a b)) (ys := [AV.agg [.sc (.int .i64 a.length),.sc (.int .i64 b.length)]]) (id := H.length + 1) (fun h => find_top (by simp)) (by rw [prs_length]; simp; omega)
 rw [hap] at p2 p4
 have hpe : prs ps ≠ [] := by simpa [prs] using hpn
 obtain ⟨p4a,p4b⟩ := p4 hpe
 rw [OwnV_ne hpe,prs_length] at p2
 rw [OwnB_ne hpe] at p4a
 simp only [List.length_cons] at p5 p4b
 simp -implicitDefEqProofs (maxSteps := 99999999) (disch := first | omega | (simp only [AHeap.set_length,killO_length,List.length_cons,List.length_nil]; first | done | omega)) only [vu,ES_yld,guardK_n,ha,hb,strs_length,p1,p2,p3,va,vg,vs,vw,Nat.reduceMul,ite_true,ite_false,eq_self,forall_const,implies_true,Nat.reduceAdd,Nat.reduceSub,Nat.reduceLT,Nat.reduceLeDiff,↓reduceIte,reduceCtorEq,Int.reduceEq,Int.reduceLT,Int.reduceLE,Int.reduceGT,Int.reduceGE,Int.reduceAdd,Int.reduceSub,Int.reduceNeg,Int.reduceToNat,Nat.reduceBEq,Nat.reduceEqDiff]
 refine ES_gen fun K hK => ?_
 refine ES_loopL (fun ts F => ∃ (k i j vid : Nat) (xs : List HR),(k ≤ ps.length ∧ xs.map (·.1) ++ bet a b i j (ps.drop k) = bet a b 0 0 ps ∧ Rise (a.length + 1) (b.length + 1) i j (ps.drop k) ∧ xs.length ≤ k) ∧
   (AHeap.find F H.length = some ⟨2,[.agg [.sc (.int .i64 i),.sc (.int .i64 j)]],true,40⟩ ∧ AHeap.find F pio = some ⟨2,prs ps,false,40⟩ ∧ H.length < F.length) ∧
   ((AHeap.find F oid = some ⟨1,[OwnV 3 (hrs xs) vid],true,28⟩ ∧ HMade H F xs vid ∧ (∀ i ∈ hids xs,i ≠ H.length ∧ i ≠ pio) ∧ (xs ≠ [] → vid ≠ H.length ∧ vid ≠ pio)) ∧ ∀ id,id < H.length → id ≠ oid → AHeap.find F id = AHeap.find H id) ∧
   Fr [some (.ptr 0 rid 0 1),some (.ptr 1 ca 0 0),some (.ptr 1 cb 0 0),none,some (.ptr 2 H.length 0 0),none,none,none,none,none,none,none,none,none,none,none,none,some (.vec 2 pio 0 ps.length none),some (.sc (.int .i64 ps.length)),some (.sc (.int .i64 k)),none,none,none,none,none,none,none,none,none,none,none,none,none,none,none,none,none,none,none,none,none,none,none,none,none,none,none,none,none,none,none,none,none,none,none,none,none,none,none,none,none,none] ts) (fun ts _ => ps.length - (intV (ts.getD 19 .top)).toNat) ?_ ?_
 ·have hq := fun id (hid : id < H.length) => show AHeap.find G id = AHeap.find H id by rw [p6 id (by simp; omega) (fun _ => by omega),find_past (by simp; omega),find_past hid]
  refine ⟨0,0,0,0,[],⟨Nat.zero_le _,rfl,hrise,Nat.zero_le _⟩,⟨?_,p4a,by omega⟩,⟨⟨by rw [hq _ hol]; exact ho,⟨.nil,fun h => (h rfl).elim,by simp [hids],by simp [hids]⟩,by simp [hids],fun h => (h rfl).elim⟩,fun id hid _ => hq id hid⟩,by simp [Fr]⟩
  rw [p6 _ (by simp; omega) (fun _ => by omega),find_past (by simp)]
  exact find_top rfl
 ·rintro ts F ⟨k,i,j,vid,xs,⟨hk,hx,hri,hxl⟩,⟨g1,g2,g3⟩,⟨⟨c1,c2,c4,c5⟩,c3⟩,hfr⟩ L1 hL1
  obtain ⟨js,rfl⟩ := hfr.opened
  clear hfr
  by_cases hkl : k < ps.length
  ·have h1 : (k : Int) < ps.length := by omega
   obtain ⟨⟨x,y⟩,hxy⟩ : ∃ q,ps[k]? = some q := ⟨_,List.getElem?_eq_getElem hkl⟩
   have hdr : ps.drop k = (x,y) :: ps.drop (k + 1) := by
    rw [List.drop_eq_getElem_cons hkl]
    rw [List.getElem?_eq_getElem hkl] at hxy
    rw [Option.some.inj hxy]
   have hpg := prs_get hxy
   rw [hdr] at hri hx
   obtain ⟨⟨r1,r2⟩,r3⟩ := hri
   have r4 := r3.le
   have fa : AHeap.find F ca = some ⟨1,[.lst 1 (strs a) none],true,t1⟩ := by rw [c3 ca hal da]; exact ha
   have fb : AHeap.find F cb = some ⟨1,[.lst 1 (strs b) none],true,t2⟩ := by rw [c3 cb hbl db']; exact hb
   simp -implicitDefEqProofs (maxSteps := 99999999) (disch := first | omega | (simp only [AHeap.set_length,killO_length,List.length_cons,List.length_nil]; first | done | omega)) only [vu,ES_yld,guardK_n,mk,h1,g1,g2,prs_length,hpg,fa,fb,strs_length,strs_tk,strs_dr,va,vg,vs,vw,Nat.reduceMul,ite_true,ite_false,eq_self,forall_const,implies_true,Nat.reduceAdd,Nat.reduceSub,Nat.reduceLT,Nat.reduceLeDiff,↓reduceIte,reduceCtorEq,Int.reduceEq,Int.reduceLT,Int.reduceLE,Int.reduceGT,Int.reduceGE,Int.reduceAdd,Int.reduceSub,Int.reduceNeg,Int.reduceToNat,Nat.reduceBEq,Nat.reduceEqDiff]
   refine ⟨by omega,by omega,⟨by omega,by omega,by omega,by omega⟩,?_⟩
   have hl1 : ((a.take x).drop i).length = x - i := by rw [List.length_drop,List.length_take]; omega
   have hl2 : ((b.take y).drop j).length = y - j := by rw [List.length_drop,List.length_take]; omega
   refine callD_ret (clone_o ((a.take x).drop i) none _ (by omega)) (chS_grow (G := [_]) (by simp; omega)) ?_
   simp -implicitDefEqProofs (maxSteps := 99999999) (disch := first | omega | (simp only [AHeap.set_length,killO_length,List.length_cons,List.length_nil]; first | done | omega)) only [vu,ES_yld,guardK_n,g1,fa,fb,strs_length,strs_tk,strs_dr,va,vg,vs,vw,Nat.reduceMul,ite_true,ite_false,eq_self,forall_const,implies_true,Nat.reduceAdd,Nat.reduceSub,Nat.reduceLT,Nat.reduceLeDiff,↓reduceIte,reduceCtorEq,Int.reduceEq,Int.reduceLT,Int.reduceLE,Int.reduceGT,Int.reduceGE,Int.reduceAdd,Int.reduceSub,Int.reduceNeg,Int.reduceToNat,Nat.reduceBEq,Nat.reduceEqDiff]
   refine ⟨⟨by omega,by omega,by omega,by omega⟩,callD_ret (clone_o ((b.take y).drop j) none _ (by omega)) (chS_grow (G := [_]) (by simp; omega)) ?_⟩
   have hpio := AHeap.find_lt g2
   by_cases hz : (x - i) + (y - j) = 0
   ·have hz' : ¬ ((x - i : Nat) : Int) + ((y - j : Nat) : Int) > 0 := by omega
    have hx' : xs.map (·.1) ++ bet a b (x + 1) (y + 1) (ps.drop (k + 1)) = bet a b 0 0 ps := by
     rw [← hx]
     simp only [bet,if_pos hz]
    simp -implicitDefEqProofs (maxSteps := 99999999) (disch := first | omega | (simp only [AHeap.set_length,killO_length,List.length_cons,List.length_nil]; first | done | omega)) only [vu,ES_yld,guardK_n,g1,strs_length,hl1,hl2,hz',va,vg,vs,vw,Nat.reduceMul,ite_true,ite_false,eq_self,forall_const,implies_true,Nat.reduceAdd,Nat.reduceSub,Nat.reduceLT,Nat.reduceLeDiff,↓reduceIte,reduceCtorEq,Int.reduceEq,Int.reduceLT,Int.reduceLE,Int.reduceGT,Int.reduceGE,Int.reduceAdd,Int.reduceSub,Int.reduceNeg,Int.reduceToNat,Nat.reduceBEq,Nat.reduceEqDiff]
    refine guardK_ff rfl ?_
    refine hL1 _ _ ⟨k + 1,x + 1,y + 1,vid,xs,⟨by omega,hx',r3,by omega⟩,⟨?_,?_,by simp [AHeap.set_length]; omega⟩,⟨⟨?_,c2.keep (by simp [AHeap.set_length]; omega) ?_,c4,c5⟩,fun id hid hne => ?_⟩,by simp [Fr]⟩ ?_
    ·rw [find_past4 (by rw [AHeap.set_length]; omega)]
     exact AHeap.find_set_same g3
    ·rw [find_past4 (by rw [AHeap.set_length]; omega),find_set_other (by omega)]
     exact g2
    ·rw [find_past4 (by rw [AHeap.set_length]; omega),find_set_other (by omega)]
     exact c1
    ·intro id h1 h2 h3
     rw [find_past4 (by rw [AHeap.set_length]; omega),find_set_other]
     rcases h3 with h3 | ⟨e,rfl⟩
     ·exact (c4 id h3).1
     ·exact (c5 e).1
    ·rw [find_past4 (by rw [AHeap.set_length]; omega),find_set_other (by omega)]
     exact c3 id hid hne
    ·simp [mk,intV]
     omega
   ·have hz' : ((x - i : Nat) : Int) + ((y - j : Nat) : Int) > 0 := by omega
    obtain ⟨h,hh⟩ : ∃ h : HR,h = (⟨i,(a.take x).drop i,(b.take y).drop j⟩,F.length + 2,F.length + 3) := ⟨_,rfl⟩
    have hx' : (xs ++ [h]).map (·.1) ++ bet a b (x + 1) (y + 1) (ps.drop (k + 1)) = bet a b 0 0 ps := by
     rw [← hx,hh]
     simp only [bet,if_neg hz]
     simp
    simp -implicitDefEqProofs (maxSteps := 99999999) (disch := first | omega | (simp only [AHeap.set_length,killO_length,List.length_cons,List.length_nil]; first | done | omega)) only [vu,ES_yld,guardK_n,g1,strs_length,hl1,hl2,hz',va,vg,vs,vw,Nat.reduceMul,ite_true,ite_false,eq_self,forall_const,implies_true,Nat.reduceAdd,Nat.reduceSub,Nat.reduceLT,Nat.reduceLeDiff,↓reduceIte,reduceCtorEq,Int.reduceEq,Int.reduceLT,Int.reduceLE,Int.reduceGT,Int.reduceGE,Int.reduceAdd,Int.reduceSub,Int.reduceNeg,Int.reduceToNat,Nat.reduceBEq,Nat.reduceEqDiff]
    refine guardK_tt rfl ?_
    obtain ⟨F4,hF4⟩ : ∃ F4 : AHeap,F4 = OutB ((b.take y).drop j) :: OutB ((a.take x).drop i) :: some ⟨3,[.agg [.sc (.int .i64 i),OutV ((a.take x).drop i) (F.length + 2),OutV ((b.take y).drop j) (F.length + 3)]],true,46⟩ :: some ⟨2,[.agg [.sc (.int .i64 x),.sc (.int .i64 y)]],true,40⟩ :: F := ⟨_,rfl⟩
    have hF4l : F4.length = F.length + 4 := by rw [hF4]; rfl
    have hold : ∀ id,id < F.length → AHeap.find F4 id = AHeap.find F id := fun id hid => by rw [hF4]; exact find_past4 hid
    have hf1 : AHeap.find F4 (F.length + 2) = OutB ((a.take x).drop i) := by rw [hF4,find_past (by simp)]; exact find_top rfl
    have hf2 : AHeap.find F4 (F.length + 3) = OutB ((b.take y).drop j) := by rw [hF4]; exact find_top rfl
    have hf0 : AHeap.find F4 F.length = some ⟨2,[.agg [.sc (.int .i64 x),.sc (.int .i64 y)]],true,40⟩ := by rw [hF4,find_past (by simp; omega),find_past (by simp; omega),find_past (by simp)]; exact find_top rfl
    rw [← hF4]
    clear hF4
    have hdy := hunkO_dy (F := F4) (fn := fn) (db := db) (x := h) (xs := xs) (oid := oid) (vid := vid) hts (by rw [hold _ (by omega),c3 rid hrl d1]; exact hr) (by rw [hold _ (by omega)]; exact c1) (fun e => by rw [hold _ (AHeap.find_lt (c2.row e).1)]; exact (c2.row e).1) d1 (fun e => by have := (c2.row e).2.1; omega) (by omega)
    have hok := hkFO_ok (F := F4) (xs := xs) (x := h) (oid := oid) (vid := vid) (by omega) (fun e => ⟨by have := AHeap.find_lt (c2.row e).1; omega,by have := (c2.row e).2.1; omega⟩)
    rw [hh] at hdy
    refine yldK_ret hdy ?_
    rw [← hh]
    obtain ⟨F3,hF3⟩ : ∃ F3,F3 = hkFO F4 xs h oid vid := ⟨_,rfl⟩
    rw [← hF3] at hok ⊢
    clear hF3 hdy
    obtain ⟨k1,k2,k3,k4⟩ := hok
    have kk : ∀ id,id < F.length → id ≠ oid → (xs ≠ [] → id ≠ vid) → AHeap.find F3 id = AHeap.find F id := fun id q1 q2 q3 => by rw [k4 id (by omega) q2 q3,hold id q1]
    have kf : ∀ id,F.length ≤ id → id < F.length + 4 → AHeap.find F3 id = AHeap.find F4 id := fun id q1 q2 => k4 id (by omega) (by omega) (fun e => by have := AHeap.find_lt (c2.row e).1; omega)
    have q1 := kf F.length (by omega) (by omega)
    rw [hf0] at q1
    have q2 := kk H.length g3 (by omega) (fun e => (c5 e).1.symm)
    rw [g1] at q2
    simp -implicitDefEqProofs (maxSteps := 99999999) (disch := first | omega | (simp only [AHeap.set_length,killO_length,List.length_cons,List.length_nil]; first | done | omega)) only [vu,q1,q2,va,vg,vs,vw,Nat.reduceMul,ite_true,ite_false,eq_self,forall_const,implies_true,Nat.reduceAdd,Nat.reduceSub,Nat.reduceLT,Nat.reduceLeDiff,↓reduceIte,reduceCtorEq,Int.reduceEq,Int.reduceLT,Int.reduceLE,Int.reduceGT,Int.reduceGE,Int.reduceAdd,Int.reduceSub,Int.reduceNeg,Int.reduceToNat,Nat.reduceBEq,Nat.reduceEqDiff]
    have hq4 : h.1.old = (a.take x).drop i ∧ h.1.new = (b.take y).drop j ∧ h.2.1 = F.length + 2 ∧ h.2.2 = F.length + 3 := by rw [hh]; exact ⟨rfl,rfl,rfl,rfl⟩
    obtain ⟨w1,w2,w3,w4⟩ := hq4
    refine hL1 _ _ ⟨k + 1,x + 1,y + 1,F4.length + 1,xs ++ [h],⟨by omega,hx',r3,by simp; omega⟩,⟨AHeap.find_set_same (by omega),?_,by rw [AHeap.set_length]; omega⟩,
     ⟨⟨by rw [find_set_other (by omega)]; exact k1,c2.step (by omega) (by rw [AHeap.set_length]; omega) (fun id hm => ?_) h (F4.length + 1) (fun _ => ?_) (fun _ => ?_) (by rw [AHeap.set_length]; omega) (by rw [find_set_other (by omega)]; exact k2) (by omega),fun id hm => ?_,fun _ => by omega⟩,fun id hid hne => ?_⟩,by simp [Fr]⟩ ?_
    ·rw [find_set_other (by omega),kk pio hpio (by omega) (fun e => (c5 e).2.symm)]
     exact g2
    ·have m1 := c2.ids id hm
     rw [find_set_other (c4 id hm).1,kk id m1.2 (by omega) (fun e q => (c2.row e).2.2 (q ▸ hm))]
    ·rw [find_set_other (by omega),w3,w1,kf _ (by omega) (by omega)]
     exact hf1
    ·rw [find_set_other (by omega),w4,w2,kf _ (by omega) (by omega)]
     exact hf2
    ·rw [hids_app,List.mem_append] at hm
     rcases hm with hm | hm
     ·exact c4 id hm
     ·simp [hids] at hm
      omega
    ·rw [find_set_other (by omega),kk id (by omega) hne (fun e => by have := (c2.row e).2.1; omega)]
     exact c3 id hid hne
    ·simp [mk,intV]
     omega
  ·have : k = ps.length := by omega
   subst this
   have h1 : ¬ (ps.length : Int) < ps.length := by omega
   simp -implicitDefEqProofs (maxSteps := 99999999) (disch := first | omega | (simp only [AHeap.set_length,killO_length,List.length_cons,List.length_nil]; first | done | omega)) only [vu,ES_yld,guardK_n,mk,h1,va,vg,vs,vw,Nat.reduceMul,ite_true,ite_false,eq_self,forall_const,implies_true,Nat.reduceAdd,Nat.reduceSub,Nat.reduceLT,Nat.reduceLeDiff,↓reduceIte,reduceCtorEq,Int.reduceEq,Int.reduceLT,Int.reduceLE,Int.reduceGT,Int.reduceGE,Int.reduceAdd,Int.reduceSub,Int.reduceNeg,Int.reduceToNat,Nat.reduceBEq,Nat.reduceEqDiff]
   clear hL1
   refine hK _ _ _ ?_
   clear hK
   rw [List.drop_length] at hx
   simp only [bet,List.append_nil] at hx
   simp -implicitDefEqProofs (maxSteps := 99999999) (disch := first | omega | (simp only [AHeap.set_length,killO_length,List.length_cons,List.length_nil]; first | done | omega)) only [vu,ES_yld,guardK_n,va,vg,vs,vw,Nat.reduceMul,ite_true,ite_false,eq_self,forall_const,implies_true,Nat.reduceAdd,Nat.reduceSub,Nat.reduceLT,Nat.reduceLeDiff,↓reduceIte,reduceCtorEq,Int.reduceEq,Int.reduceLT,Int.reduceLE,Int.reduceGT,Int.reduceGE,Int.reduceAdd,Int.reduceSub,Int.reduceNeg,Int.reduceToNat,Nat.reduceBEq,Nat.reduceEqDiff]
   rw [← hx]
   exact weak_hrowO c2 hol c3 c1
theorem hunksO_d (a b : List ByteArray) (hla : a.length ≤ 100000) (hlb : b.length ≤ 100000) (H : AHeap) : D Tryd.prog 10 [.lst 1 (strs a) none,.lst 1 (strs b) none] H (.ret (hrowV (difL a b) H.length)) (hrow (difL a b) H) := by
 refine D_of_DK (by rw [hrow_length]; omega) (dk10 (E_of_ES ?_))
 simp -implicitDefEqProofs (maxSteps := 99999999) (disch := omega) only [vu,ES_rng,ic10,va,vg,vs,vh,Nat.reduceMul,ite_true,ite_false,eq_self,forall_const,implies_true,Nat.reduceAdd,Nat.reduceSub,Nat.reduceLT,Nat.reduceLeDiff,↓reduceIte,reduceCtorEq,Int.reduceEq,Int.reduceLT,Int.reduceLE,Int.reduceGT,Int.reduceGE,Int.reduceAdd,Int.reduceSub,Int.reduceNeg,Int.reduceToNat,Nat.reduceBEq,Nat.reduceEqDiff]
 refine callR_ret (between_d a b _) ?_
 simp -implicitDefEqProofs (maxSteps := 99999999) (disch := omega) only [vu,ES_rng,va,vg,vs,vh,Nat.reduceMul,ite_true,ite_false,eq_self,forall_const,implies_true,Nat.reduceAdd,Nat.reduceSub,Nat.reduceLT,Nat.reduceLeDiff,↓reduceIte,reduceCtorEq,Int.reduceEq,Int.reduceLT,Int.reduceLE,Int.reduceGT,Int.reduceGE,Int.reduceAdd,Int.reduceSub,Int.reduceNeg,Int.reduceToNat,Nat.reduceBEq,Nat.reduceEqDiff]
 refine rngK_of (by kernel_rfl) fun fn db => ?_
 rw [show ∀ (x y z : Option ABlk),List.length (x :: y :: z :: H) = H.length + 3 from fun _ _ _ => rfl]
 obtain ⟨ts0,hts0⟩ : ∃ ts0,ts0 = [AV.lst 1 (strs a) none,AV.lst 1 (strs b) none,AV.tup [],AV.tup [],AV.lst 0 [] (some []),AV.ptr 1 H.length 0 0,AV.tup [],AV.lst 1 (strs a) none,AV.lst 1 (strs b) none,
   AV.fn (Fn.func 33) [] [AV.ptr 1 (H.length + 1) 0 0,AV.ptr 1 (H.length + 2) 0 0],AV.tup [],AV.tup [],AV.tup [],AV.tup [],AV.tup [],AV.tup []] := ⟨_,rfl⟩
 rw [← hts0]
 have hmk : ∃ js,ts0 = mk [none,none,none,none,none,some (.ptr 1 H.length 0 0),none,none,none,none,none,none,none,none,none,none] js := by
  rw [hts0]
  exact (show Fr [none,none,none,none,none,some (.ptr 1 H.length 0 0),none,none,none,none,none,none,none,none,none,none] _ from by simp [Fr]).opened
 obtain ⟨js,hjs⟩ := hmk
 obtain ⟨B0,hB0⟩ : ∃ B0 : AHeap,B0 = some (lpB (recB fn db #[10] (rcA Tryd.f10 0) (rcB Tryd.f10 0)) ts0) :: some ⟨1,[.lst 1 (strs b) none],true,22⟩ :: some ⟨1,[.lst 1 (strs a) none],true,22⟩ :: some ⟨1,[.lst 0 [] (some [])],true,28⟩ :: H := ⟨_,rfl⟩
 rw [← hB0]
 have hBl : B0.length = H.length + 4 := by rw [hB0]; simp
 have hfr : AHeap.find B0 (H.length + 3) = some (lpB (recB fn db #[10] (rcA Tryd.f10 0) (rcB Tryd.f10 0)) ts0) := by rw [hB0]; exact find_top (by simp)
 have hfb : AHeap.find B0 (H.length + 2) = some ⟨1,[.lst 1 (strs b) none],true,22⟩ := by rw [hB0,find_past (by simp)]; exact find_top (by simp)
 have hfa : AHeap.find B0 (H.length + 1) = some ⟨1,[.lst 1 (strs a) none],true,22⟩ := by rw [hB0,find_past (by simp),find_past (by simp)]; exact find_top (by simp)
 have hfo : AHeap.find B0 H.length = some ⟨1,[.lst 0 [] (some [])],true,28⟩ := by rw [hB0,find_past (by simp; omega),find_past (by simp; omega),find_past (by simp)]; exact find_top rfl
 have hfH : ∀ id,id < H.length → AHeap.find B0 id = AHeap.find H id := fun id hid => by rw [hB0,find_past (by simp; omega),find_past (by simp; omega),find_past (by simp; omega),find_past hid]
 refine ⟨.tup [],_,recB fn db #[10] (rcA Tryd.f10 0) (rcB Tryd.f10 0),ts0,betwO_d a b hla hlb hjs hfr hfo (by omega) hfa hfb (by omega) (by omega),?_,by simp [recB],?_⟩
 ·rw [find_past (by rw [outs_length,AHeap.set_length]; omega),outs_old (by rw [AHeap.set_length]; omega),find_set_other (by omega)]
  exact hfr
 ·simp only [recB,jmpK]
  obtain ⟨B1,hB1⟩ : ∃ B1,B1 = AHeap.set B0 H.length (some ⟨1,[hrowV (difL a b) B0.length],true,28⟩) := ⟨_,rfl⟩
  have hB1l : B1.length = B0.length := by rw [hB1,AHeap.set_length]
  have hrw : OwnB 3 46 (hrs (plc B0.length (difL a b))) :: outs (txsH (difL a b)) B1 = hrow (difL a b) B1 := by unfold hrow; rw [hB1l]
  rw [← hB1,hrw]
  have hf2 : AHeap.find (AHeap.set (hrow (difL a b) B1) (H.length + 3) none) H.length = some ⟨1,[hrowV (difL a b) B0.length],true,28⟩ := by
   rw [find_set_other (by omega),hrow_old (by omega),hB1,AHeap.find_set_same (by omega)]
  rw [hts0]
  unfold hrowV at hf2
  simp -implicitDefEqProofs (maxSteps := 99999999) (disch := first | omega | (simp only [AHeap.set_length,killO_length,List.length_cons,List.length_nil]; first | done | omega)) only [vu,hf2,va,vg,vs,vw,Nat.reduceMul,ite_true,ite_false,eq_self,forall_const,implies_true,Nat.reduceAdd,Nat.reduceSub,Nat.reduceLT,Nat.reduceLeDiff,↓reduceIte,reduceCtorEq,Int.reduceEq,Int.reduceLT,Int.reduceLE,Int.reduceGT,Int.reduceGE,Int.reduceAdd,Int.reduceSub,Int.reduceNeg,Int.reduceToNat,Nat.reduceBEq,Nat.reduceEqDiff]
  have hm : HMade H (AHeap.set (hrow (difL a b) B1) (H.length + 3) none) (plc B1.length (difL a b)) (B1.length + 2 * (difL a b).length) := by
   have hid : ∀ i ∈ hids (plc B1.length (difL a b)),B1.length ≤ i ∧ i < B1.length + 2 * (difL a b).length := fun i hi => by
    rw [plc_ids] at hi
    have := List.mem_range'_1.1 hi
    omega
   refine ⟨fun x hx => ?_,fun e => ⟨?_,by omega,fun h => by have := hid _ h; omega⟩,fun i hi => ?_,by rw [plc_ids]; exact List.nodup_range'⟩
   ·obtain ⟨o1,o2⟩ := hrow_own (l := difL a b) (H := B1) x hx
    exact ⟨fun e => ⟨by rw [find_set_other (by have := (o1 e).2; omega)]; exact (o1 e).1,by have := (o1 e).2; omega⟩,fun e => ⟨by rw [find_set_other (by have := (o2 e).2; omega)]; exact (o2 e).1,by have := (o2 e).2; omega⟩⟩
   ·rw [find_set_other (by omega),hrow_row,OwnB_ne (hrs_ne.2 e)]
   ·have := hid i hi
    rw [AHeap.set_length,hrow_length]
    omega
  have := weak_hrow hm fun id hid => by
   rw [find_set_other (by omega),hrow_old (by omega),hB1,find_set_other (by omega),hfH id hid]
  rw [plc_fst,hB1l] at this
  exact this
end Go.Proofs.YtigmpablpmanpaaDoor
