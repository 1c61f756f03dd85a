/- law02.DiffTells: the walk. -/
import Derived.Test.YtigmpablpmanpaaDoorS158
import Derived.Test.YtigmpablpmanpaaDoorS153
import Derived.Test.YtigmpablpmanpaaDoorS49
import Derived.Test.YtigmpablpmanpaaDoorS31
import Derived.Test.YtigmpablpmanpaaDoorIc24
namespace Go.Proofs.YtigmpablpmanpaaDoor
open Go.RowKit
set_option maxRecDepth 100000
set_option linter.unusedVariables false
set_option linter.unusedSimpArgs false
theorem weak_end {F : AHeap} {v : Value} : Weak [] (.ret (.sc v)) F (.ret (.sc v)) [] :=
 weak_gen [] (by simp) (by simp) (by simp) (fun id k hid hk => by simp at hid) (fun i s k hs => by simp at hs) (.same trivial)
theorem strs_view {H : AHeap} : ∀ {l : List ByteArray},ViewL H (strs l) (strs l)
 | [] => .nil
 | _ :: _ => .cons .sc strs_view
theorem hks_view {H : AHeap} : ∀ {l : List Hk},ViewL H (hks l) (hks l)
 | [] => .nil
 | _ :: _ => .cons (.agg (.cons .sc (.cons (.lst strs_view) (.cons (.lst strs_view) .nil)))) hks_view
theorem lentT_view {H : AHeap} {id : Nat} {l : List ByteArray} {c : Option Nat} {ty : TypeId} (hf : AHeap.find H id = some ⟨1,strs (l ++ mks 12),true,ty⟩) : View H (.vec 1 id 0 l.length c) (.lst 1 (strs l) none) := by
 refine .vec hf rfl (by simp [strs_length]) ?_
 rw [List.drop_zero,strs_append,List.take_append_of_le_length (by rw [strs_length]; exact Nat.le_refl _),List.take_of_length_le (by rw [strs_length]; exact Nat.le_refl _)]
 exact strs_view
theorem upL_map {n : Nat} {α : Type} (f : α → AV) (hf : ∀ x,AV.up n (f x) = f x) : ∀ (l : List α),AV.upL n (l.map f) = l.map f
 | [] => rfl
 | x :: r => by simp only [List.map_cons,AV.upL,hf,upL_map f hf r]
theorem upL_prs {n : Nat} (l : List (Nat × Nat)) : AV.upL n (prs l) = prs l := upL_map _ (fun x => by simp [AV.up,AV.upL]) l
theorem upL_strs {n : Nat} (l : List ByteArray) : AV.upL n (strs l) = strs l := upL_map _ (fun x => rfl) l
theorem OwnV_len {k id : Nat} {xs ys : List AV} (h : xs.length = ys.length) : OwnV k xs id = OwnV k ys id := by
 cases xs <;> cases ys <;> simp_all [OwnV]
theorem upL_hrs {n : Nat} : ∀ (l : List Hk) (m : Nat),AV.upL n (hrs (plc m l)) = hrs (plc (n + m) l)
 | [],_ => rfl
 | h :: r,m => by
  simp only [plc,hrs,List.map_cons,AV.upL,AV.up]
  rw [OwnV_up,OwnV_up]
  have := upL_hrs (n := n) r (m + 2)
  simp only [hrs] at this
  rw [this,Nat.add_assoc,Nat.add_assoc]
theorem op_strs (l : List ByteArray) : AV.opL (strs l) = true := by
 induction l with
 | nil => rfl
 | cons s r ih => simpa [strs,AV.opL,AV.op] using ih
theorem op_prs (l : List (Nat × Nat)) : AV.opL (prs l) = true := by
 induction l with
 | nil => rfl
 | cons s r ih => simpa [prs,AV.opL,AV.op] using ih
theorem op_hrs : ∀ (l : List HR),AV.opL (hrs l) = true
 | [] => rfl
 | x :: r => by
  have := op_hrs r
  simp only [hrs] at this
  simp only [hrs,List.map_cons,AV.opL,AV.op,OwnV_op,this,Bool.and_self]
theorem up_OwnB {n k : Nat} {ty : TypeId} {xs : List AV} : (OwnB k ty xs).map (ABlk.up n) = OwnB k ty (AV.upL n xs) := by
 cases xs <;> simp [OwnB,ABlk.up,AV.upL]
theorem up_outs {n : Nat} : ∀ (rs : List (List ByteArray)) (G H : AHeap),AHeap.up n (outs rs G) ++ H = outs rs (AHeap.up n G ++ H)
 | [],_,_ => rfl
 | l :: r,G,H => by
  simp only [outs]
  rw [up_outs r (OutB l :: G) H]
  simp only [AHeap.up,List.map_cons,List.cons_append,up_OwnB,upL_strs]
theorem up_hrow (l : List Hk) (H : AHeap) : AHeap.up H.length (hrow l []) ++ H = hrow l H := by
 have h1 := up_outs (n := H.length) (txsH l) [] H
 simp only [AHeap.up,List.map_nil,List.nil_append] at h1
 unfold hrow
 simp only [AHeap.up,List.map_cons,List.cons_append,up_OwnB,upL_hrs,List.length_nil,Nat.add_zero]
 rw [← h1]
theorem up_hrowV (l : List Hk) (n : Nat) : (hrowV l 0).up n = hrowV l n := by
 unfold hrowV
 rw [OwnV_up,OwnV_len (show (hrs (plc 0 l)).length = (hrs (plc n l)).length by rw [hrs_length,hrs_length,plc_length,plc_length]),Nat.zero_add]
theorem op_hrow (l : List Hk) : AHeap.op (hrow l []) := by
 intro id b hb
 have hlt := AHeap.find_lt hb
 rw [hrow_length] at hlt
 by_cases e : id = 2 * l.length
 ·subst e
  have h2 := hrow_row (l := l) (H := [])
  simp only [List.length_nil,Nat.zero_add] at h2
  rw [h2] at hb
  obtain ⟨_,rfl⟩ := OwnB_some hb
  exact op_hrs _
 ·unfold hrow at hb
  simp only [List.length_nil,Nat.zero_add] at hlt
  rw [find_past (by rw [outs_length,txsH_length]; simp; omega)] at hb
  obtain ⟨t,ht⟩ : ∃ t,(txsH l)[id]? = some t := ⟨_,List.getElem?_eq_getElem (by rw [txsH_length]; omega)⟩
  have h3 := outs_new (H := []) ht
  simp only [List.length_nil,Nat.zero_add] at h3
  rw [h3] at hb
  obtain ⟨_,rfl⟩ := OwnB_some hb
  exact op_strs _
theorem common_v {H : AHeap} {a b : List ByteArray} {x y : AV} (hx : View H x (.lst 1 (strs a) none)) (hy : View H y (.lst 1 (strs b) none)) (hla : a.length ≤ 100000) (hlb : b.length ≤ 100000) :
  D Tryd.prog 9 [x,y] H (.ret (OwnV 2 (prs (cmL a b)) H.length)) (OwnB 2 40 (prs (cmL a b)) :: H) := by
 have h := D_viewO (.cons hx (.cons hy .nil)) OwnV_op (fun id k hk => ?_) (common_g a b hla hlb [])
 ·rw [OwnV_up] at h
  simpa [AHeap.up,up_OwnB,upL_prs] using h
 ·rcases id with _ | id
  ·rw [show AHeap.find [OwnB 2 40 (prs (cmL a b))] 0 = OwnB 2 40 (prs (cmL a b)) from rfl] at hk
   obtain ⟨_,rfl⟩ := OwnB_some hk
   exact op_prs _
  ·exact absurd (AHeap.find_lt hk) (by simp)
theorem hunks_v {H : AHeap} {a b : List ByteArray} {x y : AV} (hx : View H x (.lst 1 (strs a) none)) (hy : View H y (.lst 1 (strs b) none)) (hla : a.length ≤ 100000) (hlb : b.length ≤ 100000) :
  D Tryd.prog 10 [x,y] H (.ret (hrowV (difL a b) H.length)) (hrow (difL a b) H) := by
 have h := D_viewO (.cons hx (.cons hy .nil)) OwnV_op (op_hrow _) (hunksO_d a b hla hlb [])
 rwa [up_hrow,List.length_nil,show OwnV 3 (hrs (plc 0 (difL a b))) (0 + 2 * (difL a b).length) = hrowV (difL a b) 0 from rfl,up_hrowV] at h
theorem hrow_view {F : AHeap} {n0 vid : Nat} {l : List HR} {ty : TypeId} (h : HOwn F n0 l) (hv : l ≠ [] → AHeap.find F vid = some ⟨3,hrs l,false,ty⟩) : View F (OwnV 3 (hrs l) vid) (.lst 3 (hks (l.map (·.1))) none) := by
 refine ViewL.own (ty := ty) (fun e => by rw [hv (hrs_ne.1 e),OwnB_ne e]) ?_
 clear hv
 induction l with
 | nil => exact .nil
 | cons x r ih =>
  obtain ⟨h1,h2⟩ := h x (by simp)
  exact .cons (hkO_view (fun e => (h1 e).1) (fun e => (h2 e).1)) (ih fun y hy => h y (by simp [hy]))
theorem nthO_mem {os : List ORow} {k : Nat} (h : k < os.length) : nthO os k ∈ os := by
 unfold nthO
 rw [List.getD_eq_getElem?_getD,List.getElem?_eq_getElem h]
 exact List.getElem_mem h
theorem ownsOK_of {s : Shape} {H : AHeap} {os : List ORow} (h1 : ∀ o ∈ os,o.1 ≠ [] → AHeap.find H o.2 = OwnB s.k s.ty o.1) (h2 : ∀ o ∈ os,∀ x ∈ o.1,s.is x) (h3 : (os.map (·.2)).Nodup) (h4 : ∀ o ∈ os,o.1.length ≤ 10000000) : OwnsOK s H os := by
 refine ⟨fun k hk hn => h1 _ (nthO_mem hk) hn,fun k hk => h2 _ (nthO_mem hk),fun k l hk hl _ _ e => ?_,fun k hk => h4 _ (nthO_mem hk)⟩
 have g : ∀ i (h : i < os.length),(os.map (·.2))[i]'(by simpa using h) = (nthO os i).2 := fun i h => by simp [nthO,List.getD,h]
 have := (List.getElem_inj (h₀ := by simpa using hk) (h₁ := by simpa using hl) h3).1 ((g k hk).trans (e.trans (g l hl).symm))
 exact this
theorem txs3_ids (l : List HR) : (txs3 l).map (·.2) = hids l := by
 induction l with
 | nil => rfl
 | cons x r ih => simp only [txs3,hids,List.flatMap_cons,List.map_append,List.map_cons,List.map_nil] at ih ⊢; rw [ih]
theorem mem_txs3 {l : List HR} {o : ORow} (h : o ∈ txs3 l) : ∃ x ∈ l,o = (strs x.1.old,x.2.1) ∨ o = (strs x.1.new,x.2.2) := by
 obtain ⟨x,hx,ho⟩ := List.mem_flatMap.1 h
 exact ⟨x,hx,by simpa using ho⟩
theorem bet_mem {a b : List ByteArray} : ∀ {l : List (Nat × Nat)} {i j : Nat} {h : Hk},h ∈ bet a b i j l → ∃ i x j y,h.old = (a.take x).drop i ∧ h.new = (b.take y).drop j
 | [],_,_,_,hm => by simp [bet] at hm
 | (x,y) :: r,i,j,h,hm => by
  simp only [bet] at hm
  split at hm
  ·exact bet_mem hm
  ·rcases List.mem_cons.1 hm with rfl | hm
   ·exact ⟨i,x,j,y,rfl,rfl⟩
   ·exact bet_mem hm
theorem difH_few {a b : List ByteArray} (ha : a.length ≤ 300) (hb : b.length ≤ 300) : (difH a b).length ≤ 301 ∧ ∀ h ∈ difH a b,h.old.length ≤ 300 ∧ h.new.length ≤ 300 := by
 have h1 := cmn_le a b 0 0 (Nat.zero_le _)
 have h2 := bet_le a b (cmn a b 0 0 ++ [(a.length,b.length)]) 0 0
 rw [List.length_append,List.length_singleton] at h2
 refine ⟨by unfold difH; omega,fun h hm => ?_⟩
 obtain ⟨i,x,j,y,e1,e2⟩ := bet_mem hm
 rw [e1,e2,List.length_drop,List.length_take,List.length_drop,List.length_take]
 omega
theorem shT_strs {l : List ByteArray} : ∀ x ∈ strs l,shT.is x := fun x hx => by
 obtain ⟨s,_,rfl⟩ := List.mem_map.1 hx
 exact ⟨rfl,rfl,rfl⟩
theorem shH_hrs {l : List HR} : ∀ x ∈ hrs l,shH.is x := fun x hx => by
 obtain ⟨s,_,rfl⟩ := List.mem_map.1 hx
 exact ⟨rfl,rfl,rfl⟩
set_option maxHeartbeats 4000000 in
theorem diffTells_d (a b : List ByteArray) (ha : Short a) (hb : Short b) : D Tryd.prog 3 [.lst 1 (strs a) none,.lst 1 (strs b) none] [] (.ret (.sc (.bool true))) [] := by
 refine D_of_DK (Nat.le_refl _) (dk3 (E_of_ES ?_))
 simp -implicitDefEqProofs (maxSteps := 99999999) (disch := first | omega | (simp only [AHeap.set_length,killO_length,List.length_cons,List.length_nil]; first | done | omega)) only [vu,ic3,va,vg,vs,vw,Nat.reduceMul,ite_true,ite_false,eq_self,forall_const,implies_true,Nat.reduceAdd,Nat.reduceSub,Nat.reduceLT,Nat.reduceLeDiff,↓reduceIte,reduceCtorEq,Int.reduceEq,Int.reduceLT,Int.reduceLE,Int.reduceGT,Int.reduceGE,Int.reduceAdd,Int.reduceSub,Int.reduceNeg,Int.reduceToNat,Nat.reduceBEq,Nat.reduceEqDiff]
 refine callR_ret (great2_d a b none none _ ha hb) ?_
 cases hg : greatB a b
 case true =>
  simp -implicitDefEqProofs (maxSteps := 99999999) (disch := first | omega | (simp only [AHeap.set_length,killO_length,List.length_cons,List.length_nil]; first | done | omega)) only [vu,va,vg,vs,vw,Nat.reduceMul,ite_true,ite_false,eq_self,forall_const,implies_true,Nat.reduceAdd,Nat.reduceSub,Nat.reduceLT,Nat.reduceLeDiff,↓reduceIte,reduceCtorEq,Int.reduceEq,Int.reduceLT,Int.reduceLE,Int.reduceGT,Int.reduceGE,Int.reduceAdd,Int.reduceSub,Int.reduceNeg,Int.reduceToNat,Nat.reduceBEq,Nat.reduceEqDiff]
  refine callR_ret (awakeD_d _) ?_
  simp -implicitDefEqProofs (maxSteps := 99999999) (disch := first | omega | (simp only [AHeap.set_length,killO_length,List.length_cons,List.length_nil]; first | done | omega)) only [vu,va,vg,vs,vw,Nat.reduceMul,ite_true,ite_false,eq_self,forall_const,implies_true,Nat.reduceAdd,Nat.reduceSub,Nat.reduceLT,Nat.reduceLeDiff,↓reduceIte,reduceCtorEq,Int.reduceEq,Int.reduceLT,Int.reduceLE,Int.reduceGT,Int.reduceGE,Int.reduceAdd,Int.reduceSub,Int.reduceNeg,Int.reduceToNat,Nat.reduceBEq,Nat.reduceEqDiff]
  exact weak_end
 obtain ⟨la,lb⟩ := greatB_le hg
 obtain ⟨lh,lt⟩ := difH_few la lb
 simp -implicitDefEqProofs (maxSteps := 99999999) (disch := first | omega | (simp only [AHeap.set_length,killO_length,List.length_cons,List.length_nil]; first | done | omega)) only [vu,va,vg,vs,vw,Nat.reduceMul,ite_true,ite_false,eq_self,forall_const,implies_true,Nat.reduceAdd,Nat.reduceSub,Nat.reduceLT,Nat.reduceLeDiff,↓reduceIte,reduceCtorEq,Int.reduceEq,Int.reduceLT,Int.reduceLE,Int.reduceGT,Int.reduceGE,Int.reduceAdd,Int.reduceSub,Int.reduceNeg,Int.reduceToNat,Nat.reduceBEq,Nat.reduceEqDiff]
 refine callR_ret (lentTexts_d a none _ (by omega)) ?_
 simp -implicitDefEqProofs (maxSteps := 99999999) (disch := first | omega | (simp only [AHeap.set_length,killO_length,List.length_cons,List.length_nil]; first | done | omega)) only [vu,va,vg,vs,vw,Nat.reduceMul,ite_true,ite_false,eq_self,forall_const,implies_true,Nat.reduceAdd,Nat.reduceSub,Nat.reduceLT,Nat.reduceLeDiff,↓reduceIte,reduceCtorEq,Int.reduceEq,Int.reduceLT,Int.reduceLE,Int.reduceGT,Int.reduceGE,Int.reduceAdd,Int.reduceSub,Int.reduceNeg,Int.reduceToNat,Nat.reduceBEq,Nat.reduceEqDiff]
 refine callR_ret (lentTexts_d b none _ (by omega)) ?_
 simp -implicitDefEqProofs (maxSteps := 99999999) (disch := first | omega | (simp only [AHeap.set_length,killO_length,List.length_cons,List.length_nil]; first | done | omega)) only [vu,va,vg,vs,vw,Nat.reduceMul,ite_true,ite_false,eq_self,forall_const,implies_true,Nat.reduceAdd,Nat.reduceSub,Nat.reduceLT,Nat.reduceLeDiff,↓reduceIte,reduceCtorEq,Int.reduceEq,Int.reduceLT,Int.reduceLE,Int.reduceGT,Int.reduceGE,Int.reduceAdd,Int.reduceSub,Int.reduceNeg,Int.reduceToNat,Nat.reduceBEq,Nat.reduceEqDiff]
 obtain ⟨F0,hF0⟩ : ∃ F0 : AHeap,F0 = [some ⟨1,strs (b ++ mks 12),true,9⟩,some ⟨1,strs (a ++ mks 12),true,9⟩] := ⟨_,rfl⟩
 have f0 : AHeap.find F0 0 = some ⟨1,strs (a ++ mks 12),true,9⟩ := by rw [hF0]; rfl
 have f1 : AHeap.find F0 1 = some ⟨1,strs (b ++ mks 12),true,9⟩ := by rw [hF0]; rfl
 have fl : F0.length = 2 := by rw [hF0]; rfl
 rw [← hF0]
 clear hF0
 have hcl := cmL_short (a := a) (b := b) (by omega) (by omega)
 have hdl := difL_short (a := a) (b := b) (by omega) (by omega)
 have hcn := cmn_le a b 0 0 (Nat.zero_le _)
 refine callR_ret (common_v (lentT_view f0) (lentT_view f1) (by omega) (by omega)) ?_
 rw [hcl]
 simp -implicitDefEqProofs (maxSteps := 99999999) (disch := first | omega | (simp only [AHeap.set_length,killO_length,List.length_cons,List.length_nil]; first | done | omega)) only [vu,va,vg,vs,vw,Nat.reduceMul,ite_true,ite_false,eq_self,forall_const,implies_true,Nat.reduceAdd,Nat.reduceSub,Nat.reduceLT,Nat.reduceLeDiff,↓reduceIte,reduceCtorEq,Int.reduceEq,Int.reduceLT,Int.reduceLE,Int.reduceGT,Int.reduceGE,Int.reduceAdd,Int.reduceSub,Int.reduceNeg,Int.reduceToNat,Nat.reduceBEq,Nat.reduceEqDiff]
 obtain ⟨F1,hF1⟩ : ∃ F1 : AHeap,F1 = OwnB 2 40 (prs (cmn a b 0 0)) :: F0 := ⟨_,rfl⟩
 have k1 : ∀ id,id < 2 → AHeap.find F1 id = AHeap.find F0 id := fun id h => by rw [hF1,find_past (by omega)]
 have l1 : F1.length = 3 := by rw [hF1]; simp [fl]
 have p1 : AHeap.find F1 2 = OwnB 2 40 (prs (cmn a b 0 0)) := by rw [hF1]; exact find_top fl.symm
 rw [fl,← hF1]
 clear hF1
 refine callR_ret (hunks_v (lentT_view (by rw [k1 0 (by omega)]; exact f0)) (lentT_view (by rw [k1 1 (by omega)]; exact f1)) (by omega) (by omega)) ?_
 rw [hdl,l1]
 simp -implicitDefEqProofs (maxSteps := 99999999) (disch := first | omega | (simp only [AHeap.set_length,killO_length,List.length_cons,List.length_nil]; first | done | omega)) only [vu,va,vg,vs,vw,Nat.reduceMul,ite_true,ite_false,eq_self,forall_const,implies_true,Nat.reduceAdd,Nat.reduceSub,Nat.reduceLT,Nat.reduceLeDiff,↓reduceIte,reduceCtorEq,Int.reduceEq,Int.reduceLT,Int.reduceLE,Int.reduceGT,Int.reduceGE,Int.reduceAdd,Int.reduceSub,Int.reduceNeg,Int.reduceToNat,Nat.reduceBEq,Nat.reduceEqDiff]
 obtain ⟨F2,hF2⟩ : ∃ F2 : AHeap,F2 = hrow (difH a b) F1 := ⟨_,rfl⟩
 have k2 : ∀ id,id < 3 → AHeap.find F2 id = AHeap.find F1 id := fun id h => by rw [hF2,hrow_old (by omega)]
 have l2 : F2.length = 2 * (difH a b).length + 4 := by rw [hF2,hrow_length,l1]; omega
 have w2 : HOwn F2 3 (plc 3 (difH a b)) := by have := hrow_own (l := difH a b) (H := F1); rwa [← hF2,l1] at this
 have r2 := hrow_row (l := difH a b) (H := F1)
 rw [← hF2,l1] at r2
 rw [← hF2]
 clear hF2
 refine callR_ret (hunks_v (lentT_view (by rw [k2 0 (by omega),k1 0 (by omega)]; exact f0)) (lentT_view (by rw [k2 1 (by omega),k1 1 (by omega)]; exact f1)) (by omega) (by omega)) ?_
 rw [hdl,l2]
 simp -implicitDefEqProofs (maxSteps := 99999999) (disch := first | omega | (simp only [AHeap.set_length,killO_length,List.length_cons,List.length_nil]; first | done | omega)) only [vu,va,vg,vs,vw,Nat.reduceMul,ite_true,ite_false,eq_self,forall_const,implies_true,Nat.reduceAdd,Nat.reduceSub,Nat.reduceLT,Nat.reduceLeDiff,↓reduceIte,reduceCtorEq,Int.reduceEq,Int.reduceLT,Int.reduceLE,Int.reduceGT,Int.reduceGE,Int.reduceAdd,Int.reduceSub,Int.reduceNeg,Int.reduceToNat,Nat.reduceBEq,Nat.reduceEqDiff]
 obtain ⟨F3,hF3⟩ : ∃ F3 : AHeap,F3 = hrow (difH a b) F2 := ⟨_,rfl⟩
 have k3 : ∀ id,id < 2 * (difH a b).length + 4 → AHeap.find F3 id = AHeap.find F2 id := fun id h => by rw [hF3,hrow_old (by omega)]
 have l3 : F3.length = 4 * (difH a b).length + 5 := by rw [hF3,hrow_length,l2]; omega
 have w3 : HOwn F3 (2 * (difH a b).length + 4) (plc (2 * (difH a b).length + 4) (difH a b)) := by have := hrow_own (l := difH a b) (H := F2); rwa [← hF3,l2] at this
 have r3 := hrow_row (l := difH a b) (H := F2)
 rw [← hF3,l2] at r3
 rw [← hF3]
 clear hF3
 refine callR_ret (refCommon_o a b (by omega) (by omega) _) ?_
 simp -implicitDefEqProofs (maxSteps := 99999999) (disch := first | omega | (simp only [AHeap.set_length,killO_length,List.length_cons,List.length_nil]; first | done | omega)) only [vu,va,vg,vs,vw,Nat.reduceMul,ite_true,ite_false,eq_self,forall_const,implies_true,Nat.reduceAdd,Nat.reduceSub,Nat.reduceLT,Nat.reduceLeDiff,↓reduceIte,reduceCtorEq,Int.reduceEq,Int.reduceLT,Int.reduceLE,Int.reduceGT,Int.reduceGE,Int.reduceAdd,Int.reduceSub,Int.reduceNeg,Int.reduceToNat,Nat.reduceBEq,Nat.reduceEqDiff]
 obtain ⟨F4,hF4⟩ : ∃ F4 : AHeap,F4 = OwnB 2 40 (prs (cmn a b 0 0)) :: F3 := ⟨_,rfl⟩
 have k4 : ∀ id,id < 4 * (difH a b).length + 5 → AHeap.find F4 id = AHeap.find F3 id := fun id h => by rw [hF4,find_past (by omega)]
 have l4 : F4.length = 4 * (difH a b).length + 6 := by rw [hF4,List.length_cons,l3]
 have p4 : AHeap.find F4 (4 * (difH a b).length + 5) = OwnB 2 40 (prs (cmn a b 0 0)) := by rw [hF4]; exact find_top l3.symm
 rw [l3,← hF4]
 clear hF4
 have f40 : AHeap.find F4 0 = some ⟨1,strs (a ++ mks 12),true,9⟩ := by rw [k4 0 (by omega),k3 0 (by omega),k2 0 (by omega),k1 0 (by omega)]; exact f0
 have f41 : AHeap.find F4 1 = some ⟨1,strs (b ++ mks 12),true,9⟩ := by rw [k4 1 (by omega),k3 1 (by omega),k2 1 (by omega),k1 1 (by omega)]; exact f1
 have p42 : AHeap.find F4 2 = OwnB 2 40 (prs (cmn a b 0 0)) := by rw [k4 2 (by omega),k3 2 (by omega),k2 2 (by omega)]; exact p1
 have g2 : ∀ id,id < 2 * (difH a b).length + 4 → AHeap.find F4 id = AHeap.find F2 id := fun id h => by rw [k4 id (by omega),k3 id h]
 have w42 : HOwn F4 3 (plc 3 (difH a b)) := w2.keep fun id hm h1 h2 => g2 id (by omega)
 have r42 : AHeap.find F4 (3 + 2 * (difH a b).length) = OwnB 3 46 (hrs (plc 3 (difH a b))) := by rw [g2 _ (by omega)]; exact r2
 have w43 : HOwn F4 (2 * (difH a b).length + 4) (plc (2 * (difH a b).length + 4) (difH a b)) := w3.keep fun id hm h1 h2 => k4 id (by omega)
 have r43 : AHeap.find F4 (2 * (difH a b).length + 4 + 2 * (difH a b).length) = OwnB 3 46 (hrs (plc (2 * (difH a b).length + 4) (difH a b))) := by rw [k4 _ (by omega)]; exact r3
 clear k1 k2 k3 k4 g2 w2 w3 r2 r3 p1 f0 f1 l1 l2 l3 fl
 refine callR_ret (D_view (.cons (ViewL.own (fun _ => p42) prs_view) (.cons (ViewL.own (fun _ => p4) prs_view) .nil)) .sc (samePairs_d (cmn a b 0 0) (cmn a b 0 0) none none [] (by omega))) ?_
 simp -implicitDefEqProofs (maxSteps := 99999999) (disch := first | omega | (simp only [AHeap.set_length,killO_length,List.length_cons,List.length_nil]; first | done | omega)) only [vu,va,vg,vs,vw,Nat.reduceMul,ite_true,ite_false,eq_self,forall_const,implies_true,Nat.reduceAdd,Nat.reduceSub,Nat.reduceLT,Nat.reduceLeDiff,↓reduceIte,reduceCtorEq,Int.reduceEq,Int.reduceLT,Int.reduceLE,Int.reduceGT,Int.reduceGE,Int.reduceAdd,Int.reduceSub,Int.reduceNeg,Int.reduceToNat,Nat.reduceBEq,Nat.reduceEqDiff]
 refine callR_ret (refHunks_d a b (by omega) (by omega) _) ?_
 simp -implicitDefEqProofs (maxSteps := 99999999) (disch := first | omega | (simp only [AHeap.set_length,killO_length,List.length_cons,List.length_nil]; first | done | omega)) only [vu,va,vg,vs,vw,Nat.reduceMul,ite_true,ite_false,eq_self,forall_const,implies_true,Nat.reduceAdd,Nat.reduceSub,Nat.reduceLT,Nat.reduceLeDiff,↓reduceIte,reduceCtorEq,Int.reduceEq,Int.reduceLT,Int.reduceLE,Int.reduceGT,Int.reduceGE,Int.reduceAdd,Int.reduceSub,Int.reduceNeg,Int.reduceToNat,Nat.reduceBEq,Nat.reduceEqDiff]
 have hv := fun (G : AHeap) (w : HOwn G 3 (plc 3 (difH a b))) (r : AHeap.find G (3 + 2 * (difH a b).length) = OwnB 3 46 (hrs (plc 3 (difH a b)))) => hrow_view (ty := 46) (vid := 3 + 2 * (difH a b).length) w (fun e => by rw [r,OwnB_ne (hrs_ne.2 e)])
 simp only [plc_fst] at hv
 have hs : ∀ h ∈ difH a b,h.old.length ≤ 100000000 ∧ h.new.length ≤ 100000000 := fun h hm => by have := lt h hm; omega
 refine callR_ret (D_view (.cons (hv _ w42 r42) (.cons (.lst hks_view) .nil)) .sc (sameHunks_d (difH a b) (difH a b) none none [] (by omega) hs)) ?_
 simp -implicitDefEqProofs (maxSteps := 99999999) (disch := first | omega | (simp only [AHeap.set_length,killO_length,List.length_cons,List.length_nil]; first | done | omega)) only [vu,va,vg,vs,vw,Nat.reduceMul,ite_true,ite_false,eq_self,forall_const,implies_true,Nat.reduceAdd,Nat.reduceSub,Nat.reduceLT,Nat.reduceLeDiff,↓reduceIte,reduceCtorEq,Int.reduceEq,Int.reduceLT,Int.reduceLE,Int.reduceGT,Int.reduceGE,Int.reduceAdd,Int.reduceSub,Int.reduceNeg,Int.reduceToNat,Nat.reduceBEq,Nat.reduceEqDiff]
 refine callR_ret (keptTexts_d a none _ 0 _ f40 (by omega)) ?_
 simp -implicitDefEqProofs (maxSteps := 99999999) (disch := first | omega | (simp only [AHeap.set_length,killO_length,List.length_cons,List.length_nil]; first | done | omega)) only [vu,va,vg,vs,vw,Nat.reduceMul,ite_true,ite_false,eq_self,forall_const,implies_true,Nat.reduceAdd,Nat.reduceSub,Nat.reduceLT,Nat.reduceLeDiff,↓reduceIte,reduceCtorEq,Int.reduceEq,Int.reduceLT,Int.reduceLE,Int.reduceGT,Int.reduceGE,Int.reduceAdd,Int.reduceSub,Int.reduceNeg,Int.reduceToNat,Nat.reduceBEq,Nat.reduceEqDiff]
 refine callR_ret (keptTexts_d b none _ 1 _ f41 (by omega)) ?_
 simp -implicitDefEqProofs (maxSteps := 99999999) (disch := first | omega | (simp only [AHeap.set_length,killO_length,List.length_cons,List.length_nil]; first | done | omega)) only [vu,va,vg,vs,vw,Nat.reduceMul,ite_true,ite_false,eq_self,forall_const,implies_true,Nat.reduceAdd,Nat.reduceSub,Nat.reduceLT,Nat.reduceLeDiff,↓reduceIte,reduceCtorEq,Int.reduceEq,Int.reduceLT,Int.reduceLE,Int.reduceGT,Int.reduceGE,Int.reduceAdd,Int.reduceSub,Int.reduceNeg,Int.reduceToNat,Nat.reduceBEq,Nat.reduceEqDiff]
 refine callR_ret (overTexts_d a _ 0 _ f40 (by omega)) ?_
 simp -implicitDefEqProofs (maxSteps := 99999999) (disch := first | omega | (simp only [AHeap.set_length,killO_length,List.length_cons,List.length_nil]; first | done | omega)) only [vu,va,vg,vs,vw,Nat.reduceMul,ite_true,ite_false,eq_self,forall_const,implies_true,Nat.reduceAdd,Nat.reduceSub,Nat.reduceLT,Nat.reduceLeDiff,↓reduceIte,reduceCtorEq,Int.reduceEq,Int.reduceLT,Int.reduceLE,Int.reduceGT,Int.reduceGE,Int.reduceAdd,Int.reduceSub,Int.reduceNeg,Int.reduceToNat,Nat.reduceBEq,Nat.reduceEqDiff]
 refine callR_ret (overTexts_d b _ 1 _ (by rw [find_set_other (by omega)]; exact f41) (by omega)) ?_
 simp -implicitDefEqProofs (maxSteps := 99999999) (disch := first | omega | (simp only [AHeap.set_length,killO_length,List.length_cons,List.length_nil]; first | done | omega)) only [vu,va,vg,vs,vw,Nat.reduceMul,ite_true,ite_false,eq_self,forall_const,implies_true,Nat.reduceAdd,Nat.reduceSub,Nat.reduceLT,Nat.reduceLeDiff,↓reduceIte,reduceCtorEq,Int.reduceEq,Int.reduceLT,Int.reduceLE,Int.reduceGT,Int.reduceGE,Int.reduceAdd,Int.reduceSub,Int.reduceNeg,Int.reduceToNat,Nat.reduceBEq,Nat.reduceEqDiff]
 obtain ⟨F5,hF5⟩ : ∃ F5 : AHeap,F5 = AHeap.set (AHeap.set F4 0 (some ⟨1,strs ((List.range (a.length + 12)).map fun i : Nat => markT 2 (i : Int)),true,9⟩)) 1 (some ⟨1,strs ((List.range (b.length + 12)).map fun i : Nat => markT 2 (i : Int)),true,9⟩) := ⟨_,rfl⟩
 have k5 : ∀ id,2 ≤ id → AHeap.find F5 id = AHeap.find F4 id := fun id h => by rw [hF5,find_set_other (by omega),find_set_other (by omega)]
 rw [← hF5]
 clear hF5
 have w52 : HOwn F5 3 (plc 3 (difH a b)) := w42.keep fun id hm h1 h2 => k5 id (by omega)
 have r52 : AHeap.find F5 (3 + 2 * (difH a b).length) = OwnB 3 46 (hrs (plc 3 (difH a b))) := by rw [k5 _ (by omega)]; exact r42
 have w53 : HOwn F5 (2 * (difH a b).length + 4) (plc (2 * (difH a b).length + 4) (difH a b)) := w43.keep fun id hm h1 h2 => k5 id (by omega)
 have r53 : AHeap.find F5 (2 * (difH a b).length + 4 + 2 * (difH a b).length) = OwnB 3 46 (hrs (plc (2 * (difH a b).length + 4) (difH a b))) := by rw [k5 _ (by omega)]; exact r43
 clear w42 r42 w43 r43 p42 p4 f40 f41 k5
 refine callR_ret (refHunks_d a b (by omega) (by omega) _) ?_
 simp -implicitDefEqProofs (maxSteps := 99999999) (disch := first | omega | (simp only [AHeap.set_length,killO_length,List.length_cons,List.length_nil]; first | done | omega)) only [vu,va,vg,vs,vw,Nat.reduceMul,ite_true,ite_false,eq_self,forall_const,implies_true,Nat.reduceAdd,Nat.reduceSub,Nat.reduceLT,Nat.reduceLeDiff,↓reduceIte,reduceCtorEq,Int.reduceEq,Int.reduceLT,Int.reduceLE,Int.reduceGT,Int.reduceGE,Int.reduceAdd,Int.reduceSub,Int.reduceNeg,Int.reduceToNat,Nat.reduceBEq,Nat.reduceEqDiff]
 refine callR_ret (D_view (.cons (hv _ w52 r52) (.cons (.lst hks_view) .nil)) .sc (sameHunks_d (difH a b) (difH a b) none none [] (by omega) hs)) ?_
 simp -implicitDefEqProofs (maxSteps := 99999999) (disch := first | omega | (simp only [AHeap.set_length,killO_length,List.length_cons,List.length_nil]; first | done | omega)) only [vu,hrowV,va,vg,vs,vw,Nat.reduceMul,ite_true,ite_false,eq_self,forall_const,implies_true,Nat.reduceAdd,Nat.reduceSub,Nat.reduceLT,Nat.reduceLeDiff,↓reduceIte,reduceCtorEq,Int.reduceEq,Int.reduceLT,Int.reduceLE,Int.reduceGT,Int.reduceGE,Int.reduceAdd,Int.reduceSub,Int.reduceNeg,Int.reduceToNat,Nat.reduceBEq,Nat.reduceEqDiff]
 rw [Nat.add_assoc] at r53
 have hap := apartHunks_d F5 [(plc 3 (difH a b),3 + 2 * (difH a b).length),(plc (2 * (difH a b).length + 4) (difH a b),2 * (difH a b).length + (4 + 2 * (difH a b).length))] (some [])
  (ownsOK_of (fun o ho hne => ?_) (fun o ho => ?_) ?_ (fun o ho => ?_)) (ownsOK_of (fun o ho hne => ?_) (fun o ho => ?_) ?_ (fun o ho => ?_)) (fun i hi hi2 => ?_) (by simp) ?_
 ·refine callR_ret hap ?_
  simp -implicitDefEqProofs (maxSteps := 99999999) (disch := first | omega | (simp only [AHeap.set_length,killO_length,List.length_cons,List.length_nil]; first | done | omega)) only [vu,va,vg,vs,vw,Nat.reduceMul,ite_true,ite_false,eq_self,forall_const,implies_true,Nat.reduceAdd,Nat.reduceSub,Nat.reduceLT,Nat.reduceLeDiff,↓reduceIte,reduceCtorEq,Int.reduceEq,Int.reduceLT,Int.reduceLE,Int.reduceGT,Int.reduceGE,Int.reduceAdd,Int.reduceSub,Int.reduceNeg,Int.reduceToNat,Nat.reduceBEq,Nat.reduceEqDiff]
  refine callR_ret (awakeD_d _) ?_
  simp -implicitDefEqProofs (maxSteps := 99999999) (disch := first | omega | (simp only [AHeap.set_length,killO_length,List.length_cons,List.length_nil]; first | done | omega)) only [vu,va,vg,vs,vw,Nat.reduceMul,ite_true,ite_false,eq_self,forall_const,implies_true,Nat.reduceAdd,Nat.reduceSub,Nat.reduceLT,Nat.reduceLeDiff,↓reduceIte,reduceCtorEq,Int.reduceEq,Int.reduceLT,Int.reduceLE,Int.reduceGT,Int.reduceGE,Int.reduceAdd,Int.reduceSub,Int.reduceNeg,Int.reduceToNat,Nat.reduceBEq,Nat.reduceEqDiff]
  exact weak_end
 all_goals clear hv hs
 ·obtain ⟨r,hr,ho⟩ := List.mem_flatMap.1 ho
  simp only [List.mem_cons,List.not_mem_nil,or_false] at hr
  rcases hr with rfl | rfl
  ·obtain ⟨x,hx,rfl | rfl⟩ := mem_txs3 ho
   ·exact ((w52 x hx).1 fun e => hne (by simp only [e]; rfl)).1
   ·exact ((w52 x hx).2 fun e => hne (by simp only [e]; rfl)).1
  ·obtain ⟨x,hx,rfl | rfl⟩ := mem_txs3 ho
   ·exact ((w53 x hx).1 fun e => hne (by simp only [e]; rfl)).1
   ·exact ((w53 x hx).2 fun e => hne (by simp only [e]; rfl)).1
 ·obtain ⟨r,hr,ho⟩ := List.mem_flatMap.1 ho
  obtain ⟨x,hx,rfl | rfl⟩ := mem_txs3 ho
  ·exact shT_strs
  ·exact shT_strs
 ·simp only [tosOf,List.flatMap_cons,List.flatMap_nil,List.append_nil,List.map_append,txs3_ids,plc_ids]
  refine List.nodup_append.2 ⟨List.nodup_range',List.nodup_range',fun x hx y hy => ?_⟩
  have := List.mem_range'_1.1 hx
  have := List.mem_range'_1.1 hy
  omega
 ·obtain ⟨r,hr,ho⟩ := List.mem_flatMap.1 ho
  have hm : ∀ x ∈ r.1,x.1 ∈ difH a b := fun x hx => by
   simp only [List.mem_cons,List.not_mem_nil,or_false] at hr
   rcases hr with rfl | rfl
   ·rw [← plc_fst 3 (difH a b)]
    exact List.mem_map_of_mem hx
   ·rw [← plc_fst (2 * (difH a b).length + 4) (difH a b)]
    exact List.mem_map_of_mem hx
  obtain ⟨x,hx,rfl | rfl⟩ := mem_txs3 ho
  ·have := lt _ (hm x hx)
   simp only [strs_length]
   omega
  ·have := lt _ (hm x hx)
   simp only [strs_length]
   omega
 ·simp only [hosOf,List.map_cons,List.map_nil,List.mem_cons,List.not_mem_nil,or_false] at ho
  rcases ho with rfl | rfl
  ·exact r52
  ·exact r53
 ·simp only [hosOf,List.map_cons,List.map_nil,List.mem_cons,List.not_mem_nil,or_false] at ho
  rcases ho with rfl | rfl
  ·exact shH_hrs
  ·exact shH_hrs
 ·simp only [hosOf,List.map_cons,List.map_nil]
  simp
  omega
 ·simp only [hosOf,List.map_cons,List.map_nil,List.mem_cons,List.not_mem_nil,or_false] at ho
  rcases ho with rfl | rfl
  ·simp only [hks3_length,plc_length]
   omega
  ·simp only [hks3_length,plc_length]
   omega
 ·obtain ⟨k,h1,h2,h3⟩ := of_mem_ownIds hi
  obtain ⟨k',h4,h5,h6⟩ := of_mem_ownIds hi2
  have hm : i ∈ (tosOf [(plc 3 (difH a b),3 + 2 * (difH a b).length),(plc (2 * (difH a b).length + 4) (difH a b),2 * (difH a b).length + (4 + 2 * (difH a b).length))]).map (·.2) := by
   rw [← h6]
   exact List.mem_map_of_mem (nthO_mem h4)
  simp only [tosOf,List.flatMap_cons,List.flatMap_nil,List.append_nil,List.map_append,txs3_ids,plc_ids,List.mem_append,List.mem_range'_1] at hm
  have hi3 : i = 3 + 2 * (difH a b).length ∨ i = 2 * (difH a b).length + (4 + 2 * (difH a b).length) := by
   have := nthO_mem h1
   rw [← h3]
   generalize nthO (hosOf [(plc 3 (difH a b),3 + 2 * (difH a b).length),(plc (2 * (difH a b).length + 4) (difH a b),2 * (difH a b).length + (4 + 2 * (difH a b).length))]) k = o at this
   simp only [hosOf,List.map_cons,List.map_nil,List.mem_cons,List.not_mem_nil,or_false] at this
   rcases this with e | e
   ·rw [e]
    exact .inl rfl
   ·rw [e]
    exact .inr rfl
  omega
 ·simp only [tosOf,List.flatMap_cons,List.flatMap_nil,List.append_nil,List.length_append,txs3_length,plc_length]
  omega
end Go.Proofs.YtigmpablpmanpaaDoor
