import Derived.Test.YtdjnccnecgblmaaGreatDoorTA
namespace Go.Proofs.YtdjnccnecgblmaaGreatDoor
open Go.RowKit
set_option maxRecDepth 100000
set_option linter.unusedVariables false
set_option linter.unusedSimpArgs false
theorem Over.len {H G : AHeap} (h : Over H G) : H.length ≤ G.length:=by
 obtain ⟨A,rfl⟩:=h.split
 simp
theorem Over.find {H G : AHeap} (h : Over H G) {i : Nat} (hi : i < H.length) : AHeap.find G i=AHeap.find H i:=by
 obtain ⟨A,rfl⟩:=h.split
 exact AHeap.find_append hi
theorem Over.trans {A B C : AHeap} (h : Over A B) (k : Over B C) : Over A C:=by
 induction k with
 | refl=>exact h
 | cons _ ih=>exact .cons ih
theorem Nd.len_le (l : List Nd) : l.length ≤ Nd.sizeL l:=by
 induction l with
 | nil=>simp[Nd.sizeL]
 | cons x r ih=>have:=x.size_pos;simp only[List.length_cons,Nd.sizeL];omega
theorem Nd.kids_le (t : Nd) : t.kids.length < t.size:=by
 have:=Nd.len_le t.kids
 rw[Nd.size_eq]
 omega
def setQ (k : Int) (l : List Nd) : Bool:=!decide (k=7) || !decide ((nthN l 0).kind=26) || decide ((nthN (nthN l 0).kids 0).kind=22)
mutual
def rightN : Nd→Nat→Bool
 | ⟨k,s,n,l⟩,m=>decide (1 ≤ m) && locQ ⟨k,s,n,l⟩ && rightL k l 0 (m - 1) && setQ k l
def rightL : Int→List Nd→Nat→Nat→Bool
 | _,[],_,_=>true
 | p,t :: r,a,m=>fitsQ p t.kind a && rightN t m && rightL p r (a+1) m
end
theorem rightN_eq (t : Nd) (m : Nat) : rightN t m=(decide (1 ≤ m) && locQ t && rightL t.kind t.kids 0 (m - 1) && setQ t.kind t.kids):=by
 cases t
 simp only[rightN,Nd.kind,Nd.kids]
theorem rightL_iff (p : Int) (m : Nat) : ∀ (l : List Nd) (a : Nat),rightL p l a m=true ↔ ∀ j,j < l.length→fitsQ p (nthN l j).kind (a+j : Nat)=true ∧ rightN (nthN l j) m=true
 | [],a=>by simp[rightL]
 | t :: r,a=>by
  have ih:=rightL_iff p m r (a+1)
  simp only[rightL,Bool.and_eq_true,ih]
  constructor
  ·rintro ⟨⟨h1,h2⟩,h3⟩ j hj
   cases j with
   | zero=>exact ⟨h1,h2⟩
   | succ j =>
    have:=h3 j (by simpa using hj)
    rw[show a+(j+1)=a+1+j by omega]
    simpa [nthN] using this
  ·intro h
   refine ⟨h 0 (by simp),fun j hj=>?_⟩
   have:=h (j+1) (by simpa using hj)
   rw[show a+(j+1)=a+1+j by omega] at this
   simpa [nthN] using this
theorem rightL_f {p : Int} {l : List Nd} {m k : Nat} (hk : k < l.length) (h : fitsQ p (nthN l k).kind k=false ∨ rightN (nthN l k) m=false) : rightL p l 0 m=false:=by
 cases e : rightL p l 0 m
 ·rfl
 ·have:=(rightL_iff p m l 0).1 e k hk
  rw[Nat.zero_add] at this
  rcases h with h | h
  ·rw[h] at this;exact absurd this.1 (by simp)
  ·rw[h] at this;exact absurd this.2 (by simp)
theorem rightL_t {p : Int} {l : List Nd} {m k : Nat} (hk : ¬ k < l.length) (h : ∀ j,j < k→fitsQ p (nthN l j).kind j=true ∧ rightN (nthN l j) m=true) : rightL p l 0 m=true :=
 (rightL_iff p m l 0).2 fun j hj=>by rw[Nat.zero_add];exact h j (by omega)
theorem set_two {t : Nd} (hk : t.kind=7) (h : locQ t=true) : t.kids.length=2:=by
 simp only[locQ,hk,Bool.and_eq_true] at h
 have:=h.2
 simp[manyQ] at this
 omega
theorem index_two {t : Nd} {m : Nat} (hk : t.kind=26) (h : rightN t m=true) : t.kids.length=2:=by
 rw[rightN_eq] at h
 simp only[Bool.and_eq_true] at h
 have h:=h.1.1.2
 simp only[locQ,hk,Bool.and_eq_true] at h
 have:=h.2
 simp[manyQ] at this
 omega
theorem set_kind {k : Int} (h : fitsQ 7 k 0=true) : k=22 ∨ k=26:=by
 simp[fitsQ,manyQ] at h
 omega
end Go.Proofs.YtdjnccnecgblmaaGreatDoor
namespace Go.Proofs.YtdjnccnecgblmaaGreatDoor
open Go.RowKit
set_option maxRecDepth 100000
set_option linter.unusedVariables false
set_option linter.unusedSimpArgs false
set_option maxHeartbeats 0 in
theorem right1_d (t : Nd) : ∀ (ro : Option (List AV)) (m : Nat) (d : Int) (hd : d=41 - m) (hm41 : m ≤ 41) (hz : t.size ≤ 1000000) (id : Nat) (H : AHeap) (hf : AHeap.find H id=some ⟨1,[.fn (.func 197) [] [.ptr 1 id 0 0]],true,247⟩),D Tryz.prog 197 [ndR t ro,.sc (.int .i64 d),.ptr 1 id 0 0] H (.ret (.sc (.bool (rightN t m)))) H:=by
 induction t using Nd.ind with
 | _ t ih =>
  intro ro m d hd hm41 hz id H hf
  have hkl:=Nd.kids_le t
  have hid : id < H.length:=AHeap.find_lt hf
  have cl : callable Tryz.prog 197=true:=by kernel_rfl
  have hP:=rightN_eq t m
  rw[← loc_same] at hP
  unfold locP at hP
  have hsx : ∀ H,D Tryz.prog 199 [.agg [.sc (.int .u8 t.kind),.sc (.string t.text),.sc (.int .i64 t.num),.lst 4 (ndL t.kids) ro]] H (.ret (.sc (.bool (saysP t)))) H:=fun H=>says_d t ro H
  have hset : ∀ h : t.kind=7,locQ t=true→t.kids.length=2:=fun h h2=>set_two h h2
  have hls : locP t=locQ t:=loc_same t
  unfold locP at hls
  refine D_of_DK (Nat.le_refl _) (dk197 (E_of_ES ?_))
  simp only[ic197,ux]
  rw[ndR_eq]
  have hr:=rows_d t.kind
  unfold rwA at hr
  have hall:=rowG_all (p:=t.kind)
  generalize (rowR t.kind).isSome=s at *
  obtain ⟨l,b,hG⟩ : ∃ l b,rowG t.kind=(l,b):=⟨_,_,rfl⟩
  rw[hG] at hr hP hall hls
  simp only at hr hP hall hls
  obtain ⟨k1,k2,k3,k4,k5,k6⟩:=klA_len l
  have hdone : ∀ H F : AHeap,Over H F→rightN t m=false→Weak H (.ret (.sc (.bool false))) F (.ret (.sc (.bool (rightN t m)))) H:=fun H F h e=>by rw[e];exact weak_sc h
  refine ES_seq_gen fun L hL=>?_
  simp -implicitDefEqProofs (maxSteps:=99999999) (disch:=first | omega | (simp only[vl];first | done | omega)) only[vu,va,vg,vs,vw,vk,simprocAttr]
  refine hL _ _ ?_
  clear hL
  refine ES_seq_gen fun L hL=>?_
  simp -implicitDefEqProofs (maxSteps:=99999999) (disch:=first | omega | (simp only[vl];first | done | omega)) only[vu,va,vg,vs,vw,vk,simprocAttr]
  refine callR_ret (hr _) ?_
  simp -implicitDefEqProofs (maxSteps:=99999999) (disch:=first | omega | (simp only[vl];first | done | omega)) only[vu,k3,k4,k5,k6,va,vg,vs,vw,vk,simprocAttr]
  refine hL _ _ ?_
  clear hL
  refine ES_seq_gen fun L hL=>?_
  cases s
  ·simp -implicitDefEqProofs (maxSteps:=99999999) (disch:=first | omega | (simp only[vl];first | done | omega)) only[vu,va,vg,vs,vw,vk,simprocAttr]
   exact hdone _ _ (.cons (.cons .refl)) (by rw[hP];simp)
  by_cases c1 : d > 40
  ·simp -implicitDefEqProofs (maxSteps:=99999999) (disch:=first | omega | (simp only[vl];first | done | omega)) only[vu,c1,va,vg,vs,vw,vk,simprocAttr]
   exact hdone _ _ (.cons (.cons .refl)) (by rw[hP];simp;omega)
  simp -implicitDefEqProofs (maxSteps:=99999999) (disch:=first | omega | (simp only[vl];first | done | omega)) only[vu,c1,va,vg,vs,vw,vk,simprocAttr]
  refine callR_ret (hsx _) ?_
  cases hs : saysP t
  ·simp -implicitDefEqProofs (maxSteps:=99999999) (disch:=first | omega | (simp only[vl];first | done | omega)) only[vu,va,vg,vs,vw,vk,simprocAttr]
   exact hdone _ _ (.cons (.cons .refl)) (by rw[hP];simp[hs])
  by_cases c2 : b=false ∧ ¬ t.kids.length=l.length
  ·obtain ⟨rfl,c2⟩:=c2
   have c3 : ¬ (t.kids.length : Int)=l.length:=by omega
   simp -implicitDefEqProofs (maxSteps:=99999999) (disch:=first | omega | (simp only[vl];first | done | omega)) only[vu,c3,k1,k2,k3,k4,k5,k6,ndL_length,va,vg,vs,vw,vk,simprocAttr]
   exact hdone _ _ (.cons (.cons .refl)) (by rw[hP];simp[c2])
  have hlq : locQ t=true:=by
   rw[← hls,hs]
   cases b
   ·simp only[Bool.true_and,Bool.false_or,decide_eq_true_eq]
    exact Decidable.byContradiction fun h=>c2 ⟨rfl,h⟩
   ·rfl
  have hm : 1 ≤ m:=by omega
  have hP2 : rightN t m=(rightL t.kind t.kids 0 (m - 1) && setQ t.kind t.kids):=by
   rw[rightN_eq,hlq]
   simp[hm]
  clear hP
  suffices key : ∀ ts,Fr [none,some (.sc (.int .i64 d)),some (.ptr 1 id 0 0),some (.ptr 4 H.length 0 0),none,some (.sc (.bool false)),none,none,none,none,none,none,none,none,none,none,none,none,none,none,none,none,none,none,none,none,none,none,none,none,none,none,none,none,none,none,none,none,none,none,none,none,none,none,none,none,none,none,none,none,none,none,none,none,none,none,none,none,none,none,none,none,none,none,none,none,none,none,none,none,none,none,none,none,none,none,none,none,none,none,none,none,none,none,none,none,none] ts→L ts (some ⟨2,[.agg [klA l,.sc (.bool b)]],true,250⟩ :: some ⟨4,[.agg [.sc (.int .u8 t.kind),.sc (.string t.text),.sc (.int .i64 t.num),.lst 4 (ndL t.kids) ro]],true,143⟩ :: H) by
   cases b
   ·have c3 : t.kids.length=l.length:=Decidable.byContradiction fun h=>c2 ⟨rfl,h⟩
    have c4 : (t.kids.length : Int)=l.length:=by omega
    simp -implicitDefEqProofs (maxSteps:=99999999) (disch:=first | omega | (simp only[vl];first | done | omega)) only[vu,c4,k1,k2,k3,k4,k5,k6,ndL_length,va,vg,vs,vw,vk,simprocAttr]
    exact key _ (by simp[Fr])
   ·simp -implicitDefEqProofs (maxSteps:=99999999) (disch:=first | omega | (simp only[vl];first | done | omega)) only[vu,k1,k2,k3,k4,k5,k6,ndL_length,va,vg,vs,vw,vk,simprocAttr]
    exact key _ (by simp[Fr])
  intro ts hfr
  obtain ⟨js,rfl⟩:=hfr.opened
  clear hfr
  refine hL _ _ ?_
  clear hL
  refine ES_seq_gen fun L hL=>?_
  simp -implicitDefEqProofs (maxSteps:=99999999) (disch:=first | omega | (simp only[vl];first | done | omega)) only[mk,ndL_length,va,vg,vs,vw,vk,simprocAttr]
  have hnone : ndR=fun t ro=>AV.agg [.sc (.int .u8 t.kind),.sc (.string t.text),.sc (.int .i64 t.num),.lst 4 (ndL t.kids) ro]:=rfl
  refine ES_loopL (fun ts F=>∃ k : Nat,(k ≤ t.kids.length ∧ ∀ j,j < k→fitsQ t.kind (nthN t.kids j).kind j=true ∧ rightN (nthN t.kids j) (m - 1)=true) ∧ (Over H F ∧ H.length < F.length ∧ AHeap.find F H.length=some ⟨4,[.agg [.sc (.int .u8 t.kind),.sc (.string t.text),.sc (.int .i64 t.num),.lst 4 (ndL t.kids) ro]],true,143⟩ ∧ AHeap.find F id=some ⟨1,[.fn (.func 197) [] [.ptr 1 id 0 0]],true,247⟩) ∧ Fr [none,some (.sc (.int .i64 d)),some (.ptr 1 id 0 0),some (.ptr 4 H.length 0 0),none,some (.sc (.bool false)),none,none,none,none,none,none,none,none,none,none,none,none,none,none,none,none,none,none,none,none,none,none,none,none,none,none,none,none,none,none,none,none,none,none,none,none,some (.lst 4 (ndL t.kids) ro),some (.sc (.int .i64 t.kids.length)),some (.sc (.int .i64 k)),none,none,none,none,none,none,none,none,none,none,none,none,none,none,none,none,none,none,none,none,none,none,none,none,none,none,none,none,none,none,none,none,none,none,none,none,none,none,none,none,none,none] ts) (fun ts _=>t.kids.length - (intV (ts.getD 44 .top)).toNat) ?_ ?_
  ·refine ⟨0,⟨Nat.zero_le _,fun j h=>absurd h (Nat.not_lt_zero _)⟩,⟨.cons (.cons .refl),by simp only[List.length_cons];omega,?_,?_⟩,by simp[Fr]⟩
   ·rw[find_past (by simp),find_top rfl]
   ·rw[find_past (by simp;omega),find_past hid,hf]
  rintro ts F ⟨k,⟨hk,hp⟩,⟨f1,f2,f3,f4⟩,hfr⟩ L2 hL2
  obtain ⟨js,rfl⟩:=hfr.opened
  clear hfr
  by_cases hd2 : k < t.kids.length
  ·have d1 : (k : Int) < t.kids.length:=by omega
   have hg:=ndL_get hd2
   have hmem:=nthN_mem hd2
   simp -implicitDefEqProofs (maxSteps:=99999999) (disch:=first | omega | (simp only[vl];first | done | omega)) only[mk,d1,hg,f3,f4,ndL_length,va,vg,vs,vw,vk,simprocAttr]
   refine ⟨by omega,callR_ret (fits_d _ _ _ _) ?_⟩
   rw[fits_same]
   cases e1 : fitsQ t.kind (nthN t.kids k).kind k
   ·simp -implicitDefEqProofs (maxSteps:=99999999) (disch:=first | omega | (simp only[vl];first | done | omega)) only[vu,va,vg,vs,vw,vk,simprocAttr]
    exact hdone _ _ (.cons f1) (by rw[hP2,rightL_f hd2 (.inl e1)];rfl)
   simp -implicitDefEqProofs (maxSteps:=99999999) (disch:=first | omega | (simp only[vl];first | done | omega)) only[vu,f3,f4,va,vg,vs,vw,vk,simprocAttr]
   refine ⟨cl,callR_ret (ih _ hmem none (m - 1) _ (by omega) (by omega) (by have:=Nd.kid_lt hmem;omega) id _ (by rw[find_past (by omega),f4])) ?_⟩
   cases e2 : rightN (nthN t.kids k) (m - 1)
   ·simp -implicitDefEqProofs (maxSteps:=99999999) (disch:=first | omega | (simp only[vl];first | done | omega)) only[vu,va,vg,vs,vw,vk,simprocAttr]
    exact hdone _ _ (.cons f1) (by rw[hP2,rightL_f hd2 (.inr e2)];rfl)
   simp -implicitDefEqProofs (maxSteps:=99999999) (disch:=first | omega | (simp only[vl];first | done | omega)) only[vu,va,vg,vs,vw,vk,simprocAttr]
   refine hL2 _ _ ⟨k+1,⟨by omega,fun j hj=>?_⟩,⟨.cons f1,by simp;omega,by rw[find_past (by omega),f3],by rw[find_past (by omega),f4]⟩,by simp[Fr]⟩ (by simp[intV,mk];omega)
   rcases Nat.lt_succ_iff_lt_or_eq.1 hj with h' | rfl
   ·exact hp j h'
   ·exact ⟨e1,e2⟩
  ·have d1 : ¬ (k : Int) < t.kids.length:=by omega
   have hR:=rightL_t hd2 hp
   simp -implicitDefEqProofs (maxSteps:=99999999) (disch:=first | omega | (simp only[vl];first | done | omega)) only[mk,d1,f3,va,vg,vs,vw,vk,simprocAttr]
   refine hL _ _ ?_
   clear hL
   by_cases g7 : t.kind=7
   ·have h2:=hset g7 hlq
    have hk2 : ¬ k < 2:=by omega
    have hg0:=ndL_get (l:=t.kids) (k:=0) (by omega)
    have hp0:=hp 0 (by omega)
    rw[g7] at hp0
    have h0 : (0 : Int) < (2 : Nat):=by omega
    by_cases g22 : (nthN t.kids 0).kind=22
    ·rw[g22] at hg0
     simp -implicitDefEqProofs (maxSteps:=99999999) (disch:=first | omega | (simp only[vl];first | done | omega)) only[vu,f3,g7,hg0,ndL_length,h2,h0,va,vg,vs,vw,vk,simprocAttr]
     exact over_bN f1 (by rw[hP2,hR,g7];simp[setQ,g22])
    ·have g26 : (nthN t.kids 0).kind=26:=by
      rcases set_kind hp0.1 with h | h
      ·exact absurd h g22
      ·exact h
     have i2:=index_two g26 hp0.2
     have hg1:=ndL_get (l:=(nthN t.kids 0).kids) (k:=0) (by omega)
     rw[g26] at hg0
     simp -implicitDefEqProofs (maxSteps:=99999999) (disch:=first | omega | (simp only[vl];first | done | omega)) only[vu,f3,g7,hg0,hg1,ndL_length,h2,i2,h0,va,vg,vs,vw,vk,simprocAttr]
     exact over_bN f1 (by rw[hP2,hR,g7];simp[setQ,g26])
   ·simp -implicitDefEqProofs (maxSteps:=99999999) (disch:=first | omega | (simp only[vl];first | done | omega)) only[vu,f3,g7,va,vg,vs,vw,vk,simprocAttr]
    exact over_bN f1 (by rw[hP2,hR];simp[setQ,g7])
theorem tright_d (t : Nd) (ro : Option (List AV)) (hz : t.size ≤ 1000000) (H : AHeap) : D Tryz.prog 159 [ndR t ro] H (.ret (.sc (.bool (rightN t 40)))) H:=by
 have cl : callable Tryz.prog 197=true:=by kernel_rfl
 have hr:=right1_d t ro 40 1 rfl (by omega) hz
 rw[ndR_eq] at hr ⊢
 refine D_of_DK (Nat.le_refl _) (dk159 (E_of_ES ?_))
 simp only[ic159,ux]
 refine ES_seq_gen fun L hL=>?_
 simp -implicitDefEqProofs (maxSteps:=99999999) (disch:=first | omega | (simp only[vl];first | done | omega)) only[vu,va,vg,vs,vw,vk,simprocAttr]
 refine hL _ _ ?_
 clear hL
 refine ES_seq_gen fun L hL=>?_
 simp -implicitDefEqProofs (maxSteps:=99999999) (disch:=first | omega | (simp only[vl];first | done | omega)) only[vu,va,vg,vs,vw,vk,simprocAttr]
 refine hL _ _ ?_
 clear hL
 refine ES_seq_gen fun L hL=>?_
 simp -implicitDefEqProofs (maxSteps:=99999999) (disch:=first | omega | (simp only[vl];first | done | omega)) only[vu,cl,va,vg,vs,vw,vk,simprocAttr]
 refine hL _ _ ?_
 clear hL
 refine ES_seq_gen fun L hL=>?_
 simp -implicitDefEqProofs (maxSteps:=99999999) (disch:=first | omega | (simp only[vl];first | done | omega)) only[vu,va,vg,vs,vw,vk,simprocAttr]
 refine ⟨cl,callR_ret (hr (H.length+1) _ (find_top (by simp))) ?_⟩
 simp -implicitDefEqProofs (maxSteps:=99999999) (disch:=first | omega | (simp only[vl];first | done | omega)) only[vu,va,vg,vs,vw,vk,simprocAttr]
 refine hL _ _ ?_
 clear hL
 simp -implicitDefEqProofs (maxSteps:=99999999) (disch:=first | omega | (simp only[vl];first | done | omega)) only[vu,va,vg,vs,vw,vk,simprocAttr]
 exact over_bN (.cons (.cons .refl)) rfl
end Go.Proofs.YtdjnccnecgblmaaGreatDoor
