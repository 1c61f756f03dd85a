import Derived.Test.YtfnahogjkgcklaaGreatDoorS242
import Derived.Test.YtfnahogjkgcklaaGreatDoorIc43
namespace Go.Proofs.YtfnahogjkgcklaaGreatDoor
open Go.RowKit
set_option maxRecDepth 100000
set_option linter.unusedVariables false
set_option linter.unusedSimpArgs false
theorem weak_set {H G : AHeap} {id : Nat} {k : ABlk} {x y : AV} (hid : id < H.length) (hk : AV.idsL (· < H.length) k.es) (h : Over (AHeap.set H id (some k)) G) (hz : Fz G H.length x y) : Weak H (.ret x) G (.ret y) (AHeap.set H id (some k)):=by
 obtain ⟨A,rfl⟩:=h.split
 have hl : (AHeap.set H id (some k)).length=H.length:=AHeap.set_length ..
 refine weak_ret (by rw[hl];exact Nat.le_refl _) (fun i b hb=>?_) (by rw[hl];exact hz)
 by_cases e : i=id
 ·subst e
  rw[AHeap.find_set_same hid] at hb
  cases hb
  exact .inr (by rw[hl];exact hk)
 ·rw[AHeap.find_set_ne e] at hb
  exact .inl ⟨AHeap.find_lt hb,hb⟩
theorem Over.set {H G : AHeap} (h : Over H G) {i : Nat} (hi : i < H.length) (x : Option ABlk) : Over (AHeap.set H i x) (AHeap.set G i x):=by
 induction h with
 | refl=>exact .refl
 | @cons b G hG ih =>
  rw[set_past (Nat.lt_of_lt_of_le hi hG.len)]
  exact .cons ih
def cntB (n : Int) : ABlk:=⟨1,[.sc (.int .i64 n)],true,3⟩
theorem size1_d (t : Nd) (ro : Option (List AV)) (id : Nat) (c : Int) (hc : 0 ≤ c ∧ c ≤ 1000000) (H : AHeap) (hf : AHeap.find H id=some (cntB c)) : D Tryz.prog 39 [ndR t ro,.ptr 1 id 0 0] H (.ret (.tup [])) (AHeap.set H id (some (cntB (c+1)))):=by
 have hid:=AHeap.find_lt hf
 unfold cntB at hf
 rw[ndR_eq]
 refine D_of_DK (by rw[AHeap.set_length];exact Nat.le_refl _) (dk39 (E_of_ES ?_))
 simp only[ic39,ux]
 refine ES_seq_gen fun L hL=>?_
 simp -implicitDefEqProofs (maxSteps:=99999999) (disch:=first | omega | (simp only[vl];first | done | omega)) only[vu,hf,va,vg,vs,vw,vk,simprocAttr]
 refine hL _ _ ?_
 clear hL
 simp -implicitDefEqProofs (maxSteps:=99999999) (disch:=first | omega | (simp only[vl];first | done | omega)) only[vu,hf,va,vg,vs,vw,vk,simprocAttr]
 exact weak_set hid ⟨trivial,trivial⟩ (.cons .refl) (.same trivial)
theorem sizeL_take {l : List Nd} {k : Nat} (h : k < l.length) : Nd.sizeL (l.take (k+1))=Nd.sizeL (l.take k)+(nthN l k).size:=by
 rw[List.take_succ_eq_append_getElem h,Nd.sizeL_append,nthN_eq h]
 simp[Nd.sizeL]
theorem sizeL_le (l : List Nd) (k : Nat) : Nd.sizeL (l.take k) ≤ Nd.sizeL l:=by
 have:=Nd.sizeL_append (l.take k) (l.drop k)
 rw[List.take_append_drop] at this
 omega
theorem cnt_idem {H : AHeap} {id : Nat} {b : ABlk} (h : AHeap.find H id=some b) : AHeap.set H id (some b)=H:=by
 induction H with
 | nil=>rfl
 | cons x r ih =>
  by_cases e : id=r.length
  ·subst e
   rw[AHeap.find_new] at h
   rw[set_top rfl,h]
  ·have hl : id < r.length:=by have:=AHeap.find_lt h;simp at this;omega
   rw[AHeap.find_cons hl] at h
   rw[set_past hl,ih h]
def eachE (l : List Nd) : Prop:=∀ (ro : Option (List AV)) (c : Int) (id : Nat) (H : AHeap),0 ≤ c→c+Nd.sizeL l ≤ 1000000→AHeap.find H id=some (cntB c)→D Tryz.prog 29 [.fn (.func 39) [] [.ptr 1 id 0 0],.lst 4 (ndL l) ro] H (.ret (.tup [])) (AHeap.set H id (some (cntB (c+Nd.sizeL l))))
set_option maxHeartbeats 0 in
theorem eachE_of (l : List Nd) (ih : ∀ a ∈ l,eachE a.kids) : eachE l:=by
 intro ro c id H hc0 hc hf
 have hid:=AHeap.find_lt hf
 have hl:=Nd.len_le l
 have cl : callable Tryz.prog 39=true:=by kernel_rfl
 refine D_of_DK (by rw[AHeap.set_length];exact Nat.le_refl _) (dk29 (E_of_ES ?_))
 simp only[ic29,ux]
 refine ES_seq_gen fun L hL=>?_
 simp -implicitDefEqProofs (maxSteps:=99999999) (disch:=first | omega | (simp only[vl];first | done | omega)) only[vu,ndL_length,va,vg,vs,vw,vk,simprocAttr]
 refine hL _ _ ?_
 clear hL
 simp -implicitDefEqProofs (maxSteps:=99999999) (disch:=first | omega | (simp only[vl];first | done | omega)) only[vu,ndL_length,va,vg,vs,vw,vk,simprocAttr]
 refine ES_loopL (fun ts F=>∃ k : Nat,k ≤ l.length ∧ Over (AHeap.set H id (some (cntB (c+Nd.sizeL (l.take k))))) F ∧ Fr [some (.fn (.func 39) [] [.ptr 1 id 0 0]),none,none,none,none,none,some (.lst 4 (ndL l) ro),some (.sc (.int .i64 l.length)),some (.sc (.int .i64 k)),none,none,none,none,none,none,none,none,none,none,none] ts) (fun ts _=>l.length - (intV (ts.getD 8 .top)).toNat) ?_ ?_
 ·refine ⟨0,Nat.zero_le _,?_,by simp[Fr]⟩
  rw[List.take_zero,show c+((Nd.sizeL [] : Nat) : Int)=c by simp[Nd.sizeL],cnt_idem hf]
  exact .refl
 rintro ts F ⟨k,hk,hF,hfr⟩ L2 hL2
 obtain ⟨js,rfl⟩:=hfr.opened
 clear hfr
 have hsl : (AHeap.set H id (some (cntB (c+Nd.sizeL (l.take k))))).length=H.length:=AHeap.set_length ..
 have hFl:=hF.len
 rw[hsl] at hFl
 by_cases hd : k < l.length
 ·have d1 : (k : Int) < l.length:=by omega
  have hg:=ndL_get hd
  have hmem:=nthN_mem hd
  have htk:=sizeL_take hd
  have hle:=sizeL_le l (k+1)
  have hse:=Nd.size_eq (nthN l k)
  have hfF : AHeap.find F id=some (cntB (c+Nd.sizeL (l.take k))):=by
   rw[hF.find (by rw[hsl];exact hid),AHeap.find_set_same hid]
  have hs1:=size1_d (nthN l k) none id (c+Nd.sizeL (l.take k)) (by omega)
  rw[ndR_eq] at hs1
  simp -implicitDefEqProofs (maxSteps:=99999999) (disch:=first | omega | (simp only[vl];first | done | omega)) only[mk,d1,hg,ndL_length,va,vg,vs,vw,vk,simprocAttr]
  refine ⟨by omega,cl,callR_ret (hs1 _ (by rw[find_past (by omega),hfF])) ?_⟩
  simp -implicitDefEqProofs (maxSteps:=99999999) (disch:=first | omega | (simp only[vl];first | done | omega)) only[vu,va,vg,vs,vw,vk,simprocAttr]
  refine callR_ret (ih _ hmem none (c+Nd.sizeL (l.take k)+1) id _ (by omega) (by omega) (by rw[find_past (by rw[AHeap.set_length];omega),AHeap.find_set_same (by omega)])) ?_
  simp -implicitDefEqProofs (maxSteps:=99999999) (disch:=first | omega | (simp only[vl];first | done | omega)) only[vu,va,vg,vs,vw,vk,simprocAttr]
  refine hL2 _ _ ⟨k+1,by omega,?_,by simp[Fr]⟩ (by simp[intV,mk];omega)
  rw[htk]
  refine .cons ?_
  have:=hF.set (i:=id) (by rw[hsl];exact hid) (some (cntB (c+Nd.sizeL (l.take k)+1+Nd.sizeL (nthN l k).kids)))
  rw[set_set] at this
  rw[hse,show c+((Nd.sizeL (l.take k)+(1+Nd.sizeL (nthN l k).kids) : Nat) : Int)=c+Nd.sizeL (l.take k)+1+Nd.sizeL (nthN l k).kids by omega,set_set]
  exact this
 ·have d1 : ¬ (k : Int) < l.length:=by omega
  have e : l.take k=l:=List.take_of_length_le (by omega)
  rw[e] at hF
  simp -implicitDefEqProofs (maxSteps:=99999999) (disch:=first | omega | (simp only[vl];first | done | omega)) only[mk,d1,va,vg,vs,vw,vk,simprocAttr]
  exact weak_set hid ⟨trivial,trivial⟩ hF (.same trivial)
theorem eachE_all (l : List Nd) : eachE l:=by
 have key : ∀ t : Nd,eachE t.kids:=fun t=>by
  induction t using Nd.ind with
  | _ t ih=>exact eachE_of _ ih
 exact eachE_of l fun a _=>key a
theorem size_d (t : Nd) (hz : t.size ≤ 1000000) (H : AHeap) : D Tryz.prog 16 [ndR t none] H (.ret (.sc (.int .i64 t.size))) H:=by
 have hE:=eachE_all [⟨t.kind,t.text,t.num,t.kids⟩]
 unfold eachE at hE
 have hs : Nd.sizeL [⟨t.kind,t.text,t.num,t.kids⟩]=t.size:=by simp[Nd.sizeL,Nd.size,Nd.size_eq t]
 have hL : ndL [⟨t.kind,t.text,t.num,t.kids⟩]=[.agg [.sc (.int .u8 t.kind),.sc (.string t.text),.sc (.int .i64 t.num),.lst 4 (ndL t.kids) none]]:=by simp[ndL,ndA]
 rw[hs,hL] at hE
 unfold cntB at hE
 rw[ndR_eq]
 refine D_of_DK (Nat.le_refl _) (dk16 (E_of_ES ?_))
 simp only[ic16,ux]
 refine ES_seq_gen fun L hL=>?_
 simp -implicitDefEqProofs (maxSteps:=99999999) (disch:=first | omega | (simp only[vl];first | done | omega)) only[vu,va,vg,vs,vw,vk,simprocAttr]
 refine hL _ _ ?_
 clear hL
 refine ES_seq_gen fun L hL=>?_
 simp -implicitDefEqProofs (maxSteps:=99999999) (disch:=first | omega | (simp only[vl];first | done | omega)) only[vu,va,vg,vs,vw,vk,simprocAttr]
 refine hL _ _ ?_
 clear hL
 refine ES_seq_gen fun L hL=>?_
 simp -implicitDefEqProofs (maxSteps:=99999999) (disch:=first | omega | (simp only[vl];first | done | omega)) only[vu,va,vg,vs,vw,vk,simprocAttr]
 refine callR_ret (hE (some []) 0 (H.length+1) _ (by omega) (by omega) (find_top (by simp))) ?_
 simp -implicitDefEqProofs (maxSteps:=99999999) (disch:=first | omega | (simp only[vl];first | done | omega)) only[vu,va,vg,vs,vw,vk,simprocAttr]
 refine hL _ _ ?_
 clear hL
 simp -implicitDefEqProofs (maxSteps:=99999999) (disch:=first | omega | (simp only[vl];first | done | omega)) only[vu,Int.zero_add,va,vg,vs,vw,vk,simprocAttr]
 exact weak_sc (.cons (.cons .refl))
end Go.Proofs.YtfnahogjkgcklaaGreatDoor
namespace Go.Proofs.YtfnahogjkgcklaaGreatDoor
open Go.RowKit
set_option maxRecDepth 100000
set_option linter.unusedVariables false
set_option linter.unusedSimpArgs false
mutual
def bulk : Nd→Int→Int
 | ⟨_,s,_,l⟩,most=>bulkL l most (1+((s.size / 8 : Nat) : Int))
def bulkL : List Nd→Int→Int→Int
 | [],_,c=>c
 | t :: r,most,c=>if c ≤ most then bulkL r most (c+bulk t (most - c)) else c
end
theorem bulk_eq (t : Nd) (most : Int) : bulk t most=bulkL t.kids most (1+((t.text.size / 8 : Nat) : Int)):=by
 cases t;simp only[bulk,Nd.kids,Nd.text]
theorem bulk_lo (t : Nd) : ∀ most,1 ≤ bulk t most:=by
 induction t using Nd.ind with
 | _ t ih =>
  intro most
  rw[bulk_eq]
  have key : ∀ (l : List Nd) (c : Int),(∀ k ∈ l,∀ m,1 ≤ bulk k m)→1 ≤ c→1 ≤ bulkL l most c:=by
   intro l
   induction l with
   | nil=>intro c _ h;simpa [bulkL] using h
   | cons x r ihr =>
    intro c hx hc
    unfold bulkL
    split
    ·exact ihr _ (fun k hk=>hx k (by simp[hk])) (by have:=hx x (by simp) (most - c);omega)
    ·exact hc
  exact key _ _ ih (by omega)
end Go.Proofs.YtfnahogjkgcklaaGreatDoor
namespace Go.Proofs.YtfnahogjkgcklaaGreatDoor
open Go.RowKit
set_option maxRecDepth 100000
set_option linter.unusedVariables false
set_option linter.unusedSimpArgs false
mutual
def Nd.wt : Nd→Nat
 | ⟨_,s,_,l⟩=>1+s.size+Nd.wtL l
def Nd.wtL : List Nd→Nat
 | []=>0
 | t :: r=>t.wt+Nd.wtL r
end
theorem Nd.wt_eq (t : Nd) : t.wt=1+t.text.size+Nd.wtL t.kids:=by cases t;simp[Nd.wt,Nd.kids,Nd.text]
theorem Nd.wtL_mem {l : List Nd} {t : Nd} (h : t ∈ l) : t.wt ≤ Nd.wtL l:=by
 induction l with
 | nil=>cases h
 | cons x r ih =>
  rcases List.mem_cons.1 h with rfl | h
  ·simp only[Nd.wtL];omega
  ·have:=ih h;simp only[Nd.wtL];omega
theorem Nd.wt_pos (t : Nd) : 0 < t.wt:=by rw[Nd.wt_eq];omega
theorem Nd.wtL_len (l : List Nd) : l.length ≤ Nd.wtL l:=by
 induction l with
 | nil=>simp[Nd.wtL]
 | cons x r ih=>have:=x.wt_pos;simp only[List.length_cons,Nd.wtL];omega
theorem bulk_hi (t : Nd) : ∀ most,bulk t most ≤ t.wt:=by
 induction t using Nd.ind with
 | _ t ih =>
  intro most
  rw[bulk_eq,Nd.wt_eq]
  have key : ∀ (l : List Nd) (c : Int),(∀ k ∈ l,∀ m,bulk k m ≤ k.wt)→bulkL l most c ≤ c+Nd.wtL l:=by
   intro l
   induction l with
   | nil=>intro c _;simp[bulkL,Nd.wtL]
   | cons x r ihr =>
    intro c hx
    unfold bulkL
    simp only[Nd.wtL]
    split
    ·have:=ihr (c+bulk x (most - c)) (fun k hk=>hx k (by simp[hk]))
     have:=hx x (by simp) (most - c)
     omega
    ·omega
  have:=key t.kids (1+((t.text.size / 8 : Nat) : Int)) ih
  omega
theorem bulkL_ge (most : Int) : ∀ (l : List Nd) (c : Int),c ≤ bulkL l most c
 | [],c=>by simp[bulkL]
 | t :: r,c=>by
  unfold bulkL
  split
  ·have:=bulkL_ge most r (c+bulk t (most - c))
   have:=bulk_lo t (most - c)
   omega
  ·omega
theorem bulk_size (t : Nd) : ∀ most,bulk t most ≤ most→(t.size : Int) ≤ bulk t most:=by
 induction t using Nd.ind with
 | _ t ih =>
  intro most h
  rw[bulk_eq] at h ⊢
  rw[Nd.size_eq]
  have key : ∀ (l : List Nd) (c : Int),(∀ k ∈ l,∀ m,bulk k m ≤ m→(k.size : Int) ≤ bulk k m)→bulkL l most c ≤ most→c+Nd.sizeL l ≤ bulkL l most c:=by
   intro l
   induction l with
   | nil=>intro c _ _;simp[bulkL,Nd.sizeL]
   | cons x r ihr =>
    intro c hx hc
    unfold bulkL at hc ⊢
    simp only[Nd.sizeL]
    split at hc
    ·rename_i h1
     rw[if_pos h1]
     have h2:=bulkL_ge most r (c+bulk x (most - c))
     have h3:=hx x (by simp) (most - c) (by omega)
     have h4:=ihr (c+bulk x (most - c)) (fun k hk=>hx k (by simp[hk])) hc
     omega
    ·omega
  have:=key t.kids (1+((t.text.size / 8 : Nat) : Int)) ih h
  omega
theorem bulkL_drop {l : List Nd} {k : Nat} (h : k < l.length) (most c : Int) : bulkL (l.drop k) most c=if c ≤ most then bulkL (l.drop (k+1)) most (c+bulk (nthN l k) (most - c)) else c:=by
 rw[List.drop_eq_getElem_cons h,nthN_eq h]
 simp only[bulkL]
theorem wtL_drop {l : List Nd} {k : Nat} (h : k < l.length) : Nd.wtL (l.drop k)=(nthN l k).wt+Nd.wtL (l.drop (k+1)):=by
 rw[List.drop_eq_getElem_cons h,nthN_eq h]
 simp only[Nd.wtL]
set_option maxHeartbeats 0 in
theorem nodesOf_d (t : Nd) : ∀ (ro : Option (List AV)) (most : Int) (hm : 0 ≤ most ∧ most ≤ 1000000) (hz : t.wt ≤ 2000000) (H : AHeap),D Tryz.prog 18 [ndR t ro,.sc (.int .i64 most)] H (.ret (.sc (.int .i64 (bulk t most)))) H:=by
 induction t using Nd.ind with
 | _ t ih =>
  intro ro most hm hz H
  have hwe:=Nd.wt_eq t
  have hkl:=Nd.wtL_len t.kids
  have hq : ((t.text.size : Int)).tdiv 8=((t.text.size / 8 : Nat) : Int):=by
   rw[Int.tdiv_eq_ediv_of_nonneg (by omega)]
   omega
  rw[ndR_eq]
  refine D_of_DK (Nat.le_refl _) (dk18 (E_of_ES ?_))
  simp only[ic18,ux]
  refine ES_seq_gen fun L hL=>?_
  simp -implicitDefEqProofs (maxSteps:=99999999) (disch:=first | omega | (simp only[vl];first | done | omega)) only[vu,va,vg,vs,vw,vk,simprocAttr]
  refine hL _ _ ?_
  clear hL
  refine ES_seq_gen fun L hL=>?_
  simp -implicitDefEqProofs (maxSteps:=99999999) (disch:=first | omega | (simp only[vl];first | done | omega)) only[vu,hq,va,vg,vs,vw,vk,simprocAttr]
  refine hL _ _ ?_
  clear hL
  refine ES_seq_gen fun L hL=>?_
  simp -implicitDefEqProofs (maxSteps:=99999999) (disch:=first | omega | (simp only[vl];first | done | omega)) only[vu,va,vg,vs,vw,vk,simprocAttr]
  refine ES_loopL (fun ts F=>∃ (k : Nat) (c : Int),(k ≤ t.kids.length ∧ 0 ≤ c ∧ c+Nd.wtL (t.kids.drop k) ≤ t.wt ∧ bulkL (t.kids.drop k) most c=bulk t most) ∧ F=some ⟨4,[.agg [.sc (.int .u8 t.kind),.sc (.string t.text),.sc (.int .i64 t.num),.lst 4 (ndL t.kids) ro]],true,25⟩ :: H ∧ Fr [none,some (.sc (.int .i64 most)),some (.ptr 4 H.length 0 0),none,none,some (.sc (.int .i64 c)),some (.sc (.int .i64 k)),none,none,none,none,none,none,none,none,none,none,none,none,none,none,none,none,none,none,none,none,none,none,none,none,none,none,none,none,none] ts) (fun ts _=>t.kids.length - (intV (ts.getD 6 .top)).toNat) ?_ ?_
  ·refine ⟨0,1+((t.text.size / 8 : Nat) : Int),⟨Nat.zero_le _,by omega,?_,(bulk_eq t most).symm⟩,rfl,by simp[Fr]⟩
   rw[List.drop_zero]
   omega
  rintro ts F ⟨k,c,⟨hk,hc0,hc1,hb⟩,rfl,hfr⟩ L2 hL2
  obtain ⟨js,rfl⟩:=hfr.opened
  clear hfr
  by_cases hd : k < t.kids.length
  ·have d1 : (k : Int) < t.kids.length:=by omega
   have hg:=ndL_get hd
   have hmem:=nthN_mem hd
   have hwm:=Nd.wtL_mem hmem
   rw[bulkL_drop hd] at hb
   rw[wtL_drop hd] at hc1
   by_cases d2 : c ≤ most
   ·rw[if_pos d2] at hb
    have hi:=fun H=>ih _ hmem none (most - c) (by omega) (by omega) H
    have hhi:=bulk_hi (nthN t.kids k) (most - c)
    have hlo:=bulk_lo (nthN t.kids k) (most - c)
    rw[ndR_eq] at hi
    simp -implicitDefEqProofs (maxSteps:=99999999) (disch:=first | omega | (simp only[vl];first | done | omega)) only[mk,d1,d2,hg,ndL_length,va,vg,vs,vw,vk,simprocAttr]
    refine ⟨by omega,callR_ret (hi _) ?_⟩
    simp -implicitDefEqProofs (maxSteps:=99999999) (disch:=first | omega | (simp only[vl];first | done | omega)) only[vu,va,vg,vs,vw,vk,simprocAttr]
    exact hL2 _ _ ⟨k+1,_,⟨by omega,by omega,by omega,hb⟩,rfl,by simp[Fr]⟩ (by simp[intV,mk];omega)
   ·rw[if_neg d2] at hb
    simp -implicitDefEqProofs (maxSteps:=99999999) (disch:=first | omega | (simp only[vl];first | done | omega)) only[mk,d1,d2,ndL_length,va,vg,vs,vw,vk,simprocAttr]
    refine hL _ _ ?_
    clear hL
    simp -implicitDefEqProofs (maxSteps:=99999999) (disch:=first | omega | (simp only[vl];first | done | omega)) only[va,vg,vs,vw,vk,simprocAttr]
    rw[hb]
    exact weak_sc (.cons .refl)
  ·have d1 : ¬ (k : Int) < t.kids.length:=by omega
   have e : t.kids.drop k=[]:=List.drop_of_length_le (by omega)
   rw[e] at hb
   simp only[bulkL] at hb
   simp -implicitDefEqProofs (maxSteps:=99999999) (disch:=first | omega | (simp only[vl];first | done | omega)) only[mk,d1,ndL_length,va,vg,vs,vw,vk,simprocAttr]
   refine hL _ _ ?_
   clear hL
   simp -implicitDefEqProofs (maxSteps:=99999999) (disch:=first | omega | (simp only[vl];first | done | omega)) only[va,vg,vs,vw,vk,simprocAttr]
   rw[hb]
   exact weak_sc (.cons .refl)
end Go.Proofs.YtfnahogjkgcklaaGreatDoor
