import Derived.Test.YtdjnccnecgblmaaGreatDoorTU
import Derived.Test.YtdjnccnecgblmaaGreatDoorIc43
namespace Go.Proofs.YtdjnccnecgblmaaGreatDoor
open Go.RowKit
set_option maxRecDepth 100000
set_option linter.unusedVariables false
set_option linter.unusedSimpArgs false
theorem Over.set {H G : AHeap} (h : Over H G) {i : Nat} (hi : i < H.length) (x : Option ABlk) : Over (AHeap.set H i x) (AHeap.set G i x):=by
 induction h with
 | refl=>exact .refl
 | @cons b G hG ih =>
  rw[set_past (Nat.lt_of_lt_of_le hi hG.len)]
  exact .cons ih
theorem cnt_idem {H : AHeap} {id : Nat} {b : ABlk} (h : AHeap.find H id=some b) : AHeap.set H id (some b)=H:=by
 induction H with
 | nil=>rfl
 | cons x r ih =>
  by_cases e : id=r.length
  ·subst e
   rw[AHeap.find_new] at h
   rw[set_top rfl,h]
  ·have hl : id < r.length:=by have:=AHeap.find_lt h;simp at this;omega
   rw[AHeap.find_cons hl] at h
   rw[set_past hl,ih h]
end Go.Proofs.YtdjnccnecgblmaaGreatDoor
namespace Go.Proofs.YtdjnccnecgblmaaGreatDoor
open Go.RowKit
set_option maxRecDepth 100000
set_option linter.unusedVariables false
set_option linter.unusedSimpArgs false
mutual
def bulk : Nd→Int→Int
 | ⟨_,s,_,l⟩,most=>bulkL l most (1+((s.size / 8 : Nat) : Int))
def bulkL : List Nd→Int→Int→Int
 | [],_,c=>c
 | t :: r,most,c=>if c ≤ most then bulkL r most (c+bulk t (most - c)) else c
end
theorem bulk_eq (t : Nd) (most : Int) : bulk t most=bulkL t.kids most (1+((t.text.size / 8 : Nat) : Int)):=by
 cases t;simp only[bulk,Nd.kids,Nd.text]
theorem bulk_lo (t : Nd) : ∀ most,1 ≤ bulk t most:=by
 induction t using Nd.ind with
 | _ t ih =>
  intro most
  rw[bulk_eq]
  have key : ∀ (l : List Nd) (c : Int),(∀ k ∈ l,∀ m,1 ≤ bulk k m)→1 ≤ c→1 ≤ bulkL l most c:=by
   intro l
   induction l with
   | nil=>intro c _ h;simpa [bulkL] using h
   | cons x r ihr =>
    intro c hx hc
    unfold bulkL
    split
    ·exact ihr _ (fun k hk=>hx k (by simp[hk])) (by have:=hx x (by simp) (most - c);omega)
    ·exact hc
  exact key _ _ ih (by omega)
end Go.Proofs.YtdjnccnecgblmaaGreatDoor
namespace Go.Proofs.YtdjnccnecgblmaaGreatDoor
open Go.RowKit
set_option maxRecDepth 100000
set_option linter.unusedVariables false
set_option linter.unusedSimpArgs false
mutual
def Nd.wt : Nd→Nat
 | ⟨_,s,_,l⟩=>1+s.size+Nd.wtL l
def Nd.wtL : List Nd→Nat
 | []=>0
 | t :: r=>t.wt+Nd.wtL r
end
theorem Nd.wt_eq (t : Nd) : t.wt=1+t.text.size+Nd.wtL t.kids:=by cases t;simp[Nd.wt,Nd.kids,Nd.text]
theorem Nd.wtL_mem {l : List Nd} {t : Nd} (h : t ∈ l) : t.wt ≤ Nd.wtL l:=by
 induction l with
 | nil=>cases h
 | cons x r ih =>
  rcases List.mem_cons.1 h with rfl | h
  ·simp only[Nd.wtL];omega
  ·have:=ih h;simp only[Nd.wtL];omega
theorem Nd.wt_pos (t : Nd) : 0 < t.wt:=by rw[Nd.wt_eq];omega
theorem Nd.wtL_len (l : List Nd) : l.length ≤ Nd.wtL l:=by
 induction l with
 | nil=>simp[Nd.wtL]
 | cons x r ih=>have:=x.wt_pos;simp only[List.length_cons,Nd.wtL];omega
theorem bulk_hi (t : Nd) : ∀ most,bulk t most ≤ t.wt:=by
 induction t using Nd.ind with
 | _ t ih =>
  intro most
  rw[bulk_eq,Nd.wt_eq]
  have key : ∀ (l : List Nd) (c : Int),(∀ k ∈ l,∀ m,bulk k m ≤ k.wt)→bulkL l most c ≤ c+Nd.wtL l:=by
   intro l
   induction l with
   | nil=>intro c _;simp[bulkL,Nd.wtL]
   | cons x r ihr =>
    intro c hx
    unfold bulkL
    simp only[Nd.wtL]
    split
    ·have:=ihr (c+bulk x (most - c)) (fun k hk=>hx k (by simp[hk]))
     have:=hx x (by simp) (most - c)
     omega
    ·omega
  have:=key t.kids (1+((t.text.size / 8 : Nat) : Int)) ih
  omega
theorem bulkL_ge (most : Int) : ∀ (l : List Nd) (c : Int),c ≤ bulkL l most c
 | [],c=>by simp[bulkL]
 | t :: r,c=>by
  unfold bulkL
  split
  ·have:=bulkL_ge most r (c+bulk t (most - c))
   have:=bulk_lo t (most - c)
   omega
  ·omega
theorem bulkL_drop {l : List Nd} {k : Nat} (h : k < l.length) (most c : Int) : bulkL (l.drop k) most c=if c ≤ most then bulkL (l.drop (k+1)) most (c+bulk (nthN l k) (most - c)) else c:=by
 rw[List.drop_eq_getElem_cons h,nthN_eq h]
 simp only[bulkL]
theorem wtL_drop {l : List Nd} {k : Nat} (h : k < l.length) : Nd.wtL (l.drop k)=(nthN l k).wt+Nd.wtL (l.drop (k+1)):=by
 rw[List.drop_eq_getElem_cons h,nthN_eq h]
 simp only[Nd.wtL]
set_option maxHeartbeats 0 in
theorem nodesOf_d (t : Nd) : ∀ (ro : Option (List AV)) (most : Int) (hm : 0 ≤ most ∧ most ≤ 1000000) (hz : t.wt ≤ 2000000) (H : AHeap),D Tryz.prog 160 [ndR t ro,.sc (.int .i64 most)] H (.ret (.sc (.int .i64 (bulk t most)))) H:=by
 induction t using Nd.ind with
 | _ t ih =>
  intro ro most hm hz H
  have hwe:=Nd.wt_eq t
  have hkl:=Nd.wtL_len t.kids
  have hq : ((t.text.size : Int)).tdiv 8=((t.text.size / 8 : Nat) : Int):=by
   rw[Int.tdiv_eq_ediv_of_nonneg (by omega)]
   omega
  rw[ndR_eq]
  refine D_of_DK (Nat.le_refl _) (dk160 (E_of_ES ?_))
  simp only[ic160,ux]
  refine ES_seq_gen fun L hL=>?_
  simp -implicitDefEqProofs (maxSteps:=99999999) (disch:=first | omega | (simp only[vl];first | done | omega)) only[vu,va,vg,vs,vw,vk,simprocAttr]
  refine hL _ _ ?_
  clear hL
  refine ES_seq_gen fun L hL=>?_
  simp -implicitDefEqProofs (maxSteps:=99999999) (disch:=first | omega | (simp only[vl];first | done | omega)) only[vu,hq,va,vg,vs,vw,vk,simprocAttr]
  refine hL _ _ ?_
  clear hL
  refine ES_seq_gen fun L hL=>?_
  simp -implicitDefEqProofs (maxSteps:=99999999) (disch:=first | omega | (simp only[vl];first | done | omega)) only[vu,va,vg,vs,vw,vk,simprocAttr]
  refine ES_loopL (fun ts F=>∃ (k : Nat) (c : Int),(k ≤ t.kids.length ∧ 0 ≤ c ∧ c+Nd.wtL (t.kids.drop k) ≤ t.wt ∧ bulkL (t.kids.drop k) most c=bulk t most) ∧ F=some ⟨4,[.agg [.sc (.int .u8 t.kind),.sc (.string t.text),.sc (.int .i64 t.num),.lst 4 (ndL t.kids) ro]],true,143⟩ :: H ∧ Fr [none,some (.sc (.int .i64 most)),some (.ptr 4 H.length 0 0),none,none,some (.sc (.int .i64 c)),some (.sc (.int .i64 k)),none,none,none,none,none,none,none,none,none,none,none,none,none,none,none,none,none,none,none,none,none,none,none,none,none,none,none,none,none] ts) (fun ts _=>t.kids.length - (intV (ts.getD 6 .top)).toNat) ?_ ?_
  ·refine ⟨0,1+((t.text.size / 8 : Nat) : Int),⟨Nat.zero_le _,by omega,?_,(bulk_eq t most).symm⟩,rfl,by simp[Fr]⟩
   rw[List.drop_zero]
   omega
  rintro ts F ⟨k,c,⟨hk,hc0,hc1,hb⟩,rfl,hfr⟩ L2 hL2
  obtain ⟨js,rfl⟩:=hfr.opened
  clear hfr
  by_cases hd : k < t.kids.length
  ·have d1 : (k : Int) < t.kids.length:=by omega
   have hg:=ndL_get hd
   have hmem:=nthN_mem hd
   have hwm:=Nd.wtL_mem hmem
   rw[bulkL_drop hd] at hb
   rw[wtL_drop hd] at hc1
   by_cases d2 : c ≤ most
   ·rw[if_pos d2] at hb
    have hi:=fun H=>ih _ hmem none (most - c) (by omega) (by omega) H
    have hhi:=bulk_hi (nthN t.kids k) (most - c)
    have hlo:=bulk_lo (nthN t.kids k) (most - c)
    rw[ndR_eq] at hi
    simp -implicitDefEqProofs (maxSteps:=99999999) (disch:=first | omega | (simp only[vl];first | done | omega)) only[mk,d1,d2,hg,ndL_length,va,vg,vs,vw,vk,simprocAttr]
    refine ⟨by omega,callR_ret (hi _) ?_⟩
    simp -implicitDefEqProofs (maxSteps:=99999999) (disch:=first | omega | (simp only[vl];first | done | omega)) only[vu,va,vg,vs,vw,vk,simprocAttr]
    exact hL2 _ _ ⟨k+1,_,⟨by omega,by omega,by omega,hb⟩,rfl,by simp[Fr]⟩ (by simp[intV,mk];omega)
   ·rw[if_neg d2] at hb
    simp -implicitDefEqProofs (maxSteps:=99999999) (disch:=first | omega | (simp only[vl];first | done | omega)) only[mk,d1,d2,ndL_length,va,vg,vs,vw,vk,simprocAttr]
    refine hL _ _ ?_
    clear hL
    simp -implicitDefEqProofs (maxSteps:=99999999) (disch:=first | omega | (simp only[vl];first | done | omega)) only[va,vg,vs,vw,vk,simprocAttr]
    rw[hb]
    exact weak_sc (.cons .refl)
  ·have d1 : ¬ (k : Int) < t.kids.length:=by omega
   have e : t.kids.drop k=[]:=List.drop_of_length_le (by omega)
   rw[e] at hb
   simp only[bulkL] at hb
   simp -implicitDefEqProofs (maxSteps:=99999999) (disch:=first | omega | (simp only[vl];first | done | omega)) only[mk,d1,ndL_length,va,vg,vs,vw,vk,simprocAttr]
   refine hL _ _ ?_
   clear hL
   simp -implicitDefEqProofs (maxSteps:=99999999) (disch:=first | omega | (simp only[vl];first | done | omega)) only[va,vg,vs,vw,vk,simprocAttr]
   rw[hb]
   exact weak_sc (.cons .refl)
end Go.Proofs.YtdjnccnecgblmaaGreatDoor
