import Derived.Test.YtfnahogjkgcklaaGreatDoorTG
import Derived.Test.YtfnahogjkgcklaaGreatDoorIc43
namespace Go.Proofs.YtfnahogjkgcklaaGreatDoor
open Go.RowKit
set_option maxRecDepth 100000
set_option linter.unusedVariables false
set_option linter.unusedSimpArgs false
def ownN (t : Nd) (i : Nat) : AV:=.agg [.sc (.int .u8 t.kind),.sc (.string t.text),.sc (.int .i64 t.num),OwnV 4 (ndL t.kids) i]
theorem ownN_eq (t : Nd) (i : Nat) : ownN t i = .agg [.sc (.int .u8 t.kind),.sc (.string t.text),.sc (.int .i64 t.num),OwnV 4 (ndL t.kids) i]:=rfl
def CopyP (l : List Nd) : Prop:=∀ (ro : Option (List AV)) (H : AHeap),Nd.sizeL l ≤ 1000000→D Tryz.prog 77 [.lst 4 (ndL l) ro] H (.ret (OwnV 4 (ndL l) H.length)) (OwnB 4 25 (ndL l) :: H)
set_option maxHeartbeats 0 in
theorem copyNode_of (t : Nd) (h : CopyP t.kids) (hz : t.size ≤ 1000000) (ro : Option (List AV)) (H : AHeap) : D Tryz.prog 42 [ndR t ro] H (.ret (ownN t H.length)) (OwnB 4 25 (ndL t.kids) :: H):=by
 have hse:=Nd.size_eq t
 have hk:=fun H=>h ro H (by omega)
 rw[ndR_eq]
 refine D_of_DK (by simp) (dk42 (E_of_ES ?_))
 simp only[ic42,ux]
 refine ES_seq_gen fun L hL=>?_
 simp -implicitDefEqProofs (maxSteps:=99999999) (disch:=first | omega | (simp only[vl];first | done | omega)) only[vu,va,vg,vs,vw,vk,simprocAttr]
 refine hL _ _ ?_
 clear hL
 refine ES_seq_gen fun L hL=>?_
 simp -implicitDefEqProofs (maxSteps:=99999999) (disch:=first | omega | (simp only[vl];first | done | omega)) only[vu,va,vg,vs,vw,vk,simprocAttr]
 refine callR_ret (hk _) ?_
 simp only[List.length_cons,Nat.add_assoc,Nat.reduceAdd]
 obtain ⟨kv,hkv⟩ : ∃ kv,OwnV 4 (ndL t.kids) (H.length+2)=kv:=⟨_,rfl⟩
 have k1 : kv.isTop=false ∧ kv.isAgg=false ∧ kv.ncells=1 ∧ kv.cells=[kv]:=by
  rw[← hkv]
  exact ⟨OwnV_top,OwnV_isAgg,OwnV_ncells,OwnV_cells⟩
 obtain ⟨q1,q2,q3,q4⟩:=k1
 rw[hkv]
 simp -implicitDefEqProofs (maxSteps:=99999999) (disch:=first | omega | (simp only[vl];first | done | omega)) only[vu,q1,q2,q3,q4,va,vg,vs,vw,vk,simprocAttr]
 refine hL _ _ ?_
 clear hL
 refine ES_seq_gen fun L hL=>?_
 simp -implicitDefEqProofs (maxSteps:=99999999) (disch:=first | omega | (simp only[vl];first | done | omega)) only[vu,q1,q2,q3,q4,va,vg,vs,vw,vk,simprocAttr]
 refine hL _ _ ?_
 clear hL
 simp -implicitDefEqProofs (maxSteps:=99999999) (disch:=first | omega | (simp only[vl];first | done | omega)) only[vu,q1,q2,q3,q4,va,vg,vs,vw,vk,simprocAttr]
 rw[← hkv]
 refine weak_lays (H:=H) [OwnB 4 25 (ndL t.kids)] [H.length+2] rfl (by simp) (by simp) (fun i hi=>by rw[find_past (by simp;omega),find_past (by simp;omega),find_past hi]) (fun i k s hb hs=>?_) ?_
 ·cases i with
  | zero =>
   simp only[List.getElem?_cons_zero,Option.some.injEq] at hb hs
   subst hs
   obtain ⟨hn,rfl⟩:=OwnB_some hb
   exact ⟨_,by rw[find_top (by simp),hb],rfl,rfl,fun h=>h,ndL_gz _⟩
  | succ i=>simp at hs
 ·exact .agg (.cons (.same trivial) (.cons (.same trivial) (.cons (.same trivial) (.cons (OwnV_gz fun _=>newId_one (by omega)) .nil))))
def elsN (l : List Nd) (io : Nat→Nat) (k : Nat) : List AV:=(List.range k).map fun j=>ownN (nthN l j) (io j)
theorem elsN_length {l : List Nd} {io : Nat→Nat} {k : Nat} : (elsN l io k).length=k:=by simp[elsN]
theorem elsN_succ {l : List Nd} {io : Nat→Nat} {k i : Nat} : elsN l (fun j=>if j=k then i else io j) (k+1)=elsN l io k ++ [ownN (nthN l k) i]:=by
 unfold elsN
 rw[List.range_succ,List.map_append]
 congr 1
 ·refine List.map_congr_left fun j hj=>?_
  have:=List.mem_range.1 hj
  simp only
  rw[if_neg (by omega)]
 ·simp
set_option maxHeartbeats 0 in
theorem copyNs_of (l : List Nd) (ih : ∀ t ∈ l,CopyP t.kids) : CopyP l:=by
 intro ro H hz
 have hlen:=Nd.len_le l
 refine D_of_DK (by simp) (dk77 (E_of_ES ?_))
 simp only[ic77,ux]
 have hl3:=ndL_length l
 refine ES_seq_gen fun L hL=>?_
 simp -implicitDefEqProofs (maxSteps:=99999999) (disch:=first | omega | (simp only[vl];first | done | omega)) only[va,vg,vs,vw,vk,simprocAttr]
 refine hL _ _ ?_
 clear hL
 refine ES_seq_gen fun L hL=>?_
 simp -implicitDefEqProofs (maxSteps:=99999999) (disch:=first | omega | (simp only[vl];first | done | omega)) only[va,vg,vs,vw,vk,simprocAttr]
 refine hL _ _ ?_
 clear hL
 refine ES_seq_gen fun L hL=>?_
 simp -implicitDefEqProofs (maxSteps:=99999999) (disch:=first | omega | (simp only[vl];first | done | omega)) only[va,vg,vs,vw,vk,simprocAttr]
 refine ES_loopL (fun ts G=>∃ (k oid : Nat) (io : Nat→Nat),(k ≤ l.length ∧ H.length ≤ G.length ∧ (∀ i,i < H.length→AHeap.find G i=AHeap.find H i) ∧ (elsN l io k ≠ []→AHeap.find G oid=OwnB 4 25 (elsN l io k) ∧ H.length ≤ oid ∧ oid < G.length) ∧ ∀ j,j < k→H.length ≤ io j ∧ io j < G.length ∧ (elsN l io k ≠ []→io j ≠ oid) ∧ AHeap.find G (io j)=OwnB 4 25 (ndL (nthN l j).kids)) ∧ Fr [some (.lst 4 (ndL l) ro),none,none,some (OwnV 4 (elsN l io k) oid),some (.sc (.int .i64 k)),none,none,none,none,none,none,none,none,none,none,none,none,none,none,none,none,none] ts) (fun ts _=>l.length - (intV (ts.getD 4 .top)).toNat) ?_ ?_
 ·exact ⟨0,0,fun _=>0,⟨Nat.zero_le _,Nat.le_refl _,fun _ _=>rfl,fun h=>(h rfl).elim,fun j hj=>by omega⟩,by simp[Fr,elsN,OwnV]⟩
 rintro ts G ⟨k,oid,io,⟨hk,q1,q2,q3,q4⟩,hfr⟩ L2 hL2
 obtain ⟨js,rfl⟩:=hfr.opened
 clear hfr
 by_cases hd : k < l.length
 ·have k1 : (k : Int) < l.length:=by omega
  have hg:=ndL_get hd
  have hmem:=nthN_mem hd
  have hsz:=Nd.sizeL_mem hmem
  have hcn:=copyNode_of (nthN l k) (ih _ hmem) (by omega) none G
  rw[ndR_eq] at hcn
  obtain ⟨x,hx⟩ : ∃ x,ownN (nthN l k) G.length=x:=⟨_,rfl⟩
  have hx0:=ownN_eq (nthN l k) G.length
  rw[hx] at hcn hx0
  have c1 : x.isTop=false:=by rw[hx0];rfl
  have c2 : x.isAgg=true:=by rw[hx0];rfl
  have c3 : x.ncells=4:=by rw[hx0];rfl
  have c4 : AV.agg (x.cells.take 4)=x:=by rw[hx0];rfl
  have c5 : AV.agg x.cells=x:=by rw[hx0];rfl
  have c6 : 4 ≤ x.cells.length:=by rw[hx0];exact Nat.le_refl _
  simp -implicitDefEqProofs (maxSteps:=99999999) (disch:=first | omega | (simp only[vl];first | done | omega)) only[mk,hl3,hg,k1,va,vg,vs,vw,vk,simprocAttr]
  refine ⟨by omega,callR_ret hcn ?_⟩
  have hups : (AV.agg [.sc (.int .u8 0),.sc (.string ⟨#[]⟩),.sc (.int .i64 0),.lst 0 [] (some [])]).upd 0 x=x:=by rw[hx0];rfl
  obtain ⟨oid',F',p1,p2,p3,p4,p5,p6⟩:=apAny (H:=some ⟨4,[x],true,25⟩ :: OwnB 4 25 (ndL (nthN l k).kids) :: G) (k:=4) (ty:=25) (xs:=elsN l io k) (ys:=[x]) (id:=oid) (fun e=>by
   obtain ⟨g1,g2,g3⟩:=q3 e
   rw[find_past (by simp;omega),find_past g3,g1]) (by rw[elsN_length];simp;omega)
  simp -implicitDefEqProofs (maxSteps:=99999999) (disch:=first | omega | (simp only[vl];first | done | omega)) only[c1,c2,c3,c4,c5,p1,p2,p3,va,vg,vs,vw,vk,simprocAttr]
  obtain ⟨p4a,p4b⟩:=p4 (by simp)
  simp only[List.length_cons] at p4b p5 p6
  rw[← hx] at p4a ⊢
  refine ⟨by rw[hx];exact c6,hL2 _ _ ⟨k+1,oid',fun j=>if j=k then G.length else io j,⟨by omega,by omega,fun i hi=>?_,fun _=>?_,fun j hj=>?_⟩,by rw[elsN_succ];simp[Fr]⟩ (by simp[intV,mk];omega)⟩
  ·rw[p6 i (by omega) (fun e=>by have:=(q3 e).2.1;omega),find_past (by simp;omega),find_past (by omega),q2 i hi]
  ·rw[elsN_succ]
   have hlt' : oid' < F'.length:=by
    have h9:=p4a
    rw[OwnB_ne (by simp)] at h9
    exact AHeap.find_lt h9
   exact ⟨p4a,by omega,hlt'⟩
  ·simp only
   split
   ·rename_i e
    subst e
    refine ⟨by omega,by omega,fun _=>by omega,?_⟩
    rw[p6 _ (by omega) (fun e=>by have:=(q3 e).2.2;omega),find_past (by simp),find_top rfl]
   ·rename_i e
    obtain ⟨s1,s2,s3,s4⟩:=q4 j (by omega)
    refine ⟨s1,by omega,fun _=>by omega,?_⟩
    rw[p6 _ (by omega) s3,find_past (by simp;omega),find_past s2,s4]
 ·have k1 : ¬ (k : Int) < l.length:=by omega
  simp -implicitDefEqProofs (maxSteps:=99999999) (disch:=first | omega | (simp only[vl];first | done | omega)) only[mk,hl3,k1,va,vg,vs,vw,vk,simprocAttr]
  refine hL _ _ ?_
  clear hL
  simp -implicitDefEqProofs (maxSteps:=99999999) (disch:=first | omega | (simp only[vl];first | done | omega)) only[OwnV_top,OwnV_ncells,OwnV_isAgg,OwnV_cells,va,vg,vs,vw,vk,simprocAttr]
  have hkl : k=l.length:=by omega
  subst hkl
  by_cases e : l=[]
  ·subst e
   have hO : OwnV 4 (elsN [] io ([] : List Nd).length) oid = .lst 0 [] (some []):=rfl
   have hO2 : OwnV 4 (ndL []) H.length = .lst 0 [] (some []):=rfl
   rw[hO,hO2]
   exact weak_lays (H:=H) [OwnB 4 25 (ndL [])] [H.length] rfl (by simp) (by simp) q2 (fun i k s hb hs=>by
    cases i with
    | zero=>simp[OwnB,ndL] at hb
    | succ i=>simp at hs) .nil0
  ·have hel : elsN l io l.length ≠ []:=fun h=>e (by
    have:=congrArg List.length h
    rw[elsN_length] at this
    exact List.length_eq_zero_iff.1 (by simpa using this))
   obtain ⟨r1,r2,r3⟩:=q3 hel
   have hgz : GzL G H.length [oid] (elsN l io l.length) (ndL l):=by
    have key : ∀ L : List Nat,(∀ j ∈ L,j < l.length)→GzL G H.length [oid] (L.map fun j=>ownN (nthN l j) (io j)) (L.map fun j=>ndA (nthN l j)):=by
     intro L
     induction L with
     | nil=>intro _;exact .nil
     | cons j r ih =>
      intro h
      obtain ⟨s1,s2,s3,s4⟩:=q4 j (h j (by simp))
      refine .cons ?_ (ih fun i hi=>h i (by simp[hi]))
      show Gz G H.length [oid] (ownN (nthN l j) (io j)) (ndA (nthN l j))
      rw[ownN_eq,ndA_eq]
      have hno : newId H.length [oid] (io j)=none:=by
       unfold newId
       rw[if_neg (by omega)]
       have:=s3 hel
       simp[List.idxOf?_cons,Ne.symm this]
      exact .agg (.cons (.same trivial) (.cons (.same trivial) (.cons (.same trivial) (.cons (OwnV_fz (fun _=>hno) (fun _=>s4) (ndL_gz _)) .nil))))
    have e2 : ndL l=(List.range l.length).map fun j=>ndA (nthN l j):=by
     apply List.ext_getElem
     ·simp[ndL_length]
     ·intro i h1 h2
      have hi : i < l.length:=by rw[ndL_length] at h1;exact h1
      simp[ndL_map,nthN_eq hi]
    rw[e2]
    exact key _ fun j hj=>List.mem_range.1 hj
   have hnl : ndL l ≠ []:=fun h=>e (by
    have:=congrArg List.length h
    rw[ndL_length] at this
    exact List.length_eq_zero_iff.1 (by simpa using this))
   rw[OwnV_len (show (elsN l io l.length).length=(ndL l).length by rw[elsN_length,ndL_length])]
   refine weak_lays (H:=H) [OwnB 4 25 (ndL l)] [oid] rfl (by simp) (by simpa using r2) q2 (fun i k s hb hs=>?_) (OwnV_gz fun _=>newId_one r2)
   cases i with
   | zero =>
    simp only[List.getElem?_cons_zero,Option.some.injEq] at hb hs
    subst hs
    obtain ⟨hn,rfl⟩:=OwnB_some hb
    rw[OwnB_ne hel] at r1
    exact ⟨_,r1,rfl,rfl,fun h=>h,hgz⟩
   | succ i=>simp at hs
theorem copyNs_all (l : List Nd) : CopyP l:=by
 have key : ∀ n : Nat,∀ l : List Nd,Nd.sizeL l ≤ n→CopyP l:=by
  intro n
  induction n with
  | zero =>
   intro l h
   refine copyNs_of l fun t ht=>?_
   have:=Nd.sizeL_mem ht
   have:=t.size_pos
   omega
  | succ n ih =>
   intro l h
   refine copyNs_of l fun t ht=>ih _ ?_
   have:=Nd.sizeL_mem ht
   have:=Nd.size_eq t
   omega
 exact key _ l (Nat.le_refl _)
theorem copyNode_d (t : Nd) (hz : t.size ≤ 1000000) (ro : Option (List AV)) (H : AHeap) : D Tryz.prog 42 [ndR t ro] H (.ret (ownN t H.length)) (OwnB 4 25 (ndL t.kids) :: H):=copyNode_of t (copyNs_all _) hz ro H
end Go.Proofs.YtfnahogjkgcklaaGreatDoor
