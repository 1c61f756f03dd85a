import Derived.Test.YtfnahogjkgcklaaGreatDoorTC
import Derived.Test.YtfnahogjkgcklaaGreatDoorVE
namespace Go.Proofs.YtfnahogjkgcklaaGreatDoor
open Go.RowKit
set_option maxRecDepth 100000
set_option linter.unusedVariables false
set_option linter.unusedSimpArgs false
theorem bytesV_byteT (s : ByteArray) : bytesV (byteL s)=s:=by
 apply ByteArray.ext
 simp only[bytesV,byteL,List.map_map]
 apply Array.ext'
 simp only[List.toList_toArray]
 have : ∀ l : List UInt8,l.map ((fun x=>(byteV x).getD 0) ∘ fun b=>AV.sc (.int .u8 (b.toNat : Int)))=l:=by
  intro l
  induction l with
  | nil=>rfl
  | cons c r ih =>
   rw[List.map_cons,ih]
   congr 1
   simp[Function.comp,byteV]
 exact this _
theorem size_zeroT {s : ByteArray} (h : s.size=0) : s=⟨#[]⟩:=by
 apply ByteArray.ext
 exact Array.eq_empty_of_size_eq_zero h
theorem take_byteT (s : ByteArray) : (byteL s).take s.size=byteL s:=List.take_of_length_le (by rw[byteL_size];exact Nat.le_refl _)
theorem drop_repT (s : ByteArray) (x : AV) : (List.replicate s.size x).drop s.size=[]:=List.drop_of_length_le (by simp)
theorem sliteCloneT_d (s : ByteArray) (H : AHeap) (hs : s.size ≤ 100000000) : D Tryz.prog 67 [.sc (.string s)] H (.ret (.sc (.string s))) H:=by
 refine D_of_DK (Nat.le_refl _) (dk67 (E_of_ES ?_))
 simp -implicitDefEqProofs (maxSteps:=99999999) (disch:=omega) only[vu,ic67,va,vg,vs,vh,vk,simprocAttr]
 refine condR_if (fun h=>?_) (fun h=>?_)
 ·have:=size_zeroT (s:=s) (by omega)
  subst this
  simp -implicitDefEqProofs (maxSteps:=99999999) (disch:=omega) only[vu,va,vg,vs,vh,vk,simprocAttr]
  exact weak_sc .refl
 have h0 : 0 < s.size:=by omega
 simp -implicitDefEqProofs (maxSteps:=99999999) (disch:=omega) only[vu,List.length_replicate,drop_repT s,take_byteT s,byteL_size s,bytesV_byteT s,va,vg,vs,vh,vk,simprocAttr]
 exact ⟨⟨by omega,by omega,by omega⟩,Nat.le_refl _,by omega,⟨⟨by omega,Nat.le_refl _⟩,⟨s,rfl⟩⟩,weak_sc (by repeat constructor)⟩
theorem strCloneT_d (s : ByteArray) (H : AHeap) (hs : s.size ≤ 100000000) : D Tryz.prog 32 [.sc (.string s)] H (.ret (.sc (.string s))) H:=by
 refine D_of_DK (Nat.le_refl _) (dk32 (E_of_ES ?_))
 simp -implicitDefEqProofs (maxSteps:=99999999) (disch:=omega) only[vu,ic32,va,vg,vs,vh,vk,simprocAttr]
 refine callR_ret (sliteCloneT_d s H hs) ?_
 simp -implicitDefEqProofs (maxSteps:=99999999) (disch:=omega) only[vu,va,vg,vs,vh,vk,simprocAttr]
 exact weak_sc .refl
structure OutW (F : AHeap) (oid : Nat) (xs : List ByteArray) (io : Nat) : Prop where
 box : AHeap.find F oid=some ⟨1,[OwnV 1 (strs xs) io],true,42⟩
 own : xs ≠ []→AHeap.find F io=OwnB 1 9 (strs xs) ∧ io ≠ oid
structure OutQ (F : AHeap) (oid : Nat) (xs : List ByteArray) (io : Nat) (ys : List ByteArray) (io' : Nat) (F' : AHeap) : Prop where
 out : OutW F' oid ys io'
 len : F.length ≤ F'.length
 at_ : ys ≠ []→(xs ≠ [] ∧ io'=io) ∨ F.length ≤ io'
 old : ∀ i,i < F.length→i ≠ oid→(xs ≠ []→i ≠ io)→AHeap.find F' i=AHeap.find F i
theorem strs_ne {xs : List ByteArray} (h : xs ≠ []) : strs xs ≠ []:=fun e=>h (by simpa [strs] using e)
theorem strs_app (a b : List ByteArray) : strs (a ++ b)=strs a ++ strs b:=by simp[strs]
theorem OutQ.none {F : AHeap} {oid : Nat} {xs : List ByteArray} {io : Nat} (h : OutW F oid xs io) : OutQ F oid xs io xs io F :=
 ⟨h,Nat.le_refl _,fun e=>.inl ⟨e,rfl⟩,fun _ _ _ _=>rfl⟩
theorem OutQ.trans {F G K : AHeap} {oid a b c : Nat} {xs ys zs : List ByteArray} (h : OutQ F oid xs a ys b G) (k : OutQ G oid ys b zs c K) : OutQ F oid xs a zs c K:=by
 refine ⟨k.out,Nat.le_trans h.len k.len,fun e=>?_,fun i hi h1 h2=>?_⟩
 ·rcases k.at_ e with ⟨e1,e2⟩ | h3
  ·rcases h.at_ e1 with ⟨g1,g2⟩ | g3
   ·exact .inl ⟨g1,e2.trans g2⟩
   ·exact .inr (by omega)
  ·exact .inr (by have:=h.len;omega)
 ·rw[k.old i (by have:=h.len;omega) h1 (fun e=>?_),h.old i hi h1 h2]
  rcases h.at_ e with ⟨g1,g2⟩ | g3
  ·rw[g2];exact h2 g1
  ·omega
theorem OutW.cons {F : AHeap} {oid io : Nat} {xs : List ByteArray} (b : Option ABlk) (h : OutW F oid xs io) : OutW (b :: F) oid xs io:=by
 refine ⟨by rw[find_past (AHeap.find_lt h.box)];exact h.box,fun e=>⟨?_,(h.own e).2⟩⟩
 have h1:=(h.own e).1
 rw[OwnB_ne (strs_ne e)] at h1 ⊢
 rw[find_past (AHeap.find_lt h1),h1]
theorem OutQ.cons {F : AHeap} {oid io : Nat} {xs : List ByteArray} (b : Option ABlk) (h : OutW F oid xs io) : OutQ F oid xs io xs io (b :: F) :=
 ⟨h.cons b,by simp,fun e=>.inl ⟨e,rfl⟩,fun i hi _ _=>find_past hi⟩
def nmL (t : Nd) : List ByteArray:=if namedP t.kind then [t.text] else []
set_option maxHeartbeats 0 in
theorem names1_d (t : Nd) (hs : t.text.size ≤ 100000000) (xs : List ByteArray) (hx : xs.length ≤ 90000000) (oid io : Nat) (F : AHeap) (h : OutW F oid xs io) : DK Tryz.prog 30 [ndR t none,.ptr 1 oid 0 0] F (fun e F'=>∃ v,e = .ret v ∧ v = .tup [] ∧ ∃ io',OutQ F oid xs io (xs ++ nmL t) io' F'):=by
 have hol:=AHeap.find_lt h.box
 have hbox:=h.box
 rw[ndR_eq]
 refine dk30 (E_of_ES ?_)
 simp only[ic30,ux]
 refine ES_seq_gen fun L hL=>?_
 simp -implicitDefEqProofs (maxSteps:=99999999) (disch:=first | omega | (simp only[vl];first | done | omega)) only[vu,va,vg,vs,vw,vk,simprocAttr]
 refine hL _ _ ?_
 clear hL
 simp -implicitDefEqProofs (maxSteps:=99999999) (disch:=first | omega | (simp only[vl];first | done | omega)) only[vu,va,vg,vs,vw,vk,simprocAttr]
 refine callR_ret (named_d _ _) ?_
 cases hn : namedP t.kind
 ·simp -implicitDefEqProofs (maxSteps:=99999999) (disch:=first | omega | (simp only[vl];first | done | omega)) only[vu,va,vg,vs,vw,vk,simprocAttr]
  refine ⟨_,rfl,rfl,io,?_⟩
  have e : xs ++ nmL t=xs:=by simp[nmL,hn]
  rw[e]
  exact .cons _ h
 have hnm : nmL t=[t.text]:=by simp[nmL,hn]
 have hsx : strs (xs ++ [t.text])=strs xs ++ [.sc (.string t.text)]:=by rw[strs_app];rfl
 have hc:=h.cons (some ⟨4,[.agg [.sc (.int .u8 t.kind),.sc (.string t.text),.sc (.int .i64 t.num),.lst 4 (ndL t.kids) none]],true,25⟩)
 obtain ⟨io',F',p1,p2,p3,p4,p5,p6⟩:=apAny (H:=some ⟨4,[.agg [.sc (.int .u8 t.kind),.sc (.string t.text),.sc (.int .i64 t.num),.lst 4 (ndL t.kids) none]],true,25⟩ :: F) (k:=1) (ty:=9) (xs:=strs xs) (ys:=[.sc (.string t.text)]) (id:=io) (fun e=>(hc.own (fun e2=>e (by rw[e2];rfl))).1) (by rw[strs_length];simp;omega)
 have hne : strs xs ++ [AV.sc (.string t.text)] ≠ []:=by simp
 obtain ⟨p4a,p4b⟩:=p4 hne
 simp only[List.length_cons] at p4b p5
 have hb2 : AHeap.find F' oid=some ⟨1,[OwnV 1 (strs xs) io],true,42⟩:=by
  rw[p6 oid (by simp only[List.length_cons];omega) (fun e=>((hc.own (fun e2=>e (by rw[e2];rfl))).2).symm),find_past hol,hbox]
 have hV : OwnV 1 (strs xs ++ [AV.sc (.string t.text)]) io' = .vec 1 io' 0 (strs xs ++ [AV.sc (.string t.text)]).length none:=OwnV_ne hne
 simp -implicitDefEqProofs (maxSteps:=99999999) (disch:=first | omega | (simp only[vl];first | done | omega)) only[vu,hbox,va,vg,vs,vw,vk,simprocAttr]
 refine callD_same (strCloneT_d _ _ hs) ?_
 simp -implicitDefEqProofs (maxSteps:=99999999) (disch:=first | omega | (simp only[vl];first | done | omega)) only[vu,p1,p2,p3,hb2,va,vg,vs,vw,vk,simprocAttr]
 refine ⟨_,rfl,rfl,io',?_⟩
 rw[hnm]
 have hol' : oid < F'.length:=by omega
 refine ⟨⟨?_,fun _=>⟨?_,by omega⟩⟩,?_,fun _=>.inr (by omega),fun i hi h1 h2=>?_⟩
 ·rw[AHeap.find_set_same hol',hsx]
 ·rw[AHeap.find_set_ne (by omega),p4a,hsx]
 ·rw[AHeap.set_length];omega
 ·rw[AHeap.find_set_ne h1,p6 i (by simp only[List.length_cons];omega) (fun e=>h2 (fun e2=>e (by rw[e2];rfl))),find_past hi]
end Go.Proofs.YtfnahogjkgcklaaGreatDoor
namespace Go.Proofs.YtfnahogjkgcklaaGreatDoor
open Go.RowKit
set_option maxRecDepth 100000
set_option linter.unusedVariables false
set_option linter.unusedSimpArgs false
mutual
def nms : Nd→List ByteArray
 | ⟨k,s,n,l⟩=>nmL ⟨k,s,n,l⟩ ++ nmsL l
def nmsL : List Nd→List ByteArray
 | []=>[]
 | t :: r=>nms t ++ nmsL r
end
theorem nms_eq (t : Nd) : nms t=nmL t ++ nmsL t.kids:=by cases t;simp[nms,Nd.kids]
theorem nmsL_append (a b : List Nd) : nmsL (a ++ b)=nmsL a ++ nmsL b:=by
 induction a with
 | nil=>rfl
 | cons x r ih=>simp[nmsL,ih]
theorem nmsL_take {l : List Nd} {k : Nat} (h : k < l.length) : nmsL (l.take (k+1))=nmsL (l.take k) ++ nms (nthN l k):=by
 rw[List.take_succ_eq_append_getElem h,nmsL_append,nthN_eq h]
 simp[nmsL]
theorem nmL_len (t : Nd) : (nmL t).length ≤ 1:=by unfold nmL;split <;> simp
theorem nms_len (t : Nd) : (nms t).length ≤ t.size:=by
 induction t using Nd.ind with
 | _ t ih =>
  have key : ∀ l : List Nd,(∀ k ∈ l,(nms k).length ≤ k.size)→(nmsL l).length ≤ Nd.sizeL l:=by
   intro l
   induction l with
   | nil=>intro _;simp[nmsL]
   | cons x r ihr =>
    intro h
    have h1:=h x (by simp)
    have h2:=ihr fun k hk=>h k (by simp[hk])
    simp only[nmsL,Nd.sizeL,List.length_append]
    omega
  have:=key t.kids ih
  have:=nmL_len t
  rw[nms_eq,Nd.size_eq,List.length_append]
  omega
theorem nmsL_len (l : List Nd) : (nmsL l).length ≤ Nd.sizeL l:=by
 induction l with
 | nil=>simp[nmsL]
 | cons x r ih =>
  have:=nms_len x
  simp only[nmsL,Nd.sizeL,List.length_append]
  omega
def eachNm (l : List Nd) : Prop:=∀ (ro : Option (List AV)) (xs : List ByteArray) (oid io : Nat) (F : AHeap),xs.length+Nd.sizeL l ≤ 80000000→Nd.wtL l ≤ 2000000→OutW F oid xs io →
 DK Tryz.prog 29 [.fn (.func 30) [] [.ptr 1 oid 0 0],.lst 4 (ndL l) ro] F (fun e F'=>∃ v,e = .ret v ∧ v = .tup [] ∧ ∃ io',OutQ F oid xs io (xs ++ nmsL l) io' F')
set_option maxHeartbeats 0 in
theorem eachNm_of (l : List Nd) (ih : ∀ a ∈ l,eachNm a.kids) : eachNm l:=by
 intro ro xs oid io F0 hx hw h
 have hl:=Nd.wtL_len l
 have cl : callable Tryz.prog 30=true:=by kernel_rfl
 refine dk29 (E_of_ES ?_)
 simp only[ic29,ux]
 refine ES_seq_gen fun L hL=>?_
 simp -implicitDefEqProofs (maxSteps:=99999999) (disch:=first | omega | (simp only[vl];first | done | omega)) only[vu,ndL_length,va,vg,vs,vw,vk,simprocAttr]
 refine hL _ _ ?_
 clear hL
 simp -implicitDefEqProofs (maxSteps:=99999999) (disch:=first | omega | (simp only[vl];first | done | omega)) only[vu,ndL_length,va,vg,vs,vw,vk,simprocAttr]
 refine ES_loopL (fun ts F=>∃ (k b : Nat),k ≤ l.length ∧ OutQ F0 oid xs io (xs ++ nmsL (l.take k)) b F ∧ Fr [some (.fn (.func 30) [] [.ptr 1 oid 0 0]),none,none,none,none,none,some (.lst 4 (ndL l) ro),some (.sc (.int .i64 l.length)),some (.sc (.int .i64 k)),none,none,none,none,none,none,none,none,none,none,none] ts) (fun ts _=>l.length - (intV (ts.getD 8 .top)).toNat) ?_ ?_
 ·refine ⟨0,io,Nat.zero_le _,?_,by simp[Fr]⟩
  rw[List.take_zero,show xs ++ nmsL []=xs by simp[nmsL]]
  exact .none h
 rintro ts F ⟨k,b,hk,hF,hfr⟩ L2 hL2
 obtain ⟨js,rfl⟩:=hfr.opened
 clear hfr
 by_cases hd : k < l.length
 ·have d1 : (k : Int) < l.length:=by omega
  have hg:=ndL_get hd
  have hmem:=nthN_mem hd
  have htk:=nmsL_take hd
  have hwm:=Nd.wtL_mem hmem
  have hwe:=Nd.wt_eq (nthN l k)
  have hsz:=sizeL_take hd
  have hse:=Nd.size_eq (nthN l k)
  have hle:=sizeL_le l (k+1)
  have hnl:=nmsL_len (l.take k)
  have hn1:=nmL_len (nthN l k)
  have hlx : (xs ++ nmsL (l.take k)).length ≤ 90000000:=by rw[List.length_append];omega
  have hs1:=fun (G : AHeap) (h : OutW G oid (xs ++ nmsL (l.take k)) b)=>names1_d (nthN l k) (by omega) (xs ++ nmsL (l.take k)) hlx oid b G h
  rw[ndR_eq] at hs1
  have hcb:=OutQ.cons (some ⟨4,[.agg [.sc (.int .u8 (nthN l k).kind),.sc (.string (nthN l k).text),.sc (.int .i64 (nthN l k).num),.lst 4 (ndL (nthN l k).kids) none]],true,25⟩) hF.out
  have hol:=AHeap.find_lt hF.out.box
  simp -implicitDefEqProofs (maxSteps:=99999999) (disch:=first | omega | (simp only[vl];first | done | omega)) only[mk,d1,hg,ndL_length,va,vg,vs,vw,vk,simprocAttr]
  refine ⟨by omega,cl,callR_rel (hs1 _ hcb.out) ?_⟩
  rintro v G hGl ⟨rfl,b2,hQ⟩
  have hbx : AHeap.find G F.length=some ⟨4,[.agg [.sc (.int .u8 (nthN l k).kind),.sc (.string (nthN l k).text),.sc (.int .i64 (nthN l k).num),.lst 4 (ndL (nthN l k).kids) none]],true,25⟩:=by
   rw[hQ.old F.length (by simp) (by omega) (fun e=>?_),find_top rfl]
   have:=(hF.out.own e).1
   rw[OwnB_ne (strs_ne e)] at this
   have:=AHeap.find_lt this
   omega
  simp -implicitDefEqProofs (maxSteps:=99999999) (disch:=first | omega | (simp only[vl];first | done | omega)) only[vu,hbx,va,vg,vs,vw,vk,simprocAttr]
  refine callR_rel (ih _ hmem none (xs ++ nmsL (l.take k) ++ nmL (nthN l k)) oid b2 G (by rw[List.length_append,List.length_append];omega) (by omega) hQ.out) ?_
  rintro v K hKl ⟨rfl,b3,hQ2⟩
  simp -implicitDefEqProofs (maxSteps:=99999999) (disch:=first | omega | (simp only[vl];first | done | omega)) only[vu,va,vg,vs,vw,vk,simprocAttr]
  refine hL2 _ _ ⟨k+1,b3,by omega,?_,by simp[Fr]⟩ (by simp[intV,mk];omega)
  rw[htk,nms_eq,← List.append_assoc,← List.append_assoc]
  exact ((hF.trans hcb).trans hQ).trans hQ2
 ·have d1 : ¬ (k : Int) < l.length:=by omega
  have e : l.take k=l:=List.take_of_length_le (by omega)
  rw[e] at hF
  simp -implicitDefEqProofs (maxSteps:=99999999) (disch:=first | omega | (simp only[vl];first | done | omega)) only[mk,d1,va,vg,vs,vw,vk,simprocAttr]
  exact ⟨_,rfl,rfl,b,hF⟩
theorem eachNm_all (l : List Nd) : eachNm l:=by
 have key : ∀ t : Nd,eachNm t.kids:=fun t=>by
  induction t using Nd.ind with
  | _ t ih=>exact eachNm_of _ ih
 exact eachNm_of l fun a _=>key a
end Go.Proofs.YtfnahogjkgcklaaGreatDoor
