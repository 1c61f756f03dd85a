import Derived.Test.YtfnahogjkgcklaaGreatDoorTF
import Derived.Test.YtfnahogjkgcklaaGreatDoorS244
namespace Go.Proofs.YtfnahogjkgcklaaGreatDoor
open Go.RowKit
set_option maxRecDepth 100000
set_option linter.unusedVariables false
set_option linter.unusedSimpArgs false
def posO : Nd→Nat→Nat→Nat→List Int→Option (Nat × Nat)
 | _,id,j,_,[]=>some (id,j)
 | t,id,j,a,k :: r=>if 0 ≤ k ∧ k < t.kids.length then posO (nthN t.kids k.toNat) a k.toNat (a+1+Nd.sizeL (t.kids.take k.toNat)) r else none
theorem posO_drop {t : Nd} {id j a : Nat} {p : List Int} {k : Nat} (h : k < p.length) : posO t id j a (p.drop k)=if 0 ≤ p.getD k 0 ∧ p.getD k 0 < t.kids.length then posO (nthN t.kids (p.getD k 0).toNat) a (p.getD k 0).toNat (a+1+Nd.sizeL (t.kids.take (p.getD k 0).toNat)) (p.drop (k+1)) else none:=by
 rw[List.drop_eq_getElem_cons h]
 simp[posO,List.getD,h]
def posV : Option (Nat × Nat)→AV
 | some x=>.ptr 4 x.1 x.2 0
 | none=>.sc (.pointer none)
theorem LiesL.at_ {F : AHeap} : ∀ {l : List Nd} {a k : Nat},LiesL F l a→k < l.length→LiesO F (nthN l k) (a+Nd.sizeL (l.take k))
 | [],_,_,_,h=>by simp at h
 | t :: r,a,0,hl,_=>by simpa [nthN,Nd.sizeL] using hl.first
 | t :: r,a,k+1,hl,h=>by
  have:=hl.rest.at_ (k:=k) (by simpa using h)
  simp only[List.take_succ_cons,Nd.sizeL]
  rw[show a+(t.size+Nd.sizeL (r.take k))=a+t.size+Nd.sizeL (r.take k) by omega]
  simpa [nthN] using this
theorem cpL_getD {l : List Nd} {k a : Nat} (h : k < l.length) : (cpL l a).getD k .top=cpV (nthN l k) (a+Nd.sizeL (l.take k)):=by
 rw[List.getD_eq_getElem?_getD,cpV_idx l k a h]
 rfl
set_option maxHeartbeats 0 in
theorem findO_d (t : Nd) (p : List Int) (hp : p.length ≤ 1000000) (rp : Option (List AV)) (id j a : Nat) (es : List AV) (ex : Bool) (H : AHeap) (hf : AHeap.find H id=some ⟨4,es,ex,25⟩) (hj : j < es.length) (he : es.getD j .top=cpV t a) (hl : LiesO H t a) : D Tryz.prog 21 [.ptr 4 id j 0,.lst 1 (pthA p) rp] H (.ret (posV (posO t id j a p))) H:=by
 refine D_of_DK (Nat.le_refl _) (dk21 (E_of_ES ?_))
 simp only[ic21,ux]
 refine ES_seq_gen fun L hL=>?_
 simp -implicitDefEqProofs (maxSteps:=99999999) (disch:=first | omega | (simp only[vl];first | done | omega)) only[vu,va,vg,vs,vw,vk,simprocAttr]
 refine hL _ _ ?_
 clear hL
 refine ES_seq_gen fun L hL=>?_
 simp -implicitDefEqProofs (maxSteps:=99999999) (disch:=first | omega | (simp only[vl];first | done | omega)) only[vu,pthA_length,va,vg,vs,vw,vk,simprocAttr]
 refine ES_loopL (fun ts F=>∃ (k : Nat) (u : Nd) (id' j' a' : Nat) (es' : List AV) (ex' : Bool),(k ≤ p.length ∧ posO u id' j' a' (p.drop k)=posO t id j a p ∧ AHeap.find H id'=some ⟨4,es',ex',25⟩ ∧ j' < es'.length ∧ es'.getD j' .top=cpV u a' ∧ LiesO H u a') ∧ F=H ∧ Fr [some (.ptr 4 id' j' 0),none,none,none,none,none,none,some (.lst 1 (pthA p) rp),some (.sc (.int .i64 p.length)),some (.sc (.int .i64 k)),none,none,none,none,none,none,none,none,none,none,none,none,none,none,none,none,none,none,none,none,none,none] ts) (fun ts _=>p.length - (intV (ts.getD 9 .top)).toNat) ?_ ?_
 ·exact ⟨0,t,id,j,a,es,ex,⟨Nat.zero_le _,rfl,hf,hj,he,hl⟩,rfl,by simp[Fr]⟩
 clear hf hj he hl
 rintro ts F ⟨k,u,id',j',a',es',ex',⟨hk,hg,hf,hj,he,hl⟩,rfl,hfr⟩ L2 hL2
 obtain ⟨js,rfl⟩:=hfr.opened
 clear hfr
 by_cases hd : k < p.length
 ·have d1 : (k : Int) < p.length:=by omega
  have hpg:=pthA_get hd
  rw[posO_drop hd] at hg
  generalize p.getD k 0=q at *
  by_cases c1 : q < 0
  ·rw[if_neg (by omega)] at hg
   rw[← hg] at hL
   simp -implicitDefEqProofs (maxSteps:=99999999) (disch:=first | omega | (simp only[vl];first | done | omega)) only[mk,d1,hpg,pthA_length,c1,va,vg,vs,vw,vk,simprocAttr]
   rw[← hg]
   exact ⟨by omega,weak_sc .refl⟩
  rw[cpV_eq] at he
  obtain ⟨kv,hkv⟩ : ∃ kv,OwnV 4 (cpL u.kids (a'+1)) a'=kv:=⟨_,rfl⟩
  have q1 : lenN kv=u.kids.length:=by rw[← hkv,OwnV_lenN,cpL_length]
  have q2 : lenOk kv:=by rw[← hkv,OwnV_lenOk];trivial
  have q3 : kv.isTop=false ∧ kv.isAgg=false ∧ kv.ncells=1:=by rw[← hkv];exact ⟨OwnV_top,OwnV_isAgg,OwnV_ncells⟩
  rw[hkv] at he
  by_cases c2 : q ≥ u.kids.length
  ·rw[if_neg (by omega)] at hg
   simp -implicitDefEqProofs (maxSteps:=99999999) (disch:=first | omega | (simp only[vl];first | done | omega)) only[mk,d1,hpg,pthA_length,c1,c2,hf,he,q1,q2,q3.1,q3.2.1,q3.2.2,va,vg,vs,vw,vk,simprocAttr]
   refine ⟨by omega,hj,?_⟩
   rw[← hg]
   exact weak_sc .refl
  ·rw[if_pos (by omega)] at hg
   have hq : q.toNat < u.kids.length:=by omega
   have hne : cpL u.kids (a'+1) ≠ []:=fun e=>by have:=cpL_length u.kids (a'+1);rw[e] at this;simp at this;omega
   have hkv2 : kv = .vec 4 a' 0 u.kids.length none:=by rw[← hkv,OwnV_ne hne,cpL_length]
   rw[hkv2] at he
   simp -implicitDefEqProofs (maxSteps:=99999999) (disch:=first | omega | (simp only[vl];first | done | omega)) only[mk,d1,hpg,pthA_length,c1,c2,hf,he,va,vg,vs,vw,vk,simprocAttr]
   refine ⟨by omega,hj,hj,⟨by omega,by omega⟩,hL2 _ _ ⟨k+1,nthN u.kids q.toNat,a',q.toNat,_,cpL u.kids (a'+1),false,⟨by omega,hg,?_,by rw[cpL_length];exact hq,cpL_getD hq,?_⟩,rfl,by simp[Fr]⟩ (by simp[intV,mk];omega)⟩
   ·rw[hl.head,OwnB_ne hne]
   ·exact hl.kids.at_ hq
 ·have d1 : ¬ (k : Int) < p.length:=by omega
  have hdr : p.drop k=[]:=List.drop_of_length_le (by omega)
  rw[hdr] at hg
  simp only[posO] at hg
  rw[← hg] at hL
  simp -implicitDefEqProofs (maxSteps:=99999999) (disch:=first | omega | (simp only[vl];first | done | omega)) only[mk,d1,va,vg,vs,vw,vk,simprocAttr]
  refine hL _ _ ?_
  clear hL
  simp -implicitDefEqProofs (maxSteps:=99999999) (disch:=first | omega | (simp only[vl];first | done | omega)) only[vu,va,vg,vs,vw,vk,simprocAttr]
  exact Weak.refl _ _ _
end Go.Proofs.YtfnahogjkgcklaaGreatDoor
namespace Go.Proofs.YtfnahogjkgcklaaGreatDoor
open Go.RowKit
set_option maxRecDepth 100000
set_option linter.unusedVariables false
set_option linter.unusedSimpArgs false
def withN : Nd→Nd→List Int→Nd
 | _,kid,[]=>kid
 | t,kid,k :: r=>⟨t.kind,t.text,t.num,t.kids.set k.toNat (withN (nthN t.kids k.toNat) kid r)⟩
theorem size_at {l : List Nd} {k : Nat} (h : k < l.length) : Nd.sizeL (l.take k)+(nthN l k).size ≤ Nd.sizeL l:=by
 have h1:=sizeL_take h
 have h2:=sizeL_le l (k+1)
 omega
theorem size_lt {l : List Nd} {m q : Nat} (h : m < q) (hm : m < l.length) : Nd.sizeL (l.take m)+(nthN l m).size ≤ Nd.sizeL (l.take q):=by
 have h1:=sizeL_take hm
 have h2:=sizeL_le (l.take q) (m+1)
 rw[List.take_take,Nat.min_eq_left (by omega)] at h2
 omega
theorem posO_in {t : Nd} {id j a i m : Nat} {q : Int} {r : List Int} (h : posO t id j a (q :: r)=some (i,m)) : a ≤ i ∧ i < a+t.size:=by
 induction r generalizing t id j a q with
 | nil =>
  simp only[posO] at h
  split at h
  ·simp only[Option.some.injEq,Prod.mk.injEq] at h
   have:=t.size_pos
   omega
  ·cases h
 | cons q2 r ih =>
  rw[posO] at h
  split at h
  ·rename_i hk
   have h1:=ih h
   have h2:=size_at (l:=t.kids) (k:=q.toNat) (by omega)
   have h3:=Nd.size_eq t
   omega
  ·cases h
theorem viewL_of {H : AHeap} : ∀ {xs ys : List AV},xs.length=ys.length→(∀ (m : Nat) (x y : AV),xs[m]? = some x→ys[m]? = some y→View H x y)→ViewL H xs ys
 | [],[],_,_=>.nil
 | x :: r,y :: s,hl,h=>.cons (h 0 x y rfl rfl) (viewL_of (by simpa using hl) fun m x y hx hy=>h (m+1) x y (by simpa using hx) (by simpa using hy))
 | [],_ :: _,hl,_=>by simp at hl
 | _ :: _,[],hl,_=>by simp at hl
theorem gzL_of {F : AHeap} {n0 : Nat} {src : List Nat} : ∀ {xs ys : List AV},xs.length=ys.length→(∀ (m : Nat) (x y : AV),xs[m]? = some x→ys[m]? = some y→Gz F n0 src x y)→GzL F n0 src xs ys
 | [],[],_,_=>.nil
 | x :: r,y :: s,hl,h=>.cons (h 0 x y rfl rfl) (gzL_of (by simpa using hl) fun m x y hx hy=>h (m+1) x y (by simpa using hx) (by simpa using hy))
 | [],_ :: _,hl,_=>by simp at hl
 | _ :: _,[],hl,_=>by simp at hl
theorem ndL_idx {l : List Nd} {m : Nat} (h : m < l.length) : (ndL l)[m]? = some (ndA (nthN l m)):=by
 rw[ndL_map,nthN_eq h]
 simp[h]
structure RelT (G : AHeap) (n0 : Nat) (R : AV→AV→Prop) : Prop where
 same : ∀ {t : Nd} {a : Nat},n0 ≤ a→LiesO G t a→R (cpV t a) (ndA t)
 node : ∀ {k n : Int} {s : ByteArray} {xs xs' : List AV} {ys : List AV} {a : Nat},n0 ≤ a→xs.length=xs'.length→(xs' ≠ []→AHeap.find G a=some ⟨4,xs',false,25⟩)→xs'.length=ys.length→(∀ (m : Nat) (x y : AV),xs'[m]? = some x→ys[m]? = some y→R x y)→R (.agg [.sc (.int .u8 k),.sc (.string s),.sc (.int .i64 n),OwnV 4 xs a]) (.agg [.sc (.int .u8 k),.sc (.string s),.sc (.int .i64 n),.lst 4 ys none])
theorem relT_view {G : AHeap} : RelT G 0 (View G):=by
 refine ⟨fun _ h=>cpV_view _ h,fun _ h1 h2 h3 h4=>?_⟩
 rw[OwnV_len h1]
 exact .agg (.cons .sc (.cons .sc (.cons .sc (.cons (ViewL.own (fun e=>by rw[h2 e,OwnB_ne e]) (viewL_of h3 h4)) .nil))))
theorem relT_gz {G : AHeap} {n0 : Nat} : RelT G n0 (Gz G n0 []):=by
 refine ⟨fun hn h=>cpV_frz _ hn h,fun hn h1 h2 h3 h4=>?_⟩
 rw[OwnV_len h1]
 exact .agg (.cons (.same trivial) (.cons (.same trivial) (.cons (.same trivial) (.cons (OwnV_fz (fun _=>by unfold newId;rw[if_neg (by omega)];rfl) (fun e=>by rw[h2 e,OwnB_ne e]) (gzL_of h3 h4)) .nil))))
theorem nth_set {l : List Nd} {k m : Nat} {x : Nd} (hk : k < l.length) : nthN (l.set k x) m=if m=k then x else nthN l m:=by
 unfold nthN
 rw[List.getD_eq_getElem?_getD,List.getElem?_set,List.getD_eq_getElem?_getD]
 by_cases e : k=m
 ·subst e
  simp[hk]
 ·rw[if_neg e,if_neg (fun h=>e h.symm)]
theorem changed {F G : AHeap} {n0 : Nat} {R : AV→AV→Prop} (hR : RelT G n0 R) {kid : Nd} {b : Nat} (hkid : R (cpV kid b) (ndA kid)) (r : List Int) : ∀ {t : Nd} {id j a i m : Nat} {q : Int} {es : List AV},n0 ≤ a→LiesO F t a→posO t id j a (q :: r)=some (i,m)→AHeap.find F i=some ⟨4,es,false,25⟩→AHeap.find G i=some ⟨4,es.set m (cpV kid b),false,25⟩→(∀ x,a ≤ x→x < a+t.size→x ≠ i→AHeap.find G x=AHeap.find F x)→R (cpV t a) (ndA (withN t kid (q :: r))):=by
 induction r with
 | nil =>
  intro t id j a i m q es hn hl hp hf hg ho
  simp only[posO] at hp
  split at hp
  case isFalse=>cases hp
  rename_i hq
  simp only[Option.some.injEq,Prod.mk.injEq] at hp
  obtain ⟨rfl,rfl⟩:=hp
  have hqn : q.toNat < t.kids.length:=by omega
  have hne : cpL t.kids (a+1) ≠ []:=fun e=>by have:=cpL_length t.kids (a+1);rw[e] at this;simp at this;omega
  have hes : es=cpL t.kids (a+1):=by
   have:=hl.head
   rw[hf,OwnB_ne hne] at this
   simpa using this
  subst hes
  rw[cpV_eq,ndA_eq]
  show R (.agg [.sc (.int .u8 t.kind),.sc (.string t.text),.sc (.int .i64 t.num),OwnV 4 (cpL t.kids (a+1)) a]) (.agg [.sc (.int .u8 t.kind),.sc (.string t.text),.sc (.int .i64 t.num),.lst 4 (ndL (t.kids.set q.toNat kid)) none])
  refine hR.node hn (xs':=(cpL t.kids (a+1)).set q.toNat (cpV kid b)) (by simp) (fun _=>hg) (by rw[List.length_set,cpL_length,ndL_length,List.length_set]) (fun m x y hx hy=>?_)
  have hml : m < t.kids.length:=by
   have:=(List.getElem?_eq_some_iff.1 hx).1
   rwa [List.length_set,cpL_length] at this
  rw[ndL_idx (by rw[List.length_set];exact hml),nth_set hqn] at hy
  cases hy
  rw[List.getElem?_set] at hx
  by_cases e : q.toNat=m
  ·rw[if_pos e,if_pos (by rw[cpL_length];omega)] at hx
   cases hx
   rw[if_pos e.symm]
   exact hkid
  ·rw[if_neg e,cpV_idx _ _ _ hml] at hx
   cases hx
   rw[if_neg (fun h=>e h.symm)]
   have hsz:=size_at hml
   have hse:=Nd.size_eq t
   exact hR.same (by omega) ((hl.kids.at_ hml).of fun x h1 h2=>ho x (by omega) (by omega) (by omega))
 | cons q2 r ih =>
  intro t id j a i m q es hn hl hp hf hg ho
  rw[posO] at hp
  split at hp
  case isFalse=>cases hp
  rename_i hq
  have hqn : q.toNat < t.kids.length:=by omega
  have hin:=posO_in hp
  have hne : cpL t.kids (a+1) ≠ []:=fun e=>by have:=cpL_length t.kids (a+1);rw[e] at this;simp at this;omega
  have hsz:=size_at hqn
  have hse:=Nd.size_eq t
  have hG : AHeap.find G a=some ⟨4,cpL t.kids (a+1),false,25⟩:=by
   rw[ho a (by omega) (by omega) (by omega),hl.head,OwnB_ne hne]
  have h1:=ih (by omega) (hl.kids.at_ hqn) hp hf hg (fun x h1 h2 h3=>ho x (by omega) (by omega) h3)
  rw[cpV_eq,ndA_eq]
  show R (.agg [.sc (.int .u8 t.kind),.sc (.string t.text),.sc (.int .i64 t.num),OwnV 4 (cpL t.kids (a+1)) a]) (.agg [.sc (.int .u8 t.kind),.sc (.string t.text),.sc (.int .i64 t.num),.lst 4 (ndL (t.kids.set q.toNat (withN (nthN t.kids q.toNat) kid (q2 :: r)))) none])
  refine hR.node hn (xs':=cpL t.kids (a+1)) rfl (fun _=>hG) (by rw[cpL_length,ndL_length,List.length_set]) (fun m x y hx hy=>?_)
  have hml : m < t.kids.length:=by
   have:=(List.getElem?_eq_some_iff.1 hx).1
   rwa [cpL_length] at this
  rw[ndL_idx (by rw[List.length_set];exact hml),nth_set hqn] at hy
  cases hy
  rw[cpV_idx _ _ _ hml] at hx
  cases hx
  by_cases e : q.toNat=m
  ·subst e
   rw[if_pos rfl]
   exact h1
  ·rw[if_neg (fun h=>e h.symm)]
   have hsm:=size_at hml
   refine hR.same (by omega) ((hl.kids.at_ hml).of fun x h1 h2=>ho x (by omega) (by omega) ?_)
   rcases Nat.lt_or_gt_of_ne e with g | g
   ·have:=size_lt g (by omega : q.toNat < t.kids.length)
    omega
   ·have:=size_lt g hml
    omega
end Go.Proofs.YtfnahogjkgcklaaGreatDoor
namespace Go.Proofs.YtfnahogjkgcklaaGreatDoor
open Go.RowKit
set_option maxRecDepth 100000
set_option linter.unusedVariables false
set_option linter.unusedSimpArgs false
def putV (t kid : Nd) (p : List Int) : AV:=match getN t p with
 | none=>.tup [ndA Nd.none,.sc (.int .i64 6)]
 | some _=>if rightN (withN t kid p) 40 then .tup [ndA (withN t kid p),.sc (.int .i64 0)] else .tup [ndA Nd.none,.sc (.int .i64 4)]
theorem posO_none {t : Nd} {id j a : Nat} {p : List Int} : (posO t id j a p).isSome=(getN t p).isSome:=by
 induction p generalizing t id j a with
 | nil=>rfl
 | cons k r ih =>
  simp only[posO,getN]
  split
  ·exact ih
  ·rfl
theorem posO_blk {F : AHeap} {p : List Int} : ∀ {t : Nd} {id j a i m : Nat} {es : List AV} {ex : Bool},posO t id j a p=some (i,m)→AHeap.find F id=some ⟨4,es,ex,25⟩→j < es.length→es.getD j .top=cpV t a→LiesO F t a→∃ (es' : List AV) (ex' : Bool) (u : Nd) (a' : Nat),AHeap.find F i=some ⟨4,es',ex',25⟩ ∧ m < es'.length ∧ es'.getD m .top=cpV u a' ∧ (p ≠ []→ex'=false):=by
 induction p with
 | nil =>
  intro t id j a i m es ex h hf hj he hl
  simp only[posO,Option.some.injEq,Prod.mk.injEq] at h
  obtain ⟨rfl,rfl⟩:=h
  exact ⟨es,ex,t,a,hf,hj,he,fun h=>(h rfl).elim⟩
 | cons q r ih =>
  intro t id j a i m es ex h hf hj he hl
  rw[posO] at h
  split at h
  case isFalse=>cases h
  rename_i hq
  have hqn : q.toNat < t.kids.length:=by omega
  have hne : cpL t.kids (a+1) ≠ []:=fun e=>by have:=cpL_length t.kids (a+1);rw[e] at this;simp at this;omega
  obtain ⟨es',ex',u,a',h1,h2,h3,h4⟩:=ih h (by rw[hl.head,OwnB_ne hne]) (by rw[cpL_length];exact hqn) (cpL_getD hqn) (hl.kids.at_ hqn)
  refine ⟨es',ex',u,a',h1,h2,h3,fun _=>?_⟩
  by_cases e : r=[]
  ·subst e
   simp only[posO,Option.some.injEq,Prod.mk.injEq] at h
   obtain ⟨rfl,rfl⟩:=h
   rw[hl.head,OwnB_ne hne] at h1
   cases h1
   rfl
  ·exact h4 e
theorem gz_none {F : AHeap} {n0 : Nat} : Gz F n0 [] (.agg [.sc (.int .u8 0),.sc (.string ⟨#[]⟩),.sc (.int .i64 0),.lst 0 [] (some [])]) (ndA Nd.none):=by
 rw[ndA_eq]
 exact .agg (.cons (.same trivial) (.cons (.same trivial) (.cons (.same trivial) (.cons .nil .nil))))
set_option maxHeartbeats 0 in
theorem put_d (t kid : Nd) (hz : t.size ≤ 1000000) (hk : kid.size ≤ 1000000) (p : List Int) (hw : (withN t kid p).size ≤ 1000000) (hp : p.length ≤ 1000000) (rp : Option (List AV)) (H : AHeap) : D Tryz.prog 9 [ndR t none,ndR kid none,.lst 1 (pthA p) rp] H (.ret (putV t kid p)) H:=by
 refine D_of_DK (Nat.le_refl _) (dk9 (E_of_ES ?_))
 simp only[ic9,ux]
 have hc1:=fun H=>copied_d t hz none H
 have hc2:=fun H=>copied_d kid hk none H
 rw[ndR_eq] at hc1 hc2
 rw[ndR_eq,ndR_eq]
 obtain ⟨cv,hcv⟩ : ∃ cv,cpV t (H.length+3)=cv:=⟨_,rfl⟩
 have hcv2:=cpV_eq t (H.length+3)
 rw[hcv] at hcv2
 have c1 : cv.isTop=false:=by rw[hcv2];rfl
 have c2 : cv.isAgg=true:=by rw[hcv2];rfl
 have c3 : cv.ncells=4:=by rw[hcv2];rfl
 have c4 : 4 ≤ cv.cells.length:=by rw[hcv2];exact Nat.le_refl _
 have c5 : AV.agg (cv.cells.take 4)=cv:=by rw[hcv2];rfl
 have c6 : AV.agg cv.cells=cv:=by rw[hcv2];rfl
 refine ES_seq_gen fun L hL=>?_
 simp -implicitDefEqProofs (maxSteps:=99999999) (disch:=first | omega | (simp only[vl];first | done | omega)) only[vu,va,vg,vs,vw,vk,simprocAttr]
 refine hL _ _ ?_
 clear hL
 refine ES_seq_gen fun L hL=>?_
 simp -implicitDefEqProofs (maxSteps:=99999999) (disch:=first | omega | (simp only[vl];first | done | omega)) only[vu,va,vg,vs,vw,vk,simprocAttr]
 refine callR_ret (hc1 _) ?_
 obtain ⟨b1,hb1⟩ : ∃ b,b=(⟨4,[.agg [.sc (.int .u8 t.kind),.sc (.string t.text),.sc (.int .i64 t.num),.lst 4 (ndL t.kids) none]],true,25⟩ : ABlk):=⟨_,rfl⟩
 obtain ⟨b2,hb2⟩ : ∃ b,b=(⟨4,[.agg [.sc (.int .u8 kid.kind),.sc (.string kid.text),.sc (.int .i64 kid.num),.lst 4 (ndL kid.kids) none]],true,25⟩ : ABlk):=⟨_,rfl⟩
 obtain ⟨b3,hb3⟩ : ∃ b,b=(⟨4,[AV.agg [.sc (.int .u8 0),.sc (.string ⟨#[]⟩),.sc (.int .i64 0),.lst 0 [] (some [])]],true,25⟩ : ABlk):=⟨_,rfl⟩
 rw[← hb1,← hb2,← hb3]
 have hl1:=liesO_lays (t:=t) (H:=some b3 :: some b2 :: some b1 :: H)
 have hG0 : ∀ i,i < H.length+3→AHeap.find (cpB t (some b3 :: some b2 :: some b1 :: H).length ++ some b3 :: some b2 :: some b1 :: H) i=AHeap.find (some b3 :: some b2 :: some b1 :: H) i:=fun i hi=>AHeap.find_append (by simp only[List.length_cons];omega)
 have hGn : (cpB t (some b3 :: some b2 :: some b1 :: H).length ++ some b3 :: some b2 :: some b1 :: H).length=t.size+(H.length+3):=by rw[List.length_append,cpB_length];simp
 generalize cpB t (some b3 :: some b2 :: some b1 :: H).length ++ some b3 :: some b2 :: some b1 :: H=G at *
 simp only[List.length_cons,Nat.add_assoc,Nat.reduceAdd,hcv] at hl1 ⊢
 have g1 : AHeap.find G H.length=some b1:=by rw[hG0 _ (by omega),find_past (by simp;omega),find_past (by simp),find_top rfl]
 have g2 : AHeap.find G (H.length+1)=some b2:=by rw[hG0 _ (by omega),find_past (by simp),find_top (by simp)]
 have g3 : AHeap.find G (H.length+2)=some b3:=by rw[hG0 _ (by omega),find_top (by simp)]
 have gH : ∀ i,i < H.length→AHeap.find G i=AHeap.find H i:=fun i hi=>by rw[hG0 _ (by omega),find_past (by simp;omega),find_past (by simp;omega),find_past hi]
 rw[hb1] at g1
 rw[hb2] at g2
 rw[hb3] at g3
 simp -implicitDefEqProofs (maxSteps:=99999999) (disch:=first | omega | (simp only[vl];first | done | omega)) only[vu,g1,c1,c2,c3,va,vg,vs,vw,vk,simprocAttr]
 rw[c6]
 have hgl : H.length < G.length:=by omega
 have f1 : AHeap.find (AHeap.set G H.length (some ⟨4,[cv],true,25⟩)) H.length=some ⟨4,[cv],true,25⟩:=AHeap.find_set_same hgl
 have fo : ∀ i,i ≠ H.length→AHeap.find (AHeap.set G H.length (some ⟨4,[cv],true,25⟩)) i=AHeap.find G i:=fun i hi=>AHeap.find_set_ne hi
 have fl : (AHeap.set G H.length (some ⟨4,[cv],true,25⟩)).length=t.size+(H.length+3):=by rw[AHeap.set_length];exact hGn
 have hl2 : LiesO (AHeap.set G H.length (some ⟨4,[cv],true,25⟩)) t (H.length+3):=hl1.of fun i h1 h2=>fo i (by omega)
 generalize AHeap.set G H.length (some ⟨4,[cv],true,25⟩)=F at *
 have f2 : AHeap.find F (H.length+1)=some ⟨4,[.agg [.sc (.int .u8 kid.kind),.sc (.string kid.text),.sc (.int .i64 kid.num),.lst 4 (ndL kid.kids) none]],true,25⟩:=by rw[fo _ (by omega),g2]
 have f3 : AHeap.find F (H.length+2)=some ⟨4,[AV.agg [.sc (.int .u8 0),.sc (.string ⟨#[]⟩),.sc (.int .i64 0),.lst 0 [] (some [])]],true,25⟩:=by rw[fo _ (by omega),g3]
 have fH : ∀ i,i < H.length→AHeap.find F i=AHeap.find H i:=fun i hi=>by rw[fo _ (by omega),gH i hi]
 clear fo g1 g2 g3 gH hGn hG0 hl1 hgl
 refine hL _ _ ?_
 clear hL
 refine ES_seq_gen fun L hL=>?_
 simp -implicitDefEqProofs (maxSteps:=99999999) (disch:=first | omega | (simp only[vl];first | done | omega)) only[vu,va,vg,vs,vw,vk,simprocAttr]
 refine callR_ret (findO_d t p hp rp H.length 0 (H.length+3) [cv] true F f1 (by simp) (by rw[hcv];rfl) hl2) ?_
 cases hpo : posO t H.length 0 (H.length+3) p with
 | none =>
  have hg : getN t p=none:=by have:=posO_none (t:=t) (id:=H.length) (j:=0) (a:=H.length+3) (p:=p);rw[hpo] at this;cases e : getN t p with | none=>rfl | some u=>rw[e] at this;cases this
  have hv : putV t kid p = .tup [ndA Nd.none,.sc (.int .i64 6)]:=by unfold putV;rw[hg]
  simp only[posV]
  simp -implicitDefEqProofs (maxSteps:=99999999) (disch:=first | omega | (simp only[vl];first | done | omega)) only[vu,va,vg,vs,vw,vk,simprocAttr]
  refine hL _ _ ?_
  clear hL
  refine ES_seq_gen fun L hL=>?_
  simp -implicitDefEqProofs (maxSteps:=99999999) (disch:=first | omega | (simp only[vl];first | done | omega)) only[vu,f3,va,vg,vs,vw,vk,simprocAttr]
  rw[hv]
  refine weak_frz (fun i hi=>?_) (.tup (.cons gz_none (.cons (.same trivial) .nil)))
  first
   | exact fH i hi
   | rw[AHeap.find_set_ne (by omega),fH i hi]
 | some x =>
  simp only[posV]
  simp -implicitDefEqProofs (maxSteps:=99999999) (disch:=first | omega | (simp only[vl];first | done | omega)) only[vu,va,vg,vs,vw,vk,simprocAttr]
  refine hL _ _ ?_
  clear hL
  refine ES_seq_gen fun L hL=>?_
  simp -implicitDefEqProofs (maxSteps:=99999999) (disch:=first | omega | (simp only[vl];first | done | omega)) only[vu,va,vg,vs,vw,vk,simprocAttr]
  obtain ⟨i,m⟩:=x
  obtain ⟨es,ex,u,a',e1,e2,e3,e4⟩:=posO_blk hpo f1 (by simp) (show [cv].getD 0 .top=cpV t (H.length+3) by rw[hcv];rfl) hl2
  obtain ⟨kv,hkv⟩ : ∃ kv,cpV kid F.length=kv:=⟨_,rfl⟩
  have hkv2:=cpV_eq kid F.length
  rw[hkv] at hkv2
  have d1 : kv.isTop=false:=by rw[hkv2];rfl
  have d2 : kv.isAgg=true:=by rw[hkv2];rfl
  have d3 : kv.ncells=4:=by rw[hkv2];rfl
  have d6 : AV.agg kv.cells=kv:=by rw[hkv2];rfl
  have hup : (es.getD m AV.top).upd 0 kv=kv:=by rw[e3,cpV_eq,hkv2];rfl
  have hel : 4 ≤ (es.getD m AV.top).ncells ∧ (es.getD m AV.top).isAgg=true:=by rw[e3,cpV_eq];exact ⟨Nat.le_refl _,rfl⟩
  refine hL _ _ ?_
  clear hL
  refine ES_seq_gen fun L hL=>?_
  simp -implicitDefEqProofs (maxSteps:=99999999) (disch:=first | omega | (simp only[vl];first | done | omega)) only[vu,f2,va,vg,vs,vw,vk,simprocAttr]
  refine callR_ret (hc2 _) ?_
  rw[hkv]
  have hlk:=liesO_lays (t:=kid) (H:=F)
  have hK0 : ∀ x,x < F.length→AHeap.find (cpB kid F.length ++ F) x=AHeap.find F x:=fun x hx=>AHeap.find_append hx
  have hKn : (cpB kid F.length ++ F).length=kid.size+F.length:=by rw[List.length_append,cpB_length]
  generalize cpB kid F.length ++ F=K at *
  have k1 : AHeap.find K i=some ⟨4,es,ex,25⟩:=by rw[hK0 _ (AHeap.find_lt e1),e1]
  simp -implicitDefEqProofs (maxSteps:=99999999) (disch:=first | omega | (simp only[vl];first | done | omega)) only[vu,k1,d1,d2,d3,hup,va,vg,vs,vw,vk,simprocAttr]
  refine ⟨⟨e2,hel⟩,?_⟩
  have hil:=AHeap.find_lt e1
  have hKl : F.length ≤ K.length:=by omega
  have fl' : H.length+3 ≤ F.length:=by omega
  have hiK : i < K.length:=by omega
  have m1 : AHeap.find (AHeap.set K i (some ⟨4,es.set m kv,ex,25⟩)) i=some ⟨4,es.set m kv,ex,25⟩:=AHeap.find_set_same hiK
  have mo : ∀ x,x ≠ i→AHeap.find (AHeap.set K i (some ⟨4,es.set m kv,ex,25⟩)) x=AHeap.find K x:=fun x hx=>AHeap.find_set_ne hx
  generalize AHeap.set K i (some ⟨4,es.set m kv,ex,25⟩)=M at *
  have hall : ∃ nv,AHeap.find M H.length=some ⟨4,[nv],true,25⟩ ∧ (∃ b,nv=cpV t (H.length+3) ∨ nv=cpV kid b) ∧ (i=H.length ∨ H.length+3 ≤ i) ∧ ∀ (R : AV→AV→Prop) (N : AHeap),RelT N (H.length+3) R→(∀ x,H.length+3 ≤ x→AHeap.find N x=AHeap.find M x)→R nv (ndA (withN t kid p)):=by
   cases p with
   | nil =>
    simp only[posO,Option.some.injEq,Prod.mk.injEq] at hpo
    obtain ⟨rfl,rfl⟩:=hpo
    rw[f1] at e1
    cases e1
    refine ⟨kv,m1,⟨F.length,.inr hkv.symm⟩,.inl rfl,fun R N hR hN=>?_⟩
    rw[← hkv]
    exact hR.same fl' (hlk.of fun x h1 h2=>by rw[hN x (by omega),mo x (by omega)])
   | cons q r =>
    have hin:=posO_in hpo
    have hex:=e4 (by simp)
    subst hex
    refine ⟨cv,by rw[mo _ (by omega),hK0 _ (by omega),f1],⟨0,.inl hcv.symm⟩,.inr hin.1,fun R N hR hN=>?_⟩
    rw[← hcv]
    refine changed (F:=F) (b:=F.length) hR ?_ r (Nat.le_refl _) hl2 hpo e1 (by rw[hN i hin.1,m1,hkv]) (fun x h1 h2 h3=>by rw[hN x h1,mo x h3,hK0 x (by omega)])
    exact hR.same fl' (hlk.of fun x h1 h2=>by rw[hN x (by omega),mo x (by omega)])
  obtain ⟨nv,n1,⟨nb,nc⟩,ni,nR⟩:=hall
  have nsh : nv.isTop=false ∧ nv.isAgg=true ∧ nv.ncells=4 ∧ 4 ≤ nv.cells.length ∧ AV.agg (nv.cells.take 4)=nv ∧ AV.agg nv.cells=nv:=by
   rcases nc with rfl | rfl <;> rw[cpV_eq] <;> exact ⟨rfl,rfl,rfl,Nat.le_refl _,rfl,rfl⟩
  obtain ⟨s1,s2,s3,s4,s5,s6⟩:=nsh
  have n3 : AHeap.find M (H.length+2)=some ⟨4,[AV.agg [.sc (.int .u8 0),.sc (.string ⟨#[]⟩),.sc (.int .i64 0),.lst 0 [] (some [])]],true,25⟩:=by rw[mo _ (by omega),hK0 _ (by omega),f3]
  have nH : ∀ x,x < H.length→AHeap.find M x=AHeap.find H x:=fun x hx=>by rw[mo _ (by omega),hK0 _ (by omega),fH x hx]
  have hview:=nR (View M) M ⟨fun _ h=>relT_view.same (Nat.zero_le _) h,fun _=>relT_view.node (Nat.zero_le _)⟩ (fun _ _=>rfl)
  have hrt:=D_view (.cons hview .nil) (.sc) (by have:=tright_d (withN t kid p) none hw [];rwa [ndR_none] at this)
  refine hL _ _ ?_
  clear hL
  refine ES_seq_gen fun L hL=>?_
  simp -implicitDefEqProofs (maxSteps:=99999999) (disch:=first | omega | (simp only[vl];first | done | omega)) only[vu,n1,s1,s2,s3,va,vg,vs,vw,vk,simprocAttr]
  refine ⟨s4,?_⟩
  rw[s5]
  refine callR_ret hrt ?_
  obtain ⟨u0,hgu⟩ : ∃ u0,getN t p=some u0:=by
   have:=posO_none (t:=t) (id:=H.length) (j:=0) (a:=H.length+3) (p:=p)
   rw[hpo] at this
   cases e : getN t p with
   | none=>rw[e] at this;cases this
   | some u0=>exact ⟨u0,rfl⟩
  have hup3 : (AV.agg [.sc (.int .u8 0),.sc (.string ⟨#[]⟩),.sc (.int .i64 0),.lst 0 [] (some [])]).upd 0 nv=nv:=by
   rcases nc with rfl | rfl <;> rw[cpV_eq] <;> rfl
  have m3:=AHeap.find_lt n3
  cases hr : rightN (withN t kid p) 40
  ·have hv : putV t kid p = .tup [ndA Nd.none,.sc (.int .i64 4)]:=by unfold putV;rw[hgu,hr];rfl
   simp -implicitDefEqProofs (maxSteps:=99999999) (disch:=first | omega | (simp only[vl];first | done | omega)) only[vu,n3,va,vg,vs,vw,vk,simprocAttr]
   rw[hv]
   refine weak_frz (fun x hx=>?_) (.tup (.cons gz_none (.cons (.same trivial) .nil)))
   first
    | exact nH x hx
    | rw[AHeap.find_set_ne (by omega),nH x hx]
  ·have hv : putV t kid p = .tup [ndA (withN t kid p),.sc (.int .i64 0)]:=by unfold putV;rw[hgu,hr];rfl
   simp -implicitDefEqProofs (maxSteps:=99999999) (disch:=first | omega | (simp only[vl];first | done | omega)) only[vu,va,vg,vs,vw,vk,simprocAttr]
   refine hL _ _ ?_
   clear hL
   simp -implicitDefEqProofs (maxSteps:=99999999) (disch:=first | omega | (simp only[vl];first | done | omega)) only[vu,n1,n3,s1,s2,s3,va,vg,vs,vw,vk,simprocAttr]
   have hl4 : nv.cells.length=4:=by rcases nc with rfl | rfl <;> rw[cpV_eq] <;> rfl
   have ht : nv.cells.take 4=nv.cells:=List.take_of_length_le (by omega)
   have hdr : ([AV.sc (.int .u8 0),AV.sc (.string ⟨#[]⟩),AV.sc (.int .i64 0),.lst 0 [] (some [])] : List AV).drop 4=[]:=rfl
   rw[ht,hl4,hdr,List.append_nil,ht,s6,hv,hl4]
   refine ⟨Nat.le_refl _,rfl,Nat.le_refl _,?_⟩
   refine weak_frz (fun x hx=>by rw[AHeap.find_set_ne (by omega),nH x hx]) (.tup (.cons ?_ (.cons (.same trivial) .nil)))
   refine nR (Gz (AHeap.set M (H.length+2) (some ⟨4,[nv],true,25⟩)) H.length []) _ ⟨fun hn h=>relT_gz.same (by omega) h,fun hn=>relT_gz.node (by omega)⟩ (fun x hx=>AHeap.find_set_ne (by omega))
end Go.Proofs.YtfnahogjkgcklaaGreatDoor
