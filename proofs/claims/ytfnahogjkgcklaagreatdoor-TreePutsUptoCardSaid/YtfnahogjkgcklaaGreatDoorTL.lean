import Derived.Test.YtfnahogjkgcklaaGreatDoorS284
import Derived.Test.YtfnahogjkgcklaaGreatDoorS38
import Derived.Test.YtfnahogjkgcklaaGreatDoorV36
import Derived.Test.YtfnahogjkgcklaaGreatDoorTK
import Derived.Test.YtfnahogjkgcklaaGreatDoorIc47
namespace Go.Proofs.YtfnahogjkgcklaaGreatDoor
open Go.RowKit
set_option maxRecDepth 100000
set_option linter.unusedVariables false
set_option linter.unusedSimpArgs false
abbrev nilA : AV:=.lst 0 [] (some [])
abbrev bagNodes (t : AV) : ABlk:=⟨21,[.agg [nilA,nilA,nilA,nilA,nilA,nilA,nilA,nilA,nilA,t,nilA,nilA,nilA,nilA,nilA,nilA,nilA,nilA,nilA,nilA,nilA]],true,75⟩
theorem flatNodes_o {H : AHeap} {os : List GRow} {it : Nat} (hls : os ≠ []→AHeap.find H it=OwnB 1 23 (gRows 4 os)) (ok : GRowsOK shNd H os) (hlid : it ∉ gIds os) (hN : os.length ≤ 1000000) :
  D Tryz.prog 54 [OwnV 1 (gRows 4 os) it] H (.ret (.sc (.bool true))) (killIds (if os=[] then [] else it :: gIds os) H):=by
 by_cases e : os=[]
 ·subst e
  rw[if_pos rfl]
  exact flat54_nil H
 ·rw[if_neg e]
  have hne : gRows 4 os ≠ []:=gRows_ne.2 e
  have h:=hls e
  rw[OwnB_ne hne] at h
  rw[OwnV_ne hne,gRows_length]
  exact flat_g shNd (fun H rs lid exl lty cl h1 h2 h3 h4=>flatNodes_e H rs lid exl lty cl h1 h2 h3 h4) h ok hlid hN
def goneNodes (os : List GRow) (it : Nat) : List Nat:=if os=[] then [] else it :: gIds os
theorem mem_goneNodes {os : List GRow} {it i : Nat} (h : i ∈ goneNodes os it) : (os ≠ [] ∧ i=it) ∨ i ∈ gIds os:=by
 unfold goneNodes at h
 split at h
 ·simp at h
 ·rename_i e
  rcases List.mem_cons.1 h with h | h
  ·exact .inl ⟨e,h⟩
  ·exact .inr h
set_option maxHeartbeats 0 in
theorem apartNodes_b (F : AHeap) (bid it : Nat) (os : List GRow) (hb : AHeap.find F bid=some (bagNodes (OwnV 1 (gRows 4 os) it))) (ht : os ≠ []→AHeap.find F it=OwnB 1 23 (gRows 4 os))
  (o1 : GRowsOK shNd F os) (n1 : it ∉ gIds os) (n3 : bid ∉ goneNodes os it) (l1 : os.length ≤ 1000000) :
  D Tryz.prog 28 [.ptr 21 bid 0 0] F (.ret (.sc (.bool true))) (killIds (goneNodes os it) F):=by
 refine D_of_DK (by rw[killIds_length];exact Nat.le_refl _) (dk28 (E_of_ES ?_))
 have hb2 : AHeap.find (killIds (goneNodes os it) F) bid=some (bagNodes (OwnV 1 (gRows 4 os) it)):=(killIds_other n3).trans hb
 simp -implicitDefEqProofs (maxSteps:=99999999) (disch:=first | omega | (simp only[vl];first | done | omega)) only[ic28,hb,va,vg,vs,vw,vk,simprocAttr]
 refine callR_ret (flat45_nil _) ?_
 simp -implicitDefEqProofs (maxSteps:=99999999) (disch:=first | omega | (simp only[vl];first | done | omega)) only[hb,va,vg,vs,vw,vk,simprocAttr]
 refine callR_ret (flat46_nil _) ?_
 simp -implicitDefEqProofs (maxSteps:=99999999) (disch:=first | omega | (simp only[vl];first | done | omega)) only[hb,va,vg,vs,vw,vk,simprocAttr]
 refine callR_ret (flat47_nil _) ?_
 simp -implicitDefEqProofs (maxSteps:=99999999) (disch:=first | omega | (simp only[vl];first | done | omega)) only[hb,va,vg,vs,vw,vk,simprocAttr]
 refine callR_ret (flat48_nil _) ?_
 simp -implicitDefEqProofs (maxSteps:=99999999) (disch:=first | omega | (simp only[vl];first | done | omega)) only[hb,va,vg,vs,vw,vk,simprocAttr]
 refine callR_ret (flat49_nil _) ?_
 simp -implicitDefEqProofs (maxSteps:=99999999) (disch:=first | omega | (simp only[vl];first | done | omega)) only[hb,va,vg,vs,vw,vk,simprocAttr]
 refine callR_ret (flat50_nil _) ?_
 simp -implicitDefEqProofs (maxSteps:=99999999) (disch:=first | omega | (simp only[vl];first | done | omega)) only[hb,va,vg,vs,vw,vk,simprocAttr]
 refine callR_ret (flat51_nil _) ?_
 simp -implicitDefEqProofs (maxSteps:=99999999) (disch:=first | omega | (simp only[vl];first | done | omega)) only[hb,va,vg,vs,vw,vk,simprocAttr]
 refine callR_ret (flat52_nil _) ?_
 simp -implicitDefEqProofs (maxSteps:=99999999) (disch:=first | omega | (simp only[vl];first | done | omega)) only[hb,va,vg,vs,vw,vk,simprocAttr]
 refine callR_ret (flat53_nil _) ?_
 simp -implicitDefEqProofs (maxSteps:=99999999) (disch:=first | omega | (simp only[vl];first | done | omega)) only[hb,va,vg,vs,vw,vk,simprocAttr]
 refine callR_ret (flatNodes_o ht o1 n1 l1) ?_
 rw[show (if os=[] then [] else it :: gIds os)=goneNodes os it from rfl]
 simp -implicitDefEqProofs (maxSteps:=99999999) (disch:=first | omega | (simp only[vl];first | done | omega)) only[hb2,va,vg,vs,vw,vk,simprocAttr]
 refine callR_ret (flat55_nil _) ?_
 simp -implicitDefEqProofs (maxSteps:=99999999) (disch:=first | omega | (simp only[vl];first | done | omega)) only[hb2,va,vg,vs,vw,vk,simprocAttr]
 refine callR_ret (flat56_nil _) ?_
 simp -implicitDefEqProofs (maxSteps:=99999999) (disch:=first | omega | (simp only[vl];first | done | omega)) only[hb2,va,vg,vs,vw,vk,simprocAttr]
 refine callR_ret (flat57_nil _) ?_
 simp -implicitDefEqProofs (maxSteps:=99999999) (disch:=first | omega | (simp only[vl];first | done | omega)) only[hb2,va,vg,vs,vw,vk,simprocAttr]
 refine callR_ret (flat58_nil _) ?_
 simp -implicitDefEqProofs (maxSteps:=99999999) (disch:=first | omega | (simp only[vl];first | done | omega)) only[hb2,va,vg,vs,vw,vk,simprocAttr]
 refine callR_ret (flat59_nil _) ?_
 simp -implicitDefEqProofs (maxSteps:=99999999) (disch:=first | omega | (simp only[vl];first | done | omega)) only[hb2,va,vg,vs,vw,vk,simprocAttr]
 refine callR_ret (flat60_nil _) ?_
 simp -implicitDefEqProofs (maxSteps:=99999999) (disch:=first | omega | (simp only[vl];first | done | omega)) only[hb2,va,vg,vs,vw,vk,simprocAttr]
 refine callR_ret (flat61_nil _) ?_
 simp -implicitDefEqProofs (maxSteps:=99999999) (disch:=first | omega | (simp only[vl];first | done | omega)) only[hb2,va,vg,vs,vw,vk,simprocAttr]
 refine callR_ret (flat62_nil _) ?_
 simp -implicitDefEqProofs (maxSteps:=99999999) (disch:=first | omega | (simp only[vl];first | done | omega)) only[hb2,va,vg,vs,vw,vk,simprocAttr]
 refine callR_ret (flat63_nil _) ?_
 simp -implicitDefEqProofs (maxSteps:=99999999) (disch:=first | omega | (simp only[vl];first | done | omega)) only[hb2,va,vg,vs,vw,vk,simprocAttr]
 refine callR_ret (flat64_nil _) ?_
 simp -implicitDefEqProofs (maxSteps:=99999999) (disch:=first | omega | (simp only[vl];first | done | omega)) only[hb2,va,vg,vs,vw,vk,simprocAttr]
 refine callR_ret (flat65_nil _) ?_
 simp -implicitDefEqProofs (maxSteps:=99999999) (disch:=first | omega | (simp only[vl];first | done | omega)) only[hb2,va,vg,vs,vw,vk,simprocAttr]
 exact Weak.refl _ _ _
def RowIn (F : AHeap) (r : GRow) (xs : List AV) : Prop:=(r.nil=true ∧ xs=[] ∧ r.n=0) ∨ (r.nil=false ∧ ∃ es ex,AHeap.find F r.id=some ⟨4,es,ex,25⟩ ∧ es.take r.n=xs ∧ r.n ≤ es.length ∧ (r.c=none→ex=false) ∧ (∀ m,r.c=some m→capOK r.n m es ex) ∧ ∀ x ∈ es,shNd.is x)
mutual
inductive OT (F : AHeap) : Nd→AV→List GRow→Prop
 | mk {k : Int} {s : ByteArray} {n : Int} {l : List Nd} {r : GRow} {xs : List AV} {rs : List GRow} : RowIn F r xs→r.n=l.length→OTL F l xs rs→OT F ⟨k,s,n,l⟩ (.agg [.sc (.int .u8 k),.sc (.string s),.sc (.int .i64 n),r.av 4]) (r :: rs)
inductive OTL (F : AHeap) : List Nd→List AV→List GRow→Prop
 | nil : OTL F [] [] []
 | cons {t : Nd} {l : List Nd} {x : AV} {xs : List AV} {a b : List GRow} : OT F t x a→OTL F l xs b→OTL F (t :: l) (x :: xs) (a ++ b)
end
theorem gIds_cons (r : GRow) (rs : List GRow) : gIds (r :: rs)=(if r.nil then [] else [r.id]) ++ gIds rs:=by
 unfold gIds
 cases h : r.nil <;> simp[h]
theorem gIds_append (a b : List GRow) : gIds (a ++ b)=gIds a ++ gIds b:=by simp[gIds]
theorem gIds_head {r : GRow} {rs : List GRow} (h : r.nil=false) : r.id ∈ gIds (r :: rs):=by rw[gIds_cons,h];simp
theorem gIds_tail {r : GRow} {rs : List GRow} {i : Nat} (h : i ∈ gIds rs) : i ∈ gIds (r :: rs):=by rw[gIds_cons];exact List.mem_append_right _ h
theorem RowIn.keep {F G : AHeap} {r : GRow} {xs : List AV} (h : RowIn F r xs) (hk : r.nil=false→AHeap.find G r.id=AHeap.find F r.id) : RowIn G r xs:=by
 rcases h with h | ⟨h1,es,ex,h2,h3⟩
 ·exact .inl h
 ·exact .inr ⟨h1,es,ex,by rw[hk h1,h2],h3⟩
theorem RowIn.lt {F : AHeap} {r : GRow} {xs : List AV} (h : RowIn F r xs) (hn : r.nil=false) : r.id < F.length:=by
 rcases h with ⟨h,_⟩ | ⟨_,es,ex,h2,_⟩
 ·rw[hn] at h;cases h
 ·exact AHeap.find_lt h2
theorem ot_all {F : AHeap} (t : Nd) : ∀ {x : AV} {rs : List GRow},OT F t x rs→(∀ i ∈ gIds rs,i < F.length) ∧ rs.length=t.size ∧ (∀ r ∈ rs,∃ xs,RowIn F r xs ∧ r.n ≤ t.size) ∧ ∀ G : AHeap,(∀ i ∈ gIds rs,AHeap.find G i=AHeap.find F i)→OT G t x rs:=by
 induction t using Nd.ind with
 | _ t ih =>
  intro x rs h
  have key : ∀ l : List Nd,(∀ k ∈ l,∀ {x : AV} {rs : List GRow},OT F k x rs→(∀ i ∈ gIds rs,i < F.length) ∧ rs.length=k.size ∧ (∀ r ∈ rs,∃ xs,RowIn F r xs ∧ r.n ≤ k.size) ∧ ∀ G : AHeap,(∀ i ∈ gIds rs,AHeap.find G i=AHeap.find F i)→OT G k x rs) →
    ∀ {xs : List AV} {rs : List GRow},OTL F l xs rs→(∀ i ∈ gIds rs,i < F.length) ∧ rs.length=Nd.sizeL l ∧ (∀ r ∈ rs,∃ xs,RowIn F r xs ∧ r.n ≤ Nd.sizeL l) ∧ ∀ G : AHeap,(∀ i ∈ gIds rs,AHeap.find G i=AHeap.find F i)→OTL G l xs rs:=by
   intro l
   induction l with
   | nil=>intro _ xs rs h;cases h;exact ⟨by simp[gIds],rfl,by simp,fun _ _=>.nil⟩
   | cons y r ihr =>
    intro hk xs rs h
    cases h with
    | @cons _ _ x xs a b h1 h2 =>
     obtain ⟨p1,p2,p3,p4⟩:=hk y (by simp) h1
     obtain ⟨q1,q2,q3,q4⟩:=ihr (fun k hk'=>hk k (by simp[hk'])) h2
     refine ⟨fun i hi=>?_,by simp[p2,q2,Nd.sizeL],fun r hr=>?_,fun G hG=>.cons (p4 G fun i hi=>hG i (by rw[gIds_append];simp[hi])) (q4 G fun i hi=>hG i (by rw[gIds_append];simp[hi]))⟩
     ·rw[gIds_append,List.mem_append] at hi
      exact hi.elim (p1 i) (q1 i)
     ·simp only[Nd.sizeL]
      rcases List.mem_append.1 hr with hr | hr
      ·obtain ⟨zs,z1,z2⟩:=p3 r hr;exact ⟨zs,z1,by omega⟩
      ·obtain ⟨zs,z1,z2⟩:=q3 r hr;exact ⟨zs,z1,by omega⟩
  cases h with
  | @mk k s n l r xs rs h1 h2 h3 =>
   obtain ⟨q1,q2,q3,q4⟩:=key l ih h3
   have hll:=Nd.len_le l
   refine ⟨fun i hi=>?_,by simp only[List.length_cons,q2,Nd.size];omega,fun r' hr=>?_,fun G hG=>.mk (h1.keep fun hn=>hG _ (gIds_head hn)) h2 (q4 G fun i hi=>hG i (gIds_tail hi))⟩
   ·rw[gIds_cons] at hi
    cases hn : r.nil with
    | true=>rw[hn] at hi;simp at hi;exact q1 i hi
    | false =>
     rw[hn] at hi
     simp at hi
     rcases hi with rfl | hi
     ·exact h1.lt hn
     ·exact q1 i hi
   ·simp only[Nd.size]
    rcases List.mem_cons.1 hr with rfl | hr
    ·exact ⟨xs,h1,by omega⟩
    ·obtain ⟨zs,z1,z2⟩:=q3 r' hr;exact ⟨zs,z1,by omega⟩
theorem otl_all {F : AHeap} : ∀ {l : List Nd} {xs : List AV} {rs : List GRow},OTL F l xs rs→xs.length=l.length ∧ (∀ i ∈ gIds rs,i < F.length) ∧ rs.length=Nd.sizeL l ∧ (∀ r ∈ rs,∃ xs,RowIn F r xs ∧ r.n ≤ Nd.sizeL l) ∧ ∀ G : AHeap,(∀ i ∈ gIds rs,AHeap.find G i=AHeap.find F i)→OTL G l xs rs
 | [],_,_,.nil=>⟨rfl,by simp[gIds],rfl,by simp,fun _ _=>.nil⟩
 | y :: r,_,_,.cons (a:=a) (b:=b) h1 h2=>by
  obtain ⟨p1,p2,p3,p4⟩:=ot_all y h1
  obtain ⟨q0,q1,q2,q3,q4⟩:=otl_all h2
  refine ⟨by simp[q0],fun i hi=>?_,by simp[p2,q2,Nd.sizeL],fun r hr=>?_,fun G hG=>.cons (p4 G fun i hi=>hG i (by rw[gIds_append];simp[hi])) (q4 G fun i hi=>hG i (by rw[gIds_append];simp[hi]))⟩
  ·rw[gIds_append,List.mem_append] at hi
   exact hi.elim (p1 i) (q1 i)
  ·simp only[Nd.sizeL]
   rcases List.mem_append.1 hr with hr | hr
   ·obtain ⟨zs,z1,z2⟩:=p3 r hr;exact ⟨zs,z1,by omega⟩
   ·obtain ⟨zs,z1,z2⟩:=q3 r hr;exact ⟨zs,z1,by omega⟩
structure BagAt (F : AHeap) (bid it : Nat) (os : List GRow) : Prop where
 box : AHeap.find F bid=some (bagNodes (OwnV 1 (gRows 4 os) it))
 row : os ≠ []→AHeap.find F it=OwnB 1 23 (gRows 4 os)
 ne : it ≠ bid
structure BagQ (F : AHeap) (bid it : Nat) (os : List GRow) (G : AHeap) (it' : Nat) (ps : List GRow) : Prop where
 bag : BagAt G bid it' ps
 len : F.length ≤ G.length
 old : ∀ i,i < F.length→i ≠ bid→(os ≠ []→i ≠ it)→AHeap.find G i=AHeap.find F i
 new : ps ≠ []→(os ≠ [] ∧ it'=it) ∨ F.length ≤ it'
theorem BagQ.trans {F G K : AHeap} {bid a b c : Nat} {os ps qs : List GRow} (h : BagQ F bid a os G b ps) (k : BagQ G bid b ps K c qs) : BagQ F bid a os K c qs where
 bag:=k.bag
 len:=Nat.le_trans h.len k.len
 old:=fun i hi h1 h2=>by
  have hl:=h.len
  rw[k.old i (by omega) h1 (fun e he=>?_),h.old i hi h1 h2]
  rcases h.new e with ⟨g1,g2⟩ | g1
  ·exact h2 g1 (by omega)
  ·omega
 new:=fun e=>by
  have hl:=h.len
  rcases k.new e with ⟨h1,h2⟩ | h1
  ·rcases h.new h1 with ⟨g1,g2⟩ | g1
   ·exact .inl ⟨g1,by omega⟩
   ·exact .inr (by omega)
  ·exact .inr (by omega)
theorem BagAt.cons {F : AHeap} {bid it : Nat} {os : List GRow} (b : Option ABlk) (h : BagAt F bid it os) : BagQ F bid it os (b :: F) it os where
 bag:=⟨by rw[find_past (AHeap.find_lt h.box),h.box],fun e=>by
  have h1:=h.row e
  rw[OwnB_ne (gRows_ne.2 e)] at h1 ⊢
  rw[find_past (AHeap.find_lt h1),h1],h.ne⟩
 len:=by simp
 old:=fun i hi _ _=>find_past hi
 new:=fun e=>.inl ⟨e,rfl⟩
def PutL (l : List Nd) : Prop:=∀ (r : GRow) (xs : List AV) (rs : List GRow) (F : AHeap) (bid it : Nat) (os : List GRow),RowIn F r xs→r.n=l.length→OTL F l xs rs→BagAt F bid it os→(∀ i ∈ gIds (r :: rs),i ≠ bid ∧ (os ≠ []→i ≠ it))→os.length+1+Nd.sizeL l ≤ 9000000 →
 DK Tryz.prog 27 [.ptr 21 bid 0 0,r.av 4] F (fun e F'=>∃ v,e = .ret v ∧ ∃ it',BagQ F bid it os F' it' (os ++ r :: rs))
theorem oneNode_of {t : Nd} (hp : PutL t.kids) {x : AV} {rs : List GRow} {F : AHeap} {bid it : Nat} {os : List GRow} (h : OT F t x rs) (hb : BagAt F bid it os) (hi : ∀ i ∈ gIds rs,i ≠ bid ∧ (os ≠ []→i ≠ it)) (hl : os.length+t.size ≤ 9000000) :
  DK Tryz.prog 44 [.ptr 21 bid 0 0,x] F (fun e F'=>∃ v,e = .ret v ∧ ∃ it',BagQ F bid it os F' it' (os ++ rs)):=by
 have hall:=ot_all t h
 cases h with
 | @mk k s n l r xs rs h1 h2 h3 =>
  obtain ⟨v1,v2,v3⟩:=GRow.av_facts (k:=4) (r:=r)
  have v4 : (r.av 4).cells=[r.av 4]:=by cases hh : r.av 4 <;> first | rfl | (rw[hh] at v3;simp[AV.isAgg] at v3)
  have hq:=hb.cons (some ⟨4,[.agg [.sc (.int .u8 k),.sc (.string s),.sc (.int .i64 n),r.av 4]],true,25⟩)
  have hlt:=otl_all h3
  have hpp:=hp r xs rs (some ⟨4,[.agg [.sc (.int .u8 k),.sc (.string s),.sc (.int .i64 n),r.av 4]],true,25⟩ :: F) bid it os (h1.keep fun hn=>find_past (h1.lt hn)) h2 (hlt.2.2.2.2 _ fun i hi=>find_past (hlt.2.1 i hi)) hq.bag hi (by simp only[Nd.size,Nd.kids] at *;omega)
  refine dk44 (E_of_ES ?_)
  simp only[ic44,ux]
  refine ES_seq_gen fun L hL=>?_
  simp -implicitDefEqProofs (maxSteps:=99999999) (disch:=first | omega | (simp only[vl];first | done | omega)) only[v1,v2,v3,v4,va,vg,vs,vw,vk,simprocAttr]
  refine hL _ _ ?_
  clear hL
  simp -implicitDefEqProofs (maxSteps:=99999999) (disch:=first | omega | (simp only[vl];first | done | omega)) only[v1,v2,v3,v4,va,vg,vs,vw,vk,simprocAttr]
  refine callR_rel hpp ?_
  rintro w G hGl ⟨it',hq2⟩
  simp -implicitDefEqProofs (maxSteps:=99999999) (disch:=first | omega | (simp only[vl];first | done | omega)) only[va,vg,vs,vw,vk,simprocAttr]
  exact ⟨_,rfl,it',hq.trans hq2⟩
set_option maxHeartbeats 0 in
theorem putNs_of (l : List Nd) (ih : ∀ t ∈ l,PutL t.kids) : PutL l:=by
 intro r xs rs F bid it os hr hrn hot hb hids hsz
 obtain ⟨v1,v2,v3⟩:=GRow.av_facts (k:=4) (r:=r)
 have v4 : (r.av 4).cells=[r.av 4]:=by cases hh : r.av 4 <;> first | rfl | (rw[hh] at v3;simp[AV.isAgg] at v3)
 have hbox:=hb.box
 have hbl:=AHeap.find_lt hbox
 refine dk27 (E_of_ES ?_)
 simp only[ic27,ux]
 refine ES_seq_gen fun L hL=>?_
 have mid : ∀ ts G,(∃ it1,BagQ F bid it os G it1 (os ++ [r]) ∧ Fr [some (.ptr 21 bid 0 0),some (r.av 4),none,none,none,none,none,none,none,none,none,none,none,none,none,none,none,none,none,none,none,none,none,none,none,none,none] ts)→L ts G:=by
  rintro ts G ⟨it1,hq,hfr⟩
  obtain ⟨js,rfl⟩:=hfr.opened
  clear hfr
  refine hL _ _ ?_
  clear hL
  refine ES_seq_gen fun L hL=>?_
  simp -implicitDefEqProofs (maxSteps:=99999999) (disch:=first | omega | (simp only[vl];first | done | omega)) only[mk,va,vg,vs,vw,vk,simprocAttr]
  refine hL _ _ ?_
  clear hL
  simp -implicitDefEqProofs (maxSteps:=99999999) (disch:=first | omega | (simp only[vl];first | done | omega)) only[va,vg,vs,vw,vk,simprocAttr]
  have hot2:=otl_all hot
  have hidlt : ∀ i ∈ gIds (r :: rs),i < F.length:=fun i hi=>by
   rw[gIds_cons] at hi
   cases hn : r.nil with
   | true=>rw[hn] at hi;simp at hi;exact hot2.2.1 i hi
   | false =>
    rw[hn] at hi
    simp at hi
    rcases hi with rfl | hi
    ·exact hr.lt hn
    ·exact hot2.2.1 i hi
  have hlen : lenN (r.av 4)=l.length ∧ lenOk (r.av 4):=by
   cases hn : r.nil with
   | true =>
    rcases hr with ⟨_,_,h⟩ | ⟨h,_⟩
    ·rw[GRow.av_nil hn]
     exact ⟨by rw[← hrn,h];rfl,trivial⟩
    ·rw[hn] at h;cases h
   | false =>
    rw[GRow.av_vec hn]
    exact ⟨hrn,trivial⟩
  obtain ⟨n1,n2⟩:=hlen
  have hll:=Nd.len_le l
  refine ES_loopL (fun ts K=>∃ (k it2 : Nat) (dn rest : List GRow),(k ≤ l.length ∧ rs=dn ++ rest ∧ OTL F (l.drop k) (xs.drop k) rest) ∧ BagQ F bid it os K it2 (os ++ r :: dn) ∧ Fr [some (.ptr 21 bid 0 0),some (r.av 4),none,none,some (.sc (.int .i64 k)),none,none,none,none,none,none,none,none,none,none,none,none,none,none,none,none,none,none,none,none,none,none] ts) (fun ts _=>l.length - (intV (ts.getD 4 .top)).toNat) ?_ ?_
  ·exact ⟨0,it1,[],rs,⟨Nat.zero_le _,rfl,by rw[List.drop_zero,List.drop_zero];exact hot⟩,hq,by simp[Fr]⟩
  clear hq
  rintro ts K ⟨k,it2,dn,rest,⟨hk,hrs,hott⟩,hq,hfr⟩ L2 hL2
  obtain ⟨js,rfl⟩:=hfr.opened
  clear hfr
  by_cases hd : k < l.length
  ·have d1 : (k : Int) < l.length:=by omega
   rw[List.drop_eq_getElem_cons hd] at hott
   generalize hxd : xs.drop k=xd at hott
   cases hott with
   | @cons _ _ x xt ra rb h1 h2 =>
    have hxl : k < xs.length:=by rw[hot2.1];exact hd
    rw[List.drop_eq_getElem_cons hxl] at hxd
    obtain ⟨hx1,hx2⟩:=List.cons.inj hxd
    have hkeep : ∀ i ∈ gIds (r :: rs),AHeap.find K i=AHeap.find F i:=fun i hi=>hq.old i (hidlt i hi) (hids i hi).1 (hids i hi).2
    have hmem:=List.getElem_mem hd
    have hsl:=Nd.sizeL_mem hmem
    have hone:=oneNode_of (ih _ hmem) ((ot_all _ h1).2.2.2 K fun i hi=>hkeep i (gIds_tail (by rw[hrs,gIds_append,gIds_append];simp[hi]))) hq.bag (fun i hi=>by
     have hm : i ∈ gIds (r :: rs):=gIds_tail (by rw[hrs,gIds_append,gIds_append];simp[hi])
     refine ⟨(hids i hm).1,fun _=>?_⟩
     rcases hq.new (by simp) with ⟨g1,g2⟩ | g1
     ·rw[g2];exact (hids i hm).2 g1
     ·have:=hidlt i hm;omega) (by
     have e1:=hot2.2.2.1
     have e2:=(ot_all _ h1).2.1
     rw[hrs] at e1
     simp only[List.length_append,List.length_cons] at e1 ⊢
     omega)
    rcases hr with ⟨_,_,h⟩ | ⟨hn,es,ex,hf,htk,hne,_⟩
    ·omega
    ·have hfK : AHeap.find K r.id=some ⟨4,es,ex,25⟩:=by rw[hkeep _ (gIds_head hn),hf]
     have hge : es.getD k .top=x:=by
      have hke : k < es.length:=by omega
      rw[← hx1]
      simp only[← htk,List.getElem_take]
      simp[List.getD,hke]
     have hke : k < es.length:=by omega
     have hkn : (k : Int) < r.n:=by omega
     obtain ⟨kk,ks,kn,kr,hxe⟩ : ∃ (a : Int) (b : ByteArray) (c : Int) (d : GRow),x = .agg [.sc (.int .u8 a),.sc (.string b),.sc (.int .i64 c),d.av 4]:=by
      have hk2 : ∀ u : Nd,OT F u x ra→∃ (a : Int) (b : ByteArray) (c : Int) (d : GRow),x = .agg [.sc (.int .u8 a),.sc (.string b),.sc (.int .i64 c),d.av 4]:=fun u h=>by
       cases h
       exact ⟨_,_,_,_,rfl⟩
      exact hk2 _ h1
     rw[hxe] at hge hone
     have hav:=GRow.av_vec (k:=4) hn
     have hln : lenN (r.av 4)=r.n:=by rw[n1,hrn]
     rw[hav] at n2
     simp -implicitDefEqProofs (maxSteps:=99999999) (disch:=first | omega | (simp only[vl];first | done | omega)) only[mk,n1,hln,n2,d1,hav,hfK,hge,hkn,hke,va,vg,vs,vw,vk,simprocAttr]
     refine ⟨by omega,callR_rel hone ?_⟩
     rintro w K2 hKl ⟨it3,hq2⟩
     simp -implicitDefEqProofs (maxSteps:=99999999) (disch:=first | omega | (simp only[vl];first | done | omega)) only[va,vg,vs,vw,vk,simprocAttr]
     have hq3:=hq.trans hq2
     rw[List.append_assoc,List.cons_append] at hq3
     exact hL2 _ _ ⟨k+1,it3,dn ++ ra,rb,⟨by omega,by rw[hrs,List.append_assoc],by rw[hx2];exact h2⟩,hq3,by simp[Fr,hav]⟩ (by simp[intV,mk];omega)
  ·have d1 : ¬ (k : Int) < l.length:=by omega
   rw[List.drop_of_length_le (by omega),List.drop_of_length_le (by rw[hot2.1];omega)] at hott
   cases hott
   rw[List.append_nil] at hrs
   subst hrs
   simp -implicitDefEqProofs (maxSteps:=99999999) (disch:=first | omega | (simp only[vl];first | done | omega)) only[mk,n1,n2,d1,va,vg,vs,vw,vk,simprocAttr]
   exact ⟨_,rfl,it2,hq⟩
 clear hL
 cases os with
 | nil =>
  have hO : OwnV 1 (gRows 4 []) it=nilA:=rfl
  rw[hO] at hbox
  simp -implicitDefEqProofs (maxSteps:=99999999) (disch:=first | omega | (simp only[vl];first | done | omega)) only[hbox,v1,v2,v3,v4,va,vg,vs,vw,vk,simprocAttr]
  refine mid _ _ ⟨F.length,⟨⟨?_,fun _=>?_,by omega⟩,by simp[AHeap.set_length],fun i hi h1 h2=>?_,fun _=>.inr (Nat.le_refl _)⟩,by simp[Fr]⟩
  ·rw[find_past (by simp[AHeap.set_length];exact hbl),AHeap.find_set_same hbl]
   rfl
  ·rw[find_top (by simp[AHeap.set_length])]
   rfl
  ·rw[find_past (by simp[AHeap.set_length];exact hi),AHeap.find_set_ne h1]
 | cons o os =>
  have hne : gRows 4 (o :: os) ≠ []:=gRows_ne.2 (by simp)
  have hrow:=hb.row (by simp)
  rw[OwnB_ne hne] at hrow
  rw[OwnV_ne hne] at hbox
  have hbn : bid ≠ it:=fun h=>hb.ne h.symm
  simp -implicitDefEqProofs (maxSteps:=99999999) (disch:=first | omega | (simp only[vl];first | done | omega)) only[hbox,hrow,v1,v2,v3,v4,va,vg,vs,vw,vk,simprocAttr]
  have hil:=AHeap.find_lt hrow
  have hgl:=gRows_length (k:=4) (rs:=o :: os)
  have hsz' : (gRows 4 (o :: os)).length+1 ≤ 9000000:=by rw[hgl];omega
  refine ⟨by omega,mid _ _ ⟨F.length,⟨⟨?_,fun _=>?_,by omega⟩,by simp[AHeap.set_length],fun i hi h1 h2=>?_,fun _=>.inr (Nat.le_refl _)⟩,by simp[Fr]⟩⟩
  ·rw[find_past (by simp[AHeap.set_length];exact hbl),AHeap.find_set_same (by rw[AHeap.set_length];exact hbl),OwnV_ne (gRows_ne.2 (by simp)),gRows_append,List.length_append]
   rfl
  ·rw[find_top (by simp[AHeap.set_length]),OwnB_ne (gRows_ne.2 (by simp)),gRows_append]
   rfl
  ·rw[find_past (by simp[AHeap.set_length];exact hi),AHeap.find_set_ne h1,AHeap.find_set_ne (h2 (by simp))]
theorem putNs_all (l : List Nd) : PutL l:=by
 have key : ∀ n : Nat,∀ l : List Nd,Nd.sizeL l ≤ n→PutL l:=by
  intro n
  induction n with
  | zero =>
   intro l h
   refine putNs_of l fun t ht=>?_
   have:=Nd.sizeL_mem ht
   have:=t.size_pos
   omega
  | succ n ih =>
   intro l h
   refine putNs_of l fun t ht=>ih _ ?_
   have:=Nd.sizeL_mem ht
   have:=Nd.size_eq t
   omega
 exact key _ l (Nat.le_refl _)
end Go.Proofs.YtfnahogjkgcklaaGreatDoor
namespace Go.Proofs.YtfnahogjkgcklaaGreatDoor
open Go.RowKit
set_option maxRecDepth 100000
set_option linter.unusedVariables false
set_option linter.unusedSimpArgs false
structure TopL where
 r : GRow
 l : List Nd
 xs : List AV
 rs : List GRow
structure TopL.ok (F : AHeap) (T : TopL) : Prop where
 row : RowIn F T.r T.xs
 n : T.r.n=T.l.length
 els : OTL F T.l T.xs T.rs
def topR : List TopL→List GRow
 | []=>[]
 | T :: q=>(T.r :: T.rs) ++ topR q
theorem topR_append (a b : List TopL) : topR (a ++ b)=topR a ++ topR b:=by
 induction a with
 | nil=>rfl
 | cons x r ih=>simp[topR,ih]
def topS : List TopL→Nat
 | []=>0
 | T :: q=>1+Nd.sizeL T.l+topS q
theorem topS_append (a b : List TopL) : topS (a ++ b)=topS a+topS b:=by
 induction a with
 | nil=>simp[topS]
 | cons x r ih=>simp only[List.cons_append,topS,ih];omega
theorem topS_len (q : List TopL) : q.length ≤ topS q:=by
 induction q with
 | nil=>exact Nat.zero_le _
 | cons x r ih=>simp only[List.length_cons,topS];omega
theorem topR_length {F : AHeap} : ∀ {q : List TopL},(∀ T ∈ q,T.ok F)→(topR q).length=topS q
 | [],_=>rfl
 | T :: q,h=>by
  have h1:=otl_all (h T (by simp)).els
  simp only[topR,topS,List.length_append,List.length_cons,h1.2.2.1,topR_length (q:=q) fun S hS=>h S (List.mem_cons_of_mem _ hS)]
  omega
theorem topR_row {F : AHeap} : ∀ {q : List TopL},(∀ T ∈ q,T.ok F)→∀ r ∈ topR q,∃ xs,RowIn F r xs ∧ r.n ≤ topS q
 | [],_,r,hr=>by simp[topR] at hr
 | T :: q,h,r,hr=>by
  have hT:=h T (by simp)
  have h1:=otl_all hT.els
  have hl:=Nd.len_le T.l
  simp only[topR,List.mem_append,List.mem_cons] at hr
  simp only[topS]
  rcases hr with (rfl | hr) | hr
  ·exact ⟨_,hT.row,by rw[hT.n];omega⟩
  ·obtain ⟨xs,g1,g2⟩:=h1.2.2.2.1 r hr
   exact ⟨xs,g1,by omega⟩
  ·obtain ⟨xs,g1,g2⟩:=topR_row (q:=q) (fun S hS=>h S (List.mem_cons_of_mem _ hS)) r hr
   exact ⟨xs,g1,by omega⟩
theorem TopL.ok.keep {F G : AHeap} {T : TopL} (h : T.ok F) (hk : ∀ i ∈ gIds (T.r :: T.rs),AHeap.find G i=AHeap.find F i) : T.ok G :=
 ⟨h.row.keep fun hn=>hk _ (gIds_head hn),h.n,(otl_all h.els).2.2.2.2 G fun i hi=>hk i (gIds_tail hi)⟩
theorem topR_lt {F : AHeap} {q : List TopL} (h : ∀ T ∈ q,T.ok F) : ∀ i ∈ gIds (topR q),i < F.length:=by
 intro i hi
 obtain ⟨o,h1,rfl⟩:=List.mem_map.1 hi
 obtain ⟨h2,h3⟩:=List.mem_filter.1 h1
 obtain ⟨xs,g1,_⟩:=topR_row h o h2
 exact g1.lt (by simpa using h3)
theorem grows_ok {F : AHeap} {q : List TopL} (h : ∀ T ∈ q,T.ok F) (hn : (gIds (topR q)).Nodup) (hs : topS q ≤ 1000000) : GRowsOK shNd F (topR q) where
 zero:=fun r hr hnil=>by
  obtain ⟨xs,g1,_⟩:=topR_row h r hr
  rcases g1 with ⟨_,_,h⟩ | ⟨h,_⟩
  ·exact h
  ·rw[hnil] at h;cases h
 blk:=fun r hr hnil=>by
  obtain ⟨xs,g1,_⟩:=topR_row h r hr
  rcases g1 with ⟨h,_⟩ | ⟨_,es,ex,k1,k2,k3,k4,k5,k6⟩
  ·rw[hnil] at h;cases h
  ·exact ⟨es,ex,k1,fun hc=>⟨k4 hc,k3⟩,k5,k6⟩
 apart:=hn
 small:=fun r hr=>by
  obtain ⟨xs,g1,g2⟩:=topR_row h r hr
  omega
set_option maxHeartbeats 0 in
theorem apartNodes_d (H : AHeap) (lid : Nat) (q : List TopL) (ex : Bool) (lty : TypeId) (cl : Option Nat) (hl : AHeap.find H lid=some ⟨1,q.map fun T=>T.r.av 4,ex,lty⟩) (ok : ∀ T ∈ q,T.ok H) (hn : (gIds (topR q)).Nodup) (hlid : lid ∉ gIds (topR q)) (hs : topS q ≤ 1000000) :
  DK Tryz.prog 13 [.vec 1 lid 0 q.length cl] H (fun e F=>∃ v,e = .ret v ∧ v = .sc (.bool true)):=by
 have hlt:=AHeap.find_lt hl
 have hidl:=topR_lt ok
 have hqS:=topS_len q
 have hql : (q.map fun T=>T.r.av 4).length=q.length:=by simp
 refine dk13 (E_of_ES ?_)
 simp only[ic13,ux]
 refine ES_seq_gen fun L hL=>?_
 simp -implicitDefEqProofs (maxSteps:=99999999) (disch:=first | omega | (simp only[vl];first | done | omega)) only[va,vg,vs,vw,vk,simprocAttr]
 refine hL _ _ ?_
 clear hL
 refine ES_seq_gen fun L hL=>?_
 simp -implicitDefEqProofs (maxSteps:=99999999) (disch:=first | omega | (simp only[vl];first | done | omega)) only[va,vg,vs,vw,vk,simprocAttr]
 refine hL _ _ ?_
 clear hL
 refine ES_seq_gen fun L hL=>?_
 simp -implicitDefEqProofs (maxSteps:=99999999) (disch:=first | omega | (simp only[vl];first | done | omega)) only[va,vg,vs,vw,vk,simprocAttr]
 obtain ⟨F1,hF1⟩ : ∃ F1 : AHeap,F1=some (bagNodes nilA) :: H:=⟨_,rfl⟩
 have hF1l : F1.length=H.length+1:=by rw[hF1];rfl
 have hF1o : ∀ i,i < H.length→AHeap.find F1 i=AHeap.find H i:=fun i hi=>by rw[hF1,find_past hi]
 have hF1b : AHeap.find F1 H.length=some (bagNodes nilA):=by rw[hF1];exact find_top rfl
 rw[← hF1]
 clear hF1
 refine ES_loopL (fun ts K=>∃ k it : Nat,k ≤ q.length ∧ BagQ F1 H.length (H.length+1) [] K it (topR (q.take k)) ∧ Fr [some (.vec 1 lid 0 q.length cl),none,some (.sc (.bool false)),some (.ptr 21 H.length 0 0),some (.sc (.int .i64 k)),none,none,none,none,none,none,none,none,none,none,none,none,none,none,none,none] ts) (fun ts _=>q.length - (intV (ts.getD 4 .top)).toNat) ?_ ?_
 ·exact ⟨0,H.length+1,Nat.zero_le _,⟨⟨hF1b,fun h=>(h rfl).elim,by omega⟩,Nat.le_refl _,fun _ _ _ _=>rfl,fun h=>(h rfl).elim⟩,by simp[Fr]⟩
 rintro ts K ⟨k,it,hk,hq,hfr⟩ L2 hL2
 obtain ⟨js,rfl⟩:=hfr.opened
 clear hfr
 have hold : ∀ i,i < H.length→AHeap.find K i=AHeap.find H i:=fun i hi=>by rw[hq.old i (by omega) (by omega) (fun h=>(h rfl).elim),hF1o i hi]
 have hit : topR (q.take k) ≠ []→H.length < it:=fun h=>by
  rcases hq.new h with ⟨h1,_⟩ | h1
  ·exact (h1 rfl).elim
  ·omega
 by_cases hd : k < q.length
 ·have d1 : (k : Int) < q.length:=by omega
  have hlK : AHeap.find K lid=some ⟨1,q.map fun T=>T.r.av 4,ex,lty⟩:=by rw[hold _ hlt,hl]
  obtain ⟨T,hT⟩ : ∃ T,q[k]=T:=⟨_,rfl⟩
  have hTm : T ∈ q:=by rw[← hT];exact List.getElem_mem hd
  have hge : (q.map fun T=>T.r.av 4).getD k .top=T.r.av 4:=by simp[List.getD,hd,hT]
  have htk : q.take (k+1)=q.take k ++ [T]:=by rw[List.take_succ_eq_append_getElem hd,hT]
  have hts : topS (q.take k)+(1+Nd.sizeL T.l) ≤ topS q:=by
   have e : topS q=topS (q.take (k+1))+topS (q.drop (k+1)):=by rw[← topS_append,List.take_append_drop]
   rw[htk,topS_append] at e
   simp only[topS] at e
   omega
  have hTi : ∀ i ∈ gIds (T.r :: T.rs),i < H.length:=by
   have:=topR_lt (q:=[T]) (fun S hS=>by rw[List.mem_singleton.1 hS];exact ok T hTm)
   simpa [topR] using this
  have hTK:=(ok T hTm).keep fun i hi=>hold i (hTi i hi)
  have hpl:=putNs_all T.l T.r T.xs T.rs K H.length it (topR (q.take k)) hTK.row hTK.n hTK.els hq.bag (fun i hi=>⟨by have:=hTi i hi;omega,fun h=>by have:=hTi i hi;have:=hit h;omega⟩) (by
   rw[topR_length (F:=H) fun S hS=>ok S (List.mem_of_mem_take hS)]
   omega)
  obtain ⟨v1,v2,v3⟩:=GRow.av_facts (k:=4) (r:=T.r)
  have v4 : (T.r.av 4).cells=[T.r.av 4]:=by cases hh : T.r.av 4 <;> first | rfl | (rw[hh] at v3;simp[AV.isAgg] at v3)
  simp -implicitDefEqProofs (maxSteps:=99999999) (disch:=first | omega | (simp only[vl];first | done | omega)) only[mk,d1,hlK,hql,hge,hd,v1,v2,v3,v4,va,vg,vs,vw,vk,simprocAttr]
  refine ⟨by omega,callR_rel hpl ?_⟩
  rintro w K2 hKl ⟨it3,hq2⟩
  simp -implicitDefEqProofs (maxSteps:=99999999) (disch:=first | omega | (simp only[vl];first | done | omega)) only[va,vg,vs,vw,vk,simprocAttr]
  have hq3:=hq.trans hq2
  have e : topR (q.take k) ++ T.r :: T.rs=topR (q.take (k+1)):=by rw[htk,topR_append];simp[topR]
  rw[e] at hq3
  exact hL2 _ _ ⟨k+1,it3,by omega,hq3,by simp[Fr]⟩ (by simp[intV,mk];omega)
 ·have d1 : ¬ (k : Int) < q.length:=by omega
  rw[List.take_of_length_le (by omega)] at hq hit
  have okK : ∀ T ∈ q,T.ok K:=fun T hT=>(ok T hT).keep fun i hi=>hold i (by
   have:=topR_lt (q:=[T]) (fun S hS=>by rw[List.mem_singleton.1 hS];exact ok T hT) i (by simpa [topR] using hi)
   exact this)
  have hap:=apartNodes_b K H.length it (topR q) hq.bag.box hq.bag.row (grows_ok okK hn hs) (fun h=>by have:=hidl _ h;have:=hit (fun e=>by rw[e] at h;simp[gIds] at h);omega) (fun h=>by
   rcases mem_goneNodes h with ⟨h1,h2⟩ | h1
   ·have:=hit h1;omega
   ·have:=hidl _ h1;omega) (by rw[topR_length ok];omega)
  simp -implicitDefEqProofs (maxSteps:=99999999) (disch:=first | omega | (simp only[vl];first | done | omega)) only[mk,d1,hql,va,vg,vs,vw,vk,simprocAttr]
  refine hL _ _ ?_
  clear hL
  simp -implicitDefEqProofs (maxSteps:=99999999) (disch:=first | omega | (simp only[vl];first | done | omega)) only[va,vg,vs,vw,vk,simprocAttr]
  refine callR_ret hap ?_
  simp -implicitDefEqProofs (maxSteps:=99999999) (disch:=first | omega | (simp only[vl];first | done | omega)) only[va,vg,vs,vw,vk,simprocAttr]
  exact ⟨_,rfl,rfl⟩
end Go.Proofs.YtfnahogjkgcklaaGreatDoor
namespace Go.Proofs.YtfnahogjkgcklaaGreatDoor
open Go.RowKit
set_option maxRecDepth 100000
set_option linter.unusedVariables false
set_option linter.unusedSimpArgs false
theorem cpL_is (l : List Nd) : ∀ a,∀ x ∈ cpL l a,shNd.is x:=by
 induction l with
 | nil=>intro a x h;simp[cpL] at h
 | cons t r ih =>
  intro a x h
  simp only[cpL,List.mem_cons] at h
  rcases h with rfl | h
  ·rw[cpV_eq];exact ⟨rfl,rfl,rfl⟩
  ·exact ih _ x h
theorem ot_cp {F : AHeap} (t : Nd) : ∀ {a : Nat},LiesO F t a→∃ rs,OT F t (cpV t a) rs ∧ (gIds rs).Nodup ∧ ∀ i ∈ gIds rs,a ≤ i ∧ i < a+t.size:=by
 induction t using Nd.ind with
 | _ t ih =>
  intro a h
  have key : ∀ (l : List Nd),(∀ k ∈ l,∀ {a : Nat},LiesO F k a→∃ rs,OT F k (cpV k a) rs ∧ (gIds rs).Nodup ∧ ∀ i ∈ gIds rs,a ≤ i ∧ i < a+k.size)→∀ a,LiesL F l a→∃ rs,OTL F l (cpL l a) rs ∧ (gIds rs).Nodup ∧ ∀ i ∈ gIds rs,a ≤ i ∧ i < a+Nd.sizeL l:=by
   intro l
   induction l with
   | nil=>intro _ a _;exact ⟨[],.nil,by simp[gIds],by simp[gIds]⟩
   | cons x r ihr =>
    intro hx a hl
    obtain ⟨r1,p1,p2,p3⟩:=hx x (by simp) hl.first
    obtain ⟨r2,q1,q2,q3⟩:=ihr (fun k hk=>hx k (by simp[hk])) _ hl.rest
    refine ⟨r1 ++ r2,.cons p1 q1,?_,fun i hi=>?_⟩
    ·rw[gIds_append]
     refine List.nodup_append.2 ⟨p2,q2,fun y h1 z h2 e=>?_⟩
     have:=p3 y h1
     have:=q3 z h2
     omega
    ·simp only[Nd.sizeL]
     rw[gIds_append,List.mem_append] at hi
     rcases hi with hi | hi
     ·have:=p3 i hi;omega
     ·have:=q3 i hi;omega
  obtain ⟨rs,q1,q2,q3⟩:=key _ ih _ h.kids
  have hh:=h.head
  have his:=cpL_is t.kids (a+1)
  have hll:=cpL_length t.kids (a+1)
  have hse:=Nd.size_eq t
  rw[cpV_eq]
  by_cases e : t.kids=[]
  ·have e2 : cpL t.kids (a+1)=[]:=by rw[e];rfl
   rw[e2] at q1 ⊢
   have e3 : rs=[]:=by rw[e] at q1;cases q1;rfl
   subst e3
   refine ⟨[⟨true,0,0,none⟩],?_,by simp[gIds],by simp[gIds]⟩
   cases t with
   | mk k s n l =>
    simp only[Nd.kids] at e
    subst e
    exact .mk (r:=⟨true,0,0,none⟩) (.inl ⟨rfl,rfl,rfl⟩) rfl .nil
  ·have e2 : cpL t.kids (a+1) ≠ []:=fun h=>e (by rw[h] at hll;exact List.length_eq_zero_iff.1 (by simpa using hll.symm))
   rw[OwnB_ne e2] at hh
   rw[OwnV_ne e2,hll]
   refine ⟨⟨false,t.kids.length,a,none⟩ :: rs,?_,?_,?_⟩
   ·have h1 : RowIn F ⟨false,t.kids.length,a,none⟩ (cpL t.kids (a+1)):=.inr ⟨rfl,_,false,hh,List.take_of_length_le (by rw[hll];exact Nat.le_refl _),by rw[hll];exact Nat.le_refl _,fun _=>rfl,fun m h=>by simp at h,his⟩
    cases t with
    | mk k s n l=>exact .mk h1 rfl q1
   ·rw[gIds_cons]
    refine List.nodup_cons.2 ⟨fun h=>?_,q2⟩
    have:=q3 _ h
    simp at this
    omega
   ·intro i hi
    rw[gIds_cons] at hi
    simp at hi
    rcases hi with rfl | hi
    ·omega
    ·have:=q3 i hi;omega
theorem lntC_is (l : List Nd) (a : Nat) : ∀ x ∈ lntC l a,shNd.is x:=by
 intro x h
 rw[lntC,List.mem_append] at h
 rcases h with h | h
 ·have key : ∀ (l : List Nd) (a : Nat),x ∈ lntL l a→shNd.is x:=by
   intro l
   induction l with
   | nil=>intro a h;simp[lntL] at h
   | cons t r ih =>
    intro a h
    simp only[lntL,List.mem_cons] at h
    rcases h with rfl | h
    ·exact ⟨rfl,rfl,rfl⟩
    ·exact ih _ h
  exact key _ _ h
 ·obtain ⟨i,_,rfl⟩:=List.mem_map.1 h
  exact ⟨rfl,rfl,rfl⟩
theorem lnt_row {F : AHeap} {l : List Nd} {a : Nat} (h : LntR F l a) : RowIn F ⟨false,l.length,a,some (l.length+12)⟩ (lntL l (a+1)) :=
 .inr ⟨rfl,_,true,h.row,by rw[lntC,List.take_append_of_le_length (by rw[lntL_length];exact Nat.le_refl _),List.take_of_length_le (by rw[lntL_length];exact Nat.le_refl _)],by rw[lntC_length];show l.length ≤ _;omega,fun h=>by simp at h,fun m hm=>by
  simp only[Option.some.injEq] at hm
  subst hm
  have:=lntC_length (l:=l) (a:=a)
  simp[capOK,this],lntC_is _ _⟩
theorem ot_lnt {F : AHeap} (t : Nd) : ∀ {a : Nat},LntO F t a→∃ rs,OT F t (lntV t a) rs ∧ (gIds rs).Nodup ∧ ∀ i ∈ gIds rs,a ≤ i ∧ i < a+t.size:=by
 induction t using Nd.ind with
 | _ t ih =>
  intro a h
  have key : ∀ (l : List Nd),(∀ k ∈ l,∀ {a : Nat},LntO F k a→∃ rs,OT F k (lntV k a) rs ∧ (gIds rs).Nodup ∧ ∀ i ∈ gIds rs,a ≤ i ∧ i < a+k.size)→∀ a,LntL F l a→∃ rs,OTL F l (lntL l a) rs ∧ (gIds rs).Nodup ∧ ∀ i ∈ gIds rs,a ≤ i ∧ i < a+Nd.sizeL l:=by
   intro l
   induction l with
   | nil=>intro _ a _;exact ⟨[],.nil,by simp[gIds],by simp[gIds]⟩
   | cons x r ihr =>
    intro hx a hl
    obtain ⟨r1,p1,p2,p3⟩:=hx x (by simp) hl.first
    obtain ⟨r2,q1,q2,q3⟩:=ihr (fun k hk=>hx k (by simp[hk])) _ hl.rest
    refine ⟨r1 ++ r2,.cons p1 q1,?_,fun i hi=>?_⟩
    ·rw[gIds_append]
     refine List.nodup_append.2 ⟨p2,q2,fun y h1 z h2 e=>?_⟩
     have:=p3 y h1
     have:=q3 z h2
     omega
    ·simp only[Nd.sizeL]
     rw[gIds_append,List.mem_append] at hi
     rcases hi with hi | hi
     ·have:=p3 i hi;omega
     ·have:=q3 i hi;omega
  obtain ⟨rs,q1,q2,q3⟩:=key _ ih _ h.row.kids
  have hse:=Nd.size_eq t
  have hrw:=lnt_row h.row
  refine ⟨⟨false,t.kids.length,a,some (t.kids.length+12)⟩ :: rs,?_,?_,?_⟩
  ·cases t with
   | mk k s n l=>exact .mk hrw rfl q1
  ·rw[gIds_cons]
   refine List.nodup_cons.2 ⟨fun h=>?_,q2⟩
   have:=q3 _ h
   simp at this
   omega
  ·intro i hi
   rw[gIds_cons] at hi
   simp at hi
   rcases hi with rfl | hi
   ·omega
   ·have:=q3 i hi;omega
theorem otl_lnt {F : AHeap} : ∀ {l : List Nd} {a : Nat},LntL F l a→∃ rs,OTL F l (lntL l a) rs ∧ (gIds rs).Nodup ∧ ∀ i ∈ gIds rs,a ≤ i ∧ i < a+Nd.sizeL l
 | [],a,_=>⟨[],.nil,by simp[gIds],by simp[gIds]⟩
 | x :: r,a,hl=>by
  obtain ⟨r1,p1,p2,p3⟩:=ot_lnt x hl.first
  obtain ⟨r2,q1,q2,q3⟩:=otl_lnt (l:=r) hl.rest
  refine ⟨r1 ++ r2,.cons p1 q1,?_,fun i hi=>?_⟩
  ·rw[gIds_append]
   refine List.nodup_append.2 ⟨p2,q2,fun y h1 z h2 e=>?_⟩
   have:=p3 y h1
   have:=q3 z h2
   omega
  ·simp only[Nd.sizeL]
   rw[gIds_append,List.mem_append] at hi
   rcases hi with hi | hi
   ·have:=p3 i hi;omega
   ·have:=q3 i hi;omega
theorem ot_zero {F : AHeap} : OT F Nd.none zero6 [⟨true,0,0,none⟩]:=.mk (r:=⟨true,0,0,none⟩) (.inl ⟨rfl,rfl,rfl⟩) rfl .nil
end Go.Proofs.YtfnahogjkgcklaaGreatDoor
