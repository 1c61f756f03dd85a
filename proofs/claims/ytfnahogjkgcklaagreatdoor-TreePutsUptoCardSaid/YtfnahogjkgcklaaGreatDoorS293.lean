import Derived.Test.YtfnahogjkgcklaaGreatDoorTL
import Derived.Test.YtfnahogjkgcklaaGreatDoorS292
import Derived.Test.YtfnahogjkgcklaaGreatDoorTH
import Derived.Test.YtfnahogjkgcklaaGreatDoorIcTP
namespace Go.Proofs.YtfnahogjkgcklaaGreatDoor
open Go.RowKit
set_option maxRecDepth 100000
set_option linter.unusedVariables false
set_option linter.unusedSimpArgs false
def Told (g : Nat) (A : Nd) (av : AV) (GB : AHeap) : Prop:=(av=zero6 ∧ A=Nd.none ∧ GB=[]) ∨ (av=cpV A g ∧ GB=cpB A g)
def ToldR (A : Nd) (bv : AV) : Prop:=bv=ndA A ∨ (bv=zero6 ∧ A=Nd.none)
structure Nod (x : AV) : Prop where
 c1 : x.isTop=false
 c2 : x.isAgg=true
 c3 : x.ncells=4
 c4 : AV.agg (x.cells.take 4)=x
 c5 : AV.agg x.cells=x
 c6 : 4 ≤ x.cells.length
 c7 : zero6.upd 0 x=x
theorem Nod.of {a b c d : AV} : Nod (.agg [a,b,c,d]):=⟨rfl,rfl,rfl,rfl,rfl,Nat.le_refl _,rfl⟩
theorem Told.nod {g : Nat} {A : Nd} {av : AV} {GB : AHeap} (h : Told g A av GB) : Nod av:=by
 rcases h with ⟨rfl,_⟩ | ⟨rfl,_⟩
 ·exact .of
 ·rw[cpV_eq];exact .of
theorem ToldR.nod {A : Nd} {bv : AV} (h : ToldR A bv) : Nod bv:=by
 rcases h with rfl | ⟨rfl,_⟩
 ·rw[ndA_eq];exact .of
 ·exact .of
theorem zero6_view {K : AHeap} : View K zero6 (ndA Nd.none):=by
 rw[ndA_eq]
 exact .agg (.cons .sc (.cons .sc (.cons .sc (.cons .nil .nil))))
theorem Told.lies {G K : AHeap} {A : Nd} {GB : AHeap} (h : GB=cpB A G.length) (hk : ∀ i,G.length ≤ i→i < (GB ++ G).length→AHeap.find K i=AHeap.find (GB ++ G) i) : LiesO K A G.length:=by
 subst h
 refine (liesO_lays (t:=A) (H:=G)).of fun i h1 h2=>hk i h1 ?_
 rw[List.length_append,cpB_length]
 omega
theorem Told.view {G K : AHeap} {A : Nd} {av : AV} {GB : AHeap} (h : Told G.length A av GB) (hk : ∀ i,G.length ≤ i→i < (GB ++ G).length→AHeap.find K i=AHeap.find (GB ++ G) i) : View K av (ndA A):=by
 rcases h with ⟨rfl,rfl,_⟩ | ⟨rfl,h⟩
 ·exact zero6_view
 ·exact cpV_view A (Told.lies h hk)
theorem Told.ot {G K : AHeap} {A : Nd} {av : AV} {GB : AHeap} (h : Told G.length A av GB) (hk : ∀ i,G.length ≤ i→i < (GB ++ G).length→AHeap.find K i=AHeap.find (GB ++ G) i) : ∃ rs,OT K A av rs ∧ (gIds rs).Nodup ∧ ∀ i ∈ gIds rs,G.length ≤ i ∧ i < (GB ++ G).length:=by
 rcases h with ⟨rfl,rfl,_⟩ | ⟨rfl,h⟩
 ·exact ⟨_,ot_zero,by simp[gIds],by simp[gIds]⟩
 ·obtain ⟨rs,h1,h2,h3⟩:=ot_cp A (Told.lies h hk)
  refine ⟨rs,h1,h2,fun i hi=>?_⟩
  have:=h3 i hi
  rw[List.length_append,h,cpB_length]
  omega
theorem ToldR.view {K : AHeap} {A : Nd} {bv : AV} (h : ToldR A bv) : View K bv (ndA A):=by
 rcases h with rfl | ⟨rfl,rfl⟩
 ·exact nd_view A
 ·exact zero6_view
theorem sameT_d {K : AHeap} {A : Nd} {x y : AV} (hz : A.size ≤ 1000000) (h : View K x (ndA A)) (k : View K y (ndA A)) : D Tryz.prog 11 [x,y] K (.ret (.sc (.bool true))) K:=by
 have hs:=sameNode_d A hz A none none []
 rw[sameN_refl,ndR_none] at hs
 exact D_view (.cons h (.cons k .nil)) .sc hs
theorem get_both {G : AHeap} {t : Nd} {a : Nat} (hz : t.size ≤ 400) (h : LntO G t a) (p : List Int) (hp : p.length ≤ 1000000) : ∃ (A : Nd) (av bv : AV) (ob : Bool) (GB : AHeap),D Tryz.prog 7 [lntV t a,.lst 1 (pthA p) none] G (.ret (.tup [av,.sc (.bool ob)])) (GB ++ G) ∧
  (∀ K,D Tryz.prog 8 [ndR t none,.lst 1 (pthA p) none] K (.ret (.tup [bv,.sc (.bool ob)])) K) ∧ Told G.length A av GB ∧ ToldR A bv ∧ A.size ≤ 400:=by
 have h1:=getL_d (by omega) h p hp
 have h2:=fun K=>refGet_d t (by omega) none p hp none K
 unfold getOV getOB at h1
 unfold refGV at h2
 cases hg : getN t p with
 | none =>
  rw[hg] at h1 h2
  exact ⟨Nd.none,zero6,zero6,false,[],h1,h2,.inl ⟨rfl,rfl,rfl⟩,.inr ⟨rfl,rfl⟩,by simp[Nd.none,Nd.size,Nd.sizeL]⟩
 | some u =>
  rw[hg] at h1 h2
  exact ⟨u,_,_,true,_,h1,h2,.inr ⟨rfl,rfl⟩,.inl rfl,by have:=getN_size hg;omega⟩
theorem put_both {G : AHeap} {t kid : Nd} {a b : Nat} (hz : t.size ≤ 400) (hk : kid.size ≤ 400) (h : LntO G t a) (k : LntO G kid b) (p : List Int) (hp : p.length ≤ 1000000) : ∃ (A : Nd) (av bv : AV) (e : Int) (GB : AHeap),D Tryz.prog 9 [lntV t a,lntV kid b,.lst 1 (pthA p) none] G (.ret (.tup [av,.sc (.int .i64 e)])) (GB ++ G) ∧
  (∀ K,D Tryz.prog 10 [ndR t none,ndR kid none,.lst 1 (pthA p) none] K (.ret (.tup [bv,.sc (.int .i64 e)])) K) ∧ Told G.length A av GB ∧ ToldR A bv ∧ A.size ≤ 800:=by
 have hwz:=with_size (kid:=kid) p t
 have h1:=putL_d hz hk h k p hp (by omega)
 have h2:=fun K=>refPut_d t kid hz hk p hp K
 unfold putOV putOB at h1
 unfold refPV at h2
 cases hg : getN t p with
 | none =>
  rw[hg] at h1 h2
  exact ⟨Nd.none,zero6,zero6,6,[],h1,h2,.inl ⟨rfl,rfl,rfl⟩,.inr ⟨rfl,rfl⟩,by simp[Nd.none,Nd.size,Nd.sizeL]⟩
 | some u =>
  rw[hg] at h1 h2
  dsimp only at h1 h2
  cases hr : rightN (withN t kid p) 40 with
  | false =>
   rw[hr] at h1 h2
   exact ⟨Nd.none,zero6,zero6,4,[],h1,h2,.inl ⟨rfl,rfl,rfl⟩,.inr ⟨rfl,rfl⟩,by simp[Nd.none,Nd.size,Nd.sizeL]⟩
  | true =>
   rw[hr] at h1 h2
   exact ⟨withN t kid p,_,_,0,_,h1,h2,.inr ⟨rfl,rfl⟩,.inl rfl,by omega⟩
theorem over_app {G : AHeap} (B : AHeap) : Over G (B ++ G):=by
 induction B with
 | nil=>exact .refl
 | cons x r ih=>exact .cons ih
set_option maxHeartbeats 0 in
theorem treePuts_d (n kid : Nd) (p : List Int) (hz : n.wt+kid.wt ≤ 1500000) (hp : p.length ≤ 2000000) : D Tryz.prog 3 [ndR n none,ndR kid none,.lst 1 (pthA p) none] [] (.ret (.sc (.bool true))) []:=by
 have hsm:=fun H=>small_d [n,kid] (some []) (by simp only[Nd.wtL];omega) H
 rw[ndL_cons,ndL_cons,ndL_nil,ndA_eq,ndA_eq] at hsm
 have lp:=pthA_length p
 rw[ndR_eq,ndR_eq]
 refine D_of_DK (Nat.le_refl _) (dk3v (E_of_ES ?_))
 simp only[ic3v,ux]
 refine ES_seq_gen fun L hL=>?_
 simp -implicitDefEqProofs (maxSteps:=99999999) (disch:=first | omega | (simp only[vl];first | done | omega)) only[vu,va,vg,vs,vw,vk,simprocAttr]
 refine hL _ _ ?_
 clear hL
 refine ES_seq_gen fun L hL=>?_
 simp -implicitDefEqProofs (maxSteps:=99999999) (disch:=first | omega | (simp only[vl];first | done | omega)) only[vu,va,vg,vs,vw,vk,simprocAttr]
 refine callR_ret (awake6_d _) ?_
 simp -implicitDefEqProofs (maxSteps:=99999999) (disch:=first | omega | (simp only[vl];first | done | omega)) only[vu,va,vg,vs,vw,vk,simprocAttr]
 refine hL _ _ ?_
 clear hL
 refine ES_seq_gen fun L hL=>?_
 simp -implicitDefEqProofs (maxSteps:=99999999) (disch:=first | omega | (simp only[vl];first | done | omega)) only[vu,va,vg,vs,vw,vk,simprocAttr]
 refine callR_ret (hsm _) ?_
 cases hs : smallQ [n,kid] with
 | false =>
  simp -implicitDefEqProofs (maxSteps:=99999999) (disch:=first | omega | (simp only[vl];first | done | omega)) only[vu,va,vg,vs,vw,vk,simprocAttr]
  exact weak_sc (by repeat constructor)
 | true =>
  have hsz:=small_size hs
  simp only[Nd.sizeL] at hsz
  by_cases c1 : (p.length : Int) > 100
  ·simp -implicitDefEqProofs (maxSteps:=99999999) (disch:=first | omega | (simp only[vl];first | done | omega)) only[vu,lp,c1,va,vg,vs,vw,vk,simprocAttr]
   exact weak_sc (by repeat constructor)
  simp -implicitDefEqProofs (maxSteps:=99999999) (disch:=first | omega | (simp only[vl];first | done | omega)) only[vu,lp,c1,va,vg,vs,vw,vk,simprocAttr]
  refine hL _ _ ?_
  clear hL
  refine ES_seq_gen fun L hL=>?_
  simp -implicitDefEqProofs (maxSteps:=99999999) (disch:=first | omega | (simp only[vl];first | done | omega)) only[vu,va,vg,vs,vw,vk,simprocAttr]
  obtain ⟨F,hF⟩ : ∃ F : AHeap,F=[some ⟨4,[.agg [.sc (.int .u8 kid.kind),.sc (.string kid.text),.sc (.int .i64 kid.num),.lst 4 (ndL kid.kids) none]],true,25⟩,some ⟨4,[.agg [.sc (.int .u8 n.kind),.sc (.string n.text),.sc (.int .i64 n.num),.lst 4 (ndL n.kids) none]],true,25⟩]:=⟨_,rfl⟩
  have f1 : AHeap.find F 0=some ⟨4,[.agg [.sc (.int .u8 n.kind),.sc (.string n.text),.sc (.int .i64 n.num),.lst 4 (ndL n.kids) none]],true,25⟩:=by rw[hF];rfl
  have f2 : AHeap.find F 1=some ⟨4,[.agg [.sc (.int .u8 kid.kind),.sc (.string kid.text),.sc (.int .i64 kid.num),.lst 4 (ndL kid.kids) none]],true,25⟩:=by rw[hF];rfl
  have hov : Over [] F:=by rw[hF];exact .cons (.cons .refl)
  have hFl : F.length=2:=by rw[hF];rfl
  rw[← hF]
  clear hF
  have eS : ∀ a,lntS [n,kid].length a = .vec 4 a 0 2 (some 14):=fun _=>rfl
  have hln:=lentNodes_d [n,kid] (by simp only[Nd.sizeL];omega) (some []) F
  rw[ndL_cons,ndL_cons,ndL_nil,ndA_eq,ndA_eq,eS] at hln
  refine callR_ret hln ?_
  clear hln
  obtain ⟨G,hG⟩ : ∃ G,lntBL [n,kid] (F.length+1) ++ (lntB1 (lntC [n,kid] F.length) :: F)=G:=⟨_,rfl⟩
  have hR:=lntR_lays (l:=[n,kid]) (H:=F)
  rw[hG] at hR
  rw[hG]
  have hGl : F.length < G.length:=by rw[← hG];simp;omega
  have g1 : AHeap.find G 0=some ⟨4,[.agg [.sc (.int .u8 n.kind),.sc (.string n.text),.sc (.int .i64 n.num),.lst 4 (ndL n.kids) none]],true,25⟩:=by rw[← hG,AHeap.find_append (by simp),find_past (by omega),f1]
  have g2 : AHeap.find G 1=some ⟨4,[.agg [.sc (.int .u8 kid.kind),.sc (.string kid.text),.sc (.int .i64 kid.num),.lst 4 (ndL kid.kids) none]],true,25⟩:=by rw[← hG,AHeap.find_append (by simp[hFl]),find_past (by omega),f2]
  have hovG : Over [] G:=by
   rw[← hG]
   have : ∀ (A B : AHeap),Over [] B→Over [] (A ++ B):=fun A B h=>by
    induction A with
    | nil=>exact h
    | cons x r ih=>exact .cons ih
   exact this _ _ (.cons hov)
  clear hG f1 f2 hov
  obtain ⟨a,ha⟩ : ∃ a,F.length=a:=⟨_,rfl⟩
  rw[ha] at hR hGl ⊢
  have hrow:=hR.row
  have hcl : (lntC [n,kid] a).length=14:=lntC_length
  have hg0 : (lntC [n,kid] a).getD 0 .top=lntV n (a+1):=lntC_get (l:=[n,kid]) (k:=0) (a:=a) (by simp)
  have hg1 : (lntC [n,kid] a).getD 1 .top=lntV kid (a+1+n.size):=by
   have:=lntC_get (l:=[n,kid]) (k:=1) (a:=a) (by simp)
   simpa [nthN,Nd.sizeL] using this
  have hO1 : LntO G n (a+1):=by
   have:=hR.kids.at_ (k:=0) (by simp)
   simpa [nthN,Nd.sizeL] using this
  have hO2 : LntO G kid (a+1+n.size):=by
   have:=hR.kids.at_ (k:=1) (by simp)
   simpa [nthN,Nd.sizeL] using this
  obtain ⟨b,hb⟩ : ∃ b,a+1+n.size=b:=⟨_,rfl⟩
  rw[hb] at hg1 hO2
  obtain ⟨c,hc⟩ : ∃ c,a+1=c:=⟨_,rfl⟩
  rw[hc] at hg0 hO1
  rw[lntV_eq] at hg0 hg1
  have hp2 : p.length ≤ 1000000:=by omega
  obtain ⟨A,av,bv,ob,GB,e1,e2,tA,rA,sA⟩:=get_both (t:=n) (a:=c) (by omega) hO1 p hp2
  rw[lntV_eq] at e1
  rw[ndR_eq] at e2
  simp -implicitDefEqProofs (maxSteps:=99999999) (disch:=first | omega | (simp only[vl];first | done | omega)) only[vu,va,vg,vs,vw,vk,simprocAttr]
  refine hL _ _ ?_
  clear hL
  refine ES_seq_gen fun L hL=>?_
  simp -implicitDefEqProofs (maxSteps:=99999999) (disch:=first | omega | (simp only[vl];first | done | omega)) only[vu,g1,g2,hrow,hcl,hg0,hg1,va,vg,vs,vw,vk,simprocAttr]
  refine callR_ret e1 ?_
  clear e1
  have nA:=tA.nod
  have nB:=rA.nod
  obtain ⟨a1,a2,a3,a4,a5,a6,a7⟩:=nA
  obtain ⟨b1,b2,b3,b4,b5,b6,b7⟩:=nB
  have hovA : Over G (GB ++ G):=over_app GB
  obtain ⟨G1,hG1⟩ : ∃ G1,GB ++ G=G1:=⟨_,rfl⟩
  rw[hG1] at hovA
  have hl1:=hovA.len
  have k1:=(Over.find hovA (AHeap.find_lt g1)).trans g1
  have k2:=(Over.find hovA (AHeap.find_lt g2)).trans g2
  have k3:=(Over.find hovA (AHeap.find_lt hrow)).trans hrow
  rw[hG1]
  simp -implicitDefEqProofs (maxSteps:=99999999) (disch:=first | omega | (simp only[vl];first | done | omega)) only[vu,a1,a2,a3,a4,a5,a7,va,vg,vs,vw,vk,simprocAttr]
  refine hL _ _ ?_
  clear hL
  refine ES_seq_gen fun L hL=>?_
  simp -implicitDefEqProofs (maxSteps:=99999999) (disch:=first | omega | (simp only[vl];first | done | omega)) only[vu,k1,k2,k3,a1,a2,a3,a4,a5,a7,va,vg,vs,vw,vk,simprocAttr]
  refine callR_ret (e2 _) ?_
  clear e2
  simp -implicitDefEqProofs (maxSteps:=99999999) (disch:=first | omega | (simp only[vl];first | done | omega)) only[vu,k1,k2,k3,b1,b2,b3,b4,b5,b7,va,vg,vs,vw,vk,simprocAttr]
  refine hL _ _ ?_
  clear hL
  refine ES_seq_gen fun L hL=>?_
  simp -implicitDefEqProofs (maxSteps:=99999999) (disch:=first | omega | (simp only[vl];first | done | omega)) only[vu,k1,k2,k3,hcl,hg0,hg1,va,vg,vs,vw,vk,simprocAttr]
  obtain ⟨K1,hK1⟩ : ∃ K1 : AHeap,K1=some ⟨4,[.agg [.sc (.int .u8 0),.sc (.string ⟨#[]⟩),.sc (.int .i64 0),.lst 0 [] (some [])]],true,25⟩ :: some ⟨4,[bv],true,25⟩ :: some ⟨4,[av],true,25⟩ :: G1:=⟨_,rfl⟩
  have hK1l : K1.length=G1.length+3:=by rw[hK1];rfl
  have o1 : Over G1 K1:=by rw[hK1];exact .cons (.cons (.cons .refl))
  have x1 : AHeap.find K1 G1.length=some ⟨4,[av],true,25⟩:=by rw[hK1,find_past (by simp;omega),find_past (by simp),find_top rfl]
  have x2 : AHeap.find K1 (G1.length+1)=some ⟨4,[bv],true,25⟩:=by rw[hK1,find_past (by simp),find_top (by simp)]
  have x3 : AHeap.find K1 (G1.length+2)=some ⟨4,[.agg [.sc (.int .u8 0),.sc (.string ⟨#[]⟩),.sc (.int .i64 0),.lst 0 [] (some [])]],true,25⟩:=by rw[hK1,find_top (by simp)]
  rw[← hK1]
  clear hK1
  have oG : Over G K1:=hovA.trans o1
  obtain ⟨X,xv,yv,ev,PB,u1,u2,tX,rY,sX⟩:=put_both (t:=n) (kid:=kid) (by omega) (by omega) (hO1.over oG) (hO2.over oG) p hp2
  rw[lntV_eq,lntV_eq] at u1
  rw[ndR_eq,ndR_eq] at u2
  obtain ⟨i1,i2,i3,i4,i5,i6,i7⟩:=tX.nod
  obtain ⟨y1,y2,y3,y4,y5,y6,y7⟩:=rY.nod
  refine callD_ret u1 (chS_grow (by simp;omega)) ?_
  clear u1
  have oP : Over K1 (PB ++ K1):=over_app PB
  obtain ⟨K2,hK2⟩ : ∃ K2,PB ++ K1=K2:=⟨_,rfl⟩
  rw[hK2] at oP
  have hl2:=oP.len
  have z1:=(Over.find oP (AHeap.find_lt x1)).trans x1
  have z2:=(Over.find oP (AHeap.find_lt x2)).trans x2
  have z3:=(Over.find oP (AHeap.find_lt x3)).trans x3
  rw[hK2]
  simp -implicitDefEqProofs (maxSteps:=99999999) (disch:=first | omega | (simp only[vl];first | done | omega)) only[vu,z3,i1,i2,i3,i4,i5,i7,va,vg,vs,vw,vk,simprocAttr]
  obtain ⟨K3,hK3⟩ : ∃ K3,AHeap.set K2 (G1.length+2) (some ⟨4,[xv],true,25⟩)=K3:=⟨_,rfl⟩
  have hK3l : K3.length=K2.length:=by rw[← hK3,AHeap.set_length]
  have s3 : AHeap.find K3 (G1.length+2)=some ⟨4,[xv],true,25⟩:=by rw[← hK3];exact AHeap.find_set_same (by omega)
  have so : ∀ i,i ≠ G1.length+2→AHeap.find K3 i=AHeap.find K2 i:=fun i hi=>by rw[← hK3];exact AHeap.find_set_ne hi
  have s1 : AHeap.find K3 G1.length=some ⟨4,[av],true,25⟩:=by rw[so _ (by omega),z1]
  have s2 : AHeap.find K3 (G1.length+1)=some ⟨4,[bv],true,25⟩:=by rw[so _ (by omega),z2]
  have sG1 : ∀ i,i < G1.length→AHeap.find K3 i=AHeap.find G1 i:=fun i hi=>by rw[so _ (by omega),Over.find oP (by omega),Over.find o1 hi]
  have sG : ∀ i,i < G.length→AHeap.find K3 i=AHeap.find G i:=fun i hi=>by rw[sG1 i (by omega),Over.find hovA hi]
  have sX : ∀ i,K1.length ≤ i→AHeap.find K3 i=AHeap.find K2 i:=fun i hi=>so i (by omega)
  have w0:=(sG 0 (AHeap.find_lt g1)).trans g1
  have w1:=(sG 1 (AHeap.find_lt g2)).trans g2
  have wa:=(sG a (AHeap.find_lt hrow)).trans hrow
  rw[hK3]
  clear hK3
  refine hL _ _ ?_
  clear hL
  refine ES_seq_gen fun L hL=>?_
  simp -implicitDefEqProofs (maxSteps:=99999999) (disch:=first | omega | (simp only[vl];first | done | omega)) only[vu,w0,w1,wa,va,vg,vs,vw,vk,simprocAttr]
  refine callR_ret (u2 _) ?_
  clear u2
  simp -implicitDefEqProofs (maxSteps:=99999999) (disch:=first | omega | (simp only[vl];first | done | omega)) only[vu,y1,y2,y3,y4,y5,y7,va,vg,vs,vw,vk,simprocAttr]
  have vA : ∀ K,(∀ i,i < K3.length→AHeap.find K i=AHeap.find K3 i)→View K av (ndA A):=fun K hK=>tA.view fun i h1 h2=>by
   rw[hG1] at h2 ⊢
   rw[hK i (by omega),sG1 i h2]
  have vX : ∀ K,(∀ i,i < K3.length→AHeap.find K i=AHeap.find K3 i)→View K xv (ndA X):=fun K hK=>tX.view fun i h1 h2=>by
   rw[hK2] at h2 ⊢
   rw[hK i (by omega),sX i h1]
  have hne : ¬ ev ≠ ev:=fun h=>h rfl
  have h4 : ∀ i,i < K3.length→AHeap.find (some ⟨4,[yv],true,25⟩ :: K3) i=AHeap.find K3 i:=fun i hi=>find_past hi
  have t0:=(h4 _ (by omega)).trans w0
  have t1:=(h4 _ (by omega)).trans w1
  have ta:=(h4 _ (AHeap.find_lt wa)).trans wa
  have p1:=(h4 _ (by omega)).trans s1
  have p2:=(h4 _ (by omega)).trans s2
  have p3:=(h4 _ (by omega)).trans s3
  have p4 : AHeap.find (some (⟨4,[yv],true,25⟩ : ABlk) :: K3) K3.length=some ⟨4,[yv],true,25⟩:=find_top rfl
  obtain ⟨K4,hK4⟩ : ∃ K4 : AHeap,K4=some ⟨4,[yv],true,25⟩ :: K3:=⟨_,rfl⟩
  rw[← hK4] at h4 t0 t1 ta p1 p2 p3 p4 ⊢
  have hK4l : K4.length=K3.length+1:=by rw[hK4];rfl
  clear hK4
  have m1:=sameT_d (K:=K4) (A:=A) (by omega) (vA K4 h4) rA.view
  have m2:=sameT_d (K:=K4) (A:=X) (by omega) (vX K4 h4) rY.view
  have hRK : ∀ K,(∀ i,i < G.length→AHeap.find K i=AHeap.find G i)→LntR K [n,kid] a:=fun K hK=>⟨by rw[hK a (AHeap.find_lt hR.row)];exact hR.row,fun i xs hx=>by
   have h:=hR.kids i xs hx
   rw[hK _ (AHeap.find_lt h)]
   exact h⟩
  have hR4:=hRK K4 fun i hi=>by rw[h4 i (by omega),sG i hi]
  have m3:=keptNodes_d [n,kid] (by simp only[Nd.sizeL];omega) (some []) a K4 hR4
  rw[ndL_cons,ndL_cons,ndL_nil,ndA_eq,ndA_eq,eS] at m3
  refine hL _ _ ?_
  clear hL
  refine ES_seq_gen fun L hL=>?_
  simp -implicitDefEqProofs (maxSteps:=99999999) (disch:=first | omega | (simp only[vl];first | done | omega)) only[vu,t0,t1,ta,p1,p2,p3,p4,a1,a2,a3,a4,a5,a6,b1,b2,b3,b4,b5,b6,i1,i2,i3,i4,i5,i6,y1,y2,y3,y4,y5,y6,va,vg,vs,vw,vk,simprocAttr]
  refine callR_ret m1 ?_
  simp -implicitDefEqProofs (maxSteps:=99999999) (disch:=first | omega | (simp only[vl];first | done | omega)) only[vu,t0,t1,ta,p1,p2,p3,p4,i1,i2,i3,i4,i5,i6,y1,y2,y3,y4,y5,y6,va,vg,vs,vw,vk,simprocAttr]
  refine callR_ret m2 ?_
  simp -implicitDefEqProofs (maxSteps:=99999999) (disch:=first | omega | (simp only[vl];first | done | omega)) only[vu,t0,t1,ta,p1,p2,p3,p4,va,vg,vs,vw,vk,simprocAttr]
  refine callR_ret m3 ?_
  simp -implicitDefEqProofs (maxSteps:=99999999) (disch:=first | omega | (simp only[vl];first | done | omega)) only[vu,va,vg,vs,vw,vk,simprocAttr]
  refine hL _ _ ?_
  clear hL
  simp -implicitDefEqProofs (maxSteps:=99999999) (disch:=first | omega | (simp only[vl];first | done | omega)) only[vu,p1,p3,a1,a2,a3,a4,a5,a6,i1,i2,i3,i4,i5,i6,va,vg,vs,vw,vk,simprocAttr]
  obtain ⟨K5,hK5⟩ : ∃ K5 : AHeap,K5=some ⟨1,[.vec 4 K4.length 0 1 (some 1),.vec 4 (K4.length+1) 0 1 (some 1),.vec 4 a 0 2 (some 14)],true,23⟩ :: some ⟨4,[xv],true,25⟩ :: some ⟨4,[av],true,25⟩ :: K4:=⟨_,rfl⟩
  have r1 : AHeap.find K5 (K4.length+2)=some ⟨1,[.vec 4 K4.length 0 1 (some 1),.vec 4 (K4.length+1) 0 1 (some 1),.vec 4 a 0 2 (some 14)],true,23⟩:=by rw[hK5];exact find_top (by simp)
  have r2 : AHeap.find K5 (K4.length+1)=some ⟨4,[xv],true,25⟩:=by rw[hK5,find_past (by simp),find_top (by simp)]
  have r3 : AHeap.find K5 K4.length=some ⟨4,[av],true,25⟩:=by rw[hK5,find_past (by simp;omega),find_past (by simp),find_top rfl]
  have r4 : ∀ i,i < K4.length→AHeap.find K5 i=AHeap.find K4 i:=fun i hi=>by rw[hK5,find_past (by simp;omega),find_past (by simp;omega),find_past hi]
  rw[← hK5]
  clear hK5
  have r5 : ∀ i,i < K3.length→AHeap.find K5 i=AHeap.find K3 i:=fun i hi=>by rw[r4 i (by omega),h4 i hi]
  have r6 : ∀ i,i < G.length→AHeap.find K5 i=AHeap.find G i:=fun i hi=>by rw[r5 i (by omega),sG i hi]
  obtain ⟨rsA,qa1,qa2,qa3⟩:=tA.ot (K:=K5) fun i h1 h2=>by
   rw[hG1] at h2 ⊢
   rw[r5 i (by omega),sG1 i h2]
  obtain ⟨rsX,qx1,qx2,qx3⟩:=tX.ot (K:=K5) fun i h1 h2=>by
   rw[hK2] at h2 ⊢
   rw[r5 i (by omega),sX i h1]
  rw[hG1] at qa3
  rw[hK2] at qx3
  obtain ⟨rsL,ql1,ql2,ql3⟩:=otl_lnt hR.kids
  have qll:=(otl_all ql1).2.1
  have haG:=AHeap.find_lt hR.row
  have isx : ∀ x,Nod x→shNd.is x:=fun x h=>⟨h.c1,h.c3,h.c2⟩
  have ok1 : TopL.ok K5 ⟨⟨false,1,K4.length,some 1⟩,[A],[av],rsA ++ []⟩:=⟨.inr ⟨rfl,[av],true,r3,rfl,Nat.le_refl _,fun h=>by simp at h,fun m h=>by simp only[Option.some.injEq] at h;subst h;exact .inl ⟨rfl,rfl,Nat.le_refl _⟩,fun x hx=>by rw[List.mem_singleton.1 hx];exact isx _ tA.nod⟩,rfl,.cons qa1 .nil⟩
  have ok2 : TopL.ok K5 ⟨⟨false,1,K4.length+1,some 1⟩,[X],[xv],rsX ++ []⟩:=⟨.inr ⟨rfl,[xv],true,r2,rfl,Nat.le_refl _,fun h=>by simp at h,fun m h=>by simp only[Option.some.injEq] at h;subst h;exact .inl ⟨rfl,rfl,Nat.le_refl _⟩,fun x hx=>by rw[List.mem_singleton.1 hx];exact isx _ tX.nod⟩,rfl,.cons qx1 .nil⟩
  have ok3 : TopL.ok K5 ⟨⟨false,2,a,some 14⟩,[n,kid],lntL [n,kid] (a+1),rsL⟩:=⟨lnt_row (hRK K5 r6),rfl,(otl_all ql1).2.2.2.2 K5 fun i hi=>r6 i (qll i hi)⟩
  have hgi : gIds (topR [⟨⟨false,1,K4.length,some 1⟩,[A],[av],rsA ++ []⟩,⟨⟨false,1,K4.length+1,some 1⟩,[X],[xv],rsX ++ []⟩,⟨⟨false,2,a,some 14⟩,[n,kid],lntL [n,kid] (a+1),rsL⟩])=K4.length :: (gIds rsA ++ ((K4.length+1) :: (gIds rsX ++ (a :: gIds rsL)))):=by
   simp[topR,gIds_cons,gIds_append]
  have hap:=apartNodes_d K5 (K4.length+2) [⟨⟨false,1,K4.length,some 1⟩,[A],[av],rsA ++ []⟩,⟨⟨false,1,K4.length+1,some 1⟩,[X],[xv],rsX ++ []⟩,⟨⟨false,2,a,some 14⟩,[n,kid],lntL [n,kid] (a+1),rsL⟩] true 23 (some 3) r1 (fun T hT=>by
    simp only[List.mem_cons,List.mem_nil_iff,or_false] at hT
    rcases hT with rfl | rfl | rfl
    ·exact ok1
    ·exact ok2
    ·exact ok3) (by
    rw[hgi]
    have nAX : ∀ y ∈ gIds rsA,∀ z ∈ gIds rsX,y ≠ z:=fun y hy z hz=>by have:=qa3 y hy;have:=qx3 z hz;omega
    have nAL : ∀ y ∈ gIds rsA,∀ z ∈ a :: gIds rsL,y ≠ z:=fun y hy z hz=>by
     have:=qa3 y hy
     rcases List.mem_cons.1 hz with rfl | hz
     ·omega
     ·have:=qll z hz;omega
    have nXL : ∀ y ∈ gIds rsX,∀ z ∈ a :: gIds rsL,y ≠ z:=fun y hy z hz=>by
     have:=qx3 y hy
     rcases List.mem_cons.1 hz with rfl | hz
     ·omega
     ·have:=qll z hz;omega
    have l1 : (a :: gIds rsL).Nodup:=List.nodup_cons.2 ⟨fun h=>by have:=ql3 _ h;omega,ql2⟩
    have l2 : (gIds rsX ++ (a :: gIds rsL)).Nodup:=List.nodup_append.2 ⟨qx2,l1,nXL⟩
    have b2 : ∀ y ∈ gIds rsX ++ (a :: gIds rsL),y < K4.length:=fun y hy=>by
     rcases List.mem_append.1 hy with hy | hy
     ·have:=qx3 y hy;omega
     ·rcases List.mem_cons.1 hy with rfl | hy
      ·omega
      ·have:=qll y hy;omega
    have l3 : ((K4.length+1) :: (gIds rsX ++ (a :: gIds rsL))).Nodup:=List.nodup_cons.2 ⟨fun h=>by have:=b2 _ h;omega,l2⟩
    have l4 : (gIds rsA ++ ((K4.length+1) :: (gIds rsX ++ (a :: gIds rsL)))).Nodup:=List.nodup_append.2 ⟨qa2,l3,fun y hy z hz=>by
     rcases List.mem_cons.1 hz with rfl | hz
     ·have:=qa3 y hy;omega
     ·rcases List.mem_append.1 hz with hz | hz
      ·exact nAX y hy z hz
      ·exact nAL y hy z hz⟩
    refine List.nodup_cons.2 ⟨fun h=>?_,l4⟩
    rcases List.mem_append.1 h with h | h
    ·have:=qa3 _ h;omega
    ·rcases List.mem_cons.1 h with h | h
     ·omega
     ·have:=b2 _ h;omega) (fun h=>by
    rw[hgi] at h
    rcases List.mem_cons.1 h with h | h
    ·omega
    ·rcases List.mem_append.1 h with h | h
     ·have:=qa3 _ h;omega
     ·rcases List.mem_cons.1 h with h | h
      ·omega
      ·rcases List.mem_append.1 h with h | h
       ·have:=qx3 _ h;omega
       ·rcases List.mem_cons.1 h with h | h
        ·omega
        ·have:=qll _ h;omega) (by simp only[topS,Nd.sizeL];omega)
  refine callR_rel hap ?_
  rintro v K6 hl6 rfl
  simp -implicitDefEqProofs (maxSteps:=99999999) (disch:=first | omega | (simp only[vl];first | done | omega)) only[vu,va,vg,vs,vw,vk,simprocAttr]
  have hov6 : ∀ K : AHeap,Over [] K:=fun K=>by
   have:=over_app (G:=[]) K
   rwa [List.append_nil] at this
  exact weak_sc (hov6 _)
end Go.Proofs.YtfnahogjkgcklaaGreatDoor
