import Derived.Test.YtnoplgongieehaaGreatDoorM6
import Derived.Test.YtnoplgongieehaaGreatDoorM7
import Derived.Test.YtnoplgongieehaaGreatDoorM8
import Derived.Test.YtnoplgongieehaaGreatDoorM9
import Derived.Test.YtnoplgongieehaaGreatDoorM5
import Derived.Test.YtnoplgongieehaaGreatDoorM4
import Derived.Test.YtnoplgongieehaaGreatDoorProg
import Derived.Test.YtnoplgongieehaaGreatDoorM3
import Derived.KernelRfl
import Derived.Test.YtnoplgongieehaaGreatDoorRows
import Derived.Lib.LaidTab
namespace Go.Proofs.YtnoplgongieehaaGreatDoor
open Go.RowKit
set_option maxHeartbeats 0
set_option maxRecDepth 1000000
set_option linter.unusedVariables false
set_option linter.unusedSimpArgs false
theorem A4(n:Nd)(hw:n.wt≤100000)(hs:n.size≤10000)(x:ByteArray)(path:List Int)(hp:path.length≤1000000){H:Y}{v w:AV}(hv:View H v (eu n))(BW:View H w (.am 1 (aK path) none)):D Tryz.prog 14 [v,.sc (.string x),w] H (.ret (.aO [fF (bw n x path).1 H.length,.sc (.int .i64 (bw n x path).2)])) (gd (bw n x path).1 H.length++H):=by
 have h1:=UX n hw hs x path hp none
 rw[kx] at h1
 obtain ⟨t,ht⟩:∃t,(bw n x path).1=t:=⟨_,rfl⟩
 obtain ⟨e,he⟩:∃e,(bw n x path).2=e:=⟨_,rfl⟩
 rw[ht,he] at h1 ⊢
 have hop:(AV.aO [fF t 0,.sc (.int .i64 e)]).op=true:=by
  have:=(Jh 0 t 0).2.2.1
  simp only[AV.op,AV.qj,this,Bool.and_self]
 have h2:=LM (.cons hv (.cons .sc (.cons BW .nil))) hop (ZU (Jh 0 t 0).2.2.2) h1
 have e1:(AV.aO [fF t 0,.sc (.int .i64 e)]).up H.length = .aO [fF t H.length,.sc (.int .i64 e)]:=by
  simp only[AV.up,AV.mO,(Jh H.length t 0).1]
  rfl
 have e2:Y.up H.length (gd t 0)=gd t H.length:=(Jh H.length t 0).2.1
 rw[e1,e2] at h2
 exact h2
theorem tJ(H:Y):D Tryz.prog 8 [] H (.ret (.sc (.bool true))) H:=by
 have q1:=fun K=>U4 K
 have q2:=fun K=>U5 K
 have q3:=fun K=>QC K
 have q4:=fun K=>U7 K
 have q5:=fun K=>U8 K
 have b1:=qx Qu
 have b2:=qx Qv
 have b3:=qx MZ
 have b4:=qx Qw
 have b5:=qx Qx
 have a1:=aah
 have a2:=aai
 have r1:=Qy
 have r2:=Qz
 have r3:=QA
 have r4:=of_decide_eq_true aaj
 obtain ⟨t1,ht1⟩:∃t,tF=t:=⟨_,rfl⟩
 obtain ⟨t2,T7⟩:∃t,EO=t:=⟨_,rfl⟩
 obtain ⟨t3,ht3⟩:∃t,zJ=t:=⟨_,rfl⟩
 obtain ⟨t4,ht4⟩:∃t,EP=t:=⟨_,rfl⟩
 obtain ⟨t5,ht5⟩:∃t,EQ=t:=⟨_,rfl⟩
 rw[ht1] at q1 b1 a1 a2 r1 r2 r4
 rw[T7] at q2 b2 a1
 rw[ht3] at q3 b3 r3
 rw[ht4] at q4 b4 a2
 rw[ht5] at q5 b5 r2
 clear ht1 T7 ht3 ht4 ht5
 unfold Qq at q1
 unfold Qr at q2
 unfold Jj at q3
 unfold Qs at q4
 unfold Qt at q5
 have hp:∀F:Y,View F (.am 1 [.sc (.int .i64 0),.sc (.int .i64 0),.sc (.int .i64 0)] (some [])) (.am 1 (aK [0,0,0]) none):=fun F=>D8 (l:=[0,0,0])
 have k1:=fun F v hv=>A4 t1 (by omega) (by omega) ⟨#[98]⟩ [0,0,0] (by simp) (H:=F) (v:=v) hv (hp F)
 have k3:=fun F v hv=>A4 t3 (by omega) (by omega) ⟨#[98]⟩ [0,0,0] (by simp) (H:=F) (v:=v) hv (hp F)
 rw[r1] at k1
 rw[r3] at k3
 obtain ⟨u1,hu1⟩:∃u,(bw t1 ⟨#[98]⟩ [0,0,0]).1=u:=⟨_,rfl⟩
 obtain ⟨u3,hu3⟩:∃u,(bw t3 ⟨#[98]⟩ [0,0,0]).1=u:=⟨_,rfl⟩
 rw[hu1] at k1 r2 r4
 rw[hu3] at k3
 clear hu1 hu3
 simp only[ey u1] at k1
 simp only[ey u3] at k3
 rw[ew] at q1 q2 q3 q4 q5
 refine aG (Nat.le_refl _) (dk8 (aA ?_))
 simp only[ic8,ux]
 refine Z fun L hL=>?_
 refine aw ?_
 refine hL _ _ ?_
 clear hL
 refine Z fun L hL=>?_
 refine aw ?_
 refine ae (q1 _) ?_
 refine aw ?_
 refine ae (q2 _) ?_
 refine aw ?_
 refine hL _ _ ?_
 clear hL
 refine Z fun L hL=>?_
 refine aw ?_
 have v1:∀F:Y,View F (.agg [.sc (.int .u8 t1.kind),.sc (.string t1.text),.sc (.int .i64 t1.num),.am 4 (bh t1.kids) none]) (eu t1):=fun F=>by have:=iC t1 none F;rw[aQ] at this;exact this
 have v2:∀F:Y,View F (.agg [.sc (.int .u8 t2.kind),.sc (.string t2.text),.sc (.int .i64 t2.num),.am 4 (bh t2.kids) none]) (eu t2):=fun F=>by have:=iC t2 none F;rw[aQ] at this;exact this
 have v3:∀F:Y,View F (.agg [.sc (.int .u8 t3.kind),.sc (.string t3.text),.sc (.int .i64 t3.num),.am 4 (bh t3.kids) none]) (eu t3):=fun F=>by have:=iC t3 none F;rw[aQ] at this;exact this
 have v4:∀F:Y,View F (.agg [.sc (.int .u8 t4.kind),.sc (.string t4.text),.sc (.int .i64 t4.num),.am 4 (bh t4.kids) none]) (eu t4):=fun F=>by have:=iC t4 none F;rw[aQ] at this;exact this
 have v5:∀F:Y,View F (.agg [.sc (.int .u8 t5.kind),.sc (.string t5.text),.sc (.int .i64 t5.num),.am 4 (bh t5.kids) none]) (eu t5):=fun F=>by have:=iC t5 none F;rw[aQ] at this;exact this
 refine ae (k1 _ _ (v1 _)) ?_
 have hG0:=j5 (t:=u1) (H:=some ⟨4,[.agg [.sc (.int .u8 t2.kind),.sc (.string t2.text),.sc (.int .i64 t2.num),.am 4 (bh t2.kids) none]],true,25⟩::some ⟨4,[.agg [.sc (.int .u8 t1.kind),.sc (.string t1.text),.sc (.int .i64 t1.num),.am 4 (bh t1.kids) none]],true,25⟩::H)
 have aaq:∀i,i<H.length+2→Y.find (gd u1 (H.length+2)++(some ⟨4,[.agg [.sc (.int .u8 t2.kind),.sc (.string t2.text),.sc (.int .i64 t2.num),.am 4 (bh t2.kids) none]],true,25⟩::some ⟨4,[.agg [.sc (.int .u8 t1.kind),.sc (.string t1.text),.sc (.int .i64 t1.num),.am 4 (bh t1.kids) none]],true,25⟩::H)) i=Y.find (some ⟨4,[.agg [.sc (.int .u8 t2.kind),.sc (.string t2.text),.sc (.int .i64 t2.num),.am 4 (bh t2.kids) none]],true,25⟩::some ⟨4,[.agg [.sc (.int .u8 t1.kind),.sc (.string t1.text),.sc (.int .i64 t1.num),.am 4 (bh t1.kids) none]],true,25⟩::H) i:=fun i hi=>Y.bF (by simp only[List.length_cons];omega)
 have ajq:(gd u1 (H.length+2)++(some ⟨4,[.agg [.sc (.int .u8 t2.kind),.sc (.string t2.text),.sc (.int .i64 t2.num),.am 4 (bh t2.kids) none]],true,25⟩::some ⟨4,[.agg [.sc (.int .u8 t1.kind),.sc (.string t1.text),.sc (.int .i64 t1.num),.am 4 (bh t1.kids) none]],true,25⟩::H)).length=u1.size+(H.length+2):=by rw[List.length_append,iK];simp
 simp only[List.length_cons,Nat.add_assoc,Nat.reduceAdd] at hG0 ⊢
 generalize gd u1 (H.length+2)++(some ⟨4,[.agg [.sc (.int .u8 t2.kind),.sc (.string t2.text),.sc (.int .i64 t2.num),.am 4 (bh t2.kids) none]],true,25⟩::some ⟨4,[.agg [.sc (.int .u8 t1.kind),.sc (.string t1.text),.sc (.int .i64 t1.num),.am 4 (bh t1.kids) none]],true,25⟩::H)=G at *
 have g1:Y.find G H.length=some ⟨4,[.agg [.sc (.int .u8 t1.kind),.sc (.string t1.text),.sc (.int .i64 t1.num),.am 4 (bh t1.kids) none]],true,25⟩:=by rw[aaq _ (by omega),ai (by simp),aJ rfl]
 have g2:Y.find G (H.length+1)=some ⟨4,[.agg [.sc (.int .u8 t2.kind),.sc (.string t2.text),.sc (.int .i64 t2.num),.am 4 (bh t2.kids) none]],true,25⟩:=by rw[aaq _ (by omega),aJ (by simp)]
 have hGo:∀i,i<H.length→Y.find G i=Y.find H i:=fun i hi=>by rw[aaq _ (by omega),ai (by simp;omega),ai hi]
 refine aw ?_
 refine hL _ _ ?_
 clear hL
 refine Z fun L hL=>?_
 refine aw ?_
 refine ae (q3 _) ?_
 refine aw ?_
 refine ae (k3 _ _ (v3 _)) ?_
 have M6:∀i,i<G.length+1→Y.find (gd u3 (G.length+1)++(some ⟨4,[.agg [.sc (.int .u8 u1.kind),.sc (.string u1.text),.sc (.int .i64 u1.num),aW 4 (eT u1.kids (H.length+3)) (H.length+2)]],true,25⟩::G)) i=Y.find (some ⟨4,[.agg [.sc (.int .u8 u1.kind),.sc (.string u1.text),.sc (.int .i64 u1.num),aW 4 (eT u1.kids (H.length+3)) (H.length+2)]],true,25⟩::G) i:=fun i hi=>Y.bF (by simp only[List.length_cons];omega)
 have ajr:(gd u3 (G.length+1)++(some ⟨4,[.agg [.sc (.int .u8 u1.kind),.sc (.string u1.text),.sc (.int .i64 u1.num),aW 4 (eT u1.kids (H.length+3)) (H.length+2)]],true,25⟩::G)).length=u3.size+(G.length+1):=by rw[List.length_append,iK];simp
 simp only[List.length_cons,Nat.add_assoc,Nat.reduceAdd]
 generalize gd u3 (G.length+1)++(some ⟨4,[.agg [.sc (.int .u8 u1.kind),.sc (.string u1.text),.sc (.int .i64 u1.num),aW 4 (eT u1.kids (H.length+3)) (H.length+2)]],true,25⟩::G)=K at *
 have gl:=Y.ax g2
 have w1:Y.find K H.length=_:=(M6 _ (by omega)).trans ((ai (by omega)).trans g1)
 have w2:Y.find K (H.length+1)=_:=(M6 _ (by omega)).trans ((ai (by omega)).trans g2)
 have w3:Y.find K G.length=_:=(M6 _ (by omega)).trans (aJ rfl)
 have hKo:∀i,i<H.length→Y.find K i=Y.find H i:=fun i hi=>(M6 i (by omega)).trans ((ai (by omega)).trans (hGo i hi))
 have PV:dP K u1 (H.length+2):=hG0.of fun i h1 h2=>(M6 i (by omega)).trans (ai (by omega))
 have iE:(aW 4 (eT u1.kids (H.length+3)) (H.length+2)).cells=[aW 4 (eT u1.kids (H.length+3)) (H.length+2)]:=nT
 refine aw ?_
 refine hL _ _ ?_
 clear hL
 refine Z fun L hL=>?_
 refine aI (ei @w1 @w2 w3 iE) ?_
 have m1:=fun F=>Ek t1 t2 (by omega) (by omega) (by omega) (by omega) (H:=F) (v1 F) (v2 F)
 have m2:=fun F=>Ek t1 t4 (by omega) (by omega) (by omega) (by omega) (H:=F) (v1 F) (v4 F)
 rw[a1] at m1
 rw[a2] at m2
 have m3:∀F:Y,dP F u1 (H.length+2)→D Tryz.prog 16 [.agg [.sc (.int .u8 u1.kind),.sc (.string u1.text),.sc (.int .i64 u1.num),aW 4 (eT u1.kids (H.length+3)) (H.length+2)],.agg [.sc (.int .u8 t5.kind),.sc (.string t5.text),.sc (.int .i64 t5.num),.am 4 (bh t5.kids) none]] F (.ret (.sc (.bool true))) F:=fun F hF=>by
  have h1:=AG u1 hF
  rw[ey] at h1
  have h2:=qX u1 (by omega) t5 none none []
  rw[kx,kx,r2] at h2
  exact s9 (.cons h1 (.cons (v5 F) .nil)) .sc h2
 refine aL (m1 _) ?_
 refine aI (ei @w1 @w2 w3 iE) ?_
 refine aL (q4 _) ?_
 refine aI (ei @w1 @w2 w3 iE) ?_
 refine aL (m2 _) ?_
 refine aI (ei @w1 @w2 w3 iE) ?_
 refine aL (q5 _) ?_
 refine aI (ei @w1 @w2 w3 iE) ?_
 refine aL (m3 _ (PV.of fun i h1 h2=>ai (by omega))) ?_
 refine aI (ei @w1 @w2 w3 iE) ?_
 refine hL _ _ ?_
 clear hL
 refine aw ?_
 exact pq (fun i hi=>(ai (by have:=Y.ax w3;omega)).trans (hKo i hi)) (.same trivial)
theorem aar(t:Nd):∀most,bulk t most≤most→(t.wt:Int)≤8*bulk t most:=by
 induction t using Nd.ind with
 |_ t ih =>
  intro most h
  rw[zj] at h ⊢
  rw[Nd.oD]
  have key:∀(l:List Nd)(c:Int),(∀k∈l,∀most,bulk k most≤most→(k.wt:Int)≤8*bulk k most)→ig l most c≤most→8*c+(Nd.mA l:Int)≤8*ig l most c:=by
   intro l
   induction l with
   |nil=>intro c _ _;simp[ig,Nd.mA]
   |cons x r fC =>
    intro c hx hc
    unfold ig at hc ⊢
    by_cases d:c≤most
    ·rw[if_pos d] at hc ⊢
     have h1:=fC _ (fun k hk=>hx k (by simp[hk])) hc
     have h2:=GV most r (c+bulk x (most-c))
     have h3:=hx x (by simp) (most-c) (by omega)
     simp only[Nd.mA]
     omega
    ·rw[if_neg d] at hc
     omega
  have:=key t.kids _ ih h
  omega
theorem aas(t:Nd):t.size≤t.wt:=by
 induction t using Nd.ind with
 |_ t ih =>
  rw[Nd.oD,Nd.size_eq]
  have key:∀l:List Nd,(∀k∈l,k.size≤k.wt)→Nd.ay l≤Nd.mA l:=by
   intro l
   induction l with
   |nil=>intro _;simp[Nd.ay]
   |cons x r fC =>
    intro hx
    have h1:=hx x (by simp)
    have h2:=fC fun k hk=>hx k (by simp[hk])
    simp only[Nd.ay,Nd.mA]
    omega
  have:=key t.kids ih
  omega
theorem QD{t:Nd}{H:Y}:iL (qt t H.length++H) t H.length:=by
 have h:=Ey (l:=t.kids) (H:=H)
 have e:qt t H.length++H=lc t.kids (H.length+1)++(mG (jF t.kids H.length)::H):=by rw[Es,List.append_assoc];rfl
 rw[e]
 intro i xs hx
 rw[qu] at hx
 cases i with
 |zero =>
  simp only[List.getElem?_cons_zero,Option.some.injEq] at hx
  rw[←hx]
  exact h.row
 |succ i =>
  rw[List.getElem?_cons_succ] at hx
  have:=h.kids i xs hx
  rw[show H.length+(i+1)=H.length+1+i by omega]
  exact this
structure cg where
 nil:Bool
 n:Nat
 id:Nat
 c:Option Nat
instance:Inhabited cg:=⟨⟨true,0,0,none⟩⟩
def cg.av(k:Nat)(r:cg):AV:=if r.nil then .am 0 [] (some []) else .aD k r.id 0 r.n r.c
theorem cg.tg{k:Nat}{r:cg}(h:r.nil=true):r.av k = .am 0 [] (some []):=by simp[cg.av,h]
theorem cg.nJ{k:Nat}{r:cg}(h:r.nil=false):r.av k = .aD k r.id 0 r.n r.c:=by simp[cg.av,h]
theorem cg.A5{k:Nat}{r:cg}:(r.av k).bT=false∧(r.av k).az=1∧(r.av k).isAgg=false:=by unfold cg.av;split<;>exact ⟨rfl,rfl,rfl⟩
def gE(k:Nat)(rs:List cg):List AV:=rs.map (cg.av k)
theorem wU{k:Nat}{rs:List cg}:(gE k rs).length=rs.length:=by simp[gE]
theorem wV{k:Nat}{a b:List cg}:gE k (a++b)=gE k a++gE k b:=by simp[gE]
def fU(rs:List cg)(i:Nat):cg:=rs.getD i default
theorem sC{k:Nat}{rs:List cg}:gE k rs≠[]↔rs≠[]:=by cases rs<;>simp[gE]
theorem sD{rs:List cg}{k:Nat}(h:k<rs.length):fU rs k∈rs:=by
 unfold fU
 rw[List.getD_eq_getElem?_getD,List.getElem?_eq_getElem h]
 exact List.getElem_mem h
def cC(rs:List cg):List Nat:=(rs.filter fun r=>!r.nil).map (·.id)
theorem A6{rs:List cg}{k:Nat}(h:k<rs.length)(hn:(fU rs k).nil=false):(fU rs k).id∈cC rs :=
 List.mem_map.2 ⟨fU rs k,List.mem_filter.2 ⟨sD h,by simp[hn]⟩,rfl⟩
theorem Jt{rs:List cg}{i:Nat}(h:i∈cC rs):∃k,k<rs.length∧(fU rs k).nil=false∧(fU rs k).id=i:=by
 obtain ⟨o,h1,rfl⟩:=List.mem_map.1 h
 obtain ⟨h2,h3⟩:=List.mem_filter.1 h1
 obtain ⟨k,hk,e⟩:=List.getElem_of_mem h2
 have e2:fU rs k=o:=by
  unfold fU
  rw[List.getD_eq_getElem?_getD,List.getElem?_eq_getElem hk]
  exact e
 exact ⟨k,hk,by rw[e2];simpa using h3,by rw[e2]⟩
def gOK(s:Shape)(H:Y)(r:cg):Prop:=∃es ex,Y.find H r.id=some ⟨s.k,es,ex,s.ty⟩∧(r.c=none→ex=false∧r.n≤es.length)∧(∀m,r.c=some m→qm r.n m es ex)∧∀x∈es,s.is x
structure mJ(s:Shape)(H:Y)(rs:List cg):Prop where
 zero:∀r∈rs,r.nil=true→r.n=0
 blk:∀r∈rs,r.nil=false→gOK s H r
 apart:(cC rs).Nodup
 rE:∀r∈rs,r.n≤10000000
theorem U9{rs:List cg}(h:(cC rs).Nodup):∀k l,k<rs.length→l<rs.length→(fU rs k).nil=false→(fU rs l).nil=false→(fU rs k).id=(fU rs l).id→k=l:=by
 induction rs with
 |nil=>intro k l hk;simp at hk
 |cons r t ih =>
  have dW:∀{j:Nat},j<t.length→(fU t j).nil=false→(fU t j).id∈cC t:=fun hj hn=>A6 hj hn
  have h2:(cC t).Nodup:=by
   unfold cC at h ⊢
   simp only[List.filter_cons] at h
   split at h
   ·exact (List.nodup_cons.1 h).2
   ·exact h
  have h3:r.nil=false→r.id∉cC t:=fun hn=>by
   unfold cC at h ⊢
   rw[List.filter_cons_of_pos (by simp[hn])] at h
   exact (List.nodup_cons.1 h).1
  intro k l hk hl nk nl e
  cases k with
  |zero =>
   cases l with
   |zero=>rfl
   |succ l =>
    have h4:l<t.length:=by simpa using hl
    exact absurd (show r.id∈cC t from (show r.id=(fU t l).id from e)▸dW h4 nl) (h3 nk)
  |succ k =>
   have h5:k<t.length:=by simpa using hk
   cases l with
   |zero=>exact absurd (show r.id∈cC t from (show (fU t k).id=r.id from e)▸dW h5 nk) (h3 nl)
   |succ l=>rw[ih h2 k l h5 (by simpa using hl) nk nl e]
theorem mJ.lt{s:Shape}{H:Y}{rs:List cg}(h:mJ s H rs):∀i∈cC rs,i<H.length:=fun i hi=>by
 obtain ⟨k,hk,hn,rfl⟩:=Jt hi
 obtain ⟨es,ex,h1,_⟩:=h.blk _ (sD hk) hn
 exact Y.ax h1
theorem mJ.keep{s:Shape}{H G:Y}{rs:List cg}(h:mJ s H rs)(hk:∀i,i∈cC rs→Y.find G i=Y.find H i):mJ s G rs :=
 ⟨h.zero,fun r hr hn=>by
  obtain ⟨es,ex,h1,h2⟩:=h.blk r hr hn
  exact ⟨es,ex,(hk _ (List.mem_map.2 ⟨r,List.mem_filter.2 ⟨hr,by simp[hn]⟩,rfl⟩)).trans h1,h2⟩,h.apart,h.rE⟩
theorem Sa{k:Nat}:∀{os:List cg}{es:List AV},gT (gE k os) es→
  ∃rs:List ct,es=nw k rs∧rs.length=os.length∧∀i,i<os.length→(aR rs i).n=(fU os i).n∧(aR rs i).nil=(fU os i).nil∧((fU os i).nil=false→(aR rs i).id=(fU os i).id∧∀m,(fU os i).c=some m→(aR rs i).c=m)
 |[],es,h=>by
  cases h
  exact ⟨[],rfl,rfl,fun i hi=>by simp at hi⟩
 |o::r,es,h=>by
  have h':gT (o.av k::gE k r) es:=h
  cases h' with
  |@cons _ y0 _ s0 hx hr =>
   obtain ⟨rs,e1,e2,e3⟩:=Sa hr
   have key:∀(f:ct)(y:AV),y=f.av k→f.n=o.n→f.nil=o.nil→(o.nil=false→f.id=o.id∧∀m,o.c=some m→f.c=m)→
     ∃QB:List ct,y::s0=nw k QB∧QB.length=(o::r).length∧∀i,i<(o::r).length→(aR QB i).n=(fU (o::r) i).n∧(aR QB i).nil=(fU (o::r) i).nil∧((fU (o::r) i).nil=false→(aR QB i).id=(fU (o::r) i).id∧∀m,(fU (o::r) i).c=some m→(aR QB i).c=m):=by
    intro f y hy h1 h2 h3
    refine ⟨f::rs,by rw[hy,e1];rfl,by simp[e2],fun i hi=>?_⟩
    cases i with
    |zero=>exact ⟨h1,h2,h3⟩
    |succ i=>exact e3 i (by simpa using hi)
   cases hn:o.nil with
   |true =>
    rw[cg.tg hn] at hx
    exact key ⟨true,o.n,0,0⟩ _ (show y0=_ from hx) rfl hn.symm (fun h=>by rw[hn] at h;cases h)
   |false =>
    rw[cg.nJ hn] at hx
    cases hc:o.c with
    |none =>
     rw[hc] at hx
     obtain ⟨c,_,rfl⟩:=hx
     exact key ⟨false,o.n,o.id,c⟩ _ (by simp[ct.av]) rfl hn.symm (fun _=>⟨rfl,fun m h=>by rw[hc] at h;cases h⟩)
    |some c =>
     rw[hc] at hx
     exact key ⟨false,o.n,o.id,c⟩ _ (show y0=_ from hx) rfl hn.symm (fun _=>⟨rfl,fun m h=>by rw[hc] at h;cases h;rfl⟩)
theorem acw{P:Program}{f:FuncId}(s:Shape)(ago:∀(H:Y)(rs:List ct)(ee:Nat)(B3:Bool)(xW:TypeId)(cl:Option Nat),Y.find H ee=some ⟨1,nw s.k rs,B3,xW⟩→tj s H rs→ee∉th rs→rs.length≤1000000→
   D P f [.aD 1 ee 0 rs.length cl] H (.ret (.sc (.bool true))) (lC (th rs) H))
  {H:Y}{os:List cg}{ee:Nat}{B3:Bool}{xW:TypeId}{cl:Option Nat}(hls:Y.find H ee=some ⟨1,gE s.k os,B3,xW⟩)(ok:mJ s H os)(EY:ee∉cC os)(hN:os.length≤1000000) :
  D P f [.aD 1 ee 0 os.length cl] H (.ret (.sc (.bool true))) (lC (ee::cC os) H):=by
 have hlt:=Y.ax hls
 refine ab8 hls (by rw[fQ];exact Nat.le_refl _) fun es mc=>?_
 obtain ⟨rs,rfl,h1,h2⟩:=Sa mc
 have agp:∀k,k<os.length→(fU os k).nil=false→(aR rs k).id≠ee:=fun k hk hn e=>by
  rw[((h2 k hk).2.2 hn).1] at e
  exact EY (e▸A6 hk hn)
 have ok2:tj s (Y.set H ee (some ⟨1,nw s.k rs,B3,xW⟩)) rs:=by
  refine ⟨fun k hk hn=>?_,fun k hk hn=>?_,fun k l hk hl hn zV e=>?_,fun k hk=>?_⟩
  ·have hk':k<os.length:=by omega
   rw[(h2 k hk').1]
   exact ok.zero _ (sD hk') ((h2 k hk').2.1▸hn)
  ·have hk':k<os.length:=by omega
   have hn':(fU os k).nil=false:=(h2 k hk').2.1▸hn
   obtain ⟨es,ex,b1,b2,b3,b4⟩:=ok.blk _ (sD hk') hn'
   obtain ⟨c1,c2⟩:=(h2 k hk').2.2 hn'
   refine ⟨es,ex,?_,?_,b4⟩
   ·rw[Y.aj (agp k hk' hn'),c1]
    exact b1
   ·rw[(h2 k hk').1]
    cases hc:(fU os k).c with
    |none=>exact .inr (b2 hc)
    |some m=>rw[c2 m hc];exact b3 m hc
  ·have hk':k<os.length:=by omega
   have E2:l<os.length:=by omega
   have n1:(fU os k).nil=false:=(h2 k hk').2.1▸hn
   have n2:(fU os l).nil=false:=(h2 l E2).2.1▸zV
   refine U9 ok.apart k l hk' E2 n1 n2 ?_
   rw[←((h2 k hk').2.2 n1).1,←((h2 l E2).2.2 n2).1]
   exact e
  ·rw[(h2 k (by omega)).1];exact ok.rE _ (sD (by omega))
 have uJ:∀i,i∈th rs→i∈cC os:=fun i hi=>by
  obtain ⟨r,e1,rfl⟩:=List.mem_map.1 hi
  obtain ⟨e2,e3⟩:=List.mem_filter.1 e1
  obtain ⟨k,hk,e⟩:=List.getElem_of_mem e2
  have e4:aR rs k=r:=by
   unfold aR
   rw[List.getD_eq_getElem?_getD,List.getElem?_eq_getElem hk]
   exact e
  have hk':k<os.length:=by omega
  have hn:(fU os k).nil=false:=by rw[←(h2 k hk').2.1,e4];simpa using e3
  rw[←e4,((h2 k hk').2.2 hn).1]
  exact A6 hk' hn
 have hD:=ago (Y.set H ee (some ⟨1,nw s.k rs,B3,xW⟩)) rs ee B3 xW cl (Y.aC hlt) ok2 (fun h=>EY (uJ _ h)) (by omega)
 rw[h1] at hD
 refine hD.agM (by rw[fQ,Y.af];exact Nat.le_refl _) ?_
 refine ku [] (by simp[fQ,Y.af]) (by simp) (by simp) (fun id k hid hk=>.inl ?_) (fun i s k hs=>by simp at hs) (.same trivial)
 obtain ⟨g1,g2⟩:=rF hk
 have g3:id≠ee:=fun e=>g1 (by simp[e])
 have g4:id∉cC os:=fun e=>g1 (by simp[e])
 have g5:Y.find (Y.set H ee (some ⟨1,nw s.k rs,B3,xW⟩)) id=some k:=by rw[Y.aj g3];exact g2
 exact ⟨g5,by rw[qn (fun e=>g4 (uJ _ e))];exact g5⟩
def aem:IC:=(.seq (.ops [iP 2 (.mv kF)]) (.seq (.seq (.ops [iP 3 (xI 0)]) (.block 0 (.loop (.seq (.seq (.ops [iM 16 3,iM 17 0,iP 18 (xL 17),iP 19 (xB .lss 16 18)]) (.cond (.t 19) .skip (.exit 0))) (.seq (.block 1 (.seq (.ops [iP 4 (xI 0)]) (.block 2 (.loop (.seq (.seq (.ops [iM 22 4,iM 23 0,iM 24 3,iP 25 (xA 1 23 24),iH 26 (yD 1 25),iP 27 (xL 26),iP 28 (xB .lss 22 27)]) (.cond (.t 28) .skip (.exit 2))) (.seq (.block 3 (.di [iM 31 0,iM 32 3,iP 33 (xA 1 31 32),iH 34 (yD 1 33),iM 35 4,iM 36 3,iM 37 4,iH 38 (yC 62 36 37),iP 39 (xA 4 34 35),iS 4 39 38] [[],[],[0,1],[2,0,1],[],[],[],[5,6],[3,2,0,1,4,5,6,7],[8,3,2,0,1,4,5,6,7]])) (.ops [iM 29 4,iP 30 (.aN .add (.t 29) (kI 1)),iM 4 30]))))))) (.ops [iM 20 3,iP 21 (.aN .add (.t 20) (kI 1)),iM 3 21])))))) (.seq (.ops [iM 40 0,iP 41 (xL 40),iH 42 (.jM 1 23 bG (.t 41) (.t 41)),iM 5 42]) (.seq (.seq (.ops [iP 6 (xI 0)]) (.block 4 (.loop (.seq (.seq (.ops [iM 43 6,iM 44 0,iP 45 (xL 44),iP 46 (xB .lss 43 45)]) (.cond (.t 46) .skip (.exit 4))) (.seq (.block 5 (.seq (.ops [iM 49 0,iM 50 6,iP 51 (xA 1 49 50),iH 52 (yD 1 51),iM 7 52]) (.seq (.seq (.ops [iP 8 (xI 0)]) (.block 6 (.loop (.seq (.seq (.ops [iM 53 8,iP 54 (.aN .lss (.t 53) (kI 64))]) (.cond (.t 54) .skip (.exit 6))) (.seq (.block 7 (.ops [iM 57 7,iM 58 6,iM 59 0,iM 60 6,iP 61 (xA 1 59 60),iH 62 (yD 1 61),iP 63 (xL 62),iM 64 8,iP 65 (xB .add 63 64),iH 66 (yC 62 58 65),⟨(some 67),none,(.h (.ep 4 25 (.agg [(.sc (.int .u8 0)),(.sc (.string ⟨#[]⟩)),(.sc (.int .i64 0)),bG]) 1 [(0,(.t 66))]))⟩,iH 68 (.ez 4 25 (.t 57) (.t 67)),iM 7 68])) (.ops [iM 55 8,iP 56 (.aN .add (.t 55) (kI 1)),iM 8 56])))))) (.ops [iM 69 5,iM 70 6,iM 71 7,iP 72 (xA 1 69 70),iS 1 72 71])))) (.ops [iM 47 6,iP 48 (.aN .add (.t 47) (kI 1)),iM 6 48])))))) (.seq (.seq (.ops [iP 9 (xI 0)]) (.block 8 (.loop (.seq (.seq (.ops [iM 73 9,iM 74 0,iP 75 (xL 74),iP 76 (xB .lss 73 75)]) (.cond (.t 76) .skip (.exit 8))) (.seq (.block 9 (.seq (.ops [iP 10 (xI 0)]) (.block 10 (.loop (.seq (.seq (.ops [iM 79 10,iM 80 5,iM 81 9,iP 82 (xA 1 80 81),iH 83 (yD 1 82),iP 84 (xL 83),iP 85 (xB .lss 79 84)]) (.cond (.t 85) .skip (.exit 10))) (.seq (.block 11 (.seq (.di [iM 88 5,iM 89 9,iP 90 (xA 1 88 89),iH 91 (yD 1 90),iM 92 10,iP 93 (xA 4 91 92),iH 94 (yA 4 93),iM 95 9,iM 96 10,iH 97 (yC 62 95 96),iH 98 (yC 16 94 97),iP 99 (xN 98),iM 100 99,gM 101 100 false 10,gM 102 100 false 0,gM 103 100 false 9,gP 104 100 false (xA 1 102 103),gH 105 100 false (yD 1 104),gP 106 100 false (xL 105),gP 107 100 false (xB .lss 101 106),gM 108 100 false 107,gM 109 108 true 0,gM 110 108 true 9,gP 111 108 true (xA 1 109 110),gH 112 108 true (yD 1 111),gM 113 108 true 10,gP 114 108 true (xA 4 112 113),gH 115 108 true (yA 4 114),gM 116 108 true 9,gM 117 108 true 10,gH 118 108 true (yC 62 116 117),gH 119 108 true (yC 16 115 118),gP 120 108 true (xN 119),gP 121 100 false (.pick (.t 108) (.t 120) kF),iP 122 (.pick (.t 100) kT (.t 121))] [[],[],[0,1],[2,0,1],[],[3,2,0,1,4],[5,3,2,0,1,4],[],[],[7,8],[6,5,3,2,0,1,4,9,7,8],[10,6,5,3,2,0,1,4,9,7,8],[11,10,6,5,3,2,0,1,4,9,7,8],[12,11,10,6,5,3,2,0,1,4,9,7,8],[12,11,10,6,5,3,2,0,1,4,9,7,8],[12,11,10,6,5,3,2,0,1,4,9,7,8],[14,12,11,10,6,5,3,2,0,1,4,9,7,8,15],[16,14,12,11,10,6,5,3,2,0,1,4,9,7,8,15],[17,16,14,12,11,10,6,5,3,2,0,1,4,9,7,8,15],[13,12,11,10,6,5,3,2,0,1,4,9,7,8,18,17,16,14,15],[19,13,12,11,10,6,5,3,2,0,1,4,9,7,8,18,17,16,14,15],[20,19,13,12,11,10,6,5,3,2,0,1,4,9,7,8,18,17,16,14,15],[20,19,13,12,11,10,6,5,3,2,0,1,4,9,7,8,18,17,16,14,15],[21,20,19,13,12,11,10,6,5,3,2,0,1,4,9,7,8,18,17,16,14,15,22],[23,21,20,19,13,12,11,10,6,5,3,2,0,1,4,9,7,8,18,17,16,14,15,22],[20,19,13,12,11,10,6,5,3,2,0,1,4,9,7,8,18,17,16,14,15],[24,23,21,20,19,13,12,11,10,6,5,3,2,0,1,4,9,7,8,18,17,16,14,15,22,25],[26,24,23,21,20,19,13,12,11,10,6,5,3,2,0,1,4,9,7,8,18,17,16,14,15,22,25],[20,19,13,12,11,10,6,5,3,2,0,1,4,9,7,8,18,17,16,14,15],[20,19,13,12,11,10,6,5,3,2,0,1,4,9,7,8,18,17,16,14,15],[28,20,19,13,12,11,10,6,5,3,2,0,1,4,9,7,8,18,17,16,14,15,29],[27,26,24,23,21,20,19,13,12,11,10,6,5,3,2,0,1,4,9,7,8,18,17,16,14,15,22,25,30,28,29],[31,27,26,24,23,21,20,19,13,12,11,10,6,5,3,2,0,1,4,9,7,8,18,17,16,14,15,22,25,30,28,29],[20,19,13,12,11,10,6,5,3,2,0,1,4,9,7,8,18,17,16,14,15,32,31,27,26,24,23,21,22,25,30,28,29],[12,11,10,6,5,3,2,0,1,4,9,7,8,33,20,19,13,18,17,16,14,15,32,31,27,26,24,23,21,22,25,30,28,29]]) (.cond (.t 122) (.seq (.ops [iP 2 (.mv kF)]) .ret) .skip))) (.ops [iM 86 10,iP 87 (.aN .add (.t 86) (kI 1)),iM 10 87]))))))) (.ops [iM 77 9,iP 78 (.aN .add (.t 77) (kI 1)),iM 9 78])))))) (.seq (.seq (.ops [iP 11 (xI 0)]) (.block 12 (.loop (.seq (.seq (.ops [iM 123 11,iM 124 0,iP 125 (xL 124),iP 126 (xB .lss 123 125)]) (.cond (.t 126) .skip (.exit 12))) (.seq (.block 13 (.seq (.ops [⟨(some 129),none,(.h (.jM 4 25 (.agg [(.sc (.int .u8 0)),(.sc (.string ⟨#[]⟩)),(.sc (.int .i64 0)),bG]) (kI 64) (kI 64)))⟩,iM 12 129]) (.seq (.seq (.ops [iP 13 (xI 0)]) (.block 14 (.loop (.seq (.seq (.ops [iM 130 13,iP 131 (.aN .lss (.t 130) (kI 64))]) (.cond (.t 131) .skip (.exit 14))) (.seq (.block 15 (.ops [iM 134 12,iM 135 13,iM 136 11,iM 137 0,iP 138 (xL 137),iP 139 (xB .add 136 138),iM 140 13,iH 141 (yC 62 139 140),iP 142 (xA 4 134 135),iS 4 142 141])) (.ops [iM 132 13,iP 133 (.aN .add (.t 132) (kI 1)),iM 13 133])))))) (.ops [iM 143 5,iM 144 11,iM 145 0,iM 146 11,iP 147 (xA 1 145 146),iH 148 (yD 1 147),iM 149 12,iH 150 (.ez 4 25 (.t 148) (.t 149)),iP 151 (xA 1 143 144),iS 1 151 150])))) (.ops [iM 127 11,iP 128 (.aN .add (.t 127) (kI 1)),iM 11 128])))))) (.seq (.seq (.ops [iP 14 (xI 0)]) (.block 16 (.loop (.seq (.seq (.ops [iM 152 14,iM 153 0,iP 154 (xL 153),iP 155 (xB .lss 152 154)]) (.cond (.t 155) .skip (.exit 16))) (.seq (.block 17 (.seq (.ops [iP 15 (xI 0)]) (.block 18 (.loop (.seq (.seq (.ops [iM 158 15,iM 159 0,iM 160 14,iP 161 (xA 1 159 160),iH 162 (yD 1 161),iP 163 (xL 162),iP 164 (xB .lss 158 163)]) (.cond (.t 164) .skip (.exit 18))) (.seq (.block 19 (.seq (.di [iM 167 0,iM 168 14,iP 169 (xA 1 167 168),iH 170 (yD 1 169),iM 171 15,iP 172 (xA 4 170 171),iH 173 (yA 4 172),iM 174 14,iM 175 15,iH 176 (yC 62 174 175),iH 177 (yC 16 173 176),iP 178 (xN 177),iM 179 178,gM 180 179 false 5,gM 181 179 false 14,gP 182 179 false (xA 1 180 181),gH 183 179 false (yD 1 182),gM 184 179 false 15,gP 185 179 false (xA 4 183 184),gH 186 179 false (yA 4 185),gM 187 179 false 14,gM 188 179 false 15,gH 189 179 false (yC 62 187 188),gH 190 179 false (yC 16 186 189),gP 191 179 false (xN 190),iP 192 (.pick (.t 179) kT (.t 191))] [[],[],[0,1],[2,0,1],[],[3,2,0,1,4],[5,3,2,0,1,4],[],[],[7,8],[6,5,3,2,0,1,4,9,7,8],[10,6,5,3,2,0,1,4,9,7,8],[11,10,6,5,3,2,0,1,4,9,7,8],[12,11,10,6,5,3,2,0,1,4,9,7,8],[12,11,10,6,5,3,2,0,1,4,9,7,8],[13,12,11,10,6,5,3,2,0,1,4,9,7,8,14],[15,13,12,11,10,6,5,3,2,0,1,4,9,7,8,14],[12,11,10,6,5,3,2,0,1,4,9,7,8],[16,15,13,12,11,10,6,5,3,2,0,1,4,9,7,8,14,17],[18,16,15,13,12,11,10,6,5,3,2,0,1,4,9,7,8,14,17],[12,11,10,6,5,3,2,0,1,4,9,7,8],[12,11,10,6,5,3,2,0,1,4,9,7,8],[20,12,11,10,6,5,3,2,0,1,4,9,7,8,21],[19,18,16,15,13,12,11,10,6,5,3,2,0,1,4,9,7,8,14,17,22,20,21],[23,19,18,16,15,13,12,11,10,6,5,3,2,0,1,4,9,7,8,14,17,22,20,21],[12,11,10,6,5,3,2,0,1,4,9,7,8,24,23,19,18,16,15,13,14,17,22,20,21]]) (.cond (.t 192) (.seq (.ops [iP 2 (.mv kF)]) .ret) .skip))) (.ops [iM 165 15,iP 166 (.aN .add (.t 165) (kI 1)),iM 15 166]))))))) (.ops [iM 156 14,iP 157 (.aN .add (.t 156) (kI 1)),iM 14 157])))))) (.seq (.ops [iP 2 (.mv kT)]) .ret))))))))
theorem aiU:Dk Tryz.prog 92 aem [(.t 2)] 193:=aV Tryz.func92
def kS:Shape:=⟨4,25,true⟩
def jo(k i:Nat):AV:=.agg [.sc (.int .u8 0),.sc (.string ⟨#[]⟩),.sc (.int .i64 (gr k i)),.am 0 [] (some [])]
theorem M7{k i:Nat}:kS.is (jo k i):=⟨rfl,rfl,rfl⟩
theorem q8{k i:Nat}:(jo k i).bT=false∧(jo k i).az=4∧(jo k i).isAgg=true:=⟨rfl,rfl,rfl⟩
theorem j9(k i:Int)(H:Y):D Tryz.prog 62 [.sc (.int .i64 k),.sc (.int .i64 i)] H (.ret (.agg [.sc (.int .u8 0),.sc (.string ⟨#[]⟩),.sc (.int .i64 (gr k i)),.am 0 [] (some [])])) H:=qY k i H
theorem q9(k i:Int)(H:Y):D Tryz.prog 16 [.agg [.sc (.int .u8 0),.sc (.string ⟨#[]⟩),.sc (.int .i64 (gr k i)),.am 0 [] (some [])],.agg [.sc (.int .u8 0),.sc (.string ⟨#[]⟩),.sc (.int .i64 (gr k i)),.am 0 [] (some [])]] H (.ret (.sc (.bool true))) H:=BF k i H
theorem Ju(H:Y)(rs:List ct)(ee:Nat)(B3:Bool)(xW:TypeId)(cl:Option Nat)(hls:Y.find H ee=some ⟨1,nw 4 rs,B3,xW⟩)(ok:tj kS H rs)(EY:ee∉th rs)(hN:rs.length≤1000000) :
  D Tryz.prog 92 [.aD 1 ee 0 rs.length cl] H (.ret (.sc (.bool true))) (lC (th rs) H):=by
 refine aG (by rw[fQ];exact Nat.le_refl _) (aiU (aA ?_))
 simp only[aem,ux]
 have hlt:=Y.ax hls
 have lv:(nw 4 rs).length=rs.length:=Ft
 have uw:=ok.rE
 have xX:∀{F:Y},gU H F rs→Y.find F ee=some ⟨1,nw 4 rs,B3,xW⟩:=fun h=>(h ee hlt EY).trans hls
 refine Z fun L hL=>?_
 refine fh ?_
 refine hL _ _ ?_
 clear hL
 refine Z fun L hL=>?_
 refine fh ?_
 refine aZ (fun ts F=>∃K:Nat,(K≤rs.length∧F.length=H.length∧gU H F rs∧ij kS jo F rs (fun k=>if k<K then (aR rs k).n else 0))∧Fr (some (.aD 1 ee 0 rs.length cl)::none::some (.sc (.bool false))::some (.sc (.int .i64 K))::none::fg (ir (dL (bf (bf (bf (bf (bf [])))))))) ts) (fun ts _=>rs.length-(aM (ts.getD 3 .top)).toNat) ⟨0,⟨Nat.zero_le _,rfl,.refl,ok.start.less (fun k _=>by simp)⟩,by simp[Fr]⟩ ?_
 rintro ts F ⟨K,⟨hK,qi,hb,hr⟩,aX⟩ L2 bM
 obtain ⟨js,rfl⟩:=aX.opened
 clear aX
 have fe:=xX hb
 refine yU ?_
 refine dz (fun h=>?_) (fun h=>?_)
 ·have h1:K<rs.length:=by omega
  refine fh ?_
  refine aZ (fun ts F=>∃j:Nat,(j≤(aR rs K).n∧F.length=H.length∧gU H F rs∧ij kS jo F rs (fun k=>if k<K then (aR rs k).n else if k=K then j else 0))∧Fr (some (.aD 1 ee 0 rs.length cl)::none::some (.sc (.bool false))::some (.sc (.int .i64 K))::some (.sc (.int .i64 j))::fg (ir (dL (bf (bf (bf (bf (bf [])))))))) ts) (fun ts _=>(aR rs K).n-(aM (ts.getD 4 .top)).toNat) ⟨0,⟨Nat.zero_le _,qi,hb,hr.less (fun k _=>mk_zero (n:=fun k=>(aR rs k).n) k)⟩,by simp[Fr]⟩ ?_
  clear hb hr fe qi
  rintro ts F ⟨j,⟨hj,qi,hb,hr⟩,aX⟩ L3 sn
  obtain ⟨js,rfl⟩:=aX.opened
  clear aX
  have fe:=xX hb
  have hg:=ql (k:=4) h1
  have k0:(0:Int)≤(K:Int):=by omega
  have k1:(K:Int)<rs.length:=by omega
  cases hn:(aR rs K).nil with
  |true =>
   rw[ct.tg hn] at hg
   have hz:=ok.nil K h1 hn
   have hj0:j=0:=by omega
   subst hj0
   refine df (yQ fe lv hg h1 k0 k1) ?_
   exact bM _ _ ⟨K+1,⟨by omega,qi,hb,hr.less (fun k _=>LQ (n:=fun k=>(aR rs k).n) (by omega) k)⟩,by simp[Fr]⟩ (by simp[aM,mk];omega)
  |false =>
   rw[ct.nJ hn] at hg
   have hn0:=uw K h1
   obtain ⟨es,ex,hf,hc,hsh,hm⟩:=hr K h1 hn
   have rj:Y.find F (aR rs K).id=some ⟨4,es,ex,25⟩:=hf
   have hce:=kG hc
   refine df (yQ fe lv hg h1 k0 k1) ?_
   refine dz (fun h=>?_) (fun h=>?_)
   ·have h2:j<(aR rs K).n:=by omega
    have j0:(0:Int)≤(j:Int):=by omega
    have j1:(j:Int)<(aR rs K).n:=by omega
    have j2:j<es.length:=by omega
    refine df (yQ fe lv hg h1 k0 k1) ?_
    refine aL (j9 _ _ _) ?_
    have CV:=hsh _ (List.getElem_mem j2)
    have hgx:es.getD j .top=es[j]:=by simp[List.getD,j2]
    have x1:(es.getD j .top).az=4:=by rw[hgx];exact CV.2.1
    have x2:(es.getD j .top).isAgg=true:=by rw[hgx];exact CV.2.2
    have x3:∀c,AV.lq (es.getD j .top) 0 (.agg [.sc (.int .u8 0),.sc (.string ⟨#[]⟩),c,.am 0 [] (some [])]) = .agg [.sc (.int .u8 0),.sc (.string ⟨#[]⟩),c,.am 0 [] (some [])]:=fun c=>GZ x1 rfl rfl
    refine df (Rg fe lv hg h1 k0 k1 rj j0 j1 j2 x1 x2 x3) ?_
    refine sn _ _ ⟨j+1,⟨by omega,by rw[Y.af];exact qi,hb.set h1 hn,?_⟩,by simp[Fr]⟩ (by simp[aM,mk];omega)
    refine hr.put ok h1 hn ?_ (fun k e=>afX (n:=fun k=>(aR rs k).n) k e)
    have:=ik.store (m:=j) (mk:=jo K) hf hc hsh (fun i hi=>hm i (by simpa using hi)) h2 M7
    show ik _ _ _ _ _ _ (if K<K then _ else if K=K then _ else _)
    rw[if_neg (Nat.lt_irrefl _),if_pos rfl]
    exact this
   ·have hj0:j=(aR rs K).n:=by omega
    subst hj0
    clear hf rj hc hsh hm
    refine fh ?_
    exact bM _ _ ⟨K+1,⟨by omega,qi,hb,hr.less (fun k _=>LQ (n:=fun k=>(aR rs k).n) (by omega) k)⟩,by simp[Fr]⟩ (by simp[aM,mk];omega)
 ·have QE:K=rs.length:=by omega
  subst QE
  refine hL _ _ ?_
  clear hL bM
  have hr:ij kS jo F rs (fun k=>(aR rs k).n):=hr.less (fun k hk=>by rw[if_pos hk];exact Nat.le_refl _)
  refine Z fun L hL=>?_
  refine fh ?_
  refine ⟨by omega,?_⟩
  simp only[qi]
  refine hL _ _ ?_
  clear hL
  refine Z fun L hL=>?_
  refine fh ?_
  refine aZ (fun ts F=>∃(K:Nat)(jk:List AV),(K≤rs.length∧H.length<F.length∧gU H F rs∧ij kS jo F rs (fun k=>(aR rs k).n)∧Y.find F H.length=some ⟨1,jk,true,23⟩∧(jk.length=rs.length∧zl jk)∧dH 4 jo F rs H.length F.length jk K (fun k=>(aR rs k).n+64))∧Fr (some (.aD 1 ee 0 rs.length cl)::none::some (.sc (.bool false))::none::none::some (.aD 1 H.length 0 rs.length (some rs.length))::some (.sc (.int .i64 K))::none::none::ir (dL (bf (bf (bf (bf (bf []))))))) ts) (fun ts _=>rs.length-(aM (ts.getD 6 .top)).toNat) ?_ ?_
  ·exact ⟨0,_,⟨Nat.zero_le _,by simp;omega,hb.cons (by omega),hr.cons,aJ (by omega),⟨by simp,.rep ⟨rfl,rfl⟩⟩,dH.zero⟩,by simp[Fr]⟩
  clear hb hr fe qi
  rintro ts F ⟨K,jk,⟨hK,qi,hb,hr,mF,⟨oO,hone⟩,oV⟩,aX⟩ L2 bM
  obtain ⟨js,rfl⟩:=aX.opened
  clear aX
  have fe:=xX hb
  refine yU ?_
  refine dz (fun h=>?_) (fun h=>?_)
  ·have h1:K<rs.length:=by omega
   have hg:=ql (k:=4) h1
   have k0:(0:Int)≤(K:Int):=by omega
   have k1:(K:Int)<rs.length:=by omega
   have hn0:=uw K h1
   have l9:=ct.D2 (k:=4) (ok.nil K h1)
   obtain ⟨a1,a2,a3,a4,a5⟩:_∧_∧_∧_∧_:=⟨ct.IX (k:=4) (r:=aR rs K),ct.xz (k:=4) (r:=aR rs K),ct.AB (k:=4) (r:=aR rs K),ct.AC (k:=4) (r:=aR rs K),ct.AD (k:=4) (r:=aR rs K)⟩
   refine eQ (yS fe lv hg h1 k0 k1 a1 a2 a3 a4 a5 l9) ?_
   obtain ⟨B,hB⟩:∃B,B=F.length:=⟨_,rfl⟩
   rw[←hB] at oV
   refine aZ (fun ts F=>∃(j:Nat)(g:AV),(j≤64∧B≤F.length∧gU H F rs∧ij kS jo F rs (fun k=>(aR rs k).n)∧Y.find F H.length=some ⟨1,jk,true,23⟩∧dH 4 jo F rs H.length B jk K (fun k=>(aR rs k).n+64)∧Grow kS (jo K) F (aR rs K) B j g)∧Fr (some (.aD 1 ee 0 rs.length cl)::none::some (.sc (.bool false))::none::none::some (.aD 1 H.length 0 rs.length (some rs.length))::some (.sc (.int .i64 K))::some (g)::some (.sc (.int .i64 j))::ir (dL (bf (bf (bf (bf (bf []))))))) ts) (fun ts _=>64-(aM (ts.getD 8 .top)).toNat) ?_ ?_
   ·refine ⟨0,_,⟨by omega,by omega,hb,hr,mF,oV,?_⟩,by simp[Fr];rfl⟩
    cases hn:(aR rs K).nil with
    |true=>rw[ct.tg hn];exact .nil hn rfl
    |false=>rw[ct.nJ hn];exact .room hn (hr K h1 hn)
   rw[←hB] at qi
   have hBg:H.length<B:=by omega
   clear hb hr mF fe qi oV hB
   rintro ts F ⟨j,g,⟨hj,P4,hb,hr,mF,oV,KN⟩,aX⟩ L3 sn
   obtain ⟨js,rfl⟩:=aX.opened
   clear aX
   have fe:=xX hb
   refine yU ?_
   refine dz (fun h=>?_) (fun h=>?_)
   ·have h2:j<64:=by omega
    refine eQ (yS fe lv hg h1 k0 k1 a1 a2 a3 a4 a5 l9) ?_
    refine ae (j9 _ _ _) ?_
    have hmk:AV.agg [.sc (.int .u8 0),.sc (.string ⟨#[]⟩),.sc (.int .i64 (gr K ((aR rs K).n+j))),.am 0 [] (some [])]=jo K ((aR rs K).n+j):=by unfold jo;rw[Int.natCast_add]
    have hn0:=uw K h1
    have qA:∀k,k<rs.length→(aR rs k).nil=false→(aR rs k).id<H.length:=fun k hk hn=>by
     obtain ⟨es,ex,e1,_⟩:=ok.blk k hk hn
     exact Y.ax e1
    cases KN with
    |nil hn hj0 =>
     subst hj0
     have hz:=ok.nil K h1 hn
     rw[hz] at hmk
     simp only[hz,Int.natCast_zero,Int.add_zero,Nat.add_zero] at hmk
     refine eQ (Fq fe lv hg h1 k0 k1 hz hmk @q8) ?_
     refine sn _ _ ⟨1,_,⟨by omega,by simp;omega,hb.cons (by omega),hr.cons,by rw[Y.bA (by omega)];exact mF,oV.keep (fun id e1 e2=>Y.bA (by omega)) (fun k hk hn=>Y.bA (by have:=qA k (by omega) hn;omega)),.new (gid:=F.length) P4 (by simp) ?_⟩,by simp[Fr,hz];rfl⟩ (by simp[aM,mk])
     rw[Y.iv,hz]
     rfl
    |room hn hrow =>
     obtain ⟨es,ex,hf,hc,hsh,hm⟩:=hrow
     have rj:Y.find F (aR rs K).id=some ⟨4,es,ex,25⟩:=hf
     have hce:=kG hc
     have hid:=qA K h1 hn
     have QF:kS.k=4:=rfl
     have sU:=hc
     unfold qm at sU
     have vL:(aR rs K).n+(j+1)≤100000000:=by omega
     by_cases hroom:(aR rs K).n+(j+1)≤(aR rs K).c
     ·have qK:ik kS (jo K) (Y.set F (aR rs K).id (some ⟨4,es.take ((aR rs K).n+j)++jo K ((aR rs K).n+j)::es.drop ((aR rs K).n+(j+1)),ex,25⟩)) (aR rs K).id ((aR rs K).n+(j+1)) (aR rs K).c ((aR rs K).n+(j+1)):=by
       have:=ik.ez (ys:=[jo K ((aR rs K).n+j)]) hf hc hsh hm hroom (fun x hx=>by rw[List.mem_singleton.1 hx];exact M7) (fun i hi=>by
        have:i=0:=by simpa using hi
        subst this
        rfl)
       rw[List.append_assoc] at this
       exact this
      refine eQ (Rg fe lv hg h1 k0 k1 hmk rj hroom @q8 QF sU vL) ?_
      refine sn _ _ ⟨j+1,_,⟨by omega,by rw[Y.af];exact P4,hb.set h1 hn,hr.put ok h1 hn ?_ (fun k e=>Nat.le_refl _),by rw[Y.aj (by omega)];exact mF,oV.keep (fun id e1 e2=>Y.aj (by omega)) (fun k hk zV=>Y.aj (fun e=>by have:=ok.apart k K (by omega) h1 zV hn e;omega)),.room hn ?_⟩,by simp[Fr];rfl⟩ (by simp[aM,mk];omega)
      ·exact (qK.shrink (by omega)).less (by first|omega|(simp only;omega))
      ·exact qK
     ·refine eQ (Rg fe lv hg h1 k0 k1 hmk rj hroom @q8 QF sU vL) ?_
      refine sn _ _ ⟨j+1,_,⟨by omega,by simp;omega,hb.cons (by omega),hr.cons,by rw[Y.bA (by omega)];exact mF,oV.keep (fun id e1 e2=>Y.bA (by omega)) (fun k hk hn=>Y.bA (by have:=qA k (by omega) hn;omega)),.new (gid:=F.length) P4 (by simp) ?_⟩,by simp[Fr];rfl⟩ (by simp[aM,mk];omega)
      rw[Y.iv,LN hce hm,BA]
      rfl
    |new ai7 ai8 hf =>
     rename_i gid
     have rj:Y.find F gid=some ⟨4,(List.range ((aR rs K).n+j)).map (jo K),false,25⟩:=hf
     have QF:kS.k=4:=rfl
     have o7:=PD (mk:=jo K) (n:=(aR rs K).n+j)
     have vL:(aR rs K).n+(j+1)≤100000000:=by omega
     refine eQ (yS fe lv hg h1 k0 k1 hmk rj @q8 QF o7 vL) ?_
     refine sn _ _ ⟨j+1,_,⟨by omega,by simp[Y.af];omega,(hb.LP (by omega)).cons (by rw[Y.af];omega),(hr.zk ok (by omega)).cons,by rw[Y.bA (by rw[Y.af];omega),Y.aj (by omega)];exact mF,oV.keep (fun id e1 e2=>by rw[Y.bA (by rw[Y.af];omega),Y.aj (by omega)]) (fun k hk hn=>by have:=qA k (by omega) hn;rw[Y.bA (by rw[Y.af];omega),Y.aj (by omega)]),.new (gid:=F.length) P4 (by simp[Y.af]) ?_⟩,by simp[Fr];rfl⟩ (by simp[aM,mk];omega)
     rw[aJ (by rw[Y.af]),BA]
     rfl
   ·have aiV:j=64:=by omega
    subst aiV
    obtain ⟨gid,gc,rfl,g1,g2,g3⟩:∃gid gc,g = .aD 4 gid 0 ((aR rs K).n+64) gc∧Reads 4 (jo K) F gid ((aR rs K).n+64)∧((gid=(aR rs K).id∧(aR rs K).nil=false)∨H.length<gid)∧gid<F.length:=by
     cases KN with
     |nil _ h=>omega
     |room hn hrow =>
      obtain ⟨es,ex,e1,_⟩:=ok.blk K h1 hn
      have:=Y.ax e1
      exact ⟨_,_,rfl,hrow.reads (Nat.le_refl _),.inl ⟨rfl,hn⟩,by omega⟩
     |new e1 e2 e3=>exact ⟨_,_,rfl,.marks e3,.inr (by omega),e2⟩
    clear KN
    obtain ⟨x1,x3⟩:=hone.get (i:=K) (by omega)
    refine eQ (XC fe lv hg h1 k0 k1 mF oO x1 x3) ?_
    refine bM _ _ ⟨K+1,_,⟨by omega,by rw[Y.af];omega,hb.LP (Nat.le_refl _),hr.zk ok (Nat.le_refl _),Y.aC (by omega),⟨by simp[oO],hone.set ⟨rfl,rfl⟩⟩,?_⟩,by simp[Fr]⟩ (by simp[aM,mk];omega)
    have qA:∀k,k<rs.length→(aR rs k).nil=false→(aR rs k).id<H.length:=fun k hk hn=>by
     obtain ⟨es,ex,e1,_⟩:=ok.blk k hk hn
     exact Y.ax e1
    refine dH.next (B:=B) (oV.keep (fun id e1 e2=>Y.aj (by omega)) (fun k hk hn=>Y.aj (by have:=qA k (by omega) hn;omega))) (by rw[Y.af];omega) (by omega) (g1.keep (Y.aj ?_)) g2 (by rw[Y.af];exact g3)
    rcases g2 with ⟨e,hn⟩|e
    ·have:=qA K h1 hn;omega
    ·omega
  ·have QE:K=rs.length:=by omega
   subst QE
   refine hL _ _ ?_
   clear hL bM
   refine Z fun L hL=>?_
   refine fh ?_
   have fe:=xX hb
   refine aZ (fun ts F'=>∃(K:Nat),(K≤rs.length∧F'=F)∧Fr (some (.aD 1 ee 0 rs.length cl)::none::some (.sc (.bool false))::none::none::some (.aD 1 H.length 0 rs.length (some rs.length))::none::none::none::some (.sc (.int .i64 K))::none::none::none::fg (dL (bf (bf (bf (bf (bf []))))))) ts) (fun ts _=>rs.length-(aM (ts.getD 9 .top)).toNat) ⟨0,⟨Nat.zero_le _,rfl⟩,by simp[Fr]⟩ ?_
   rintro ts F ⟨K,⟨hK,rfl⟩,aX⟩ L2 bM
   obtain ⟨js,rfl⟩:=aX.opened
   clear aX
   refine yU ?_
   refine dz (fun h=>?_) (fun h=>?_)
   ·have h1:K<rs.length:=by omega
    have hg:=ql (k:=4) h1
    have k0:(0:Int)≤(K:Int):=by omega
    have k1:(K:Int)<rs.length:=by omega
    have hn0:=uw K h1
    have l9:=ct.D2 (k:=4) (ok.nil K h1)
    obtain ⟨a1,a2,a3,a4,a5⟩:_∧_∧_∧_∧_:=⟨ct.IX (k:=4) (r:=aR rs K),ct.xz (k:=4) (r:=aR rs K),ct.AB (k:=4) (r:=aR rs K),ct.AC (k:=4) (r:=aR rs K),ct.AD (k:=4) (r:=aR rs K)⟩
    obtain ⟨gid,gc,q1,⟨⟨gk,ges,gex,gty⟩,q2,q3,q4,q5⟩,_,_⟩:=oV K h1
    simp only at q3 q4 q5
    subst q3
    refine fh ?_
    refine aZ (fun ts F'=>∃(j:Nat),(j≤(aR rs K).n+64∧F'=F)∧Fr (some (.aD 1 ee 0 rs.length cl)::none::some (.sc (.bool false))::none::none::some (.aD 1 H.length 0 rs.length (some rs.length))::none::none::none::some (.sc (.int .i64 K))::some (.sc (.int .i64 j))::none::none::fg (dL (bf (bf (bf (bf (bf []))))))) ts) (fun ts _=>(aR rs K).n+64-(aM (ts.getD 10 .top)).toNat) ⟨0,⟨Nat.zero_le _,rfl⟩,by simp[Fr]⟩ ?_
    rintro ts F ⟨j,⟨hj,rfl⟩,aX⟩ L3 sn
    obtain ⟨js,rfl⟩:=aX.opened
    clear aX
    refine df (yQ mF oO k0 k1 h1 q1) ?_
    refine dz (fun h=>?_) (fun h=>?_)
    ·have h2:j<(aR rs K).n+64:=by omega
     have j0:(0:Int)≤(j:Int):=by omega
     have j1:(j:Int)<((aR rs K).n+64:Nat):=by omega
     have j2:j<ges.length:=by omega
     have B4:ges.getD j .top = .agg [.sc (.int .u8 0),.sc (.string ⟨#[]⟩),.sc (.int .i64 (gr K j)),.am 0 [] (some [])]:=q5 j h2
     refine eQ (yR mF oO k0 k1 h1 q1 q2 j0 j1 j2 B4) ?_
     refine aL (j9 _ _ _) ?_
     refine eQ (yR mF oO k0 k1 h1 q1 q2 j0 j1 j2 B4) ?_
     refine aL (q9 _ _ _) ?_
     by_cases h3:j<(aR rs K).n
     ·have j3:(j:Int)<((aR rs K).n:Nat):=by omega
      have hn:(aR rs K).nil=false:=by
       cases e:(aR rs K).nil with
       |false=>rfl
       |true=>have:=ok.nil K h1 e;omega
      obtain ⟨es,ex,hf,hc,hsh,hm⟩:=hr K h1 hn
      have rj:Y.find F (aR rs K).id=some ⟨4,es,ex,25⟩:=hf
      have hce:=kG hc
      have j4:j<es.length:=by omega
      have hmk:es.getD j .top = .agg [.sc (.int .u8 0),.sc (.string ⟨#[]⟩),.sc (.int .i64 (gr K j)),.am 0 [] (some [])]:=rD (hm j h3)
      rw[ct.nJ hn] at hg
      simp -implicitDefEqProofs (maxSteps:=99999999) (disch:=first|omega|(simp only[vl]<;>omega)) only[fe,lv,hg,mF,oO,k0,k1,h1,q1,q2,j0,j1,j2,j3,j4,B4,rj,hmk,va,vg,vs,vw,vk,simprocAttr]
      refine aL (j9 _ _ _) ?_
      simp -implicitDefEqProofs (maxSteps:=99999999) (disch:=first|omega|(simp only[vl]<;>omega)) only[fe,lv,hg,mF,oO,k0,k1,h1,q1,q2,j0,j1,j2,j3,j4,B4,rj,hmk,va,vg,vs,vw,vk,simprocAttr]
      refine aL (q9 _ _ _) ?_
      simp -implicitDefEqProofs (maxSteps:=99999999) (disch:=first|omega|(simp only[vl]<;>omega)) only[fe,lv,hg,mF,oO,k0,k1,h1,q1,q2,j0,j1,j2,j3,j4,B4,rj,hmk,va,vg,vs,vw,vk,simprocAttr]
      exact sn _ _ ⟨j+1,⟨by omega,rfl⟩,by simp[Fr]⟩ (by simp[aM,mk];omega)
     ·have j3:¬(j:Int)<((aR rs K).n:Nat):=by omega
      simp -implicitDefEqProofs (maxSteps:=99999999) (disch:=first|omega|(simp only[vl]<;>omega)) only[fe,lv,hg,mF,oO,k0,k1,h1,q1,q2,j0,j1,j2,j3,B4,a1,a2,a3,a4,a5,l9,va,vg,vs,vw,vk,simprocAttr]
      exact sn _ _ ⟨j+1,⟨by omega,rfl⟩,by simp[Fr]⟩ (by simp[aM,mk];omega)
    ·refine fh ?_
     exact bM _ _ ⟨K+1,⟨by omega,rfl⟩,by simp[Fr]⟩ (by simp[aM,mk];omega)
   ·have QE:K=rs.length:=by omega
    subst QE
    refine hL _ _ ?_
    clear hL bM
    refine Z fun L hL=>?_
    refine fh ?_
    have aat:dH 4 jo F rs H.length F.length jk 0 (fun k=>(aR rs k).n):=dH.zero
    refine aZ (fun ts F=>∃(K:Nat)(jk:List AV),(K≤rs.length∧H.length<F.length∧gU H F rs∧ij kS jo F rs (fun k=>(aR rs k).n)∧Y.find F H.length=some ⟨1,jk,true,23⟩∧(jk.length=rs.length∧zl jk)∧dH 4 jo F rs H.length F.length jk K (fun k=>(aR rs k).n))∧Fr (some (.aD 1 ee 0 rs.length cl)::none::some (.sc (.bool false))::none::none::some (.aD 1 H.length 0 rs.length (some rs.length))::none::fg (some (.sc (.int .i64 K))::none::fg (dL (bf (bf (bf (bf (bf [])))))))) ts) (fun ts _=>rs.length-(aM (ts.getD 11 .top)).toNat) ⟨0,jk,⟨Nat.zero_le _,qi,hb,hr,mF,⟨oO,hone⟩,aat⟩,by simp[Fr]⟩ ?_
    clear hb hr fe qi oV aat mF oO hone
    rintro ts F ⟨K,jk,⟨hK,qi,hb,hr,mF,⟨oO,hone⟩,oV⟩,aX⟩ L2 bM
    obtain ⟨js,rfl⟩:=aX.opened
    clear aX
    have fe:=xX hb
    refine yU ?_
    refine dz (fun h=>?_) (fun h=>?_)
    ·have h1:K<rs.length:=by omega
     have hg:=ql (k:=4) h1
     have k0:(0:Int)≤(K:Int):=by omega
     have k1:(K:Int)<rs.length:=by omega
     have hn0:=uw K h1
     have qA:∀k,k<rs.length→(aR rs k).nil=false→(aR rs k).id<H.length:=fun k hk hn=>by
      obtain ⟨es,ex,e1,_⟩:=ok.blk k hk hn
      exact Y.ax e1
     refine eQ (yQ fe lv hg h1 k0 k1) ?_
     refine aZ (fun ts F'=>∃(j:Nat)(ms:List AV),(j≤64∧F'=some ⟨4,ms,true,25⟩::F∧ms.length=64∧∀x∈ms,kS.is x)∧Fr (some (.aD 1 ee 0 rs.length cl)::none::some (.sc (.bool false))::none::none::some (.aD 1 H.length 0 rs.length (some rs.length))::none::fg (some (.sc (.int .i64 K))::some (.aD 4 F.length 0 64 (some 64))::some (.sc (.int .i64 j))::none::none::none::dL (bf (bf (bf (bf (bf []))))))) ts) (fun ts _=>64-(aM (ts.getD 13 .top)).toNat) ⟨0,_,⟨by omega,rfl,by rfl,fun x hx=>by
      have:x = .agg [.sc (.int .u8 0),.sc (.string ⟨#[]⟩),.sc (.int .i64 0),.am 0 [] (some [])]:=by simpa using hx
      rw[this]
      exact ⟨rfl,rfl,rfl⟩⟩,by simp[Fr]⟩ ?_
     rintro ts _ ⟨j,ms,⟨hj,rfl,M8,aau⟩,aX⟩ L3 sn
     obtain ⟨js,rfl⟩:=aX.opened
     clear aX
     refine yU ?_
     refine dz (fun h=>?_) (fun h=>?_)
     ·have h2:j<64:=by omega
      have j0:(0:Int)≤(j:Int):=by omega
      have j1:(j:Int)<((64:Nat):Int):=by omega
      refine fh ?_
      refine ae (j9 _ _ _) ?_
      have j2:j<ms.length:=by omega
      have CV:=aau _ (List.getElem_mem j2)
      have hgx:ms.getD j .top=ms[j]:=by simp[List.getD,j2]
      have x1:(ms.getD j .top).az=4:=by rw[hgx];exact CV.2.1
      have x3:∀c,AV.lq (ms.getD j .top) 0 (.agg [.sc (.int .u8 0),.sc (.string ⟨#[]⟩),c,.am 0 [] (some [])]) = .agg [.sc (.int .u8 0),.sc (.string ⟨#[]⟩),c,.am 0 [] (some [])]:=fun c=>GZ x1 rfl rfl
      have x2:(ms.getD j .top).isAgg=true:=by rw[hgx];exact CV.2.2
      simp -implicitDefEqProofs (maxSteps:=99999999) (disch:=first|omega|(simp only[Y.af,bz,List.length_cons,List.length_nil];first|done|omega)) only[j0,j1,j2,M8,h2,x1,x2,x3,va,vg,vs,vw,Nat.reduceMul,ite_true,ite_false,eq_self,forall_const,implies_true,Nat.reduceAdd,Nat.reduceSub,Nat.reduceLT,Nat.reduceLeDiff,↓reduceIte,reduceCtorEq,Int.reduceEq,Int.reduceLT,Int.reduceLE,Int.reduceGT,Int.reduceGE,Int.reduceAdd,Int.reduceSub,Int.reduceNeg,Int.reduceToNat,Nat.reduceBEq,Nat.reduceEqDiff]
      refine sn _ _ ⟨j+1,_,⟨by omega,rfl,by simp[M8],fun x hx=>?_⟩,by simp[Fr]⟩ (by simp[aM,mk];omega)
      rcases List.mem_or_eq_of_mem_set hx with hx|rfl
      ·exact aau x hx
      ·exact ⟨rfl,rfl,rfl⟩
     ·clear sn
      have htk:List.take 64 ms=ms:=List.take_of_length_le (by omega)
      obtain ⟨x1,x3⟩:=hone.get (i:=K) (by omega)
      cases hn:(aR rs K).nil with
      |true =>
       rw[ct.tg hn] at hg
       have hz:=ok.nil K h1 hn
       cases ms with
       |nil=>simp at M8
       |cons m0 mr =>
        have hmr:mr.length=63:=by simpa using M8
        refine eQ (yS fe lv hg h1 k0 k1 mF oO hmr htk x1 x3) ?_
        have zk:∀(b c d:Option aP)(id:Nat),id<F.length→id≠H.length→Y.find (b::c::Y.set F H.length d) id=Y.find F id:=fun b c d id e1 e2=>by
         rw[Y.bA (by simp[Y.af];omega),Y.bA (by rw[Y.af];exact e1),Y.aj e2]
        refine bM _ _ ⟨K+1,jk.set K (.aD 4 (F.length+1) 0 64 none),⟨by omega,by simp[Y.af];omega,((hb.LP (Nat.le_refl _)).cons (by rw[Y.af];omega)).cons (by simp[Y.af];omega),(hr.zk ok (Nat.le_refl _)).cons.cons,?_,⟨by simp[oO],hone.set ⟨rfl,rfl⟩⟩,?_⟩,by simp[Fr]⟩ (by simp[aM,mk];omega)
        ·exact fh trivial
        ·have:=dH.next (gid:=F.length+1) (gc:=none) (oV.keep (fun id e1 e2=>zk (some ⟨4,m0::mr,false,25⟩) (some ⟨4,m0::mr,true,25⟩) (some ⟨1,jk.set K (.aD 4 (F.length+1) 0 64 none),true,23⟩) id e2 (by omega)) (fun k hk hn=>zk _ _ _ _ (by have:=qA k (by omega) hn;omega) (by have:=qA k (by omega) hn;omega))) (Nat.le_trans (Nat.le_succ _) (Nat.le_succ _)) (by omega) ⟨_,by rw[aJ (by simp[Y.af])],rfl,by simp only[hz];exact Nat.zero_le _,fun i hi=>by simp only[hz] at hi;omega⟩ (.inr (by omega)) (by omega)
         simp only[hz,Nat.zero_add] at this
         simp only[List.length_cons,Y.af]
         exact this
      |false =>
       rw[ct.nJ hn] at hg
       obtain ⟨es,ex,hf,hc,hsh,hm⟩:=hr K h1 hn
       have rj:Y.find F (aR rs K).id=some ⟨4,es,ex,25⟩:=hf
       have hce:=kG hc
       have hid:=qA K h1 hn
       have QF:kS.k=4:=rfl
       have sU:=hc
       unfold qm at sU
       have vL:(aR rs K).n+64≤100000000:=by omega
       by_cases hroom:(aR rs K).n+64≤(aR rs K).c
       ·have qK:=ik.ahR (ys:=ms) hf hc hsh (fun i hi=>hm i hi) (by rw[M8];exact hroom) aau
        rw[List.append_assoc,M8] at qK
        have zk:∀(b c d:Option aP)(id:Nat),id<F.length→id≠H.length→id≠(aR rs K).id→Y.find (b::Y.set (Y.set F (aR rs K).id c) H.length d) id=Y.find F id:=fun b c d id e1 e2 e3=>by
         rw[Y.bA (by simp[Y.af];omega),Y.aj e2,Y.aj e3]
        have hrow:∀(b d:Option aP),ik kS (jo K) (b::Y.set (Y.set F (aR rs K).id (some ⟨4,es.take (aR rs K).n++(ms++es.drop ((aR rs K).n+64)),ex,25⟩)) H.length d) (aR rs K).id (aR rs K).n (aR rs K).c (aR rs K).n:=fun b d =>
         ik.keep qK (by rw[Y.bA (by simp[Y.af];omega),Y.aj (by omega)];rfl)
        simp -implicitDefEqProofs (maxSteps:=99999999) (disch:=first|omega|(simp only[vl]<;>omega)) only[fe,lv,hg,h1,k0,k1,mF,oO,M8,htk,x1,x3,rj,hroom,QF,sU,vL,va,vg,vs,vw,vk,simprocAttr]
        refine bM _ _ ⟨K+1,jk.set K (.aD 4 (aR rs K).id 0 ((aR rs K).n+64) (some (aR rs K).c)),⟨by omega,by simp[Y.af];omega,((hb.set h1 hn).LP (Nat.le_refl _)).cons (by simp[Y.af];omega),ij.cons (ij.zk (hr.put ok h1 hn qK (fun k e=>Nat.le_refl _)) ok (Nat.le_refl _)),?_,⟨by simp[oO],hone.set ⟨rfl,rfl⟩⟩,?_⟩,by simp[Fr]⟩ (by simp[aM,mk];omega)
        ·exact fh trivial
        ·have:=dH.next (gid:=(aR rs K).id) (gc:=some (aR rs K).c) (oV.keep (fun id e1 e2=>zk (some ⟨4,ms,true,25⟩) (some ⟨4,es.take (aR rs K).n++(ms++es.drop ((aR rs K).n+64)),ex,25⟩) (some ⟨1,jk.set K (.aD 4 (aR rs K).id 0 ((aR rs K).n+64) (some (aR rs K).c)),true,23⟩) id e2 (by omega) (by omega)) (fun k hk zV=>zk _ _ _ _ (by have:=qA k (by omega) zV;omega) (by have:=qA k (by omega) zV;omega) (fun e=>by have:=ok.apart k K (by omega) h1 zV hn e;omega))) (Nat.le_succ _) (by omega) ((hrow _ _).reads (Nat.le_refl _)) (.inl ⟨rfl,hn⟩) (by omega)
         simp only[List.length_cons,Y.af]
         exact this
       ·have zk:∀(b c d:Option aP)(id:Nat),id<F.length→id≠H.length→Y.find (b::c::Y.set F H.length d) id=Y.find F id:=fun b c d id e1 e2=>by
         rw[Y.bA (by simp[Y.af];omega),Y.bA (by rw[Y.af];exact e1),Y.aj e2]
        simp -implicitDefEqProofs (maxSteps:=99999999) (disch:=first|omega|(simp only[vl]<;>omega)) only[fe,lv,hg,h1,k0,k1,mF,oO,M8,htk,x1,x3,rj,hroom,QF,sU,vL,va,vg,vs,vw,vk,simprocAttr]
        refine bM _ _ ⟨K+1,jk.set K (.aD 4 (F.length+1) 0 ((aR rs K).n+64) none),⟨by omega,by simp[Y.af];omega,((hb.LP (Nat.le_refl _)).cons (by rw[Y.af];omega)).cons (by simp[Y.af];omega),(hr.zk ok (Nat.le_refl _)).cons.cons,?_,⟨by simp[oO],hone.set ⟨rfl,rfl⟩⟩,?_⟩,by simp[Fr]⟩ (by simp[aM,mk];omega)
        ·exact fh trivial
        ·have:=dH.next (gid:=F.length+1) (gc:=none) (oV.keep (fun id e1 e2=>zk (some ⟨4,es.take (aR rs K).n++ms,false,25⟩) (some ⟨4,ms,true,25⟩) (some ⟨1,jk.set K (.aD 4 (F.length+1) 0 ((aR rs K).n+64) none),true,23⟩) id e2 (by omega)) (fun k hk hn=>zk _ _ _ _ (by have:=qA k (by omega) hn;omega) (by have:=qA k (by omega) hn;omega))) (Nat.le_trans (Nat.le_succ _) (Nat.le_succ _)) (by omega) ⟨_,by rw[aJ (by simp[Y.af])],rfl,by simp;omega,fun i hi=>by
          simp only
          rw[List.getD_eq_getElem?_getD,List.getElem?_append_left (by simp;omega),List.getElem?_take_of_lt hi,hm i hi]
          rfl⟩ (.inr (by omega)) (by omega)
         simp only[List.length_cons,Y.af]
         exact this
    ·have QE:K=rs.length:=by omega
     subst QE
     refine hL _ _ ?_
     clear hL bM
     have fe:=xX hb
     refine fh ?_
     refine aZ (fun ts F'=>∃(K:Nat),(K≤rs.length∧F'=F)∧Fr (some (.aD 1 ee 0 rs.length cl)::none::some (.sc (.bool false))::none::none::some (.aD 1 H.length 0 rs.length (some rs.length))::ir (some (.sc (.int .i64 K))::none::none::dL (bf (bf (bf (bf (bf []))))))) ts) (fun ts _=>rs.length-(aM (ts.getD 14 .top)).toNat) ⟨0,⟨Nat.zero_le _,rfl⟩,by simp[Fr]⟩ ?_
     rintro ts F ⟨K,⟨hK,rfl⟩,aX⟩ L2 bM
     obtain ⟨js,rfl⟩:=aX.opened
     clear aX
     refine yU ?_
     refine dz (fun h=>?_) (fun h=>?_)
     ·have h1:K<rs.length:=by omega
      have hg:=ql (k:=4) h1
      have k0:(0:Int)≤(K:Int):=by omega
      have k1:(K:Int)<rs.length:=by omega
      have hn0:=uw K h1
      have l9:=ct.D2 (k:=4) (ok.nil K h1)
      obtain ⟨a1,a2,a3,a4,a5⟩:_∧_∧_∧_∧_:=⟨ct.IX (k:=4) (r:=aR rs K),ct.xz (k:=4) (r:=aR rs K),ct.AB (k:=4) (r:=aR rs K),ct.AC (k:=4) (r:=aR rs K),ct.AD (k:=4) (r:=aR rs K)⟩
      obtain ⟨gid,gc,q1,⟨⟨gk,ges,gex,gty⟩,q2,q3,q4,q5⟩,_,_⟩:=oV K h1
      simp only at q3 q4 q5
      subst q3
      refine fh ?_
      refine aZ (fun ts F'=>∃(j:Nat),(j≤(aR rs K).n∧F'=F)∧Fr (some (.aD 1 ee 0 rs.length cl)::none::some (.sc (.bool false))::none::none::some (.aD 1 H.length 0 rs.length (some rs.length))::ir (some (.sc (.int .i64 K))::some (.sc (.int .i64 j))::none::dL (bf (bf (bf (bf (bf []))))))) ts) (fun ts _=>(aR rs K).n-(aM (ts.getD 15 .top)).toNat) ⟨0,⟨Nat.zero_le _,rfl⟩,by simp[Fr]⟩ ?_
      rintro ts F ⟨j,⟨hj,rfl⟩,aX⟩ L3 sn
      obtain ⟨js,rfl⟩:=aX.opened
      clear aX
      refine df (yS fe lv hg k0 k1 h1 a1 a2 a3 a4 a5 l9) ?_
      refine dz (fun h=>?_) (fun h=>?_)
      ·have h2:j<(aR rs K).n:=by omega
       have hn:(aR rs K).nil=false:=by
        cases e:(aR rs K).nil with
        |false=>rfl
        |true=>have:=ok.nil K h1 e;omega
       obtain ⟨es,ex,hf,hc,hsh,hm⟩:=hr K h1 hn
       have rj:Y.find F (aR rs K).id=some ⟨4,es,ex,25⟩:=hf
       have hce:=kG hc
       have j0:(0:Int)≤(j:Int):=by omega
       have j1:(j:Int)<((aR rs K).n+64:Nat):=by omega
       have j3:(j:Int)<((aR rs K).n:Nat):=by omega
       have j2:j<ges.length:=by omega
       have j4:j<es.length:=by omega
       have B4:ges.getD j .top = .agg [.sc (.int .u8 0),.sc (.string ⟨#[]⟩),.sc (.int .i64 (gr K j)),.am 0 [] (some [])]:=q5 j h2
       have hmk:es.getD j .top = .agg [.sc (.int .u8 0),.sc (.string ⟨#[]⟩),.sc (.int .i64 (gr K j)),.am 0 [] (some [])]:=rD (hm j h2)
       rw[ct.nJ hn] at hg
       simp -implicitDefEqProofs (maxSteps:=99999999) (disch:=first|omega|(simp only[vl]<;>omega)) only[fe,lv,hg,mF,oO,k0,k1,h1,q1,q2,j0,j1,j2,j3,j4,B4,rj,hmk,va,vg,vs,vw,vk,simprocAttr]
       refine aL (j9 _ _ _) ?_
       simp -implicitDefEqProofs (maxSteps:=99999999) (disch:=first|omega|(simp only[vl]<;>omega)) only[fe,lv,hg,mF,oO,k0,k1,h1,q1,q2,j0,j1,j2,j3,j4,B4,rj,hmk,va,vg,vs,vw,vk,simprocAttr]
       refine aL (q9 _ _ _) ?_
       simp -implicitDefEqProofs (maxSteps:=99999999) (disch:=first|omega|(simp only[vl]<;>omega)) only[fe,lv,hg,mF,oO,k0,k1,h1,q1,q2,j0,j1,j2,j3,j4,B4,rj,hmk,va,vg,vs,vw,vk,simprocAttr]
       refine aL (j9 _ _ _) ?_
       simp -implicitDefEqProofs (maxSteps:=99999999) (disch:=first|omega|(simp only[vl]<;>omega)) only[fe,lv,hg,mF,oO,k0,k1,h1,q1,q2,j0,j1,j2,j3,j4,B4,rj,hmk,va,vg,vs,vw,vk,simprocAttr]
       refine aL (q9 _ _ _) ?_
       simp -implicitDefEqProofs (maxSteps:=99999999) (disch:=first|omega|(simp only[vl]<;>omega)) only[fe,lv,hg,mF,oO,k0,k1,h1,q1,q2,j0,j1,j2,j3,j4,B4,rj,hmk,va,vg,vs,vw,vk,simprocAttr]
       exact sn _ _ ⟨j+1,⟨by omega,rfl⟩,by simp[Fr]⟩ (by simp[aM,mk];omega)
      ·refine fh ?_
       exact bM _ _ ⟨K+1,⟨by omega,rfl⟩,by simp[Fr]⟩ (by simp[aM,mk];omega)
     ·refine fh ?_
      exact Fv hb
noncomputable def aav(f:FuncId)(xs:List AV):Bool:=match M4 (BJ Tryz.prog []) 20 5 f xs [] with
 |some (.sc (.bool true),_)=>true
 |_=>false
theorem aaw{f:FuncId}{xs:List AV}(h:aav f xs=true):D Tryz.prog f xs [] (.ret (.sc (.bool true))) []:=by
 unfold aav at h
 split at h
 ·rename_i G hr
  exact aG (Nat.le_refl _) ((EX sA 5 f xs [] _ G hr).dk.mono fun e H1 _ ⟨e1,e2⟩=>by
   subst e1 e2
   exact ny (fun i hi=>by simp at hi) (.same trivial))
 ·cases h
theorem dA{f:FuncId}(h:aav f [.am 0 [] none]=true)(H:Y):D Tryz.prog f [.am 0 [] (some [])] H (.ret (.sc (.bool true))) H:=s9 (.cons .nil .nil) .sc (aaw h)
theorem M9(H:Y):D Tryz.prog 83 [.am 0 [] (some [])] H (.ret (.sc (.bool true))) H:=dA (by kernel_rfl) H
theorem Na(H:Y):D Tryz.prog 84 [.am 0 [] (some [])] H (.ret (.sc (.bool true))) H:=dA (by kernel_rfl) H
theorem Nb(H:Y):D Tryz.prog 85 [.am 0 [] (some [])] H (.ret (.sc (.bool true))) H:=dA (by kernel_rfl) H
theorem Nc(H:Y):D Tryz.prog 86 [.am 0 [] (some [])] H (.ret (.sc (.bool true))) H:=dA (by kernel_rfl) H
theorem Nf(H:Y):D Tryz.prog 87 [.am 0 [] (some [])] H (.ret (.sc (.bool true))) H:=dA (by kernel_rfl) H
theorem Ng(H:Y):D Tryz.prog 88 [.am 0 [] (some [])] H (.ret (.sc (.bool true))) H:=dA (by kernel_rfl) H
theorem Nh(H:Y):D Tryz.prog 89 [.am 0 [] (some [])] H (.ret (.sc (.bool true))) H:=dA (by kernel_rfl) H
theorem Ni(H:Y):D Tryz.prog 90 [.am 0 [] (some [])] H (.ret (.sc (.bool true))) H:=dA (by kernel_rfl) H
theorem Nj(H:Y):D Tryz.prog 91 [.am 0 [] (some [])] H (.ret (.sc (.bool true))) H:=dA (by kernel_rfl) H
theorem Nk(H:Y):D Tryz.prog 92 [.am 0 [] (some [])] H (.ret (.sc (.bool true))) H:=dA (by kernel_rfl) H
theorem Nl(H:Y):D Tryz.prog 93 [.am 0 [] (some [])] H (.ret (.sc (.bool true))) H:=dA (by kernel_rfl) H
theorem Nn(H:Y):D Tryz.prog 94 [.am 0 [] (some [])] H (.ret (.sc (.bool true))) H:=dA (by kernel_rfl) H
theorem Np(H:Y):D Tryz.prog 95 [.am 0 [] (some [])] H (.ret (.sc (.bool true))) H:=dA (by kernel_rfl) H
theorem Nq(H:Y):D Tryz.prog 96 [.am 0 [] (some [])] H (.ret (.sc (.bool true))) H:=dA (by kernel_rfl) H
theorem Nr(H:Y):D Tryz.prog 97 [.am 0 [] (some [])] H (.ret (.sc (.bool true))) H:=dA (by kernel_rfl) H
theorem Ns(H:Y):D Tryz.prog 98 [.am 0 [] (some [])] H (.ret (.sc (.bool true))) H:=dA (by kernel_rfl) H
theorem Nt(H:Y):D Tryz.prog 99 [.am 0 [] (some [])] H (.ret (.sc (.bool true))) H:=dA (by kernel_rfl) H
theorem Jv(H:Y):D Tryz.prog 100 [.am 0 [] (some [])] H (.ret (.sc (.bool true))) H:=dA (by kernel_rfl) H
theorem Jw(H:Y):D Tryz.prog 101 [.am 0 [] (some [])] H (.ret (.sc (.bool true))) H:=dA (by kernel_rfl) H
theorem Jx(H:Y):D Tryz.prog 102 [.am 0 [] (some [])] H (.ret (.sc (.bool true))) H:=dA (by kernel_rfl) H
theorem Jy(H:Y):D Tryz.prog 103 [.am 0 [] (some [])] H (.ret (.sc (.bool true))) H:=dA (by kernel_rfl) H
def aen:IC:=(.seq (.ops [iP 2 (.mv kF)]) (.seq (.ops [iP 5 (.build [bG,bG,bG,bG,bG,bG,bG,bG,bG,bG,bG,bG,bG,bG,bG,bG,bG,bG,bG,bG,bG] []),iH 6 (.box 21 91 (.t 5)),iM 3 6]) (.seq (.seq (.ops [iP 4 (xI 0)]) (.block 0 (.loop (.seq (.seq (.ops [iM 7 4,iM 8 0,iP 9 (xL 8),iP 10 (xB .lss 7 9)]) (.cond (.t 10) .skip (.exit 0))) (.seq (.block 1 (.ops [iM 13 3,iM 14 0,iM 15 4,iP 16 (xA 1 14 15),iH 17 (yD 1 16),iH 18 (yC 51 13 17)])) (.ops [iM 11 4,iP 12 (.aN .add (.t 11) (kI 1)),iM 4 12])))))) (.seq (.ops [iM 19 3,iH 20 (.call 52 [(.t 19)]),iM 2 20]) .ret))))
theorem aiW:Dk Tryz.prog 19 aen [(.t 2)] 21:=aV Tryz.func19
def aeo:IC:=(.seq (.ops [iM 5 0,iM 6 0,iP 7 (.bV (.t 6)),iP 8 (.an 9 (.t 7)),iH 9 (yD 1 8),iM 10 1,iH 11 (.ep 1 23 bG 1 [(0,(.t 10))]),iH 12 (.ez 1 23 (.t 9) (.t 11)),iP 13 (.bV (.t 5)),iP 14 (.an 9 (.t 13)),iS 1 14 12]) (.seq (.ops [iP 4 (xI 0)]) (.block 0 (.loop (.seq (.seq (.ops [iM 15 4,iM 16 1,iP 17 (xL 16),iP 18 (xB .lss 15 17)]) (.cond (.t 18) .skip (.exit 0))) (.seq (.block 1 (.ops [iM 21 0,iM 22 1,iM 23 4,iP 24 (xA 4 22 23),iH 25 (yA 4 24),iH 26 (yC 82 21 25)])) (.ops [iM 19 4,iP 20 (.aN .add (.t 19) (kI 1)),iM 4 20])))))))
theorem aiX:Dk Tryz.prog 51 aeo [] 27:=aV Tryz.func51
def aep:IC:=(.seq (.ops [iH 3 (.box 4 25 (.t 1))]) (.ops [iM 4 0,iP 5 (.an 3 (.t 3)),iH 6 (yD 1 5),iH 7 (yC 51 4 6)]))
theorem aiY:Dk Tryz.prog 82 aep [] 8:=aV Tryz.func82
abbrev ke:AV:=.am 0 [] (some [])
abbrev sE(t:AV):aP:=⟨21,[.agg [ke,ke,ke,ke,ke,ke,ke,ke,ke,t,ke,ke,ke,ke,ke,ke,ke,ke,ke,ke,ke]],true,91⟩
theorem Jz{H:Y}{os:List cg}{it:Nat}(hls:os≠[]→Y.find H it=bS 1 23 (gE 4 os))(ok:mJ kS H os)(EY:it∉cC os)(hN:os.length≤1000000) :
  D Tryz.prog 92 [aW 1 (gE 4 os) it] H (.ret (.sc (.bool true))) (lC (if os=[] then [] else it::cC os) H):=by
 by_cases e:os=[]
 ·subst e
  rw[if_pos rfl]
  exact Nk H
 ·rw[if_neg e]
  have hne:gE 4 os≠[]:=sC.2 e
  have h:=hls e
  rw[bj hne] at h
  rw[ji hne,wU]
  exact acw kS (fun H rs ee B3 xW cl h1 h2 h3 h4=>Ju H rs ee B3 xW cl h1 h2 h3 h4) h ok EY hN
def nG(os:List cg)(it:Nat):List Nat:=if os=[] then [] else it::cC os
theorem EZ{os:List cg}{it i:Nat}(h:i∈nG os it):(os≠[]∧i=it)∨i∈cC os:=by
 unfold nG at h
 split at h
 ·simp at h
 ·rename_i e
  rcases List.mem_cons.1 h with h|h
  ·exact .inl ⟨e,h⟩
  ·exact .inr h
theorem FI(F:Y)(gh it:Nat)(os:List cg)(hb:Y.find F gh=some (sE (aW 1 (gE 4 os) it)))(ht:os≠[]→Y.find F it=bS 1 23 (gE 4 os))
  (o1:mJ kS F os)(n1:it∉cC os)(n3:gh∉nG os it)(l1:os.length≤1000000) :
  D Tryz.prog 52 [.ptr 21 gh 0 0] F (.ret (.sc (.bool true))) (lC (nG os it) F):=by
 refine aG (by rw[fQ];exact Nat.le_refl _) (ahT (aA ?_))
 have jO:Y.find (lC (nG os it) F) gh=some (sE (aW 1 (gE 4 os) it)):=(qn n3).trans hb
 simp -implicitDefEqProofs (maxSteps:=99999999) (disch:=first|omega|(simp only[vl]<;>omega)) only[adt,hb,va,vg,vs,vw,vk,simprocAttr]
 refine ae (M9 _) ?_
 refine eQ hb ?_
 refine ae (Na _) ?_
 refine eQ hb ?_
 refine ae (Nb _) ?_
 refine eQ hb ?_
 refine ae (Nc _) ?_
 refine eQ hb ?_
 refine ae (Nf _) ?_
 refine eQ hb ?_
 refine ae (Ng _) ?_
 refine eQ hb ?_
 refine ae (Nh _) ?_
 refine eQ hb ?_
 refine ae (Ni _) ?_
 refine eQ hb ?_
 refine ae (Nj _) ?_
 refine eQ hb ?_
 refine ae (Jz ht o1 n1 l1) ?_
 rw[show (if os=[] then [] else it::cC os)=nG os it from rfl]
 refine eQ jO ?_
 refine ae (Nl _) ?_
 refine eQ jO ?_
 refine ae (Nn _) ?_
 refine eQ jO ?_
 refine ae (Np _) ?_
 refine eQ jO ?_
 refine ae (Nq _) ?_
 refine eQ jO ?_
 refine ae (Nr _) ?_
 refine eQ jO ?_
 refine ae (Ns _) ?_
 refine eQ jO ?_
 refine ae (Nt _) ?_
 refine eQ jO ?_
 refine ae (Jv _) ?_
 refine eQ jO ?_
 refine ae (Jw _) ?_
 refine eQ jO ?_
 refine ae (Jx _) ?_
 refine eQ jO ?_
 refine ae (Jy _) ?_
 refine eQ jO ?_
 exact eB.refl _ _ _
def mK(F:Y)(r:cg)(xs:List AV):Prop:=(r.nil=true∧xs=[]∧r.n=0)∨(r.nil=false∧∃es ex,Y.find F r.id=some ⟨4,es,ex,25⟩∧es.take r.n=xs∧r.n≤es.length∧(r.c=none→ex=false)∧(∀m,r.c=some m→qm r.n m es ex)∧∀x∈es,kS.is x)
mutual
inductive OT(F:Y):Nd→AV→List cg→Prop
 | mk {k:Int}{s:ByteArray}{n:Int}{l:List Nd}{r:cg}{xs:List AV}{rs:List cg}:mK F r xs→r.n=l.length→B5 F l xs rs→OT F ⟨k,s,n,l⟩ (.agg [.sc (.int .u8 k),.sc (.string s),.sc (.int .i64 n),r.av 4]) (r::rs)
inductive B5(F:Y):List Nd→List AV→List cg→Prop
 | nil:B5 F [] [] []
 | cons {t:Nd}{l:List Nd}{x:AV}{xs:List AV}{a b:List cg}:OT F t x a→B5 F l xs b→B5 F (t::l) (x::xs) (a++b)
end
theorem lO(r:cg)(rs:List cg):cC (r::rs)=(if r.nil then [] else [r.id])++cC rs:=by
 unfold cC
 cases h:r.nil<;>simp[h]
theorem dR(a b:List cg):cC (a++b)=cC a++cC b:=by simp[cC]
theorem xY{r:cg}{rs:List cg}(h:r.nil=false):r.id∈cC (r::rs):=by rw[lO,h];simp
theorem tK{r:cg}{rs:List cg}{i:Nat}(h:i∈cC rs):i∈cC (r::rs):=by rw[lO];exact List.mem_append_right _ h
theorem mK.keep{F G:Y}{r:cg}{xs:List AV}(h:mK F r xs)(hk:r.nil=false→Y.find G r.id=Y.find F r.id):mK G r xs:=by
 rcases h with h|⟨h1,es,ex,h2,h3⟩
 ·exact .inl h
 ·exact .inr ⟨h1,es,ex,by rw[hk h1,h2],h3⟩
theorem mK.lt{F:Y}{r:cg}{xs:List AV}(h:mK F r xs)(hn:r.nil=false):r.id<F.length:=by
 rcases h with ⟨h,_⟩|⟨_,es,ex,h2,_⟩
 ·rw[hn] at h;cases h
 ·exact Y.ax h2
theorem Cq{F:Y}(t:Nd):∀{x:AV}{rs:List cg},OT F t x rs→(∀i∈cC rs,i<F.length)∧rs.length=t.size∧(∀r∈rs,∃xs,mK F r xs∧r.n≤t.size)∧∀G:Y,(∀i∈cC rs,Y.find G i=Y.find F i)→OT G t x rs:=by
 induction t using Nd.ind with
 |_ t ih =>
  intro x rs h
  have key:∀l:List Nd,(∀k∈l,∀{x:AV}{rs:List cg},OT F k x rs→(∀i∈cC rs,i<F.length)∧rs.length=k.size∧(∀r∈rs,∃xs,mK F r xs∧r.n≤k.size)∧∀G:Y,(∀i∈cC rs,Y.find G i=Y.find F i)→OT G k x rs)→
    ∀{xs:List AV}{rs:List cg},B5 F l xs rs→(∀i∈cC rs,i<F.length)∧rs.length=Nd.ay l∧(∀r∈rs,∃xs,mK F r xs∧r.n≤Nd.ay l)∧∀G:Y,(∀i∈cC rs,Y.find G i=Y.find F i)→B5 G l xs rs:=by
   intro l
   induction l with
   |nil=>intro _ xs rs h;cases h;exact ⟨by simp[cC],rfl,by simp,fun _ _=>.nil⟩
   |cons y r fC =>
    intro hk xs rs h
    cases h with
    |@cons _ _ x xs a b h1 h2 =>
     obtain ⟨p1,p2,p3,p4⟩:=hk y (by simp) h1
     obtain ⟨q1,q2,q3,q4⟩:=fC (fun k hk'=>hk k (by simp[hk'])) h2
     refine ⟨fun i hi=>?_,by simp[p2,q2,Nd.ay],fun r hr=>?_,fun G hG=>.cons (p4 G fun i hi=>hG i (by rw[dR];simp[hi])) (q4 G fun i hi=>hG i (by rw[dR];simp[hi]))⟩
     ·rw[dR,List.mem_append] at hi
      exact hi.elim (p1 i) (q1 i)
     ·simp only[Nd.ay]
      rcases List.mem_append.1 hr with hr|hr
      ·obtain ⟨zs,z1,z2⟩:=p3 r hr;exact ⟨zs,z1,by omega⟩
      ·obtain ⟨zs,z1,z2⟩:=q3 r hr;exact ⟨zs,z1,by omega⟩
  cases h with
  |@mk k s n l r xs rs h1 h2 h3 =>
   obtain ⟨q1,q2,q3,q4⟩:=key l ih h3
   have ef:=Nd.fZ l
   refine ⟨fun i hi=>?_,by simp only[List.length_cons,q2,Nd.size];omega,fun r' hr=>?_,fun G hG=>.mk (h1.keep fun hn=>hG _ (xY hn)) h2 (q4 G fun i hi=>hG i (tK hi))⟩
   ·rw[lO] at hi
    cases hn:r.nil with
    |true=>rw[hn] at hi;simp at hi;exact q1 i hi
    |false =>
     rw[hn] at hi
     simp at hi
     rcases hi with rfl|hi
     ·exact h1.lt hn
     ·exact q1 i hi
   ·simp only[Nd.size]
    rcases List.mem_cons.1 hr with rfl|hr
    ·exact ⟨xs,h1,by omega⟩
    ·obtain ⟨zs,z1,z2⟩:=q3 r' hr;exact ⟨zs,z1,by omega⟩
theorem sF{F:Y}:∀{l:List Nd}{xs:List AV}{rs:List cg},B5 F l xs rs→xs.length=l.length∧(∀i∈cC rs,i<F.length)∧rs.length=Nd.ay l∧(∀r∈rs,∃xs,mK F r xs∧r.n≤Nd.ay l)∧∀G:Y,(∀i∈cC rs,Y.find G i=Y.find F i)→B5 G l xs rs
 |[],_,_,.nil=>⟨rfl,by simp[cC],rfl,by simp,fun _ _=>.nil⟩
 |y::r,_,_,.cons (a:=a) (b:=b) h1 h2=>by
  obtain ⟨p1,p2,p3,p4⟩:=Cq y h1
  obtain ⟨q0,q1,q2,q3,q4⟩:=sF h2
  refine ⟨by simp[q0],fun i hi=>?_,by simp[p2,q2,Nd.ay],fun r hr=>?_,fun G hG=>.cons (p4 G fun i hi=>hG i (by rw[dR];simp[hi])) (q4 G fun i hi=>hG i (by rw[dR];simp[hi]))⟩
  ·rw[dR,List.mem_append] at hi
   exact hi.elim (p1 i) (q1 i)
  ·simp only[Nd.ay]
   rcases List.mem_append.1 hr with hr|hr
   ·obtain ⟨zs,z1,z2⟩:=p3 r hr;exact ⟨zs,z1,by omega⟩
   ·obtain ⟨zs,z1,z2⟩:=q3 r hr;exact ⟨zs,z1,by omega⟩
structure E0(F:Y)(gh it:Nat)(os:List cg):Prop where
 box:Y.find F gh=some (sE (aW 1 (gE 4 os) it))
 row:os≠[]→Y.find F it=bS 1 23 (gE 4 os)
 ne:it≠gh
structure wW(F:Y)(gh it:Nat)(os:List cg)(G:Y)(JA:Nat)(ps:List cg):Prop where
 Nu:E0 G gh JA ps
 len:F.length≤G.length
 old:∀i,i<F.length→i≠gh→(os≠[]→i≠it)→Y.find G i=Y.find F i
 new:ps≠[]→(os≠[]∧JA=it)∨F.length≤JA
theorem wW.trans{F G K:Y}{gh a b c:Nat}{os ps qs:List cg}(h:wW F gh a os G b ps)(k:wW G gh b ps K c qs):wW F gh a os K c qs where
 Nu:=k.Nu
 len:=Nat.le_trans h.len k.len
 old:=fun i hi h1 h2=>by
  have hl:=h.len
  rw[k.old i (by omega) h1 (fun e he=>?_),h.old i hi h1 h2]
  rcases h.new e with ⟨g1,g2⟩|g1
  ·exact h2 g1 (by omega)
  ·omega
 new:=fun e=>by
  have hl:=h.len
  rcases k.new e with ⟨h1,h2⟩|h1
  ·rcases h.new h1 with ⟨g1,g2⟩|g1
   ·exact .inl ⟨g1,by omega⟩
   ·exact .inr (by omega)
  ·exact .inr (by omega)
theorem E0.cons{F:Y}{gh it:Nat}{os:List cg}(b:Option aP)(h:E0 F gh it os):wW F gh it os (b::F) it os where
 Nu:=⟨by rw[ai (Y.ax h.box),h.box],fun e=>by
  have h1:=h.row e
  rw[bj (sC.2 e)] at h1 ⊢
  rw[ai (Y.ax h1),h1],h.ne⟩
 len:=by simp
 old:=fun i hi _ _=>ai hi
 new:=fun e=>.inl ⟨e,rfl⟩
def Nv(l:List Nd):Prop:=∀(r:cg)(xs:List AV)(rs:List cg)(F:Y)(gh it:Nat)(os:List cg),mK F r xs→r.n=l.length→B5 F l xs rs→E0 F gh it os→(∀i∈cC (r::rs),i≠gh∧(os≠[]→i≠it))→os.length+1+Nd.ay l≤9000000→
 DK Tryz.prog 51 [.ptr 21 gh 0 0,r.av 4] F (fun e F'=>∃v,e = .ret v∧∃JA,wW F gh it os F' JA (os++r::rs))
theorem Nw{t:Nd}(hp:Nv t.kids){x:AV}{rs:List cg}{F:Y}{gh it:Nat}{os:List cg}(h:OT F t x rs)(hb:E0 F gh it os)(hi:∀i∈cC rs,i≠gh∧(os≠[]→i≠it))(hl:os.length+t.size≤9000000) :
  DK Tryz.prog 82 [.ptr 21 gh 0 0,x] F (fun e F'=>∃v,e = .ret v∧∃JA,wW F gh it os F' JA (os++rs)):=by
 have hall:=Cq t h
 cases h with
 |@mk k s n l r xs rs h1 h2 h3 =>
  obtain ⟨v1,v2,v3⟩:=cg.A5 (k:=4) (r:=r)
  have v4:(r.av 4).cells=[r.av 4]:=by cases hh:r.av 4<;>first|rfl|(rw[hh] at v3;simp[AV.isAgg] at v3)
  have hq:=hb.cons (some ⟨4,[.agg [.sc (.int .u8 k),.sc (.string s),.sc (.int .i64 n),r.av 4]],true,25⟩)
  have hlt:=sF h3
  have qC:=hp r xs rs (some ⟨4,[.agg [.sc (.int .u8 k),.sc (.string s),.sc (.int .i64 n),r.av 4]],true,25⟩::F) gh it os (h1.keep fun hn=>ai (h1.lt hn)) h2 (hlt.2.2.2.2 _ fun i hi=>ai (hlt.2.1 i hi)) hq.Nu hi (by simp only[Nd.size,Nd.kids] at *;omega)
  refine aiY (aA ?_)
  simp only[aep,ux]
  refine Z fun L hL=>?_
  refine eQ (ei v1 v2 v3 v4) ?_
  refine hL _ _ ?_
  clear hL
  refine eQ (ei v1 v2 v3 v4) ?_
  refine gp qC ?_
  rintro w G Ej ⟨JA,zZ⟩
  refine fh ?_
  exact ⟨_,rfl,JA,hq.trans zZ⟩
theorem HK(l:List Nd)(ih:∀t∈l,Nv t.kids):Nv l:=by
 intro r xs rs F gh it os hr UE hot hb uJ hsz
 obtain ⟨v1,v2,v3⟩:=cg.A5 (k:=4) (r:=r)
 have v4:(r.av 4).cells=[r.av 4]:=by cases hh:r.av 4<;>first|rfl|(rw[hh] at v3;simp[AV.isAgg] at v3)
 have mD:=hb.box
 have iq:=Y.ax mD
 refine aiX (aA ?_)
 simp only[aeo,ux]
 refine Z fun L hL=>?_
 have mid:∀ts G,(∃it1,wW F gh it os G it1 (os++[r])∧Fr (some (.ptr 21 gh 0 0)::some (r.av 4)::none::ir (dL [])) ts)→L ts G:=by
  rintro ts G ⟨it1,hq,aX⟩
  obtain ⟨js,rfl⟩:=aX.opened
  clear aX
  refine hL _ _ ?_
  clear hL
  refine Z fun L hL=>?_
  refine yU ?_
  refine hL _ _ ?_
  clear hL
  refine fh ?_
  have Nx:=sF hot
  have aax:∀i∈cC (r::rs),i<F.length:=fun i hi=>by
   rw[lO] at hi
   cases hn:r.nil with
   |true=>rw[hn] at hi;simp at hi;exact Nx.2.1 i hi
   |false =>
    rw[hn] at hi
    simp at hi
    rcases hi with rfl|hi
    ·exact hr.lt hn
    ·exact Nx.2.1 i hi
  have hlen:pR (r.av 4)=l.length∧oy (r.av 4):=by
   cases hn:r.nil with
   |true =>
    rcases hr with ⟨_,_,h⟩|⟨h,_⟩
    ·rw[cg.tg hn]
     exact ⟨by rw[←UE,h];rfl,trivial⟩
    ·rw[hn] at h;cases h
   |false =>
    rw[cg.nJ hn]
    exact ⟨UE,trivial⟩
  obtain ⟨n1,n2⟩:=hlen
  have ef:=Nd.fZ l
  refine aZ (fun ts K=>∃(k it2:Nat)(dn rest:List cg),(k≤l.length∧rs=dn++rest∧B5 F (l.drop k) (xs.drop k) rest)∧wW F gh it os K it2 (os++r::dn)∧Fr (some (.ptr 21 gh 0 0)::some (r.av 4)::none::none::some (.sc (.int .i64 k))::none::none::fg (dL [])) ts) (fun ts _=>l.length-(aM (ts.getD 4 .top)).toNat) ?_ ?_
  ·exact ⟨0,it1,[],rs,⟨Nat.zero_le _,rfl,by rw[List.drop_zero,List.drop_zero];exact hot⟩,hq,by simp[Fr]⟩
  clear hq
  rintro ts K ⟨k,it2,dn,rest,⟨hk,BM,Ny⟩,hq,aX⟩ L2 bM
  obtain ⟨js,rfl⟩:=aX.opened
  clear aX
  by_cases hd:k<l.length
  ·have d1:(k:Int)<l.length:=by omega
   rw[List.drop_eq_getElem_cons hd] at Ny
   generalize hxd:xs.drop k=xd at Ny
   cases Ny with
   |@cons _ _ x xt ra rb h1 h2 =>
    have uu:k<xs.length:=by rw[Nx.1];exact hd
    rw[List.drop_eq_getElem_cons uu] at hxd
    obtain ⟨hx1,y8⟩:=List.cons.inj hxd
    have hkeep:∀i∈cC (r::rs),Y.find K i=Y.find F i:=fun i hi=>hq.old i (aax i hi) (uJ i hi).1 (uJ i hi).2
    have dW:=List.getElem_mem hd
    have pQ:=Nd.de dW
    have hone:=Nw (ih _ dW) ((Cq _ h1).2.2.2 K fun i hi=>hkeep i (tK (by rw[BM,dR,dR];simp[hi]))) hq.Nu (fun i hi=>by
     have hm:i∈cC (r::rs):=tK (by rw[BM,dR,dR];simp[hi])
     refine ⟨(uJ i hm).1,fun _=>?_⟩
     rcases hq.new (by simp) with ⟨g1,g2⟩|g1
     ·rw[g2];exact (uJ i hm).2 g1
     ·have:=aax i hm;omega) (by
     have e1:=Nx.2.2.1
     have e2:=(Cq _ h1).2.1
     rw[BM] at e1
     simp only[List.length_append,List.length_cons] at e1 ⊢
     omega)
    rcases hr with ⟨_,_,h⟩|⟨hn,es,ex,hf,htk,hne,_⟩
    ·omega
    ·have hfK:Y.find K r.id=some ⟨4,es,ex,25⟩:=by rw[hkeep _ (xY hn),hf]
     have hge:es.getD k .top=x:=by
      have NW:k<es.length:=by omega
      rw[←hx1]
      simp only[←htk,List.getElem_take]
      simp[List.getD,NW]
     have NW:k<es.length:=by omega
     have hkn:(k:Int)<r.n:=by omega
     obtain ⟨kk,ks,kn,kr,rh⟩:∃(a:Int)(b:ByteArray)(c:Int)(d:cg),x = .agg [.sc (.int .u8 a),.sc (.string b),.sc (.int .i64 c),d.av 4]:=by
      have fx:∀u:Nd,OT F u x ra→∃(a:Int)(b:ByteArray)(c:Int)(d:cg),x = .agg [.sc (.int .u8 a),.sc (.string b),.sc (.int .i64 c),d.av 4]:=fun u h=>by
       cases h
       exact ⟨_,_,_,_,rfl⟩
      exact fx _ h1
     rw[rh] at hge hone
     have hav:=cg.nJ (k:=4) hn
     have l9:pR (r.av 4)=r.n:=by rw[n1,UE]
     rw[hav] at n2
     refine df (Fq n1 l9 n2 d1 hav hfK hge hkn NW) ?_
     refine ⟨by omega,gp hone ?_⟩
     rintro w K2 PV ⟨it3,zZ⟩
     refine fh ?_
     have Ip:=hq.trans zZ
     rw[List.append_assoc,List.cons_append] at Ip
     exact bM _ _ ⟨k+1,it3,dn++ra,rb,⟨by omega,by rw[BM,List.append_assoc],by rw[y8];exact h2⟩,Ip,by simp[Fr,hav]⟩ (by simp[aM,mk];omega)
  ·have d1:¬(k:Int)<l.length:=by omega
   rw[List.drop_of_length_le (by omega),List.drop_of_length_le (by rw[Nx.1];omega)] at Ny
   cases Ny
   rw[List.append_nil] at BM
   subst BM
   refine df (gq n1 n2 d1) ?_
   exact ⟨_,rfl,it2,hq⟩
 clear hL
 cases os with
 |nil =>
  have hO:aW 1 (gE 4 []) it=ke:=rfl
  rw[hO] at mD
  refine eQ (kY mD v1 v2 v3 v4) ?_
  refine mid _ _ ⟨F.length,⟨⟨?_,fun _=>?_,by omega⟩,by simp[Y.af],fun i hi h1 h2=>?_,fun _=>.inr (Nat.le_refl _)⟩,by simp[Fr]⟩
  ·rw[ai (by simp[Y.af];exact iq),Y.aC iq]
   rfl
  ·rw[aJ (by simp[Y.af])]
   rfl
  ·rw[ai (by simp[Y.af];exact hi),Y.aj h1]
 |cons o os =>
  have hne:gE 4 (o::os)≠[]:=sC.2 (by simp)
  have hrow:=hb.row (by simp)
  rw[bj hne] at hrow
  rw[ji hne] at mD
  have ob:gh≠it:=fun h=>hb.ne h.symm
  simp -implicitDefEqProofs (maxSteps:=99999999) (disch:=first|omega|(simp only[vl]<;>omega)) only[mD,hrow,v1,v2,v3,v4,va,vg,vs,vw,vk,simprocAttr]
  have qD:=Y.ax hrow
  have oO:=wU (k:=4) (rs:=o::os)
  have acB:(gE 4 (o::os)).length+1≤9000000:=by rw[oO];omega
  refine ⟨by omega,mid _ _ ⟨F.length,⟨⟨?_,fun _=>?_,by omega⟩,by simp[Y.af],fun i hi h1 h2=>?_,fun _=>.inr (Nat.le_refl _)⟩,by simp[Fr]⟩⟩
  ·rw[ai (by simp[Y.af];exact iq),Y.aC (by rw[Y.af];exact iq),ji (sC.2 (by simp)),wV,List.length_append]
   rfl
  ·rw[aJ (by simp[Y.af]),bj (sC.2 (by simp)),wV]
   rfl
  ·rw[ai (by simp[Y.af];exact hi),Y.aj h1,Y.aj (h2 (by simp))]
theorem QG(l:List Nd):Nv l:=by
 have key:∀n:Nat,∀l:List Nd,Nd.ay l≤n→Nv l:=by
  intro n
  induction n with
  |zero =>
   intro l h
   refine HK l fun t ht=>?_
   have:=Nd.de ht
   have:=t.size_pos
   omega
  |succ n ih =>
   intro l h
   refine HK l fun t ht=>ih _ ?_
   have:=Nd.de ht
   have:=Nd.size_eq t
   omega
 exact key _ l (Nat.le_refl _)
structure oW where
 r:cg
 l:List Nd
 xs:List AV
 rs:List cg
structure oW.ok(F:Y)(T:oW):Prop where
 row:mK F T.r T.xs
 n:T.r.n=T.l.length
 els:B5 F T.l T.xs T.rs
def iO:List oW→List cg
 |[]=>[]
 |T::q=>(T.r::T.rs)++iO q
theorem JB(a b:List oW):iO (a++b)=iO a++iO b:=by
 induction a with
 |nil=>rfl
 |cons x r ih=>simp[iO,ih]
def lF:List oW→Nat
 |[]=>0
 |T::q=>1+Nd.ay T.l+lF q
theorem zN(a b:List oW):lF (a++b)=lF a+lF b:=by
 induction a with
 |nil=>simp[lF]
 |cons x r ih=>simp only[List.cons_append,lF,ih];omega
theorem Va(q:List oW):q.length≤lF q:=by
 induction q with
 |nil=>exact Nat.zero_le _
 |cons x r ih=>simp only[List.length_cons,lF];omega
theorem tL{F:Y}:∀{q:List oW},(∀T∈q,T.ok F)→(iO q).length=lF q
 |[],_=>rfl
 |T::q,h=>by
  have h1:=sF (h T (by simp)).els
  simp only[iO,lF,List.length_append,List.length_cons,h1.2.2.1,tL (q:=q) fun S hS=>h S (List.mem_cons_of_mem _ hS)]
  omega
theorem sG{F:Y}:∀{q:List oW},(∀T∈q,T.ok F)→∀r∈iO q,∃xs,mK F r xs∧r.n≤lF q
 |[],_,r,hr=>by simp[iO] at hr
 |T::q,h,r,hr=>by
  have hT:=h T (by simp)
  have h1:=sF hT.els
  have hl:=Nd.fZ T.l
  simp only[iO,List.mem_append,List.mem_cons] at hr
  simp only[lF]
  rcases hr with (rfl|hr)|hr
  ·exact ⟨_,hT.row,by rw[hT.n];omega⟩
  ·obtain ⟨xs,g1,g2⟩:=h1.2.2.2.1 r hr
   exact ⟨xs,g1,by omega⟩
  ·obtain ⟨xs,g1,g2⟩:=sG (q:=q) (fun S hS=>h S (List.mem_cons_of_mem _ hS)) r hr
   exact ⟨xs,g1,by omega⟩
theorem oW.ok.keep{F G:Y}{T:oW}(h:T.ok F)(hk:∀i∈cC (T.r::T.rs),Y.find G i=Y.find F i):T.ok G :=
 ⟨h.row.keep fun hn=>hk _ (xY hn),h.n,(sF h.els).2.2.2.2 G fun i hi=>hk i (tK hi)⟩
theorem E1{F:Y}{q:List oW}(h:∀T∈q,T.ok F):∀i∈cC (iO q),i<F.length:=by
 intro i hi
 obtain ⟨o,h1,rfl⟩:=List.mem_map.1 hi
 obtain ⟨h2,h3⟩:=List.mem_filter.1 h1
 obtain ⟨xs,g1,_⟩:=sG h o h2
 exact g1.lt (by simpa using h3)
theorem Vb{F:Y}{q:List oW}(h:∀T∈q,T.ok F)(hn:(cC (iO q)).Nodup)(hs:lF q≤1000000):mJ kS F (iO q) where
 zero:=fun r hr hnil=>by
  obtain ⟨xs,g1,_⟩:=sG h r hr
  rcases g1 with ⟨_,_,h⟩|⟨h,_⟩
  ·exact h
  ·rw[hnil] at h;cases h
 blk:=fun r hr hnil=>by
  obtain ⟨xs,g1,_⟩:=sG h r hr
  rcases g1 with ⟨h,_⟩|⟨_,es,ex,k1,k2,k3,k4,k5,k6⟩
  ·rw[hnil] at h;cases h
  ·exact ⟨es,ex,k1,fun hc=>⟨k4 hc,k3⟩,k5,k6⟩
 apart:=hn
 rE:=fun r hr=>by
  obtain ⟨xs,g1,g2⟩:=sG h r hr
  omega
theorem FJ(H:Y)(ee:Nat)(q:List oW)(ex:Bool)(xW:TypeId)(cl:Option Nat)(hl:Y.find H ee=some ⟨1,q.map fun T=>T.r.av 4,ex,xW⟩)(ok:∀T∈q,T.ok H)(hn:(cC (iO q)).Nodup)(EY:ee∉cC (iO q))(hs:lF q≤1000000) :
  DK Tryz.prog 19 [.aD 1 ee 0 q.length cl] H (fun e F=>∃v,e = .ret v∧v = .sc (.bool true)):=by
 have hlt:=Y.ax hl
 have yw:=E1 ok
 have hqS:=Va q
 have Zt:(q.map fun T=>T.r.av 4).length=q.length:=by simp
 refine aiW (aA ?_)
 simp only[aen,ux]
 refine Z fun L hL=>?_
 refine fh ?_
 refine hL _ _ ?_
 clear hL
 refine Z fun L hL=>?_
 refine fh ?_
 refine hL _ _ ?_
 clear hL
 refine Z fun L hL=>?_
 refine fh ?_
 obtain ⟨F1,kX⟩:∃F1:Y,F1=some (sE ke)::H:=⟨_,rfl⟩
 have ajs:F1.length=H.length+1:=by rw[kX];rfl
 have aiZ:∀i,i<H.length→Y.find F1 i=Y.find H i:=fun i hi=>by rw[kX,ai hi]
 have ai0:Y.find F1 H.length=some (sE ke):=by rw[kX];exact aJ rfl
 rw[←kX]
 clear kX
 refine aZ (fun ts K=>∃k it:Nat,k≤q.length∧wW F1 H.length (H.length+1) [] K it (iO (q.take k))∧Fr (some (.aD 1 ee 0 q.length cl)::none::some (.sc (.bool false))::some (.ptr 21 H.length 0 0)::some (.sc (.int .i64 k))::dL []) ts) (fun ts _=>q.length-(aM (ts.getD 4 .top)).toNat) ?_ ?_
 ·exact ⟨0,H.length+1,Nat.zero_le _,⟨⟨ai0,fun h=>(h rfl).elim,by omega⟩,Nat.le_refl _,fun _ _ _ _=>rfl,fun h=>(h rfl).elim⟩,by simp[Fr]⟩
 rintro ts K ⟨k,it,hk,hq,aX⟩ L2 bM
 obtain ⟨js,rfl⟩:=aX.opened
 clear aX
 have hold:∀i,i<H.length→Y.find K i=Y.find H i:=fun i hi=>by rw[hq.old i (by omega) (by omega) (fun h=>(h rfl).elim),aiZ i hi]
 have hit:iO (q.take k)≠[]→H.length<it:=fun h=>by
  rcases hq.new h with ⟨h1,_⟩|h1
  ·exact (h1 rfl).elim
  ·omega
 by_cases hd:k<q.length
 ·have d1:(k:Int)<q.length:=by omega
  have hlK:Y.find K ee=some ⟨1,q.map fun T=>T.r.av 4,ex,xW⟩:=by rw[hold _ hlt,hl]
  obtain ⟨T,hT⟩:∃T,q[k]=T:=⟨_,rfl⟩
  have hTm:T∈q:=by rw[←hT];exact List.getElem_mem hd
  have hge:(q.map fun T=>T.r.av 4).getD k .top=T.r.av 4:=by simp[List.getD,hd,hT]
  have htk:q.take (k+1)=q.take k++[T]:=by rw[List.take_succ_eq_append_getElem hd,hT]
  have hts:lF (q.take k)+(1+Nd.ay T.l)≤lF q:=by
   have e:lF q=lF (q.take (k+1))+lF (q.drop (k+1)):=by rw[←zN,List.take_append_drop]
   rw[htk,zN] at e
   simp only[lF] at e
   omega
  have hTi:∀i∈cC (T.r::T.rs),i<H.length:=by
   have:=E1 (q:=[T]) (fun S hS=>by rw[List.mem_singleton.1 hS];exact ok T hTm)
   simpa [iO] using this
  have hTK:=(ok T hTm).keep fun i hi=>hold i (hTi i hi)
  have dY:=QG T.l T.r T.xs T.rs K H.length it (iO (q.take k)) hTK.row hTK.n hTK.els hq.Nu (fun i hi=>⟨by have:=hTi i hi;omega,fun h=>by have:=hTi i hi;have:=hit h;omega⟩) (by
   rw[tL (F:=H) fun S hS=>ok S (List.mem_of_mem_take hS)]
   omega)
  obtain ⟨v1,v2,v3⟩:=cg.A5 (k:=4) (r:=T.r)
  have v4:(T.r.av 4).cells=[T.r.av 4]:=by cases hh:T.r.av 4<;>first|rfl|(rw[hh] at v3;simp[AV.isAgg] at v3)
  refine df (Fq d1 hlK Zt hge hd v1 v2 v3 v4) ?_
  refine ⟨by omega,gp dY ?_⟩
  rintro w K2 PV ⟨it3,zZ⟩
  refine fh ?_
  have Ip:=hq.trans zZ
  have e:iO (q.take k)++T.r::T.rs=iO (q.take (k+1)):=by rw[htk,JB];simp[iO]
  rw[e] at Ip
  exact bM _ _ ⟨k+1,it3,by omega,Ip,by simp[Fr]⟩ (by simp[aM,mk];omega)
 ·have d1:¬(k:Int)<q.length:=by omega
  rw[List.take_of_length_le (by omega)] at hq hit
  have okK:∀T∈q,T.ok K:=fun T hT=>(ok T hT).keep fun i hi=>hold i (by
   have:=E1 (q:=[T]) (fun S hS=>by rw[List.mem_singleton.1 hS];exact ok T hT) i (by simpa [iO] using hi)
   exact this)
  have hap:=FI K H.length it (iO q) hq.Nu.box hq.Nu.row (Vb okK hn hs) (fun h=>by have:=yw _ h;have:=hit (fun e=>by rw[e] at h;simp[cC] at h);omega) (fun h=>by
   rcases EZ h with ⟨h1,h2⟩|h1
   ·have:=hit h1;omega
   ·have:=yw _ h1;omega) (by rw[tL ok];omega)
  refine df (ak d1 Zt) ?_
  refine hL _ _ ?_
  clear hL
  refine fh ?_
  refine ae hap ?_
  refine fh ?_
  exact ⟨_,rfl,rfl⟩
theorem acy(l:List Nd):∀a,∀x∈eT l a,kS.is x:=by
 induction l with
 |nil=>intro a x h;simp[eT] at h
 |cons t r ih =>
  intro a x h
  simp only[eT,List.mem_cons] at h
  rcases h with rfl|h
  ·rw[ey];exact ⟨rfl,rfl,rfl⟩
  ·exact ih _ x h
theorem aay{F:Y}(t:Nd):∀{a:Nat},dP F t a→∃rs,OT F t (fF t a) rs∧(cC rs).Nodup∧∀i∈cC rs,a≤i∧i<a+t.size:=by
 induction t using Nd.ind with
 |_ t ih =>
  intro a h
  have key:∀(l:List Nd),(∀k∈l,∀{a:Nat},dP F k a→∃rs,OT F k (fF k a) rs∧(cC rs).Nodup∧∀i∈cC rs,a≤i∧i<a+k.size)→∀a,jc F l a→∃rs,B5 F l (eT l a) rs∧(cC rs).Nodup∧∀i∈cC rs,a≤i∧i<a+Nd.ay l:=by
   intro l
   induction l with
   |nil=>intro _ a _;exact ⟨[],.nil,by simp[cC],by simp[cC]⟩
   |cons x r fC =>
    intro hx a hl
    obtain ⟨r1,p1,p2,p3⟩:=hx x (by simp) hl.first
    obtain ⟨r2,q1,q2,q3⟩:=fC (fun k hk=>hx k (by simp[hk])) _ hl.rest
    refine ⟨r1++r2,.cons p1 q1,?_,fun i hi=>?_⟩
    ·rw[dR]
     refine List.nodup_append.2 ⟨p2,q2,fun y h1 z h2 e=>?_⟩
     have:=p3 y h1
     have:=q3 z h2
     omega
    ·simp only[Nd.ay]
     rw[dR,List.mem_append] at hi
     rcases hi with hi|hi
     ·have:=p3 i hi;omega
     ·have:=q3 i hi;omega
  obtain ⟨rs,q1,q2,q3⟩:=key _ ih _ h.kids
  have hh:=h.head
  have SW:=acy t.kids (a+1)
  have ef:=gV t.kids (a+1)
  have zX:=Nd.size_eq t
  rw[ey]
  by_cases e:t.kids=[]
  ·have e2:eT t.kids (a+1)=[]:=by rw[e];rfl
   rw[e2] at q1 ⊢
   have e3:rs=[]:=by rw[e] at q1;cases q1;rfl
   subst e3
   refine ⟨[⟨true,0,0,none⟩],?_,by simp[cC],by simp[cC]⟩
   cases t with
   |mk k s n l =>
    simp only[Nd.kids] at e
    subst e
    exact .mk (r:=⟨true,0,0,none⟩) (.inl ⟨rfl,rfl,rfl⟩) rfl .nil
  ·have e2:eT t.kids (a+1)≠[]:=fun h=>e (by rw[h] at ef;exact List.length_eq_zero_iff.1 (by simpa using ef.symm))
   rw[bj e2] at hh
   rw[ji e2,ef]
   refine ⟨⟨false,t.kids.length,a,none⟩::rs,?_,?_,?_⟩
   ·have h1:mK F ⟨false,t.kids.length,a,none⟩ (eT t.kids (a+1)):=.inr ⟨rfl,_,false,hh,List.take_of_length_le (by rw[ef];exact Nat.le_refl _),by rw[ef];exact Nat.le_refl _,fun _=>rfl,fun m h=>by simp at h,SW⟩
    cases t with
    |mk k s n l=>exact .mk h1 rfl q1
   ·rw[lO]
    refine List.nodup_cons.2 ⟨fun h=>?_,q2⟩
    have:=q3 _ h
    simp at this
    omega
   ·intro i hi
    rw[lO] at hi
    simp at hi
    rcases hi with rfl|hi
    ·omega
    ·have:=q3 i hi;omega
def aeq:IC:=(.seq (.ops [iH 3 (.box 4 25 (.t 0)),iP 6 (.mv kF)]) (.seq (.seq (.ops [iH 15 (yA 4 3),iH 16 (.call 7 [(.t 15),(kI 1000)]),iP 17 (.aN .gtr (.t 16) (kI 1000)),iM 18 17,gM 19 18 false 1,gP 20 18 false (.nN (.t 19)),gP 21 18 false (.aN .gtr (.t 20) (kI 1000)),iP 22 (.pick (.t 18) kT (.t 21)),iM 23 22,gM 24 23 false 2,gP 25 23 false (xL 24),gP 26 23 false (.aN .gtr (.t 25) (kI 200)),iP 27 (.pick (.t 23) kT (.t 26))]) (.cond (.t 27) (.seq (.ops [iH 28 (.call 8 []),iM 6 28]) .ret) .skip)) (.seq (.ops [iH 29 (yA 4 3),iH 30 (.call 9 [(.t 29)]),iM 31 2,iH 32 (.call 13 [(.t 31)]),⟨(some 7),none,(.h (.alloc (.agg [(.sc (.int .u8 0)),(.sc (.string ⟨#[]⟩)),(.sc (.int .i64 0)),bG]) 25))⟩,iS 4 7 30,iM 8 32]) (.seq (.ops [iH 34 (yA 4 7),iM 35 1,iM 36 8,iH 37 (.call 14 [(.t 34),(.t 35),(.t 36)]),iM 33 37,iP 38 (.ext (.t 33) 0),iP 39 (.ext (.t 33) 1),⟨(some 9),none,(.h (.alloc (.agg [(.sc (.int .u8 0)),(.sc (.string ⟨#[]⟩)),(.sc (.int .i64 0)),bG]) 25))⟩,iS 4 9 38,iM 10 39]) (.seq (.ops [iH 41 (yA 4 7),iM 42 1,iM 43 8,iH 44 (.call 14 [(.t 41),(.t 42),(.t 43)]),iM 40 44,iP 45 (.ext (.t 40) 0),iP 46 (.ext (.t 40) 1),⟨(some 11),none,(.h (.alloc (.agg [(.sc (.int .u8 0)),(.sc (.string ⟨#[]⟩)),(.sc (.int .i64 0)),bG]) 25))⟩,iS 4 11 45,iM 12 46]) (.seq (.ops [iH 48 (yA 4 3),iM 49 1,iM 50 2,iH 51 (.call 15 [(.t 48),(.t 49),(.t 50)]),iM 47 51,iP 52 (.ext (.t 47) 0),iP 53 (.ext (.t 47) 1),⟨(some 13),none,(.h (.alloc (.agg [(.sc (.int .u8 0)),(.sc (.string ⟨#[]⟩)),(.sc (.int .i64 0)),bG]) 25))⟩,iS 4 13 52,iM 14 53]) (.seq (.seq (.ops [iM 54 10,iM 55 14,iP 56 (xB .neq 54 55),iM 57 56,gH 58 57 false (yA 4 9),gH 59 57 false (yA 4 13),gH 60 57 false (yC 16 58 59),gP 61 57 false (xN 60),iP 62 (.pick (.t 57) kT (.t 61)),iM 63 62,gH 64 63 false (yA 4 7),gH 65 63 false (yA 4 3),gH 66 63 false (yC 12 64 65),gP 67 63 false (xN 66),iP 68 (.pick (.t 63) kT (.t 67)),iM 69 68,gM 70 69 false 8,gM 71 69 false 2,gH 72 69 false (yC 17 70 71),gP 73 69 false (xN 72),iP 74 (.pick (.t 69) kT (.t 73))]) (.cond (.t 74) (.seq (.ops [iP 6 (.mv kF)]) .ret) .skip)) (.seq (.ops [iH 75 (yA 4 7),iH 76 (.call 18 [(.t 75)])]) (.seq (.ops [iH 77 (yA 4 9),iH 78 (yA 4 13),iH 79 (yC 16 77 78),iM 80 79,gH 81 80 true (yA 4 9),⟨(some 82),(some (80,true)),(.h (.kN 4 25 (.agg [(.sc (.int .u8 0)),(.sc (.string ⟨#[]⟩)),(.sc (.int .i64 0)),bG]) 1 [(0,(.t 81))]))⟩,gH 83 80 true (yA 4 11),⟨(some 84),(some (80,true)),(.h (.kN 4 25 (.agg [(.sc (.int .u8 0)),(.sc (.string ⟨#[]⟩)),(.sc (.int .i64 0)),bG]) 1 [(0,(.t 83))]))⟩,gH 85 80 true (.kN 1 23 bG 2 [(0,(.t 82)),(1,(.t 84))]),gH 86 80 true (.call 19 [(.t 85)]),iP 87 (.pick (.t 80) (.t 86) kF),iM 88 87,gH 89 88 true (.call 8 []),iP 90 (.pick (.t 88) (.t 89) kF),iM 6 90]) .ret)))))))))
theorem ai1:Dk Tryz.prog 4 aeq [(.t 6)] 91:=fun h=>qN (fn:=Tryz.f4) (c:=Tryz.f4.body.getD .skip) (bx:=List.range 200) Tryz.func4 (by kernel_rfl) (by kernel_rfl) (by kernel_rfl) h
theorem aaz{K:Y}{A:Nd}{x y:AV}(hz:A.size≤1000000)(h:View K x (eu A))(k:View K y (eu A)):D Tryz.prog 16 [x,y] K (.ret (.sc (.bool true))) K:=by
 have hs:=qX A hz A none none []
 rw[qR,kx] at hs
 exact s9 (.cons h (.cons k .nil)) .sc hs
theorem FK{n:Nd}{x:ByteArray}{p:List Int}(h:n.size≤10000):(bw n x p).1.size≤10000:=by
 have h0:Nd.none.size≤10000:=by decide
 unfold bw
 split
 ·split
  ·split
   ·exact h0
   ·split
    ·split
     ·show (bN _ _ _ _).size≤10000
      rw[xT]
      exact h
     ·exact h0
    ·exact h0
  ·exact h0
 ·exact h0
theorem BK{F:Y}{p q:List Int}{id:Nat}{ex:Bool}{ty:TypeId}{c:Option Nat}(h:Y.find F id=some ⟨1,aK (p++q),ex,ty⟩):View F (.aD 1 id 0 p.length c) (.am 1 (aK p) none):=by
 refine .aD h rfl (by rw[aB,List.length_append];omega) ?_
 rw[List.drop_zero,zt,List.take_append_of_le_length (by rw[aB];exact Nat.le_refl _),List.take_of_length_le (by rw[aB];exact Nat.le_refl _)]
 exact cJ.Tk
theorem B6(n:Nd)(x:ByteArray)(p:List Int)(hw:n.wt≤1900000)(hp:p.length≤2000000):D Tryz.prog 4 [dZ n none,.sc (.string x),.am 1 (aK p) none] [] (.ret (.sc (.bool true))) []:=by
 have n1:=fun K=>Pz n none 1000 (by omega) (by omega) K
 rw[aQ] at n1
 rw[aQ]
 have dY:=aB p
 refine aG (Nat.le_refl _) (ai1 (aA ?_))
 simp only[aeq,ux]
 refine Z fun L hL=>?_
 refine aw ?_
 refine hL _ _ ?_
 clear hL
 refine Z fun L hL=>?_
 refine aw ?_
 refine ae (n1 _) ?_
 by_cases ca:bulk n 1000 > 1000
 ·refine aI ca ?_
  refine ae (tJ _) ?_
  refine aw ?_
  exact bL (.cons .refl)
 by_cases cx:(x.size:Int) > 1000
 ·refine aI (ak ca cx) ?_
  refine ae (tJ _) ?_
  refine aw ?_
  exact bL (.cons .refl)
 by_cases cp:(p.length:Int) > 200
 ·refine aI (ei ca cx cp dY) ?_
  refine ae (tJ _) ?_
  refine aw ?_
  exact bL (.cons .refl)
 have wa:=aar n 1000 (by omega)
 have sa:=aas n
 refine aI (ei ca cx cp dY) ?_
 refine hL _ _ ?_
 clear hL
 refine Z fun L hL=>?_
 refine aw ?_
 obtain ⟨F0,gS⟩:∃F0:Y,F0=[some ⟨4,[.agg [.sc (.int .u8 n.kind),.sc (.string n.text),.sc (.int .i64 n.num),.am 4 (bh n.kids) none]],true,25⟩]:=⟨_,rfl⟩
 have a0:Y.find F0 0=some ⟨4,[.agg [.sc (.int .u8 n.kind),.sc (.string n.text),.sc (.int .i64 n.num),.am 4 (bh n.kids) none]],true,25⟩:=by rw[gS];rfl
 have al:F0.length=1:=by rw[gS];rfl
 rw[←gS]
 clear gS
 have l1:=MN n (by omega) none F0
 rw[aQ,j8] at l1
 refine ae l1 ?_
 clear l1
 have hO:=QD (t:=n) (H:=F0)
 have hO1:∀i,i<F0.length→Y.find (qt n F0.length++F0) i=Y.find F0 i:=fun i hi=>Y.bF hi
 have bl:(qt n F0.length++F0).length=n.size+F0.length:=by rw[List.length_append,tB]
 generalize qt n F0.length++F0=F1 at *
 rw[al] at hO hO1 bl ⊢
 refine aw ?_
 have li:=LZ p none F1 (by omega)
 refine ae li ?_
 clear li
 obtain ⟨F2,jG⟩:∃F2:Y,F2=some ⟨1,aK (p++mB 12),true,3⟩::F1:=⟨_,rfl⟩
 have c1:Y.find F2 F1.length=some ⟨1,aK (p++mB 12),true,3⟩:=by rw[jG];exact aJ rfl
 have c2:∀i,i<F1.length→Y.find F2 i=Y.find F1 i:=fun i hi=>by rw[jG];exact ai hi
 have cl:F2.length=F1.length+1:=by rw[jG];rfl
 rw[←jG]
 clear jG
 refine aw ?_
 refine hL _ _ ?_
 clear hL
 refine Z fun L hL=>?_
 refine aw ?_
 obtain ⟨F3,MW⟩:∃F3:Y,F3=some ⟨4,[.agg [.sc (.int .u8 n.kind),.sc (.string n.text),.sc (.int .i64 n.num),.aD 4 1 0 n.kids.length (some (n.kids.length+12))]],true,25⟩::F2:=⟨_,rfl⟩
 have dl:F3.length=F2.length+1:=by rw[MW];rfl
 have dX:Y.find F3 F2.length=some ⟨4,[.agg [.sc (.int .u8 n.kind),.sc (.string n.text),.sc (.int .i64 n.num),.aD 4 1 0 n.kids.length (some (n.kids.length+12))]],true,25⟩:=by rw[MW];exact aJ rfl
 have do_:∀i,i<F2.length→Y.find F3 i=Y.find F2 i:=fun i hi=>by rw[MW];exact ai hi
 rw[←MW]
 clear MW
 have dI:=(do_ _ (by omega)).trans c1
 have d0:=(do_ 0 (by omega)).trans ((c2 0 (by omega)).trans ((hO1 0 (by omega)).trans a0))
 have dO:iL F3 n 1:=hO.of fun i h1 h2=>(do_ i (by omega)).trans (c2 i (by omega))
 clear hO1 c1 c2 do_ a0
 have hTz:(bw n x p).1.size≤10000:=FK (by omega)
 have rn:=fun (F:Y) v w hv hw=>A4 n (by omega) (by omega) x p (by omega) (H:=F) (v:=v) (w:=w) hv hw
 have rr:=fun (F:Y)=>Qo n (by omega) x p (by omega) F
 obtain ⟨T,hT⟩:∃T,(bw n x p).1=T:=⟨_,rfl⟩
 obtain ⟨e,he⟩:∃e,(bw n x p).2=e:=⟨_,rfl⟩
 rw[hT] at hTz rn rr
 rw[he] at rn rr
 clear hT he
 simp only[ey T] at rn
 rw[ew T] at rr
 rw[aQ] at rr
 have vX:∀F,iL F n 1→View F (.agg [.sc (.int .u8 n.kind),.sc (.string n.text),.sc (.int .i64 n.num),.aD 4 1 0 n.kids.length (some (n.kids.length+12))]) (eu n):=fun F h=>by
  have:=Ex n h
  rw[j8] at this
  exact this
 refine ae (rn _ _ _ (vX _ dO) (BK dI)) ?_
 have e3:dP (gd T F3.length++F3) T F3.length:=j5
 have eo:∀i,i<F3.length→Y.find (gd T F3.length++F3) i=Y.find F3 i:=fun i hi=>Y.bF hi
 have el:(gd T F3.length++F3).length=T.size+F3.length:=by rw[List.length_append,iK]
 generalize gd T F3.length++F3=F4 at *
 refine aw ?_
 obtain ⟨F5,UB⟩:∃F5:Y,F5=some ⟨4,[.agg [.sc (.int .u8 T.kind),.sc (.string T.text),.sc (.int .i64 T.num),aW 4 (eT T.kids (F3.length+1)) F3.length]],true,25⟩::F4:=⟨_,rfl⟩
 have fl:F5.length=F4.length+1:=by rw[UB];rfl
 have fA:Y.find F5 F4.length=some ⟨4,[.agg [.sc (.int .u8 T.kind),.sc (.string T.text),.sc (.int .i64 T.num),aW 4 (eT T.kids (F3.length+1)) F3.length]],true,25⟩:=by rw[UB];exact aJ rfl
 have fo:∀i,i<F4.length→Y.find F5 i=Y.find F4 i:=fun i hi=>by rw[UB];exact ai hi
 rw[←UB]
 clear UB
 have f35:∀i,i<F3.length→Y.find F5 i=Y.find F3 i:=fun i hi=>(fo i (by omega)).trans (eo i hi)
 have f0:=(f35 _ (by omega)).trans d0
 have fI:=(f35 _ (by omega)).trans dI
 have fX:=(f35 _ (by omega)).trans dX
 have fL:dP F5 T F3.length:=e3.of fun i h1 h2=>fo i (by omega)
 have fO:iL F5 n 1:=dO.of fun i h1 h2=>f35 i (by omega)
 clear e3 eo fo
 refine hL _ _ ?_
 clear hL
 refine Z fun L hL=>?_
 refine aI fX ?_
 refine ae (rn _ _ _ (vX _ fO) (BK fI)) ?_
 have e5:dP (gd T F5.length++F5) T F5.length:=j5
 have eo:∀i,i<F5.length→Y.find (gd T F5.length++F5) i=Y.find F5 i:=fun i hi=>Y.bF hi
 have el2:(gd T F5.length++F5).length=T.size+F5.length:=by rw[List.length_append,iK]
 generalize gd T F5.length++F5=F6 at *
 refine aw ?_
 obtain ⟨F7,hF7⟩:∃F7:Y,F7=some ⟨4,[.agg [.sc (.int .u8 T.kind),.sc (.string T.text),.sc (.int .i64 T.num),aW 4 (eT T.kids (F5.length+1)) F5.length]],true,25⟩::F6:=⟨_,rfl⟩
 have gl:F7.length=F6.length+1:=by rw[hF7];rfl
 have gC:Y.find F7 F6.length=some ⟨4,[.agg [.sc (.int .u8 T.kind),.sc (.string T.text),.sc (.int .i64 T.num),aW 4 (eT T.kids (F5.length+1)) F5.length]],true,25⟩:=by rw[hF7];exact aJ rfl
 have go:∀i,i<F6.length→Y.find F7 i=Y.find F6 i:=fun i hi=>by rw[hF7];exact ai hi
 rw[←hF7]
 clear hF7
 have QH:∀i,i<F5.length→Y.find F7 i=Y.find F5 i:=fun i hi=>(go i (by omega)).trans (eo i hi)
 have g0:=(QH _ (by omega)).trans f0
 have gI:=(QH _ (by omega)).trans fI
 have gX:=(QH _ (by omega)).trans fX
 have gA:=(QH _ (by omega)).trans fA
 have gL:dP F7 T F3.length:=fL.of fun i h1 h2=>QH i (by omega)
 have gM:dP F7 T F5.length:=e5.of fun i h1 h2=>go i (by omega)
 have gO:iL F7 n 1:=fO.of fun i h1 h2=>QH i (by omega)
 clear e5 eo go
 refine hL _ _ ?_
 clear hL
 refine Z fun L hL=>?_
 refine aI g0 ?_
 refine ae (rr _) ?_
 refine aw ?_
 obtain ⟨F8,hF8⟩:∃F8:Y,F8=some ⟨4,[.agg [.sc (.int .u8 T.kind),.sc (.string T.text),.sc (.int .i64 T.num),.am 4 (bh T.kids) none]],true,25⟩::F7:=⟨_,rfl⟩
 have hl:F8.length=F7.length+1:=by rw[hF8];rfl
 have hB:Y.find F8 F7.length=some ⟨4,[.agg [.sc (.int .u8 T.kind),.sc (.string T.text),.sc (.int .i64 T.num),.am 4 (bh T.kids) none]],true,25⟩:=by rw[hF8];exact aJ rfl
 have ho:∀i,i<F7.length→Y.find F8 i=Y.find F7 i:=fun i hi=>by rw[hF8];exact ai hi
 rw[←hF8]
 clear hF8
 have h0:=(ho _ (by omega)).trans g0
 have hI:=(ho _ (by omega)).trans gI
 have hX:=(ho _ (by omega)).trans gX
 have hA:=(ho _ (by omega)).trans gA
 have hC:=(ho _ (by omega)).trans gC
 have ZY:dP F8 T F3.length:=gL.of fun i h1 h2=>ho i (by omega)
 have hM:dP F8 T F5.length:=gM.of fun i h1 h2=>ho i (by omega)
 have hO8:iL F8 n 1:=gO.of fun i h1 h2=>ho i (by omega)
 clear QH f35 g0 gI gX gA gC gL gM gO fL fO f0 fI fX fA d0 dI dX dO ho
 have vA:∀F a,dP F T a→View F (.agg [.sc (.int .u8 T.kind),.sc (.string T.text),.sc (.int .i64 T.num),aW 4 (eT T.kids (a+1)) a]) (eu T):=fun F a h=>by
  have:=AG T h
  rw[ey] at this
  exact this
 have vB:∀F,View F (.agg [.sc (.int .u8 T.kind),.sc (.string T.text),.sc (.int .i64 T.num),.am 4 (bh T.kids) none]) (eu T):=fun F=>by
  have:=iC T none F
  rw[aQ] at this
  exact this
 have m1:=fun F h=>aaz (K:=F) (by omega) (vA F F3.length h) (vB F)
 have m2:=zH n (MP _) (by omega) 1 F8 hO8
 rw[j8,aQ] at m2
 have m3:=L0 p none F8 F1.length _ hI (by omega)
 refine hL _ _ ?_
 clear hL
 refine Z fun L hL=>?_
 simp -implicitDefEqProofs (maxSteps:=99999999) (disch:=first|omega|(simp only[vl]<;>omega)) only[vu,vg,h0,hI,hX,hA,hB,va,vg,vs,vw,vk,simprocAttr]
 refine ae (m1 _ ZY) ?_
 simp -implicitDefEqProofs (maxSteps:=99999999) (disch:=first|omega|(simp only[vl]<;>omega)) only[vu,vg,h0,hI,hX,hA,hB,va,vg,vs,vw,vk,simprocAttr]
 refine ae m2 ?_
 simp -implicitDefEqProofs (maxSteps:=99999999) (disch:=first|omega|(simp only[vl]<;>omega)) only[vu,vg,h0,hI,hX,hA,hB,va,vg,vs,vw,vk,simprocAttr]
 refine ae m3 ?_
 refine aw ?_
 refine hL _ _ ?_
 clear hL
 refine Z fun L hL=>?_
 simp -implicitDefEqProofs (maxSteps:=99999999) (disch:=first|omega|(simp only[vl]<;>omega)) only[vu,vg,hX,va,vg,vs,vw,vk,simprocAttr]
 have ov:=MY n (by omega) 1 F8 hO8
 rw[j8] at ov
 refine gp ov ?_
 clear ov m2 m3
 rintro v K eK ⟨rfl,-,hK⟩
 have kA:=(hK F4.length (by omega) (by omega)).trans hA
 have kB:=(hK F7.length (by omega) (by omega)).trans hB
 have kC:=(hK F6.length (by omega) (by omega)).trans hC
 have kL:dP K T F3.length:=ZY.of fun i h1 h2=>hK i (by omega) (by omega)
 have kM:dP K T F5.length:=hM.of fun i h1 h2=>hK i (by omega) (by omega)
 clear hA hB hC ZY hM hO8 h0 hI hX hK vX vA rn rr
 refine aw ?_
 refine hL _ _ ?_
 clear hL
 refine Z fun L hL=>?_
 refine aI (ak kA kB) ?_
 refine ae (m1 _ kL) ?_
 refine aI (ak kA kC) ?_
 obtain ⟨K5,Vc⟩:∃K5:Y,K5=some ⟨1,[.aD 4 K.length 0 1 (some 1),.aD 4 (K.length+1) 0 1 (some 1)],true,23⟩::some ⟨4,[.agg [.sc (.int .u8 T.kind),.sc (.string T.text),.sc (.int .i64 T.num),aW 4 (eT T.kids (F5.length+1)) F5.length]],true,25⟩::some ⟨4,[.agg [.sc (.int .u8 T.kind),.sc (.string T.text),.sc (.int .i64 T.num),aW 4 (eT T.kids (F3.length+1)) F3.length]],true,25⟩::K:=⟨_,rfl⟩
 have r1:Y.find K5 (K.length+2)=some ⟨1,[.aD 4 K.length 0 1 (some 1),.aD 4 (K.length+1) 0 1 (some 1)],true,23⟩:=by rw[Vc];exact aJ (by simp)
 have r2:Y.find K5 (K.length+1)=some ⟨4,[fF T F5.length],true,25⟩:=by rw[Vc,ey,ai (by simp),aJ (by simp)]
 have r3:Y.find K5 K.length=some ⟨4,[fF T F3.length],true,25⟩:=by rw[Vc,ey,ai (by simp;omega),ai (by simp),aJ rfl]
 have r4:∀i,i<K.length→Y.find K5 i=Y.find K i:=fun i hi=>by rw[Vc,ai (by simp;omega),ai (by simp;omega),ai hi]
 rw[←Vc]
 clear Vc
 obtain ⟨rsA,qa1,qa2,qa3⟩:=aay (F:=K5) T (kL.of fun i h1 h2=>r4 i (by omega))
 obtain ⟨Vd,qc1,qc2,qc3⟩:=aay (F:=K5) T (kM.of fun i h1 h2=>r4 i (by omega))
 have isx:∀a,kS.is (fF T a):=fun a=>by rw[ey];exact ⟨rfl,rfl,rfl⟩
 have ok1:oW.ok K5 ⟨⟨false,1,K.length,some 1⟩,[T],[fF T F3.length],rsA++[]⟩:=⟨.inr ⟨rfl,[fF T F3.length],true,r3,rfl,Nat.le_refl _,fun h=>by simp at h,fun m h=>by simp only[Option.some.injEq] at h;subst h;exact .inl ⟨rfl,rfl,Nat.le_refl _⟩,fun x hx=>by rw[List.mem_singleton.1 hx];exact isx _⟩,rfl,.cons qa1 .nil⟩
 have ok2:oW.ok K5 ⟨⟨false,1,K.length+1,some 1⟩,[T],[fF T F5.length],Vd++[]⟩:=⟨.inr ⟨rfl,[fF T F5.length],true,r2,rfl,Nat.le_refl _,fun h=>by simp at h,fun m h=>by simp only[Option.some.injEq] at h;subst h;exact .inl ⟨rfl,rfl,Nat.le_refl _⟩,fun x hx=>by rw[List.mem_singleton.1 hx];exact isx _⟩,rfl,.cons qc1 .nil⟩
 have hgi:cC (iO [⟨⟨false,1,K.length,some 1⟩,[T],[fF T F3.length],rsA++[]⟩,⟨⟨false,1,K.length+1,some 1⟩,[T],[fF T F5.length],Vd++[]⟩])=K.length::(cC rsA++((K.length+1)::cC Vd)):=by
  simp[iO,lO,dR]
 have hap:=FJ K5 (K.length+2) [⟨⟨false,1,K.length,some 1⟩,[T],[fF T F3.length],rsA++[]⟩,⟨⟨false,1,K.length+1,some 1⟩,[T],[fF T F5.length],Vd++[]⟩] true 23 (some 2) r1 (fun T hT=>by
  simp only[List.mem_cons,List.mem_nil_iff,or_false] at hT
  rcases hT with rfl|rfl
  ·exact ok1
  ·exact ok2) (by
  rw[hgi]
  have l1:((K.length+1)::cC Vd).Nodup:=List.nodup_cons.2 ⟨fun h=>by have:=qc3 _ h;omega,qc2⟩
  have l2:(cC rsA++((K.length+1)::cC Vd)).Nodup:=List.nodup_append.2 ⟨qa2,l1,fun y hy z hz=>by
   have:=qa3 y hy
   rcases List.mem_cons.1 hz with rfl|hz
   ·omega
   ·have:=qc3 z hz;omega⟩
  refine List.nodup_cons.2 ⟨fun h=>?_,l2⟩
  rcases List.mem_append.1 h with h|h
  ·have:=qa3 _ h;omega
  ·rcases List.mem_cons.1 h with h|h
   ·omega
   ·have:=qc3 _ h;omega) (fun h=>by
  rw[hgi] at h
  rcases List.mem_cons.1 h with h|h
  ·omega
  ·rcases List.mem_append.1 h with h|h
   ·have:=qa3 _ h;omega
   ·rcases List.mem_cons.1 h with h|h
    ·omega
    ·have:=qc3 _ h;omega) (by simp only[lF,Nd.ay];omega)
 refine gp hap ?_
 rintro v K6 hl6 rfl
 refine aw ?_
 refine ae (tJ _) ?_
 refine aw ?_
 refine hL _ _ ?_
 clear hL
 refine aw ?_
 have ai2:∀K:Y,Over [] K:=fun K=>by
  have:∀(A B:Y),Over [] B→Over [] (A++B):=fun A B h=>by
   induction A with
   |nil=>exact h
   |cons x r ih=>exact .cons ih
  have:=this K [] .refl
  rwa [List.append_nil] at this
 exact bL (ai2 _)
theorem aaA{Hh:Type}{enc:TypeId×Value→Hh}{w:World}{n:Nat}:jg enc Tryz.prog w n 9 (fun s:ByteArray=>.sc (.string s)) (fun _ _=>True):=(jg.str Tryz.underlying9).map id fun _ _ _=>⟨rfl,trivial⟩
def aer(t:Nd):List AV:=[.sc (.int .u8 t.kind),.sc (.string t.text),.sc (.int .i64 t.num),.am 4 (bh t.kids) none]
theorem acz(l:List Nd):(l.map fun t=>AV.agg (aer t))=bh l:=by
 rw[qa]
 congr 1
 funext t
 rw[ew]
 rfl
theorem Nz{Hh:Type}{l:List Nd}{ds:List (DataW Hh)}(h:pV (fun (t:Nd) d=>t.wt≤Rows.uptoBulk d) l ds):Nd.mA l≤Rows.uptoBulkAll ds:=by
 induction h with
 |nil=>simp[Nd.mA]
 |cons k _ ih =>
  simp only[Nd.mA,Rows.uptoBulkAll]
  omega
theorem NA{Hh:Type}{l:List Int}{ds:List (DataW Hh)}(h:pV (fun (_:Int) d=>1≤Rows.uptoBulk d) l ds):l.length≤Rows.uptoBulkAll ds:=by
 induction h with
 |nil=>simp
 |cons k _ ih =>
  simp only[List.length_cons,Rows.uptoBulkAll]
  omega
section
variable {Hh:Type}{enc:TypeId×Value→Hh}{w:World}
theorem aaB{n:Nat}:jg enc Tryz.prog w n 9 (fun s:ByteArray=>.sc (.string s)) (fun s d=>s.size+1≤Rows.uptoBulk d) :=
 (jg.str Tryz.underlying9).map id fun a d h=>⟨rfl,by
  subst h
  simp only[Rows.uptoBulk,Array.length_toList]
  exact Nat.le_refl _⟩
theorem aaC{n:Nat}:jg enc Tryz.prog w n 2 (fun i:Int=>.sc (.int .i64 i)) (fun i d=>1≤Rows.uptoBulk d) :=
 (jg.int Tryz.underlying2).map id fun a d h=>⟨rfl,by
  rw[h.1]
  simp only[Rows.uptoBulk]
  exact Nat.le_refl _⟩
theorem Ve{n:Nat}:jg enc Tryz.prog w n 22 (fun i:Int=>.sc (.int .u8 i)) (fun i d=>1≤Rows.uptoBulk d) :=
 (jg.int Tryz.underlying22).map id fun a d h=>⟨rfl,by
  rw[h.1]
  simp only[Rows.uptoBulk]
  exact Nat.le_refl _⟩
theorem aaD{n:Nat}:jg enc Tryz.prog w n 3 (fun i:Int=>.sc (.int .i64 i)) (fun i d=>1≤Rows.uptoBulk d) :=
 (jg.int Tryz.underlying3).map id fun a d h=>⟨rfl,by
  rw[h.1]
  simp only[Rows.uptoBulk]
  exact Nat.le_refl _⟩
theorem aaE{n:Nat}:jg enc Tryz.prog w n 30 (fun l:List Int=>.am 1 (ahS l) none) (fun l d=>l.length≤Rows.uptoBulk d):=by
 cases n with
 |zero=>exact jg.zero
 |succ n =>
  refine (jg.slice Tryz.underlying30 (k:=1) (by kernel_rfl) (by decide) (fun _=>rfl) aaD).map id fun a d h=>⟨rfl,?_⟩
  rcases h with ⟨rfl,rfl⟩|⟨ds,r,rfl,h⟩
  ·exact Nat.zero_le _
  ·have:=NA h
   simp only[Rows.uptoBulk,id]
   omega
theorem aaF{n:Nat}:jg enc Tryz.prog w n 25 (fun t:Nd=>.agg (aer t)) (fun t d=>t.wt≤Rows.uptoBulk d):=by
 induction n using Nat.strongRecOn with
 |_ n ih =>
  cases n with
  |zero=>exact jg.zero
  |succ n =>
   have agq:jg enc Tryz.prog w n 23 (fun l:List Nd=>.am 4 (bh l) none) (fun l d=>Nd.mA l≤Rows.uptoBulk d):=by
    cases n with
    |zero=>exact jg.zero
    |succ n =>
     refine (jg.slice Tryz.underlying23 (k:=4) (by kernel_rfl) (by decide) (fun _=>rfl) (ih n (by omega))).map id fun a d h=>⟨by rw[acz];rfl,?_⟩
     rcases h with ⟨rfl,rfl⟩|⟨ds,r,rfl,h⟩
     ·exact Nat.zero_le _
     ·have:=Nz h
      simp only[Rows.uptoBulk,id]
      omega
   refine (jg.struct Tryz.underlying25 (fun a=>?_) (uW.cons (k:=1) rfl (by kernel_rfl) (fun _=>rfl) Ve (uW.cons (k:=1) rfl (by kernel_rfl) (fun _=>rfl) aaB (uW.cons (k:=1) rfl (by kernel_rfl) (fun _=>rfl) aaC (uW.cons (k:=1) rfl (by kernel_rfl) (fun _=>rfl) agq uW.nil))))).map (fun p=>(⟨p.1,p.2.1,p.2.2.1,p.2.2.2.1⟩:Nd)) fun a d h=>⟨rfl,?_⟩
   ·have:Tryz.prog.cellsOf 25=4:=by kernel_rfl
    rw[this]
    rfl
   ·obtain ⟨_,rfl,d1,_,rfl,h1,d2,_,rfl,h2,d3,_,rfl,h3,d4,_,rfl,h4,rfl⟩:=h
    simp only[Rows.uptoBulk,Rows.uptoBulkAll,Nd.wt]
    omega
end
def Sb:List Int:=(List.range 256).map fun c=>if c=9∨c=10∨c=11∨c=12∨c=13∨c=32 then 1 else 0
theorem QI:(Sb.map fun z=>Value.int .u8 z)=(List.range 256).map fun c=>Value.int .u8 (if c=9∨c=10∨c=11∨c=12∨c=13∨c=32 then 1 else 0):=by
 unfold Sb
 rw[List.map_map]
 rfl
theorem FL{P:Program}{w:World}{x:String×DataW Unit}{r:List (String×DataW Unit)}(h:laidMet P (x::r) w):laidMet P r w:=by
 obtain ⟨ps,⟨g,t,cs,fuel,p,q,h1,h2,h3,h4,h5,h6⟩,hn,hc⟩:=h
 subst h6
 exact ⟨q,h5,(List.nodup_append.1 hn).2.1,fun b off hm=>hc b off (List.mem_append_right _ hm)⟩
theorem FM {l : List (String × DataW Unit)} {a : String × DataW Unit} {w : World} (hl : l = [a, ("strings.asciiSpace", Lib.tabData .u8 Sb)]) (h : laidMet Tryz.prog l w) : BL gR [] w := by
 subst hl
 have hT := Lib.tabIs_of_head (t := 264) (e := 5) (n := 256) (by kernel_rfl : Tryz.prog.globalNamed "strings.asciiSpace" = some 0) (by kernel_rfl) (by kernel_rfl) (by kernel_rfl) (by kernel_rfl) (by kernel_rfl) (FL h)
 intro p hp
 refine ⟨?_,tN⟩
 rcases List.mem_cons.1 hp with rfl|hp
 ·unfold Lib.TabIs World.var? at hT
  rw [show Tryz.prog.globalNamed "strings.asciiSpace" = some 0 by kernel_rfl] at hT
  simp only[Option.bind_some] at hT
  split at hT
  ·rename_i cs e fr hh
   refine ⟨e,fr,by rw[hh,Option.some.inj hT,QI]⟩
  ·cases hT
 ·cases hp
end Go.Proofs.YtnoplgongieehaaGreatDoor
