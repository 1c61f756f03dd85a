import Derived.Test.YtnoplgongieehaaGreatDoorM6
import Derived.Test.YtnoplgongieehaaGreatDoorM7
import Derived.Test.YtnoplgongieehaaGreatDoorM8
import Derived.Test.YtnoplgongieehaaGreatDoorM9
import Derived.Test.YtnoplgongieehaaGreatDoorM5
import Derived.Test.YtnoplgongieehaaGreatDoorM4
import Derived.Test.YtnoplgongieehaaGreatDoorProg
import Derived.Test.YtnoplgongieehaaGreatDoorM3
import Derived.KernelRfl
import Derived.Test.YtnoplgongieehaaGreatDoorRows
import Derived.Lib.LaidTab
namespace Go.Proofs.YtnoplgongieehaaGreatDoor
open Go.RowKit
set_option maxHeartbeats 0
set_option maxRecDepth 1000000
set_option linter.unusedVariables false
set_option linter.unusedSimpArgs false
theorem A5(n:Nd)(hw:n.wt≤100000)(hs:n.size≤10000)(x:ByteArray)(path:List Int)(hp:path.length≤1000000){H:Y}{v w:AV}(hv:View H v (eu n))(BX:View H w (.am 1 (aK path) none)):D Tryz.prog 14 [v,.sc (.string x),w] H (.ret (.aO [fF (bw n x path).1 H.length,.sc (.int .i64 (bw n x path).2)])) (gd (bw n x path).1 H.length++H):=by
 have h1:=U5 n hw hs x path hp none
 rw[ky] at h1
 obtain ⟨t,ht⟩:∃t,(bw n x path).1=t:=⟨_,rfl⟩
 obtain ⟨e,he⟩:∃e,(bw n x path).2=e:=⟨_,rfl⟩
 rw[ht,he] at h1 ⊢
 have hop:(AV.aO [fF t 0,.sc (.int .i64 e)]).op=true:=by
  have:=(Jk 0 t 0).2.2.1
  simp only[AV.op,AV.ql,this,Bool.and_self]
 have h2:=LP (.cons hv (.cons .sc (.cons BX .nil))) hop (ZZ (Jk 0 t 0).2.2.2) h1
 have e1:(AV.aO [fF t 0,.sc (.int .i64 e)]).up H.length = .aO [fF t H.length,.sc (.int .i64 e)]:=by
  simp only[AV.up,AV.mP,(Jk H.length t 0).1]
  rfl
 have e2:Y.up H.length (gd t 0)=gd t H.length:=(Jk H.length t 0).2.1
 rw[e1,e2] at h2
 exact h2
theorem tK(H:Y):D Tryz.prog 8 [] H (.ret (.sc (.bool true))) H:=by
 have q1:=fun K=>U9 K
 have q2:=fun K=>Va K
 have q3:=fun K=>QG K
 have q4:=fun K=>Vc K
 have q5:=fun K=>Vd K
 have b1:=qy Qx
 have b2:=qy Qy
 have b3:=qy M2
 have b4:=qy Qz
 have b5:=qy QA
 have a1:=aak
 have a2:=aal
 have r1:=QB
 have r2:=QC
 have r3:=QD
 have r4:=of_decide_eq_true aam
 obtain ⟨t1,ht1⟩:∃t,tG=t:=⟨_,rfl⟩
 obtain ⟨t2,Uc⟩:∃t,EQ=t:=⟨_,rfl⟩
 obtain ⟨t3,ht3⟩:∃t,zK=t:=⟨_,rfl⟩
 obtain ⟨t4,ht4⟩:∃t,ER=t:=⟨_,rfl⟩
 obtain ⟨t5,ht5⟩:∃t,ET=t:=⟨_,rfl⟩
 rw[ht1] at q1 b1 a1 a2 r1 r2 r4
 rw[Uc] at q2 b2 a1
 rw[ht3] at q3 b3 r3
 rw[ht4] at q4 b4 a2
 rw[ht5] at q5 b5 r2
 clear ht1 Uc ht3 ht4 ht5
 unfold Qt at q1
 unfold Qu at q2
 unfold Jm at q3
 unfold Qv at q4
 unfold Qw at q5
 have hp:∀F:Y,View F (.am 1 [.sc (.int .i64 0),.sc (.int .i64 0),.sc (.int .i64 0)] (some [])) (.am 1 (aK [0,0,0]) none):=fun F=>Ea (l:=[0,0,0])
 have k1:=fun F v hv=>A5 t1 (by omega) (by omega) ⟨#[98]⟩ [0,0,0] (by simp) (H:=F) (v:=v) hv (hp F)
 have k3:=fun F v hv=>A5 t3 (by omega) (by omega) ⟨#[98]⟩ [0,0,0] (by simp) (H:=F) (v:=v) hv (hp F)
 rw[r1] at k1
 rw[r3] at k3
 obtain ⟨u1,hu1⟩:∃u,(bw t1 ⟨#[98]⟩ [0,0,0]).1=u:=⟨_,rfl⟩
 obtain ⟨u3,hu3⟩:∃u,(bw t3 ⟨#[98]⟩ [0,0,0]).1=u:=⟨_,rfl⟩
 rw[hu1] at k1 r2 r4
 rw[hu3] at k3
 clear hu1 hu3
 simp only[ey u1] at k1
 simp only[ey u3] at k3
 rw[ew] at q1 q2 q3 q4 q5
 refine aG (Nat.le_refl _) (dk8 (aA ?_))
 simp only[ic8,ux]
 refine Z fun L hL=>?_
 refine aw ?_
 refine hL _ _ ?_
 clear hL
 refine Z fun L hL=>?_
 refine aw ?_
 refine ae (q1 _) ?_
 refine aw ?_
 refine ae (q2 _) ?_
 refine aw ?_
 refine hL _ _ ?_
 clear hL
 refine Z fun L hL=>?_
 refine aw ?_
 have v1:∀F:Y,View F (.agg [.sc (.int .u8 t1.kind),.sc (.string t1.text),.sc (.int .i64 t1.num),.am 4 (bh t1.kids) none]) (eu t1):=fun F=>by have:=iE t1 none F;rw[aQ] at this;exact this
 have v2:∀F:Y,View F (.agg [.sc (.int .u8 t2.kind),.sc (.string t2.text),.sc (.int .i64 t2.num),.am 4 (bh t2.kids) none]) (eu t2):=fun F=>by have:=iE t2 none F;rw[aQ] at this;exact this
 have v3:∀F:Y,View F (.agg [.sc (.int .u8 t3.kind),.sc (.string t3.text),.sc (.int .i64 t3.num),.am 4 (bh t3.kids) none]) (eu t3):=fun F=>by have:=iE t3 none F;rw[aQ] at this;exact this
 have v4:∀F:Y,View F (.agg [.sc (.int .u8 t4.kind),.sc (.string t4.text),.sc (.int .i64 t4.num),.am 4 (bh t4.kids) none]) (eu t4):=fun F=>by have:=iE t4 none F;rw[aQ] at this;exact this
 have v5:∀F:Y,View F (.agg [.sc (.int .u8 t5.kind),.sc (.string t5.text),.sc (.int .i64 t5.num),.am 4 (bh t5.kids) none]) (eu t5):=fun F=>by have:=iE t5 none F;rw[aQ] at this;exact this
 refine ae (k1 _ _ (v1 _)) ?_
 have hG0:=j6 (t:=u1) (H:=some ⟨4,[.agg [.sc (.int .u8 t2.kind),.sc (.string t2.text),.sc (.int .i64 t2.num),.am 4 (bh t2.kids) none]],true,25⟩::some ⟨4,[.agg [.sc (.int .u8 t1.kind),.sc (.string t1.text),.sc (.int .i64 t1.num),.am 4 (bh t1.kids) none]],true,25⟩::H)
 have aau:∀i,i<H.length+2→Y.find (gd u1 (H.length+2)++(some ⟨4,[.agg [.sc (.int .u8 t2.kind),.sc (.string t2.text),.sc (.int .i64 t2.num),.am 4 (bh t2.kids) none]],true,25⟩::some ⟨4,[.agg [.sc (.int .u8 t1.kind),.sc (.string t1.text),.sc (.int .i64 t1.num),.am 4 (bh t1.kids) none]],true,25⟩::H)) i=Y.find (some ⟨4,[.agg [.sc (.int .u8 t2.kind),.sc (.string t2.text),.sc (.int .i64 t2.num),.am 4 (bh t2.kids) none]],true,25⟩::some ⟨4,[.agg [.sc (.int .u8 t1.kind),.sc (.string t1.text),.sc (.int .i64 t1.num),.am 4 (bh t1.kids) none]],true,25⟩::H) i:=fun i hi=>Y.bF (by simp only[List.length_cons];omega)
 have ajv:(gd u1 (H.length+2)++(some ⟨4,[.agg [.sc (.int .u8 t2.kind),.sc (.string t2.text),.sc (.int .i64 t2.num),.am 4 (bh t2.kids) none]],true,25⟩::some ⟨4,[.agg [.sc (.int .u8 t1.kind),.sc (.string t1.text),.sc (.int .i64 t1.num),.am 4 (bh t1.kids) none]],true,25⟩::H)).length=u1.size+(H.length+2):=by rw[List.length_append,iL];simp
 simp only[List.length_cons,Nat.add_assoc,Nat.reduceAdd] at hG0 ⊢
 generalize gd u1 (H.length+2)++(some ⟨4,[.agg [.sc (.int .u8 t2.kind),.sc (.string t2.text),.sc (.int .i64 t2.num),.am 4 (bh t2.kids) none]],true,25⟩::some ⟨4,[.agg [.sc (.int .u8 t1.kind),.sc (.string t1.text),.sc (.int .i64 t1.num),.am 4 (bh t1.kids) none]],true,25⟩::H)=G at *
 have g1:Y.find G H.length=some ⟨4,[.agg [.sc (.int .u8 t1.kind),.sc (.string t1.text),.sc (.int .i64 t1.num),.am 4 (bh t1.kids) none]],true,25⟩:=by rw[aau _ (by omega),ai (by simp),aJ rfl]
 have g2:Y.find G (H.length+1)=some ⟨4,[.agg [.sc (.int .u8 t2.kind),.sc (.string t2.text),.sc (.int .i64 t2.num),.am 4 (bh t2.kids) none]],true,25⟩:=by rw[aau _ (by omega),aJ (by simp)]
 have hGo:∀i,i<H.length→Y.find G i=Y.find H i:=fun i hi=>by rw[aau _ (by omega),ai (by simp;omega),ai hi]
 refine aw ?_
 refine hL _ _ ?_
 clear hL
 refine Z fun L hL=>?_
 refine aw ?_
 refine ae (q3 _) ?_
 refine aw ?_
 refine ae (k3 _ _ (v3 _)) ?_
 have M9:∀i,i<G.length+1→Y.find (gd u3 (G.length+1)++(some ⟨4,[.agg [.sc (.int .u8 u1.kind),.sc (.string u1.text),.sc (.int .i64 u1.num),aW 4 (eT u1.kids (H.length+3)) (H.length+2)]],true,25⟩::G)) i=Y.find (some ⟨4,[.agg [.sc (.int .u8 u1.kind),.sc (.string u1.text),.sc (.int .i64 u1.num),aW 4 (eT u1.kids (H.length+3)) (H.length+2)]],true,25⟩::G) i:=fun i hi=>Y.bF (by simp only[List.length_cons];omega)
 have ajw:(gd u3 (G.length+1)++(some ⟨4,[.agg [.sc (.int .u8 u1.kind),.sc (.string u1.text),.sc (.int .i64 u1.num),aW 4 (eT u1.kids (H.length+3)) (H.length+2)]],true,25⟩::G)).length=u3.size+(G.length+1):=by rw[List.length_append,iL];simp
 simp only[List.length_cons,Nat.add_assoc,Nat.reduceAdd]
 generalize gd u3 (G.length+1)++(some ⟨4,[.agg [.sc (.int .u8 u1.kind),.sc (.string u1.text),.sc (.int .i64 u1.num),aW 4 (eT u1.kids (H.length+3)) (H.length+2)]],true,25⟩::G)=K at *
 have gl:=Y.ax g2
 have w1:Y.find K H.length=_:=(M9 _ (by omega)).trans ((ai (by omega)).trans g1)
 have w2:Y.find K (H.length+1)=_:=(M9 _ (by omega)).trans ((ai (by omega)).trans g2)
 have w3:Y.find K G.length=_:=(M9 _ (by omega)).trans (aJ rfl)
 have hKo:∀i,i<H.length→Y.find K i=Y.find H i:=fun i hi=>(M9 i (by omega)).trans ((ai (by omega)).trans (hGo i hi))
 have PY:dP K u1 (H.length+2):=hG0.of fun i h1 h2=>(M9 i (by omega)).trans (ai (by omega))
 have iG:(aW 4 (eT u1.kids (H.length+3)) (H.length+2)).cells=[aW 4 (eT u1.kids (H.length+3)) (H.length+2)]:=nU
 refine aw ?_
 refine hL _ _ ?_
 clear hL
 refine Z fun L hL=>?_
 refine aI (ei @w1 @w2 w3 iG) ?_
 have m1:=fun F=>Em t1 t2 (by omega) (by omega) (by omega) (by omega) (H:=F) (v1 F) (v2 F)
 have m2:=fun F=>Em t1 t4 (by omega) (by omega) (by omega) (by omega) (H:=F) (v1 F) (v4 F)
 rw[a1] at m1
 rw[a2] at m2
 have m3:∀F:Y,dP F u1 (H.length+2)→D Tryz.prog 16 [.agg [.sc (.int .u8 u1.kind),.sc (.string u1.text),.sc (.int .i64 u1.num),aW 4 (eT u1.kids (H.length+3)) (H.length+2)],.agg [.sc (.int .u8 t5.kind),.sc (.string t5.text),.sc (.int .i64 t5.num),.am 4 (bh t5.kids) none]] F (.ret (.sc (.bool true))) F:=fun F hF=>by
  have h1:=AH u1 hF
  rw[ey] at h1
  have h2:=qY u1 (by omega) t5 none none []
  rw[ky,ky,r2] at h2
  exact tc (.cons h1 (.cons (v5 F) .nil)) .sc h2
 refine aL (m1 _) ?_
 refine aI (ei @w1 @w2 w3 iG) ?_
 refine aL (q4 _) ?_
 refine aI (ei @w1 @w2 w3 iG) ?_
 refine aL (m2 _) ?_
 refine aI (ei @w1 @w2 w3 iG) ?_
 refine aL (q5 _) ?_
 refine aI (ei @w1 @w2 w3 iG) ?_
 refine aL (m3 _ (PY.of fun i h1 h2=>ai (by omega))) ?_
 refine aI (ei @w1 @w2 w3 iG) ?_
 refine hL _ _ ?_
 clear hL
 refine aw ?_
 exact px (fun i hi=>(ai (by have:=Y.ax w3;omega)).trans (hKo i hi)) (.same trivial)
theorem aav(t:Nd):∀most,bulk t most≤most→(t.wt:Int)≤8*bulk t most:=by
 induction t using Nd.ind with
 |_ t ih =>
  intro most h
  rw[zk] at h ⊢
  rw[Nd.oG]
  have key:∀(l:List Nd)(c:Int),(∀k∈l,∀most,bulk k most≤most→(k.wt:Int)≤8*bulk k most)→ij l most c≤most→8*c+(Nd.mB l:Int)≤8*ij l most c:=by
   intro l
   induction l with
   |nil=>intro c _ _;simp[ij,Nd.mB]
   |cons x r fC =>
    intro c hx hc
    unfold ij at hc ⊢
    by_cases d:c≤most
    ·rw[if_pos d] at hc ⊢
     have h1:=fC _ (fun k hk=>hx k (by simp[hk])) hc
     have h2:=GZ most r (c+bulk x (most-c))
     have h3:=hx x (by simp) (most-c) (by omega)
     simp only[Nd.mB]
     omega
    ·rw[if_neg d] at hc
     omega
  have:=key t.kids _ ih h
  omega
theorem aaw(t:Nd):t.size≤t.wt:=by
 induction t using Nd.ind with
 |_ t ih =>
  rw[Nd.oG,Nd.size_eq]
  have key:∀l:List Nd,(∀k∈l,k.size≤k.wt)→Nd.ay l≤Nd.mB l:=by
   intro l
   induction l with
   |nil=>intro _;simp[Nd.ay]
   |cons x r fC =>
    intro hx
    have h1:=hx x (by simp)
    have h2:=fC fun k hk=>hx k (by simp[hk])
    simp only[Nd.ay,Nd.mB]
    omega
  have:=key t.kids ih
  omega
theorem QH{t:Nd}{H:Y}:iO (qu t H.length++H) t H.length:=by
 have h:=EA (l:=t.kids) (H:=H)
 have e:qu t H.length++H=lg t.kids (H.length+1)++(mH (jG t.kids H.length)::H):=by rw[Eu,List.append_assoc];rfl
 rw[e]
 intro i xs hx
 rw[qv] at hx
 cases i with
 |zero =>
  simp only[List.getElem?_cons_zero,Option.some.injEq] at hx
  rw[←hx]
  exact h.row
 |succ i =>
  rw[List.getElem?_cons_succ] at hx
  have:=h.kids i xs hx
  rw[show H.length+(i+1)=H.length+1+i by omega]
  exact this
structure cg where
 nil:Bool
 n:Nat
 id:Nat
 c:Option Nat
instance:Inhabited cg:=⟨⟨true,0,0,none⟩⟩
def cg.av(k:Nat)(r:cg):AV:=if r.nil then .am 0 [] (some []) else .aD k r.id 0 r.n r.c
theorem cg.th{k:Nat}{r:cg}(h:r.nil=true):r.av k = .am 0 [] (some []):=by simp[cg.av,h]
theorem cg.nK{k:Nat}{r:cg}(h:r.nil=false):r.av k = .aD k r.id 0 r.n r.c:=by simp[cg.av,h]
theorem cg.A6{k:Nat}{r:cg}:(r.av k).bT=false∧(r.av k).az=1∧(r.av k).isAgg=false:=by unfold cg.av;split<;>exact ⟨rfl,rfl,rfl⟩
def gF(k:Nat)(rs:List cg):List AV:=rs.map (cg.av k)
theorem wV{k:Nat}{rs:List cg}:(gF k rs).length=rs.length:=by simp[gF]
theorem wW{k:Nat}{a b:List cg}:gF k (a++b)=gF k a++gF k b:=by simp[gF]
def fU(rs:List cg)(i:Nat):cg:=rs.getD i default
theorem sD{k:Nat}{rs:List cg}:gF k rs≠[]↔rs≠[]:=by cases rs<;>simp[gF]
theorem sE{rs:List cg}{k:Nat}(h:k<rs.length):fU rs k∈rs:=by
 unfold fU
 rw[List.getD_eq_getElem?_getD,List.getElem?_eq_getElem h]
 exact List.getElem_mem h
def cC(rs:List cg):List Nat:=(rs.filter fun r=>!r.nil).map (·.id)
theorem A7{rs:List cg}{k:Nat}(h:k<rs.length)(hn:(fU rs k).nil=false):(fU rs k).id∈cC rs :=
 List.mem_map.2 ⟨fU rs k,List.mem_filter.2 ⟨sE h,by simp[hn]⟩,rfl⟩
theorem Jw{rs:List cg}{i:Nat}(h:i∈cC rs):∃k,k<rs.length∧(fU rs k).nil=false∧(fU rs k).id=i:=by
 obtain ⟨o,h1,rfl⟩:=List.mem_map.1 h
 obtain ⟨h2,h3⟩:=List.mem_filter.1 h1
 obtain ⟨k,hk,e⟩:=List.getElem_of_mem h2
 have e2:fU rs k=o:=by
  unfold fU
  rw[List.getD_eq_getElem?_getD,List.getElem?_eq_getElem hk]
  exact e
 exact ⟨k,hk,by rw[e2];simpa using h3,by rw[e2]⟩
def gOK(s:Shape)(H:Y)(r:cg):Prop:=∃es ex,Y.find H r.id=some ⟨s.k,es,ex,s.ty⟩∧(r.c=none→ex=false∧r.n≤es.length)∧(∀m,r.c=some m→qn r.n m es ex)∧∀x∈es,s.is x
structure mK(s:Shape)(H:Y)(rs:List cg):Prop where
 zero:∀r∈rs,r.nil=true→r.n=0
 blk:∀r∈rs,r.nil=false→gOK s H r
 apart:(cC rs).Nodup
 rF:∀r∈rs,r.n≤10000000
theorem Ve{rs:List cg}(h:(cC rs).Nodup):∀k l,k<rs.length→l<rs.length→(fU rs k).nil=false→(fU rs l).nil=false→(fU rs k).id=(fU rs l).id→k=l:=by
 induction rs with
 |nil=>intro k l hk;simp at hk
 |cons r t ih =>
  have dW:∀{j:Nat},j<t.length→(fU t j).nil=false→(fU t j).id∈cC t:=fun hj hn=>A7 hj hn
  have h2:(cC t).Nodup:=by
   unfold cC at h ⊢
   simp only[List.filter_cons] at h
   split at h
   ·exact (List.nodup_cons.1 h).2
   ·exact h
  have h3:r.nil=false→r.id∉cC t:=fun hn=>by
   unfold cC at h ⊢
   rw[List.filter_cons_of_pos (by simp[hn])] at h
   exact (List.nodup_cons.1 h).1
  intro k l hk hl nk nl e
  cases k with
  |zero =>
   cases l with
   |zero=>rfl
   |succ l =>
    have h4:l<t.length:=by simpa using hl
    exact absurd (show r.id∈cC t from (show r.id=(fU t l).id from e)▸dW h4 nl) (h3 nk)
  |succ k =>
   have h5:k<t.length:=by simpa using hk
   cases l with
   |zero=>exact absurd (show r.id∈cC t from (show (fU t k).id=r.id from e)▸dW h5 nk) (h3 nl)
   |succ l=>rw[ih h2 k l h5 (by simpa using hl) nk nl e]
theorem mK.lt{s:Shape}{H:Y}{rs:List cg}(h:mK s H rs):∀i∈cC rs,i<H.length:=fun i hi=>by
 obtain ⟨k,hk,hn,rfl⟩:=Jw hi
 obtain ⟨es,ex,h1,_⟩:=h.blk _ (sE hk) hn
 exact Y.ax h1
theorem mK.keep{s:Shape}{H G:Y}{rs:List cg}(h:mK s H rs)(hk:∀i,i∈cC rs→Y.find G i=Y.find H i):mK s G rs :=
 ⟨h.zero,fun r hr hn=>by
  obtain ⟨es,ex,h1,h2⟩:=h.blk r hr hn
  exact ⟨es,ex,(hk _ (List.mem_map.2 ⟨r,List.mem_filter.2 ⟨hr,by simp[hn]⟩,rfl⟩)).trans h1,h2⟩,h.apart,h.rF⟩
theorem Sf{k:Nat}:∀{os:List cg}{es:List AV},gU (gF k os) es→
  ∃rs:List ct,es=nx k rs∧rs.length=os.length∧∀i,i<os.length→(aR rs i).n=(fU os i).n∧(aR rs i).nil=(fU os i).nil∧((fU os i).nil=false→(aR rs i).id=(fU os i).id∧∀m,(fU os i).c=some m→(aR rs i).c=m)
 |[],es,h=>by
  cases h
  exact ⟨[],rfl,rfl,fun i hi=>by simp at hi⟩
 |o::r,es,h=>by
  have h':gU (o.av k::gF k r) es:=h
  cases h' with
  |@cons _ y0 _ s0 hx hr =>
   obtain ⟨rs,e1,e2,e3⟩:=Sf hr
   have key:∀(f:ct)(y:AV),y=f.av k→f.n=o.n→f.nil=o.nil→(o.nil=false→f.id=o.id∧∀m,o.c=some m→f.c=m)→
     ∃QF:List ct,y::s0=nx k QF∧QF.length=(o::r).length∧∀i,i<(o::r).length→(aR QF i).n=(fU (o::r) i).n∧(aR QF i).nil=(fU (o::r) i).nil∧((fU (o::r) i).nil=false→(aR QF i).id=(fU (o::r) i).id∧∀m,(fU (o::r) i).c=some m→(aR QF i).c=m):=by
    intro f y hy h1 h2 h3
    refine ⟨f::rs,by rw[hy,e1];rfl,by simp[e2],fun i hi=>?_⟩
    cases i with
    |zero=>exact ⟨h1,h2,h3⟩
    |succ i=>exact e3 i (by simpa using hi)
   cases hn:o.nil with
   |true =>
    rw[cg.th hn] at hx
    exact key ⟨true,o.n,0,0⟩ _ (show y0=_ from hx) rfl hn.symm (fun h=>by rw[hn] at h;cases h)
   |false =>
    rw[cg.nK hn] at hx
    cases hc:o.c with
    |none =>
     rw[hc] at hx
     obtain ⟨c,_,rfl⟩:=hx
     exact key ⟨false,o.n,o.id,c⟩ _ (by simp[ct.av]) rfl hn.symm (fun _=>⟨rfl,fun m h=>by rw[hc] at h;cases h⟩)
    |some c =>
     rw[hc] at hx
     exact key ⟨false,o.n,o.id,c⟩ _ (show y0=_ from hx) rfl hn.symm (fun _=>⟨rfl,fun m h=>by rw[hc] at h;cases h;rfl⟩)
theorem acB{P:Program}{f:FuncId}(s:Shape)(agt:∀(H:Y)(rs:List ct)(ee:Nat)(B4:Bool)(xX:TypeId)(cl:Option Nat),Y.find H ee=some ⟨1,nx s.k rs,B4,xX⟩→tq s H rs→ee∉tj rs→rs.length≤1000000→
   D P f [.aD 1 ee 0 rs.length cl] H (.ret (.sc (.bool true))) (lD (tj rs) H))
  {H:Y}{os:List cg}{ee:Nat}{B4:Bool}{xX:TypeId}{cl:Option Nat}(hls:Y.find H ee=some ⟨1,gF s.k os,B4,xX⟩)(ok:mK s H os)(E1:ee∉cC os)(hN:os.length≤1000000) :
  D P f [.aD 1 ee 0 os.length cl] H (.ret (.sc (.bool true))) (lD (ee::cC os) H):=by
 have hlt:=Y.ax hls
 refine acf hls (by rw[fQ];exact Nat.le_refl _) fun es mg=>?_
 obtain ⟨rs,rfl,h1,h2⟩:=Sf mg
 have agu:∀k,k<os.length→(fU os k).nil=false→(aR rs k).id≠ee:=fun k hk hn e=>by
  rw[((h2 k hk).2.2 hn).1] at e
  exact E1 (e▸A7 hk hn)
 have ok2:tq s (Y.set H ee (some ⟨1,nx s.k rs,B4,xX⟩)) rs:=by
  refine ⟨fun k hk hn=>?_,fun k hk hn=>?_,fun k l hk hl hn zW e=>?_,fun k hk=>?_⟩
  ·have hk':k<os.length:=by omega
   rw[(h2 k hk').1]
   exact ok.zero _ (sE hk') ((h2 k hk').2.1▸hn)
  ·have hk':k<os.length:=by omega
   have hn':(fU os k).nil=false:=(h2 k hk').2.1▸hn
   obtain ⟨es,ex,b1,b2,b3,b4⟩:=ok.blk _ (sE hk') hn'
   obtain ⟨c1,c2⟩:=(h2 k hk').2.2 hn'
   refine ⟨es,ex,?_,?_,b4⟩
   ·rw[Y.aj (agu k hk' hn'),c1]
    exact b1
   ·rw[(h2 k hk').1]
    cases hc:(fU os k).c with
    |none=>exact .inr (b2 hc)
    |some m=>rw[c2 m hc];exact b3 m hc
  ·have hk':k<os.length:=by omega
   have E5:l<os.length:=by omega
   have n1:(fU os k).nil=false:=(h2 k hk').2.1▸hn
   have n2:(fU os l).nil=false:=(h2 l E5).2.1▸zW
   refine Ve ok.apart k l hk' E5 n1 n2 ?_
   rw[←((h2 k hk').2.2 n1).1,←((h2 l E5).2.2 n2).1]
   exact e
  ·rw[(h2 k (by omega)).1];exact ok.rF _ (sE (by omega))
 have uK:∀i,i∈tj rs→i∈cC os:=fun i hi=>by
  obtain ⟨r,e1,rfl⟩:=List.mem_map.1 hi
  obtain ⟨e2,e3⟩:=List.mem_filter.1 e1
  obtain ⟨k,hk,e⟩:=List.getElem_of_mem e2
  have e4:aR rs k=r:=by
   unfold aR
   rw[List.getD_eq_getElem?_getD,List.getElem?_eq_getElem hk]
   exact e
  have hk':k<os.length:=by omega
  have hn:(fU os k).nil=false:=by rw[←(h2 k hk').2.1,e4];simpa using e3
  rw[←e4,((h2 k hk').2.2 hn).1]
  exact A7 hk' hn
 have hD:=agt (Y.set H ee (some ⟨1,nx s.k rs,B4,xX⟩)) rs ee B4 xX cl (Y.aC hlt) ok2 (fun h=>E1 (uK _ h)) (by omega)
 rw[h1] at hD
 refine hD.agR (by rw[fQ,Y.af];exact Nat.le_refl _) ?_
 refine kw [] (by simp[fQ,Y.af]) (by simp) (by simp) (fun id k hid hk=>.inl ?_) (fun i s k hs=>by simp at hs) (.same trivial)
 obtain ⟨g1,g2⟩:=rG hk
 have g3:id≠ee:=fun e=>g1 (by simp[e])
 have g4:id∉cC os:=fun e=>g1 (by simp[e])
 have g5:Y.find (Y.set H ee (some ⟨1,nx s.k rs,B4,xX⟩)) id=some k:=by rw[Y.aj g3];exact g2
 exact ⟨g5,by rw[qo (fun e=>g4 (uK _ e))];exact g5⟩
def aeq:IC:=(.seq (.ops [iP 2 (.mv kF)]) (.seq (.seq (.ops [iP 3 (xI 0)]) (.block 0 (.loop (.seq (.seq (.ops [iM 16 3,iM 17 0,iP 18 (xL 17),iP 19 (xB .lss 16 18)]) (.cond (.t 19) .skip (.exit 0))) (.seq (.block 1 (.seq (.ops [iP 4 (xI 0)]) (.block 2 (.loop (.seq (.seq (.ops [iM 22 4,iM 23 0,iM 24 3,iP 25 (xA 1 23 24),iH 26 (yD 1 25),iP 27 (xL 26),iP 28 (xB .lss 22 27)]) (.cond (.t 28) .skip (.exit 2))) (.seq (.block 3 (.di [iM 31 0,iM 32 3,iP 33 (xA 1 31 32),iH 34 (yD 1 33),iM 35 4,iM 36 3,iM 37 4,iH 38 (yC 62 36 37),iP 39 (xA 4 34 35),iS 4 39 38] [[],[],[0,1],[2,0,1],[],[],[],[5,6],[3,2,0,1,4,5,6,7],[8,3,2,0,1,4,5,6,7]])) (.ops [iM 29 4,iP 30 (.aN .add (.t 29) (kI 1)),iM 4 30]))))))) (.ops [iM 20 3,iP 21 (.aN .add (.t 20) (kI 1)),iM 3 21])))))) (.seq (.ops [iM 40 0,iP 41 (xL 40),iH 42 (.jN 1 23 bG (.t 41) (.t 41)),iM 5 42]) (.seq (.seq (.ops [iP 6 (xI 0)]) (.block 4 (.loop (.seq (.seq (.ops [iM 43 6,iM 44 0,iP 45 (xL 44),iP 46 (xB .lss 43 45)]) (.cond (.t 46) .skip (.exit 4))) (.seq (.block 5 (.seq (.ops [iM 49 0,iM 50 6,iP 51 (xA 1 49 50),iH 52 (yD 1 51),iM 7 52]) (.seq (.seq (.ops [iP 8 (xI 0)]) (.block 6 (.loop (.seq (.seq (.ops [iM 53 8,iP 54 (.aN .lss (.t 53) (kI 64))]) (.cond (.t 54) .skip (.exit 6))) (.seq (.block 7 (.ops [iM 57 7,iM 58 6,iM 59 0,iM 60 6,iP 61 (xA 1 59 60),iH 62 (yD 1 61),iP 63 (xL 62),iM 64 8,iP 65 (xB .add 63 64),iH 66 (yC 62 58 65),⟨(some 67),none,(.h (.ep 4 25 (.agg [(.sc (.int .u8 0)),(.sc (.string ⟨#[]⟩)),(.sc (.int .i64 0)),bG]) 1 [(0,(.t 66))]))⟩,iH 68 (.ez 4 25 (.t 57) (.t 67)),iM 7 68])) (.ops [iM 55 8,iP 56 (.aN .add (.t 55) (kI 1)),iM 8 56])))))) (.ops [iM 69 5,iM 70 6,iM 71 7,iP 72 (xA 1 69 70),iS 1 72 71])))) (.ops [iM 47 6,iP 48 (.aN .add (.t 47) (kI 1)),iM 6 48])))))) (.seq (.seq (.ops [iP 9 (xI 0)]) (.block 8 (.loop (.seq (.seq (.ops [iM 73 9,iM 74 0,iP 75 (xL 74),iP 76 (xB .lss 73 75)]) (.cond (.t 76) .skip (.exit 8))) (.seq (.block 9 (.seq (.ops [iP 10 (xI 0)]) (.block 10 (.loop (.seq (.seq (.ops [iM 79 10,iM 80 5,iM 81 9,iP 82 (xA 1 80 81),iH 83 (yD 1 82),iP 84 (xL 83),iP 85 (xB .lss 79 84)]) (.cond (.t 85) .skip (.exit 10))) (.seq (.block 11 (.seq (.di [iM 88 5,iM 89 9,iP 90 (xA 1 88 89),iH 91 (yD 1 90),iM 92 10,iP 93 (xA 4 91 92),iH 94 (yA 4 93),iM 95 9,iM 96 10,iH 97 (yC 62 95 96),iH 98 (yC 16 94 97),iP 99 (xN 98),iM 100 99,gM 101 100 false 10,gM 102 100 false 0,gM 103 100 false 9,gP 104 100 false (xA 1 102 103),gH 105 100 false (yD 1 104),gP 106 100 false (xL 105),gP 107 100 false (xB .lss 101 106),gM 108 100 false 107,gM 109 108 true 0,gM 110 108 true 9,gP 111 108 true (xA 1 109 110),gH 112 108 true (yD 1 111),gM 113 108 true 10,gP 114 108 true (xA 4 112 113),gH 115 108 true (yA 4 114),gM 116 108 true 9,gM 117 108 true 10,gH 118 108 true (yC 62 116 117),gH 119 108 true (yC 16 115 118),gP 120 108 true (xN 119),gP 121 100 false (.pick (.t 108) (.t 120) kF),iP 122 (.pick (.t 100) kT (.t 121))] [[],[],[0,1],[2,0,1],[],[3,2,0,1,4],[5,3,2,0,1,4],[],[],[7,8],[6,5,3,2,0,1,4,9,7,8],[10,6,5,3,2,0,1,4,9,7,8],[11,10,6,5,3,2,0,1,4,9,7,8],[12,11,10,6,5,3,2,0,1,4,9,7,8],[12,11,10,6,5,3,2,0,1,4,9,7,8],[12,11,10,6,5,3,2,0,1,4,9,7,8],[14,12,11,10,6,5,3,2,0,1,4,9,7,8,15],[16,14,12,11,10,6,5,3,2,0,1,4,9,7,8,15],[17,16,14,12,11,10,6,5,3,2,0,1,4,9,7,8,15],[13,12,11,10,6,5,3,2,0,1,4,9,7,8,18,17,16,14,15],[19,13,12,11,10,6,5,3,2,0,1,4,9,7,8,18,17,16,14,15],[20,19,13,12,11,10,6,5,3,2,0,1,4,9,7,8,18,17,16,14,15],[20,19,13,12,11,10,6,5,3,2,0,1,4,9,7,8,18,17,16,14,15],[21,20,19,13,12,11,10,6,5,3,2,0,1,4,9,7,8,18,17,16,14,15,22],[23,21,20,19,13,12,11,10,6,5,3,2,0,1,4,9,7,8,18,17,16,14,15,22],[20,19,13,12,11,10,6,5,3,2,0,1,4,9,7,8,18,17,16,14,15],[24,23,21,20,19,13,12,11,10,6,5,3,2,0,1,4,9,7,8,18,17,16,14,15,22,25],[26,24,23,21,20,19,13,12,11,10,6,5,3,2,0,1,4,9,7,8,18,17,16,14,15,22,25],[20,19,13,12,11,10,6,5,3,2,0,1,4,9,7,8,18,17,16,14,15],[20,19,13,12,11,10,6,5,3,2,0,1,4,9,7,8,18,17,16,14,15],[28,20,19,13,12,11,10,6,5,3,2,0,1,4,9,7,8,18,17,16,14,15,29],[27,26,24,23,21,20,19,13,12,11,10,6,5,3,2,0,1,4,9,7,8,18,17,16,14,15,22,25,30,28,29],[31,27,26,24,23,21,20,19,13,12,11,10,6,5,3,2,0,1,4,9,7,8,18,17,16,14,15,22,25,30,28,29],[20,19,13,12,11,10,6,5,3,2,0,1,4,9,7,8,18,17,16,14,15,32,31,27,26,24,23,21,22,25,30,28,29],[12,11,10,6,5,3,2,0,1,4,9,7,8,33,20,19,13,18,17,16,14,15,32,31,27,26,24,23,21,22,25,30,28,29]]) (.cond (.t 122) (.seq (.ops [iP 2 (.mv kF)]) .ret) .skip))) (.ops [iM 86 10,iP 87 (.aN .add (.t 86) (kI 1)),iM 10 87]))))))) (.ops [iM 77 9,iP 78 (.aN .add (.t 77) (kI 1)),iM 9 78])))))) (.seq (.seq (.ops [iP 11 (xI 0)]) (.block 12 (.loop (.seq (.seq (.ops [iM 123 11,iM 124 0,iP 125 (xL 124),iP 126 (xB .lss 123 125)]) (.cond (.t 126) .skip (.exit 12))) (.seq (.block 13 (.seq (.ops [⟨(some 129),none,(.h (.jN 4 25 (.agg [(.sc (.int .u8 0)),(.sc (.string ⟨#[]⟩)),(.sc (.int .i64 0)),bG]) (kI 64) (kI 64)))⟩,iM 12 129]) (.seq (.seq (.ops [iP 13 (xI 0)]) (.block 14 (.loop (.seq (.seq (.ops [iM 130 13,iP 131 (.aN .lss (.t 130) (kI 64))]) (.cond (.t 131) .skip (.exit 14))) (.seq (.block 15 (.ops [iM 134 12,iM 135 13,iM 136 11,iM 137 0,iP 138 (xL 137),iP 139 (xB .add 136 138),iM 140 13,iH 141 (yC 62 139 140),iP 142 (xA 4 134 135),iS 4 142 141])) (.ops [iM 132 13,iP 133 (.aN .add (.t 132) (kI 1)),iM 13 133])))))) (.ops [iM 143 5,iM 144 11,iM 145 0,iM 146 11,iP 147 (xA 1 145 146),iH 148 (yD 1 147),iM 149 12,iH 150 (.ez 4 25 (.t 148) (.t 149)),iP 151 (xA 1 143 144),iS 1 151 150])))) (.ops [iM 127 11,iP 128 (.aN .add (.t 127) (kI 1)),iM 11 128])))))) (.seq (.seq (.ops [iP 14 (xI 0)]) (.block 16 (.loop (.seq (.seq (.ops [iM 152 14,iM 153 0,iP 154 (xL 153),iP 155 (xB .lss 152 154)]) (.cond (.t 155) .skip (.exit 16))) (.seq (.block 17 (.seq (.ops [iP 15 (xI 0)]) (.block 18 (.loop (.seq (.seq (.ops [iM 158 15,iM 159 0,iM 160 14,iP 161 (xA 1 159 160),iH 162 (yD 1 161),iP 163 (xL 162),iP 164 (xB .lss 158 163)]) (.cond (.t 164) .skip (.exit 18))) (.seq (.block 19 (.seq (.di [iM 167 0,iM 168 14,iP 169 (xA 1 167 168),iH 170 (yD 1 169),iM 171 15,iP 172 (xA 4 170 171),iH 173 (yA 4 172),iM 174 14,iM 175 15,iH 176 (yC 62 174 175),iH 177 (yC 16 173 176),iP 178 (xN 177),iM 179 178,gM 180 179 false 5,gM 181 179 false 14,gP 182 179 false (xA 1 180 181),gH 183 179 false (yD 1 182),gM 184 179 false 15,gP 185 179 false (xA 4 183 184),gH 186 179 false (yA 4 185),gM 187 179 false 14,gM 188 179 false 15,gH 189 179 false (yC 62 187 188),gH 190 179 false (yC 16 186 189),gP 191 179 false (xN 190),iP 192 (.pick (.t 179) kT (.t 191))] [[],[],[0,1],[2,0,1],[],[3,2,0,1,4],[5,3,2,0,1,4],[],[],[7,8],[6,5,3,2,0,1,4,9,7,8],[10,6,5,3,2,0,1,4,9,7,8],[11,10,6,5,3,2,0,1,4,9,7,8],[12,11,10,6,5,3,2,0,1,4,9,7,8],[12,11,10,6,5,3,2,0,1,4,9,7,8],[13,12,11,10,6,5,3,2,0,1,4,9,7,8,14],[15,13,12,11,10,6,5,3,2,0,1,4,9,7,8,14],[12,11,10,6,5,3,2,0,1,4,9,7,8],[16,15,13,12,11,10,6,5,3,2,0,1,4,9,7,8,14,17],[18,16,15,13,12,11,10,6,5,3,2,0,1,4,9,7,8,14,17],[12,11,10,6,5,3,2,0,1,4,9,7,8],[12,11,10,6,5,3,2,0,1,4,9,7,8],[20,12,11,10,6,5,3,2,0,1,4,9,7,8,21],[19,18,16,15,13,12,11,10,6,5,3,2,0,1,4,9,7,8,14,17,22,20,21],[23,19,18,16,15,13,12,11,10,6,5,3,2,0,1,4,9,7,8,14,17,22,20,21],[12,11,10,6,5,3,2,0,1,4,9,7,8,24,23,19,18,16,15,13,14,17,22,20,21]]) (.cond (.t 192) (.seq (.ops [iP 2 (.mv kF)]) .ret) .skip))) (.ops [iM 165 15,iP 166 (.aN .add (.t 165) (kI 1)),iM 15 166]))))))) (.ops [iM 156 14,iP 157 (.aN .add (.t 156) (kI 1)),iM 14 157])))))) (.seq (.ops [iP 2 (.mv kT)]) .ret))))))))
theorem aiZ:Dk Tryz.prog 92 aeq [(.t 2)] 193:=aV Tryz.func92
def kU:Shape:=⟨4,25,true⟩
def jp(k i:Nat):AV:=.agg [.sc (.int .u8 0),.sc (.string ⟨#[]⟩),.sc (.int .i64 (gu k i)),.am 0 [] (some [])]
theorem Na{k i:Nat}:kU.is (jp k i):=⟨rfl,rfl,rfl⟩
theorem q9{k i:Nat}:(jp k i).bT=false∧(jp k i).az=4∧(jp k i).isAgg=true:=⟨rfl,rfl,rfl⟩
theorem ke(k i:Int)(H:Y):D Tryz.prog 62 [.sc (.int .i64 k),.sc (.int .i64 i)] H (.ret (.agg [.sc (.int .u8 0),.sc (.string ⟨#[]⟩),.sc (.int .i64 (gu k i)),.am 0 [] (some [])])) H:=qZ k i H
theorem rf(k i:Int)(H:Y):D Tryz.prog 16 [.agg [.sc (.int .u8 0),.sc (.string ⟨#[]⟩),.sc (.int .i64 (gu k i)),.am 0 [] (some [])],.agg [.sc (.int .u8 0),.sc (.string ⟨#[]⟩),.sc (.int .i64 (gu k i)),.am 0 [] (some [])]] H (.ret (.sc (.bool true))) H:=BG k i H
theorem Jx(H:Y)(rs:List ct)(ee:Nat)(B4:Bool)(xX:TypeId)(cl:Option Nat)(hls:Y.find H ee=some ⟨1,nx 4 rs,B4,xX⟩)(ok:tq kU H rs)(E1:ee∉tj rs)(hN:rs.length≤1000000) :
  D Tryz.prog 92 [.aD 1 ee 0 rs.length cl] H (.ret (.sc (.bool true))) (lD (tj rs) H):=by
 refine aG (by rw[fQ];exact Nat.le_refl _) (aiZ (aA ?_))
 simp only[aeq,ux]
 have hlt:=Y.ax hls
 have lw:(nx 4 rs).length=rs.length:=Fx
 have uy:=ok.rF
 have xY:∀{F:Y},gV H F rs→Y.find F ee=some ⟨1,nx 4 rs,B4,xX⟩:=fun h=>(h ee hlt E1).trans hls
 refine Z fun L hL=>?_
 refine fh ?_
 refine hL _ _ ?_
 clear hL
 refine Z fun L hL=>?_
 refine fh ?_
 refine aZ (fun ts F=>∃K:Nat,(K≤rs.length∧F.length=H.length∧gV H F rs∧ik kU jp F rs (fun k=>if k<K then (aR rs k).n else 0))∧Fr (some (.aD 1 ee 0 rs.length cl)::none::some (.sc (.bool false))::some (.sc (.int .i64 K))::none::fg (iv (dL (bf (bf (bf (bf (bf [])))))))) ts) (fun ts _=>rs.length-(aM (ts.getD 3 .top)).toNat) ⟨0,⟨Nat.zero_le _,rfl,.refl,ok.start.less (fun k _=>by simp)⟩,by simp[Fr]⟩ ?_
 rintro ts F ⟨K,⟨hK,qj,hb,hr⟩,aX⟩ L2 bM
 obtain ⟨js,rfl⟩:=aX.opened
 clear aX
 have fe:=xY hb
 refine yV ?_
 refine dz (fun h=>?_) (fun h=>?_)
 ·have h1:K<rs.length:=by omega
  refine fh ?_
  refine aZ (fun ts F=>∃j:Nat,(j≤(aR rs K).n∧F.length=H.length∧gV H F rs∧ik kU jp F rs (fun k=>if k<K then (aR rs k).n else if k=K then j else 0))∧Fr (some (.aD 1 ee 0 rs.length cl)::none::some (.sc (.bool false))::some (.sc (.int .i64 K))::some (.sc (.int .i64 j))::fg (iv (dL (bf (bf (bf (bf (bf [])))))))) ts) (fun ts _=>(aR rs K).n-(aM (ts.getD 4 .top)).toNat) ⟨0,⟨Nat.zero_le _,qj,hb,hr.less (fun k _=>mk_zero (n:=fun k=>(aR rs k).n) k)⟩,by simp[Fr]⟩ ?_
  clear hb hr fe qj
  rintro ts F ⟨j,⟨hj,qj,hb,hr⟩,aX⟩ L3 sr
  obtain ⟨js,rfl⟩:=aX.opened
  clear aX
  have fe:=xY hb
  have hg:=qm (k:=4) h1
  have k0:(0:Int)≤(K:Int):=by omega
  have k1:(K:Int)<rs.length:=by omega
  cases hn:(aR rs K).nil with
  |true =>
   rw[ct.th hn] at hg
   have hz:=ok.nil K h1 hn
   have hj0:j=0:=by omega
   subst hj0
   refine df (yR fe lw hg h1 k0 k1) ?_
   exact bM _ _ ⟨K+1,⟨by omega,qj,hb,hr.less (fun k _=>LU (n:=fun k=>(aR rs k).n) (by omega) k)⟩,by simp[Fr]⟩ (by simp[aM,mk];omega)
  |false =>
   rw[ct.nK hn] at hg
   have hn0:=uy K h1
   obtain ⟨es,ex,hf,hc,hsh,hm⟩:=hr K h1 hn
   have rk:Y.find F (aR rs K).id=some ⟨4,es,ex,25⟩:=hf
   have hce:=kH hc
   refine df (yR fe lw hg h1 k0 k1) ?_
   refine dz (fun h=>?_) (fun h=>?_)
   ·have h2:j<(aR rs K).n:=by omega
    have j0:(0:Int)≤(j:Int):=by omega
    have j1:(j:Int)<(aR rs K).n:=by omega
    have j2:j<es.length:=by omega
    refine df (yR fe lw hg h1 k0 k1) ?_
    refine aL (ke _ _ _) ?_
    have CX:=hsh _ (List.getElem_mem j2)
    have hgx:es.getD j .top=es[j]:=by simp[List.getD,j2]
    have x1:(es.getD j .top).az=4:=by rw[hgx];exact CX.2.1
    have x2:(es.getD j .top).isAgg=true:=by rw[hgx];exact CX.2.2
    have x3:∀c,AV.lu (es.getD j .top) 0 (.agg [.sc (.int .u8 0),.sc (.string ⟨#[]⟩),c,.am 0 [] (some [])]) = .agg [.sc (.int .u8 0),.sc (.string ⟨#[]⟩),c,.am 0 [] (some [])]:=fun c=>G4 x1 rfl rfl
    refine df (Rk fe lw hg h1 k0 k1 rk j0 j1 j2 x1 x2 x3) ?_
    refine sr _ _ ⟨j+1,⟨by omega,by rw[Y.af];exact qj,hb.set h1 hn,?_⟩,by simp[Fr]⟩ (by simp[aM,mk];omega)
    refine hr.put ok h1 hn ?_ (fun k e=>af1 (n:=fun k=>(aR rs k).n) k e)
    have:=il.store (m:=j) (mk:=jp K) hf hc hsh (fun i hi=>hm i (by simpa using hi)) h2 Na
    show il _ _ _ _ _ _ (if K<K then _ else if K=K then _ else _)
    rw[if_neg (Nat.lt_irrefl _),if_pos rfl]
    exact this
   ·have hj0:j=(aR rs K).n:=by omega
    subst hj0
    clear hf rk hc hsh hm
    refine fh ?_
    exact bM _ _ ⟨K+1,⟨by omega,qj,hb,hr.less (fun k _=>LU (n:=fun k=>(aR rs k).n) (by omega) k)⟩,by simp[Fr]⟩ (by simp[aM,mk];omega)
 ·have QI:K=rs.length:=by omega
  subst QI
  refine hL _ _ ?_
  clear hL bM
  have hr:ik kU jp F rs (fun k=>(aR rs k).n):=hr.less (fun k hk=>by rw[if_pos hk];exact Nat.le_refl _)
  refine Z fun L hL=>?_
  refine fh ?_
  refine ⟨by omega,?_⟩
  simp only[qj]
  refine hL _ _ ?_
  clear hL
  refine Z fun L hL=>?_
  refine fh ?_
  refine aZ (fun ts F=>∃(K:Nat)(jl:List AV),(K≤rs.length∧H.length<F.length∧gV H F rs∧ik kU jp F rs (fun k=>(aR rs k).n)∧Y.find F H.length=some ⟨1,jl,true,23⟩∧(jl.length=rs.length∧zm jl)∧dH 4 jp F rs H.length F.length jl K (fun k=>(aR rs k).n+64))∧Fr (some (.aD 1 ee 0 rs.length cl)::none::some (.sc (.bool false))::none::none::some (.aD 1 H.length 0 rs.length (some rs.length))::some (.sc (.int .i64 K))::none::none::iv (dL (bf (bf (bf (bf (bf []))))))) ts) (fun ts _=>rs.length-(aM (ts.getD 6 .top)).toNat) ?_ ?_
  ·exact ⟨0,_,⟨Nat.zero_le _,by simp;omega,hb.cons (by omega),hr.cons,aJ (by omega),⟨by simp,.rep ⟨rfl,rfl⟩⟩,dH.zero⟩,by simp[Fr]⟩
  clear hb hr fe qj
  rintro ts F ⟨K,jl,⟨hK,qj,hb,hr,mG,⟨oP,hone⟩,oW⟩,aX⟩ L2 bM
  obtain ⟨js,rfl⟩:=aX.opened
  clear aX
  have fe:=xY hb
  refine yV ?_
  refine dz (fun h=>?_) (fun h=>?_)
  ·have h1:K<rs.length:=by omega
   have hg:=qm (k:=4) h1
   have k0:(0:Int)≤(K:Int):=by omega
   have k1:(K:Int)<rs.length:=by omega
   have hn0:=uy K h1
   have mb:=ct.D4 (k:=4) (ok.nil K h1)
   obtain ⟨a1,a2,a3,a4,a5⟩:_∧_∧_∧_∧_:=⟨ct.I0 (k:=4) (r:=aR rs K),ct.xC (k:=4) (r:=aR rs K),ct.AC (k:=4) (r:=aR rs K),ct.AD (k:=4) (r:=aR rs K),ct.AE (k:=4) (r:=aR rs K)⟩
   refine eQ (yT fe lw hg h1 k0 k1 a1 a2 a3 a4 a5 mb) ?_
   obtain ⟨B,hB⟩:∃B,B=F.length:=⟨_,rfl⟩
   rw[←hB] at oW
   refine aZ (fun ts F=>∃(j:Nat)(g:AV),(j≤64∧B≤F.length∧gV H F rs∧ik kU jp F rs (fun k=>(aR rs k).n)∧Y.find F H.length=some ⟨1,jl,true,23⟩∧dH 4 jp F rs H.length B jl K (fun k=>(aR rs k).n+64)∧Grow kU (jp K) F (aR rs K) B j g)∧Fr (some (.aD 1 ee 0 rs.length cl)::none::some (.sc (.bool false))::none::none::some (.aD 1 H.length 0 rs.length (some rs.length))::some (.sc (.int .i64 K))::some (g)::some (.sc (.int .i64 j))::iv (dL (bf (bf (bf (bf (bf []))))))) ts) (fun ts _=>64-(aM (ts.getD 8 .top)).toNat) ?_ ?_
   ·refine ⟨0,_,⟨by omega,by omega,hb,hr,mG,oW,?_⟩,by simp[Fr];rfl⟩
    cases hn:(aR rs K).nil with
    |true=>rw[ct.th hn];exact .nil hn rfl
    |false=>rw[ct.nK hn];exact .room hn (hr K h1 hn)
   rw[←hB] at qj
   have hBg:H.length<B:=by omega
   clear hb hr mG fe qj oW hB
   rintro ts F ⟨j,g,⟨hj,P7,hb,hr,mG,oW,KQ⟩,aX⟩ L3 sr
   obtain ⟨js,rfl⟩:=aX.opened
   clear aX
   have fe:=xY hb
   refine yV ?_
   refine dz (fun h=>?_) (fun h=>?_)
   ·have h2:j<64:=by omega
    refine eQ (yT fe lw hg h1 k0 k1 a1 a2 a3 a4 a5 mb) ?_
    refine ae (ke _ _ _) ?_
    have hmk:AV.agg [.sc (.int .u8 0),.sc (.string ⟨#[]⟩),.sc (.int .i64 (gu K ((aR rs K).n+j))),.am 0 [] (some [])]=jp K ((aR rs K).n+j):=by unfold jp;rw[Int.natCast_add]
    have hn0:=uy K h1
    have qB:∀k,k<rs.length→(aR rs k).nil=false→(aR rs k).id<H.length:=fun k hk hn=>by
     obtain ⟨es,ex,e1,_⟩:=ok.blk k hk hn
     exact Y.ax e1
    cases KQ with
    |nil hn hj0 =>
     subst hj0
     have hz:=ok.nil K h1 hn
     rw[hz] at hmk
     simp only[hz,Int.natCast_zero,Int.add_zero,Nat.add_zero] at hmk
     refine eQ (Fv fe lw hg h1 k0 k1 hz hmk @q9) ?_
     refine sr _ _ ⟨1,_,⟨by omega,by simp;omega,hb.cons (by omega),hr.cons,by rw[Y.bA (by omega)];exact mG,oW.keep (fun id e1 e2=>Y.bA (by omega)) (fun k hk hn=>Y.bA (by have:=qB k (by omega) hn;omega)),.new (gid:=F.length) P7 (by simp) ?_⟩,by simp[Fr,hz];rfl⟩ (by simp[aM,mk])
     rw[Y.iw,hz]
     rfl
    |room hn hrow =>
     obtain ⟨es,ex,hf,hc,hsh,hm⟩:=hrow
     have rk:Y.find F (aR rs K).id=some ⟨4,es,ex,25⟩:=hf
     have hce:=kH hc
     have hid:=qB K h1 hn
     have QJ:kU.k=4:=rfl
     have sV:=hc
     unfold qn at sV
     have vM:(aR rs K).n+(j+1)≤100000000:=by omega
     by_cases hroom:(aR rs K).n+(j+1)≤(aR rs K).c
     ·have qL:il kU (jp K) (Y.set F (aR rs K).id (some ⟨4,es.take ((aR rs K).n+j)++jp K ((aR rs K).n+j)::es.drop ((aR rs K).n+(j+1)),ex,25⟩)) (aR rs K).id ((aR rs K).n+(j+1)) (aR rs K).c ((aR rs K).n+(j+1)):=by
       have:=il.ez (ys:=[jp K ((aR rs K).n+j)]) hf hc hsh hm hroom (fun x hx=>by rw[List.mem_singleton.1 hx];exact Na) (fun i hi=>by
        have:i=0:=by simpa using hi
        subst this
        rfl)
       rw[List.append_assoc] at this
       exact this
      refine eQ (Rk fe lw hg h1 k0 k1 hmk rk hroom @q9 QJ sV vM) ?_
      refine sr _ _ ⟨j+1,_,⟨by omega,by rw[Y.af];exact P7,hb.set h1 hn,hr.put ok h1 hn ?_ (fun k e=>Nat.le_refl _),by rw[Y.aj (by omega)];exact mG,oW.keep (fun id e1 e2=>Y.aj (by omega)) (fun k hk zW=>Y.aj (fun e=>by have:=ok.apart k K (by omega) h1 zW hn e;omega)),.room hn ?_⟩,by simp[Fr];rfl⟩ (by simp[aM,mk];omega)
      ·exact (qL.shrink (by omega)).less (by first|omega|(simp only;omega))
      ·exact qL
     ·refine eQ (Rk fe lw hg h1 k0 k1 hmk rk hroom @q9 QJ sV vM) ?_
      refine sr _ _ ⟨j+1,_,⟨by omega,by simp;omega,hb.cons (by omega),hr.cons,by rw[Y.bA (by omega)];exact mG,oW.keep (fun id e1 e2=>Y.bA (by omega)) (fun k hk hn=>Y.bA (by have:=qB k (by omega) hn;omega)),.new (gid:=F.length) P7 (by simp) ?_⟩,by simp[Fr];rfl⟩ (by simp[aM,mk];omega)
      rw[Y.iw,LQ hce hm,BB]
      rfl
    |new ajc ajd hf =>
     rename_i gid
     have rk:Y.find F gid=some ⟨4,(List.range ((aR rs K).n+j)).map (jp K),false,25⟩:=hf
     have QJ:kU.k=4:=rfl
     have o8:=PG (mk:=jp K) (n:=(aR rs K).n+j)
     have vM:(aR rs K).n+(j+1)≤100000000:=by omega
     refine eQ (yT fe lw hg h1 k0 k1 hmk rk @q9 QJ o8 vM) ?_
     refine sr _ _ ⟨j+1,_,⟨by omega,by simp[Y.af];omega,(hb.LS (by omega)).cons (by rw[Y.af];omega),(hr.zl ok (by omega)).cons,by rw[Y.bA (by rw[Y.af];omega),Y.aj (by omega)];exact mG,oW.keep (fun id e1 e2=>by rw[Y.bA (by rw[Y.af];omega),Y.aj (by omega)]) (fun k hk hn=>by have:=qB k (by omega) hn;rw[Y.bA (by rw[Y.af];omega),Y.aj (by omega)]),.new (gid:=F.length) P7 (by simp[Y.af]) ?_⟩,by simp[Fr];rfl⟩ (by simp[aM,mk];omega)
     rw[aJ (by rw[Y.af]),BB]
     rfl
   ·have ai0:j=64:=by omega
    subst ai0
    obtain ⟨gid,gc,rfl,g1,g2,g3⟩:∃gid gc,g = .aD 4 gid 0 ((aR rs K).n+64) gc∧Reads 4 (jp K) F gid ((aR rs K).n+64)∧((gid=(aR rs K).id∧(aR rs K).nil=false)∨H.length<gid)∧gid<F.length:=by
     cases KQ with
     |nil _ h=>omega
     |room hn hrow =>
      obtain ⟨es,ex,e1,_⟩:=ok.blk K h1 hn
      have:=Y.ax e1
      exact ⟨_,_,rfl,hrow.reads (Nat.le_refl _),.inl ⟨rfl,hn⟩,by omega⟩
     |new e1 e2 e3=>exact ⟨_,_,rfl,.marks e3,.inr (by omega),e2⟩
    clear KQ
    obtain ⟨x1,x3⟩:=hone.get (i:=K) (by omega)
    refine eQ (XH fe lw hg h1 k0 k1 mG oP x1 x3) ?_
    refine bM _ _ ⟨K+1,_,⟨by omega,by rw[Y.af];omega,hb.LS (Nat.le_refl _),hr.zl ok (Nat.le_refl _),Y.aC (by omega),⟨by simp[oP],hone.set ⟨rfl,rfl⟩⟩,?_⟩,by simp[Fr]⟩ (by simp[aM,mk];omega)
    have qB:∀k,k<rs.length→(aR rs k).nil=false→(aR rs k).id<H.length:=fun k hk hn=>by
     obtain ⟨es,ex,e1,_⟩:=ok.blk k hk hn
     exact Y.ax e1
    refine dH.next (B:=B) (oW.keep (fun id e1 e2=>Y.aj (by omega)) (fun k hk hn=>Y.aj (by have:=qB k (by omega) hn;omega))) (by rw[Y.af];omega) (by omega) (g1.keep (Y.aj ?_)) g2 (by rw[Y.af];exact g3)
    rcases g2 with ⟨e,hn⟩|e
    ·have:=qB K h1 hn;omega
    ·omega
  ·have QI:K=rs.length:=by omega
   subst QI
   refine hL _ _ ?_
   clear hL bM
   refine Z fun L hL=>?_
   refine fh ?_
   have fe:=xY hb
   refine aZ (fun ts F'=>∃(K:Nat),(K≤rs.length∧F'=F)∧Fr (some (.aD 1 ee 0 rs.length cl)::none::some (.sc (.bool false))::none::none::some (.aD 1 H.length 0 rs.length (some rs.length))::none::none::none::some (.sc (.int .i64 K))::none::none::none::fg (dL (bf (bf (bf (bf (bf []))))))) ts) (fun ts _=>rs.length-(aM (ts.getD 9 .top)).toNat) ⟨0,⟨Nat.zero_le _,rfl⟩,by simp[Fr]⟩ ?_
   rintro ts F ⟨K,⟨hK,rfl⟩,aX⟩ L2 bM
   obtain ⟨js,rfl⟩:=aX.opened
   clear aX
   refine yV ?_
   refine dz (fun h=>?_) (fun h=>?_)
   ·have h1:K<rs.length:=by omega
    have hg:=qm (k:=4) h1
    have k0:(0:Int)≤(K:Int):=by omega
    have k1:(K:Int)<rs.length:=by omega
    have hn0:=uy K h1
    have mb:=ct.D4 (k:=4) (ok.nil K h1)
    obtain ⟨a1,a2,a3,a4,a5⟩:_∧_∧_∧_∧_:=⟨ct.I0 (k:=4) (r:=aR rs K),ct.xC (k:=4) (r:=aR rs K),ct.AC (k:=4) (r:=aR rs K),ct.AD (k:=4) (r:=aR rs K),ct.AE (k:=4) (r:=aR rs K)⟩
    obtain ⟨gid,gc,q1,⟨⟨gk,ges,gex,gty⟩,q2,q3,q4,q5⟩,_,_⟩:=oW K h1
    simp only at q3 q4 q5
    subst q3
    refine fh ?_
    refine aZ (fun ts F'=>∃(j:Nat),(j≤(aR rs K).n+64∧F'=F)∧Fr (some (.aD 1 ee 0 rs.length cl)::none::some (.sc (.bool false))::none::none::some (.aD 1 H.length 0 rs.length (some rs.length))::none::none::none::some (.sc (.int .i64 K))::some (.sc (.int .i64 j))::none::none::fg (dL (bf (bf (bf (bf (bf []))))))) ts) (fun ts _=>(aR rs K).n+64-(aM (ts.getD 10 .top)).toNat) ⟨0,⟨Nat.zero_le _,rfl⟩,by simp[Fr]⟩ ?_
    rintro ts F ⟨j,⟨hj,rfl⟩,aX⟩ L3 sr
    obtain ⟨js,rfl⟩:=aX.opened
    clear aX
    refine df (yR mG oP k0 k1 h1 q1) ?_
    refine dz (fun h=>?_) (fun h=>?_)
    ·have h2:j<(aR rs K).n+64:=by omega
     have j0:(0:Int)≤(j:Int):=by omega
     have j1:(j:Int)<((aR rs K).n+64:Nat):=by omega
     have j2:j<ges.length:=by omega
     have B5:ges.getD j .top = .agg [.sc (.int .u8 0),.sc (.string ⟨#[]⟩),.sc (.int .i64 (gu K j)),.am 0 [] (some [])]:=q5 j h2
     refine eQ (yS mG oP k0 k1 h1 q1 q2 j0 j1 j2 B5) ?_
     refine aL (ke _ _ _) ?_
     refine eQ (yS mG oP k0 k1 h1 q1 q2 j0 j1 j2 B5) ?_
     refine aL (rf _ _ _) ?_
     by_cases h3:j<(aR rs K).n
     ·have j3:(j:Int)<((aR rs K).n:Nat):=by omega
      have hn:(aR rs K).nil=false:=by
       cases e:(aR rs K).nil with
       |false=>rfl
       |true=>have:=ok.nil K h1 e;omega
      obtain ⟨es,ex,hf,hc,hsh,hm⟩:=hr K h1 hn
      have rk:Y.find F (aR rs K).id=some ⟨4,es,ex,25⟩:=hf
      have hce:=kH hc
      have j4:j<es.length:=by omega
      have hmk:es.getD j .top = .agg [.sc (.int .u8 0),.sc (.string ⟨#[]⟩),.sc (.int .i64 (gu K j)),.am 0 [] (some [])]:=rE (hm j h3)
      rw[ct.nK hn] at hg
      simp -implicitDefEqProofs (maxSteps:=99999999) (disch:=first|omega|(simp only[vl];first|done|omega)) only[fe,lw,hg,mG,oP,k0,k1,h1,q1,q2,j0,j1,j2,j3,j4,B5,rk,hmk,va,vg,vs,vw,vk,simprocAttr]
      refine aL (ke _ _ _) ?_
      simp -implicitDefEqProofs (maxSteps:=99999999) (disch:=first|omega|(simp only[vl];first|done|omega)) only[fe,lw,hg,mG,oP,k0,k1,h1,q1,q2,j0,j1,j2,j3,j4,B5,rk,hmk,va,vg,vs,vw,vk,simprocAttr]
      refine aL (rf _ _ _) ?_
      simp -implicitDefEqProofs (maxSteps:=99999999) (disch:=first|omega|(simp only[vl];first|done|omega)) only[fe,lw,hg,mG,oP,k0,k1,h1,q1,q2,j0,j1,j2,j3,j4,B5,rk,hmk,va,vg,vs,vw,vk,simprocAttr]
      exact sr _ _ ⟨j+1,⟨by omega,rfl⟩,by simp[Fr]⟩ (by simp[aM,mk];omega)
     ·have j3:¬(j:Int)<((aR rs K).n:Nat):=by omega
      simp -implicitDefEqProofs (maxSteps:=99999999) (disch:=first|omega|(simp only[vl];first|done|omega)) only[fe,lw,hg,mG,oP,k0,k1,h1,q1,q2,j0,j1,j2,j3,B5,a1,a2,a3,a4,a5,mb,va,vg,vs,vw,vk,simprocAttr]
      exact sr _ _ ⟨j+1,⟨by omega,rfl⟩,by simp[Fr]⟩ (by simp[aM,mk];omega)
    ·refine fh ?_
     exact bM _ _ ⟨K+1,⟨by omega,rfl⟩,by simp[Fr]⟩ (by simp[aM,mk];omega)
   ·have QI:K=rs.length:=by omega
    subst QI
    refine hL _ _ ?_
    clear hL bM
    refine Z fun L hL=>?_
    refine fh ?_
    have aax:dH 4 jp F rs H.length F.length jl 0 (fun k=>(aR rs k).n):=dH.zero
    refine aZ (fun ts F=>∃(K:Nat)(jl:List AV),(K≤rs.length∧H.length<F.length∧gV H F rs∧ik kU jp F rs (fun k=>(aR rs k).n)∧Y.find F H.length=some ⟨1,jl,true,23⟩∧(jl.length=rs.length∧zm jl)∧dH 4 jp F rs H.length F.length jl K (fun k=>(aR rs k).n))∧Fr (some (.aD 1 ee 0 rs.length cl)::none::some (.sc (.bool false))::none::none::some (.aD 1 H.length 0 rs.length (some rs.length))::none::fg (some (.sc (.int .i64 K))::none::fg (dL (bf (bf (bf (bf (bf [])))))))) ts) (fun ts _=>rs.length-(aM (ts.getD 11 .top)).toNat) ⟨0,jl,⟨Nat.zero_le _,qj,hb,hr,mG,⟨oP,hone⟩,aax⟩,by simp[Fr]⟩ ?_
    clear hb hr fe qj oW aax mG oP hone
    rintro ts F ⟨K,jl,⟨hK,qj,hb,hr,mG,⟨oP,hone⟩,oW⟩,aX⟩ L2 bM
    obtain ⟨js,rfl⟩:=aX.opened
    clear aX
    have fe:=xY hb
    refine yV ?_
    refine dz (fun h=>?_) (fun h=>?_)
    ·have h1:K<rs.length:=by omega
     have hg:=qm (k:=4) h1
     have k0:(0:Int)≤(K:Int):=by omega
     have k1:(K:Int)<rs.length:=by omega
     have hn0:=uy K h1
     have qB:∀k,k<rs.length→(aR rs k).nil=false→(aR rs k).id<H.length:=fun k hk hn=>by
      obtain ⟨es,ex,e1,_⟩:=ok.blk k hk hn
      exact Y.ax e1
     refine eQ (yR fe lw hg h1 k0 k1) ?_
     refine aZ (fun ts F'=>∃(j:Nat)(ms:List AV),(j≤64∧F'=some ⟨4,ms,true,25⟩::F∧ms.length=64∧∀x∈ms,kU.is x)∧Fr (some (.aD 1 ee 0 rs.length cl)::none::some (.sc (.bool false))::none::none::some (.aD 1 H.length 0 rs.length (some rs.length))::none::fg (some (.sc (.int .i64 K))::some (.aD 4 F.length 0 64 (some 64))::some (.sc (.int .i64 j))::none::none::none::dL (bf (bf (bf (bf (bf []))))))) ts) (fun ts _=>64-(aM (ts.getD 13 .top)).toNat) ⟨0,_,⟨by omega,rfl,by rfl,fun x hx=>by
      have:x = .agg [.sc (.int .u8 0),.sc (.string ⟨#[]⟩),.sc (.int .i64 0),.am 0 [] (some [])]:=by simpa using hx
      rw[this]
      exact ⟨rfl,rfl,rfl⟩⟩,by simp[Fr]⟩ ?_
     rintro ts _ ⟨j,ms,⟨hj,rfl,Nb,aay⟩,aX⟩ L3 sr
     obtain ⟨js,rfl⟩:=aX.opened
     clear aX
     refine yV ?_
     refine dz (fun h=>?_) (fun h=>?_)
     ·have h2:j<64:=by omega
      have j0:(0:Int)≤(j:Int):=by omega
      have j1:(j:Int)<((64:Nat):Int):=by omega
      refine fh ?_
      refine ae (ke _ _ _) ?_
      have j2:j<ms.length:=by omega
      have CX:=aay _ (List.getElem_mem j2)
      have hgx:ms.getD j .top=ms[j]:=by simp[List.getD,j2]
      have x1:(ms.getD j .top).az=4:=by rw[hgx];exact CX.2.1
      have x3:∀c,AV.lu (ms.getD j .top) 0 (.agg [.sc (.int .u8 0),.sc (.string ⟨#[]⟩),c,.am 0 [] (some [])]) = .agg [.sc (.int .u8 0),.sc (.string ⟨#[]⟩),c,.am 0 [] (some [])]:=fun c=>G4 x1 rfl rfl
      have x2:(ms.getD j .top).isAgg=true:=by rw[hgx];exact CX.2.2
      simp -implicitDefEqProofs (maxSteps:=99999999) (disch:=first|omega|(simp only[Y.af,bz,List.length_cons,List.length_nil];first|done|omega)) only[j0,j1,j2,Nb,h2,x1,x2,x3,va,vg,vs,vw,Nat.reduceMul,ite_true,ite_false,eq_self,forall_const,implies_true,Nat.reduceAdd,Nat.reduceSub,Nat.reduceLT,Nat.reduceLeDiff,↓reduceIte,reduceCtorEq,Int.reduceEq,Int.reduceLT,Int.reduceLE,Int.reduceGT,Int.reduceGE,Int.reduceAdd,Int.reduceSub,Int.reduceNeg,Int.reduceToNat,Nat.reduceBEq,Nat.reduceEqDiff]
      refine sr _ _ ⟨j+1,_,⟨by omega,rfl,by simp[Nb],fun x hx=>?_⟩,by simp[Fr]⟩ (by simp[aM,mk];omega)
      rcases List.mem_or_eq_of_mem_set hx with hx|rfl
      ·exact aay x hx
      ·exact ⟨rfl,rfl,rfl⟩
     ·clear sr
      have htk:List.take 64 ms=ms:=List.take_of_length_le (by omega)
      obtain ⟨x1,x3⟩:=hone.get (i:=K) (by omega)
      cases hn:(aR rs K).nil with
      |true =>
       rw[ct.th hn] at hg
       have hz:=ok.nil K h1 hn
       cases ms with
       |nil=>simp at Nb
       |cons m0 mr =>
        have hmr:mr.length=63:=by simpa using Nb
        refine eQ (yT fe lw hg h1 k0 k1 mG oP hmr htk x1 x3) ?_
        have zl:∀(b c d:Option aP)(id:Nat),id<F.length→id≠H.length→Y.find (b::c::Y.set F H.length d) id=Y.find F id:=fun b c d id e1 e2=>by
         rw[Y.bA (by simp[Y.af];omega),Y.bA (by rw[Y.af];exact e1),Y.aj e2]
        refine bM _ _ ⟨K+1,jl.set K (.aD 4 (F.length+1) 0 64 none),⟨by omega,by simp[Y.af];omega,((hb.LS (Nat.le_refl _)).cons (by rw[Y.af];omega)).cons (by simp[Y.af];omega),(hr.zl ok (Nat.le_refl _)).cons.cons,?_,⟨by simp[oP],hone.set ⟨rfl,rfl⟩⟩,?_⟩,by simp[Fr]⟩ (by simp[aM,mk];omega)
        ·exact fh trivial
        ·have:=dH.next (gid:=F.length+1) (gc:=none) (oW.keep (fun id e1 e2=>zl (some ⟨4,m0::mr,false,25⟩) (some ⟨4,m0::mr,true,25⟩) (some ⟨1,jl.set K (.aD 4 (F.length+1) 0 64 none),true,23⟩) id e2 (by omega)) (fun k hk hn=>zl _ _ _ _ (by have:=qB k (by omega) hn;omega) (by have:=qB k (by omega) hn;omega))) (Nat.le_trans (Nat.le_succ _) (Nat.le_succ _)) (by omega) ⟨_,by rw[aJ (by simp[Y.af])],rfl,by simp only[hz];exact Nat.zero_le _,fun i hi=>by simp only[hz] at hi;omega⟩ (.inr (by omega)) (by omega)
         simp only[hz,Nat.zero_add] at this
         simp only[List.length_cons,Y.af]
         exact this
      |false =>
       rw[ct.nK hn] at hg
       obtain ⟨es,ex,hf,hc,hsh,hm⟩:=hr K h1 hn
       have rk:Y.find F (aR rs K).id=some ⟨4,es,ex,25⟩:=hf
       have hce:=kH hc
       have hid:=qB K h1 hn
       have QJ:kU.k=4:=rfl
       have sV:=hc
       unfold qn at sV
       have vM:(aR rs K).n+64≤100000000:=by omega
       by_cases hroom:(aR rs K).n+64≤(aR rs K).c
       ·have qL:=il.ahW (ys:=ms) hf hc hsh (fun i hi=>hm i hi) (by rw[Nb];exact hroom) aay
        rw[List.append_assoc,Nb] at qL
        have zl:∀(b c d:Option aP)(id:Nat),id<F.length→id≠H.length→id≠(aR rs K).id→Y.find (b::Y.set (Y.set F (aR rs K).id c) H.length d) id=Y.find F id:=fun b c d id e1 e2 e3=>by
         rw[Y.bA (by simp[Y.af];omega),Y.aj e2,Y.aj e3]
        have hrow:∀(b d:Option aP),il kU (jp K) (b::Y.set (Y.set F (aR rs K).id (some ⟨4,es.take (aR rs K).n++(ms++es.drop ((aR rs K).n+64)),ex,25⟩)) H.length d) (aR rs K).id (aR rs K).n (aR rs K).c (aR rs K).n:=fun b d =>
         il.keep qL (by rw[Y.bA (by simp[Y.af];omega),Y.aj (by omega)];rfl)
        simp -implicitDefEqProofs (maxSteps:=99999999) (disch:=first|omega|(simp only[vl];first|done|omega)) only[fe,lw,hg,h1,k0,k1,mG,oP,Nb,htk,x1,x3,rk,hroom,QJ,sV,vM,va,vg,vs,vw,vk,simprocAttr]
        refine bM _ _ ⟨K+1,jl.set K (.aD 4 (aR rs K).id 0 ((aR rs K).n+64) (some (aR rs K).c)),⟨by omega,by simp[Y.af];omega,((hb.set h1 hn).LS (Nat.le_refl _)).cons (by simp[Y.af];omega),ik.cons (ik.zl (hr.put ok h1 hn qL (fun k e=>Nat.le_refl _)) ok (Nat.le_refl _)),?_,⟨by simp[oP],hone.set ⟨rfl,rfl⟩⟩,?_⟩,by simp[Fr]⟩ (by simp[aM,mk];omega)
        ·exact fh trivial
        ·have:=dH.next (gid:=(aR rs K).id) (gc:=some (aR rs K).c) (oW.keep (fun id e1 e2=>zl (some ⟨4,ms,true,25⟩) (some ⟨4,es.take (aR rs K).n++(ms++es.drop ((aR rs K).n+64)),ex,25⟩) (some ⟨1,jl.set K (.aD 4 (aR rs K).id 0 ((aR rs K).n+64) (some (aR rs K).c)),true,23⟩) id e2 (by omega) (by omega)) (fun k hk zW=>zl _ _ _ _ (by have:=qB k (by omega) zW;omega) (by have:=qB k (by omega) zW;omega) (fun e=>by have:=ok.apart k K (by omega) h1 zW hn e;omega))) (Nat.le_succ _) (by omega) ((hrow _ _).reads (Nat.le_refl _)) (.inl ⟨rfl,hn⟩) (by omega)
         simp only[List.length_cons,Y.af]
         exact this
       ·have zl:∀(b c d:Option aP)(id:Nat),id<F.length→id≠H.length→Y.find (b::c::Y.set F H.length d) id=Y.find F id:=fun b c d id e1 e2=>by
         rw[Y.bA (by simp[Y.af];omega),Y.bA (by rw[Y.af];exact e1),Y.aj e2]
        simp -implicitDefEqProofs (maxSteps:=99999999) (disch:=first|omega|(simp only[vl];first|done|omega)) only[fe,lw,hg,h1,k0,k1,mG,oP,Nb,htk,x1,x3,rk,hroom,QJ,sV,vM,va,vg,vs,vw,vk,simprocAttr]
        refine bM _ _ ⟨K+1,jl.set K (.aD 4 (F.length+1) 0 ((aR rs K).n+64) none),⟨by omega,by simp[Y.af];omega,((hb.LS (Nat.le_refl _)).cons (by rw[Y.af];omega)).cons (by simp[Y.af];omega),(hr.zl ok (Nat.le_refl _)).cons.cons,?_,⟨by simp[oP],hone.set ⟨rfl,rfl⟩⟩,?_⟩,by simp[Fr]⟩ (by simp[aM,mk];omega)
        ·exact fh trivial
        ·have:=dH.next (gid:=F.length+1) (gc:=none) (oW.keep (fun id e1 e2=>zl (some ⟨4,es.take (aR rs K).n++ms,false,25⟩) (some ⟨4,ms,true,25⟩) (some ⟨1,jl.set K (.aD 4 (F.length+1) 0 ((aR rs K).n+64) none),true,23⟩) id e2 (by omega)) (fun k hk hn=>zl _ _ _ _ (by have:=qB k (by omega) hn;omega) (by have:=qB k (by omega) hn;omega))) (Nat.le_trans (Nat.le_succ _) (Nat.le_succ _)) (by omega) ⟨_,by rw[aJ (by simp[Y.af])],rfl,by simp;omega,fun i hi=>by
          simp only
          rw[List.getD_eq_getElem?_getD,List.getElem?_append_left (by simp;omega),List.getElem?_take_of_lt hi,hm i hi]
          rfl⟩ (.inr (by omega)) (by omega)
         simp only[List.length_cons,Y.af]
         exact this
    ·have QI:K=rs.length:=by omega
     subst QI
     refine hL _ _ ?_
     clear hL bM
     have fe:=xY hb
     refine fh ?_
     refine aZ (fun ts F'=>∃(K:Nat),(K≤rs.length∧F'=F)∧Fr (some (.aD 1 ee 0 rs.length cl)::none::some (.sc (.bool false))::none::none::some (.aD 1 H.length 0 rs.length (some rs.length))::iv (some (.sc (.int .i64 K))::none::none::dL (bf (bf (bf (bf (bf []))))))) ts) (fun ts _=>rs.length-(aM (ts.getD 14 .top)).toNat) ⟨0,⟨Nat.zero_le _,rfl⟩,by simp[Fr]⟩ ?_
     rintro ts F ⟨K,⟨hK,rfl⟩,aX⟩ L2 bM
     obtain ⟨js,rfl⟩:=aX.opened
     clear aX
     refine yV ?_
     refine dz (fun h=>?_) (fun h=>?_)
     ·have h1:K<rs.length:=by omega
      have hg:=qm (k:=4) h1
      have k0:(0:Int)≤(K:Int):=by omega
      have k1:(K:Int)<rs.length:=by omega
      have hn0:=uy K h1
      have mb:=ct.D4 (k:=4) (ok.nil K h1)
      obtain ⟨a1,a2,a3,a4,a5⟩:_∧_∧_∧_∧_:=⟨ct.I0 (k:=4) (r:=aR rs K),ct.xC (k:=4) (r:=aR rs K),ct.AC (k:=4) (r:=aR rs K),ct.AD (k:=4) (r:=aR rs K),ct.AE (k:=4) (r:=aR rs K)⟩
      obtain ⟨gid,gc,q1,⟨⟨gk,ges,gex,gty⟩,q2,q3,q4,q5⟩,_,_⟩:=oW K h1
      simp only at q3 q4 q5
      subst q3
      refine fh ?_
      refine aZ (fun ts F'=>∃(j:Nat),(j≤(aR rs K).n∧F'=F)∧Fr (some (.aD 1 ee 0 rs.length cl)::none::some (.sc (.bool false))::none::none::some (.aD 1 H.length 0 rs.length (some rs.length))::iv (some (.sc (.int .i64 K))::some (.sc (.int .i64 j))::none::dL (bf (bf (bf (bf (bf []))))))) ts) (fun ts _=>(aR rs K).n-(aM (ts.getD 15 .top)).toNat) ⟨0,⟨Nat.zero_le _,rfl⟩,by simp[Fr]⟩ ?_
      rintro ts F ⟨j,⟨hj,rfl⟩,aX⟩ L3 sr
      obtain ⟨js,rfl⟩:=aX.opened
      clear aX
      refine df (yT fe lw hg k0 k1 h1 a1 a2 a3 a4 a5 mb) ?_
      refine dz (fun h=>?_) (fun h=>?_)
      ·have h2:j<(aR rs K).n:=by omega
       have hn:(aR rs K).nil=false:=by
        cases e:(aR rs K).nil with
        |false=>rfl
        |true=>have:=ok.nil K h1 e;omega
       obtain ⟨es,ex,hf,hc,hsh,hm⟩:=hr K h1 hn
       have rk:Y.find F (aR rs K).id=some ⟨4,es,ex,25⟩:=hf
       have hce:=kH hc
       have j0:(0:Int)≤(j:Int):=by omega
       have j1:(j:Int)<((aR rs K).n+64:Nat):=by omega
       have j3:(j:Int)<((aR rs K).n:Nat):=by omega
       have j2:j<ges.length:=by omega
       have j4:j<es.length:=by omega
       have B5:ges.getD j .top = .agg [.sc (.int .u8 0),.sc (.string ⟨#[]⟩),.sc (.int .i64 (gu K j)),.am 0 [] (some [])]:=q5 j h2
       have hmk:es.getD j .top = .agg [.sc (.int .u8 0),.sc (.string ⟨#[]⟩),.sc (.int .i64 (gu K j)),.am 0 [] (some [])]:=rE (hm j h2)
       rw[ct.nK hn] at hg
       simp -implicitDefEqProofs (maxSteps:=99999999) (disch:=first|omega|(simp only[vl];first|done|omega)) only[fe,lw,hg,mG,oP,k0,k1,h1,q1,q2,j0,j1,j2,j3,j4,B5,rk,hmk,va,vg,vs,vw,vk,simprocAttr]
       refine aL (ke _ _ _) ?_
       simp -implicitDefEqProofs (maxSteps:=99999999) (disch:=first|omega|(simp only[vl];first|done|omega)) only[fe,lw,hg,mG,oP,k0,k1,h1,q1,q2,j0,j1,j2,j3,j4,B5,rk,hmk,va,vg,vs,vw,vk,simprocAttr]
       refine aL (rf _ _ _) ?_
       simp -implicitDefEqProofs (maxSteps:=99999999) (disch:=first|omega|(simp only[vl];first|done|omega)) only[fe,lw,hg,mG,oP,k0,k1,h1,q1,q2,j0,j1,j2,j3,j4,B5,rk,hmk,va,vg,vs,vw,vk,simprocAttr]
       refine aL (ke _ _ _) ?_
       simp -implicitDefEqProofs (maxSteps:=99999999) (disch:=first|omega|(simp only[vl];first|done|omega)) only[fe,lw,hg,mG,oP,k0,k1,h1,q1,q2,j0,j1,j2,j3,j4,B5,rk,hmk,va,vg,vs,vw,vk,simprocAttr]
       refine aL (rf _ _ _) ?_
       simp -implicitDefEqProofs (maxSteps:=99999999) (disch:=first|omega|(simp only[vl];first|done|omega)) only[fe,lw,hg,mG,oP,k0,k1,h1,q1,q2,j0,j1,j2,j3,j4,B5,rk,hmk,va,vg,vs,vw,vk,simprocAttr]
       exact sr _ _ ⟨j+1,⟨by omega,rfl⟩,by simp[Fr]⟩ (by simp[aM,mk];omega)
      ·refine fh ?_
       exact bM _ _ ⟨K+1,⟨by omega,rfl⟩,by simp[Fr]⟩ (by simp[aM,mk];omega)
     ·refine fh ?_
      exact Fy hb
noncomputable def aaz(f:FuncId)(xs:List AV):Bool:=match M7 (BK Tryz.prog []) 20 5 f xs [] with
 |some (.sc (.bool true),_)=>true
 |_=>false
theorem aaA{f:FuncId}{xs:List AV}(h:aaz f xs=true):D Tryz.prog f xs [] (.ret (.sc (.bool true))) []:=by
 unfold aaz at h
 split at h
 ·rename_i G hr
  exact aG (Nat.le_refl _) ((E0 sB 5 f xs [] _ G hr).dk.mono fun e H1 _ ⟨e1,e2⟩=>by
   subst e1 e2
   exact nA (fun i hi=>by simp at hi) (.same trivial))
 ·cases h
theorem dA{f:FuncId}(h:aaz f [.am 0 [] none]=true)(H:Y):D Tryz.prog f [.am 0 [] (some [])] H (.ret (.sc (.bool true))) H:=tc (.cons .nil .nil) .sc (aaA h)
theorem Nc(H:Y):D Tryz.prog 83 [.am 0 [] (some [])] H (.ret (.sc (.bool true))) H:=dA (by kernel_rfl) H
theorem Nf(H:Y):D Tryz.prog 84 [.am 0 [] (some [])] H (.ret (.sc (.bool true))) H:=dA (by kernel_rfl) H
theorem Ng(H:Y):D Tryz.prog 85 [.am 0 [] (some [])] H (.ret (.sc (.bool true))) H:=dA (by kernel_rfl) H
theorem Nh(H:Y):D Tryz.prog 86 [.am 0 [] (some [])] H (.ret (.sc (.bool true))) H:=dA (by kernel_rfl) H
theorem Ni(H:Y):D Tryz.prog 87 [.am 0 [] (some [])] H (.ret (.sc (.bool true))) H:=dA (by kernel_rfl) H
theorem Nj(H:Y):D Tryz.prog 88 [.am 0 [] (some [])] H (.ret (.sc (.bool true))) H:=dA (by kernel_rfl) H
theorem Nk(H:Y):D Tryz.prog 89 [.am 0 [] (some [])] H (.ret (.sc (.bool true))) H:=dA (by kernel_rfl) H
theorem Nl(H:Y):D Tryz.prog 90 [.am 0 [] (some [])] H (.ret (.sc (.bool true))) H:=dA (by kernel_rfl) H
theorem Nn(H:Y):D Tryz.prog 91 [.am 0 [] (some [])] H (.ret (.sc (.bool true))) H:=dA (by kernel_rfl) H
theorem Np(H:Y):D Tryz.prog 92 [.am 0 [] (some [])] H (.ret (.sc (.bool true))) H:=dA (by kernel_rfl) H
theorem Nq(H:Y):D Tryz.prog 93 [.am 0 [] (some [])] H (.ret (.sc (.bool true))) H:=dA (by kernel_rfl) H
theorem Nr(H:Y):D Tryz.prog 94 [.am 0 [] (some [])] H (.ret (.sc (.bool true))) H:=dA (by kernel_rfl) H
theorem Ns(H:Y):D Tryz.prog 95 [.am 0 [] (some [])] H (.ret (.sc (.bool true))) H:=dA (by kernel_rfl) H
theorem Nt(H:Y):D Tryz.prog 96 [.am 0 [] (some [])] H (.ret (.sc (.bool true))) H:=dA (by kernel_rfl) H
theorem Nu(H:Y):D Tryz.prog 97 [.am 0 [] (some [])] H (.ret (.sc (.bool true))) H:=dA (by kernel_rfl) H
theorem Nv(H:Y):D Tryz.prog 98 [.am 0 [] (some [])] H (.ret (.sc (.bool true))) H:=dA (by kernel_rfl) H
theorem Nw(H:Y):D Tryz.prog 99 [.am 0 [] (some [])] H (.ret (.sc (.bool true))) H:=dA (by kernel_rfl) H
theorem Jy(H:Y):D Tryz.prog 100 [.am 0 [] (some [])] H (.ret (.sc (.bool true))) H:=dA (by kernel_rfl) H
theorem Jz(H:Y):D Tryz.prog 101 [.am 0 [] (some [])] H (.ret (.sc (.bool true))) H:=dA (by kernel_rfl) H
theorem JA(H:Y):D Tryz.prog 102 [.am 0 [] (some [])] H (.ret (.sc (.bool true))) H:=dA (by kernel_rfl) H
theorem JB(H:Y):D Tryz.prog 103 [.am 0 [] (some [])] H (.ret (.sc (.bool true))) H:=dA (by kernel_rfl) H
def aer:IC:=(.seq (.ops [iP 2 (.mv kF)]) (.seq (.ops [iP 5 (.build [bG,bG,bG,bG,bG,bG,bG,bG,bG,bG,bG,bG,bG,bG,bG,bG,bG,bG,bG,bG,bG] []),iH 6 (.box 21 91 (.t 5)),iM 3 6]) (.seq (.seq (.ops [iP 4 (xI 0)]) (.block 0 (.loop (.seq (.seq (.ops [iM 7 4,iM 8 0,iP 9 (xL 8),iP 10 (xB .lss 7 9)]) (.cond (.t 10) .skip (.exit 0))) (.seq (.block 1 (.ops [iM 13 3,iM 14 0,iM 15 4,iP 16 (xA 1 14 15),iH 17 (yD 1 16),iH 18 (yC 51 13 17)])) (.ops [iM 11 4,iP 12 (.aN .add (.t 11) (kI 1)),iM 4 12])))))) (.seq (.ops [iM 19 3,iH 20 (.call 52 [(.t 19)]),iM 2 20]) .ret))))
theorem ai1:Dk Tryz.prog 19 aer [(.t 2)] 21:=aV Tryz.func19
def aes:IC:=(.seq (.ops [iM 5 0,iM 6 0,iP 7 (.bV (.t 6)),iP 8 (.an 9 (.t 7)),iH 9 (yD 1 8),iM 10 1,iH 11 (.ep 1 23 bG 1 [(0,(.t 10))]),iH 12 (.ez 1 23 (.t 9) (.t 11)),iP 13 (.bV (.t 5)),iP 14 (.an 9 (.t 13)),iS 1 14 12]) (.seq (.ops [iP 4 (xI 0)]) (.block 0 (.loop (.seq (.seq (.ops [iM 15 4,iM 16 1,iP 17 (xL 16),iP 18 (xB .lss 15 17)]) (.cond (.t 18) .skip (.exit 0))) (.seq (.block 1 (.ops [iM 21 0,iM 22 1,iM 23 4,iP 24 (xA 4 22 23),iH 25 (yA 4 24),iH 26 (yC 82 21 25)])) (.ops [iM 19 4,iP 20 (.aN .add (.t 19) (kI 1)),iM 4 20])))))))
theorem ai2:Dk Tryz.prog 51 aes [] 27:=aV Tryz.func51
def aet:IC:=(.seq (.ops [iH 3 (.box 4 25 (.t 1))]) (.ops [iM 4 0,iP 5 (.an 3 (.t 3)),iH 6 (yD 1 5),iH 7 (yC 51 4 6)]))
theorem ai3:Dk Tryz.prog 82 aet [] 8:=aV Tryz.func82
abbrev kf:AV:=.am 0 [] (some [])
abbrev sF(t:AV):aP:=⟨21,[.agg [kf,kf,kf,kf,kf,kf,kf,kf,kf,t,kf,kf,kf,kf,kf,kf,kf,kf,kf,kf,kf]],true,91⟩
theorem JC{H:Y}{os:List cg}{it:Nat}(hls:os≠[]→Y.find H it=bS 1 23 (gF 4 os))(ok:mK kU H os)(E1:it∉cC os)(hN:os.length≤1000000) :
  D Tryz.prog 92 [aW 1 (gF 4 os) it] H (.ret (.sc (.bool true))) (lD (if os=[] then [] else it::cC os) H):=by
 by_cases e:os=[]
 ·subst e
  rw[if_pos rfl]
  exact Np H
 ·rw[if_neg e]
  have hne:gF 4 os≠[]:=sD.2 e
  have h:=hls e
  rw[bj hne] at h
  rw[jj hne,wV]
  exact acB kU (fun H rs ee B4 xX cl h1 h2 h3 h4=>Jx H rs ee B4 xX cl h1 h2 h3 h4) h ok E1 hN
def nH(os:List cg)(it:Nat):List Nat:=if os=[] then [] else it::cC os
theorem E2{os:List cg}{it i:Nat}(h:i∈nH os it):(os≠[]∧i=it)∨i∈cC os:=by
 unfold nH at h
 split at h
 ·simp at h
 ·rename_i e
  rcases List.mem_cons.1 h with h|h
  ·exact .inl ⟨e,h⟩
  ·exact .inr h
theorem FL(F:Y)(gh it:Nat)(os:List cg)(hb:Y.find F gh=some (sF (aW 1 (gF 4 os) it)))(ht:os≠[]→Y.find F it=bS 1 23 (gF 4 os))
  (o1:mK kU F os)(n1:it∉cC os)(n3:gh∉nH os it)(l1:os.length≤1000000) :
  D Tryz.prog 52 [.ptr 21 gh 0 0] F (.ret (.sc (.bool true))) (lD (nH os it) F):=by
 refine aG (by rw[fQ];exact Nat.le_refl _) (ahY (aA ?_))
 have jP:Y.find (lD (nH os it) F) gh=some (sF (aW 1 (gF 4 os) it)):=(qo n3).trans hb
 simp -implicitDefEqProofs (maxSteps:=99999999) (disch:=first|omega|(simp only[vl];first|done|omega)) only[ady,hb,va,vg,vs,vw,vk,simprocAttr]
 refine ae (Nc _) ?_
 refine eQ hb ?_
 refine ae (Nf _) ?_
 refine eQ hb ?_
 refine ae (Ng _) ?_
 refine eQ hb ?_
 refine ae (Nh _) ?_
 refine eQ hb ?_
 refine ae (Ni _) ?_
 refine eQ hb ?_
 refine ae (Nj _) ?_
 refine eQ hb ?_
 refine ae (Nk _) ?_
 refine eQ hb ?_
 refine ae (Nl _) ?_
 refine eQ hb ?_
 refine ae (Nn _) ?_
 refine eQ hb ?_
 refine ae (JC ht o1 n1 l1) ?_
 rw[show (if os=[] then [] else it::cC os)=nH os it from rfl]
 refine eQ jP ?_
 refine ae (Nq _) ?_
 refine eQ jP ?_
 refine ae (Nr _) ?_
 refine eQ jP ?_
 refine ae (Ns _) ?_
 refine eQ jP ?_
 refine ae (Nt _) ?_
 refine eQ jP ?_
 refine ae (Nu _) ?_
 refine eQ jP ?_
 refine ae (Nv _) ?_
 refine eQ jP ?_
 refine ae (Nw _) ?_
 refine eQ jP ?_
 refine ae (Jy _) ?_
 refine eQ jP ?_
 refine ae (Jz _) ?_
 refine eQ jP ?_
 refine ae (JA _) ?_
 refine eQ jP ?_
 refine ae (JB _) ?_
 refine eQ jP ?_
 exact eB.refl _ _ _
def mL(F:Y)(r:cg)(xs:List AV):Prop:=(r.nil=true∧xs=[]∧r.n=0)∨(r.nil=false∧∃es ex,Y.find F r.id=some ⟨4,es,ex,25⟩∧es.take r.n=xs∧r.n≤es.length∧(r.c=none→ex=false)∧(∀m,r.c=some m→qn r.n m es ex)∧∀x∈es,kU.is x)
mutual
inductive OT(F:Y):Nd→AV→List cg→Prop
 | mk {k:Int}{s:ByteArray}{n:Int}{l:List Nd}{r:cg}{xs:List AV}{rs:List cg}:mL F r xs→r.n=l.length→B6 F l xs rs→OT F ⟨k,s,n,l⟩ (.agg [.sc (.int .u8 k),.sc (.string s),.sc (.int .i64 n),r.av 4]) (r::rs)
inductive B6(F:Y):List Nd→List AV→List cg→Prop
 | nil:B6 F [] [] []
 | cons {t:Nd}{l:List Nd}{x:AV}{xs:List AV}{a b:List cg}:OT F t x a→B6 F l xs b→B6 F (t::l) (x::xs) (a++b)
end
theorem lP(r:cg)(rs:List cg):cC (r::rs)=(if r.nil then [] else [r.id])++cC rs:=by
 unfold cC
 cases h:r.nil<;>simp[h]
theorem dR(a b:List cg):cC (a++b)=cC a++cC b:=by simp[cC]
theorem xZ{r:cg}{rs:List cg}(h:r.nil=false):r.id∈cC (r::rs):=by rw[lP,h];simp
theorem tL{r:cg}{rs:List cg}{i:Nat}(h:i∈cC rs):i∈cC (r::rs):=by rw[lP];exact List.mem_append_right _ h
theorem mL.keep{F G:Y}{r:cg}{xs:List AV}(h:mL F r xs)(hk:r.nil=false→Y.find G r.id=Y.find F r.id):mL G r xs:=by
 rcases h with h|⟨h1,es,ex,h2,h3⟩
 ·exact .inl h
 ·exact .inr ⟨h1,es,ex,by rw[hk h1,h2],h3⟩
theorem mL.lt{F:Y}{r:cg}{xs:List AV}(h:mL F r xs)(hn:r.nil=false):r.id<F.length:=by
 rcases h with ⟨h,_⟩|⟨_,es,ex,h2,_⟩
 ·rw[hn] at h;cases h
 ·exact Y.ax h2
theorem Cs{F:Y}(t:Nd):∀{x:AV}{rs:List cg},OT F t x rs→(∀i∈cC rs,i<F.length)∧rs.length=t.size∧(∀r∈rs,∃xs,mL F r xs∧r.n≤t.size)∧∀G:Y,(∀i∈cC rs,Y.find G i=Y.find F i)→OT G t x rs:=by
 induction t using Nd.ind with
 |_ t ih =>
  intro x rs h
  have key:∀l:List Nd,(∀k∈l,∀{x:AV}{rs:List cg},OT F k x rs→(∀i∈cC rs,i<F.length)∧rs.length=k.size∧(∀r∈rs,∃xs,mL F r xs∧r.n≤k.size)∧∀G:Y,(∀i∈cC rs,Y.find G i=Y.find F i)→OT G k x rs)→
    ∀{xs:List AV}{rs:List cg},B6 F l xs rs→(∀i∈cC rs,i<F.length)∧rs.length=Nd.ay l∧(∀r∈rs,∃xs,mL F r xs∧r.n≤Nd.ay l)∧∀G:Y,(∀i∈cC rs,Y.find G i=Y.find F i)→B6 G l xs rs:=by
   intro l
   induction l with
   |nil=>intro _ xs rs h;cases h;exact ⟨by simp[cC],rfl,by simp,fun _ _=>.nil⟩
   |cons y r fC =>
    intro hk xs rs h
    cases h with
    |@cons _ _ x xs a b h1 h2 =>
     obtain ⟨p1,p2,p3,p4⟩:=hk y (by simp) h1
     obtain ⟨q1,q2,q3,q4⟩:=fC (fun k hk'=>hk k (by simp[hk'])) h2
     refine ⟨fun i hi=>?_,by simp[p2,q2,Nd.ay],fun r hr=>?_,fun G hG=>.cons (p4 G fun i hi=>hG i (by rw[dR];simp[hi])) (q4 G fun i hi=>hG i (by rw[dR];simp[hi]))⟩
     ·rw[dR,List.mem_append] at hi
      exact hi.elim (p1 i) (q1 i)
     ·simp only[Nd.ay]
      rcases List.mem_append.1 hr with hr|hr
      ·obtain ⟨zs,z1,z2⟩:=p3 r hr;exact ⟨zs,z1,by omega⟩
      ·obtain ⟨zs,z1,z2⟩:=q3 r hr;exact ⟨zs,z1,by omega⟩
  cases h with
  |@mk k s n l r xs rs h1 h2 h3 =>
   obtain ⟨q1,q2,q3,q4⟩:=key l ih h3
   have ef:=Nd.fZ l
   refine ⟨fun i hi=>?_,by simp only[List.length_cons,q2,Nd.size];omega,fun r' hr=>?_,fun G hG=>.mk (h1.keep fun hn=>hG _ (xZ hn)) h2 (q4 G fun i hi=>hG i (tL hi))⟩
   ·rw[lP] at hi
    cases hn:r.nil with
    |true=>rw[hn] at hi;simp at hi;exact q1 i hi
    |false =>
     rw[hn] at hi
     simp at hi
     rcases hi with rfl|hi
     ·exact h1.lt hn
     ·exact q1 i hi
   ·simp only[Nd.size]
    rcases List.mem_cons.1 hr with rfl|hr
    ·exact ⟨xs,h1,by omega⟩
    ·obtain ⟨zs,z1,z2⟩:=q3 r' hr;exact ⟨zs,z1,by omega⟩
theorem sG{F:Y}:∀{l:List Nd}{xs:List AV}{rs:List cg},B6 F l xs rs→xs.length=l.length∧(∀i∈cC rs,i<F.length)∧rs.length=Nd.ay l∧(∀r∈rs,∃xs,mL F r xs∧r.n≤Nd.ay l)∧∀G:Y,(∀i∈cC rs,Y.find G i=Y.find F i)→B6 G l xs rs
 |[],_,_,.nil=>⟨rfl,by simp[cC],rfl,by simp,fun _ _=>.nil⟩
 |y::r,_,_,.cons (a:=a) (b:=b) h1 h2=>by
  obtain ⟨p1,p2,p3,p4⟩:=Cs y h1
  obtain ⟨q0,q1,q2,q3,q4⟩:=sG h2
  refine ⟨by simp[q0],fun i hi=>?_,by simp[p2,q2,Nd.ay],fun r hr=>?_,fun G hG=>.cons (p4 G fun i hi=>hG i (by rw[dR];simp[hi])) (q4 G fun i hi=>hG i (by rw[dR];simp[hi]))⟩
  ·rw[dR,List.mem_append] at hi
   exact hi.elim (p1 i) (q1 i)
  ·simp only[Nd.ay]
   rcases List.mem_append.1 hr with hr|hr
   ·obtain ⟨zs,z1,z2⟩:=p3 r hr;exact ⟨zs,z1,by omega⟩
   ·obtain ⟨zs,z1,z2⟩:=q3 r hr;exact ⟨zs,z1,by omega⟩
structure E3(F:Y)(gh it:Nat)(os:List cg):Prop where
 box:Y.find F gh=some (sF (aW 1 (gF 4 os) it))
 row:os≠[]→Y.find F it=bS 1 23 (gF 4 os)
 ne:it≠gh
structure wX(F:Y)(gh it:Nat)(os:List cg)(G:Y)(JD:Nat)(ps:List cg):Prop where
 Nx:E3 G gh JD ps
 len:F.length≤G.length
 old:∀i,i<F.length→i≠gh→(os≠[]→i≠it)→Y.find G i=Y.find F i
 new:ps≠[]→(os≠[]∧JD=it)∨F.length≤JD
theorem wX.trans{F G K:Y}{gh a b c:Nat}{os ps qs:List cg}(h:wX F gh a os G b ps)(k:wX G gh b ps K c qs):wX F gh a os K c qs where
 Nx:=k.Nx
 len:=Nat.le_trans h.len k.len
 old:=fun i hi h1 h2=>by
  have hl:=h.len
  rw[k.old i (by omega) h1 (fun e he=>?_),h.old i hi h1 h2]
  rcases h.new e with ⟨g1,g2⟩|g1
  ·exact h2 g1 (by omega)
  ·omega
 new:=fun e=>by
  have hl:=h.len
  rcases k.new e with ⟨h1,h2⟩|h1
  ·rcases h.new h1 with ⟨g1,g2⟩|g1
   ·exact .inl ⟨g1,by omega⟩
   ·exact .inr (by omega)
  ·exact .inr (by omega)
theorem E3.cons{F:Y}{gh it:Nat}{os:List cg}(b:Option aP)(h:E3 F gh it os):wX F gh it os (b::F) it os where
 Nx:=⟨by rw[ai (Y.ax h.box),h.box],fun e=>by
  have h1:=h.row e
  rw[bj (sD.2 e)] at h1 ⊢
  rw[ai (Y.ax h1),h1],h.ne⟩
 len:=by simp
 old:=fun i hi _ _=>ai hi
 new:=fun e=>.inl ⟨e,rfl⟩
def Ny(l:List Nd):Prop:=∀(r:cg)(xs:List AV)(rs:List cg)(F:Y)(gh it:Nat)(os:List cg),mL F r xs→r.n=l.length→B6 F l xs rs→E3 F gh it os→(∀i∈cC (r::rs),i≠gh∧(os≠[]→i≠it))→os.length+1+Nd.ay l≤9000000→
 DK Tryz.prog 51 [.ptr 21 gh 0 0,r.av 4] F (fun e F'=>∃v,e = .ret v∧∃JD,wX F gh it os F' JD (os++r::rs))
theorem Nz{t:Nd}(hp:Ny t.kids){x:AV}{rs:List cg}{F:Y}{gh it:Nat}{os:List cg}(h:OT F t x rs)(hb:E3 F gh it os)(hi:∀i∈cC rs,i≠gh∧(os≠[]→i≠it))(hl:os.length+t.size≤9000000) :
  DK Tryz.prog 82 [.ptr 21 gh 0 0,x] F (fun e F'=>∃v,e = .ret v∧∃JD,wX F gh it os F' JD (os++rs)):=by
 have hall:=Cs t h
 cases h with
 |@mk k s n l r xs rs h1 h2 h3 =>
  obtain ⟨v1,v2,v3⟩:=cg.A6 (k:=4) (r:=r)
  have v4:(r.av 4).cells=[r.av 4]:=by cases hh:r.av 4<;>first|rfl|(rw[hh] at v3;simp[AV.isAgg] at v3)
  have hq:=hb.cons (some ⟨4,[.agg [.sc (.int .u8 k),.sc (.string s),.sc (.int .i64 n),r.av 4]],true,25⟩)
  have hlt:=sG h3
  have qD:=hp r xs rs (some ⟨4,[.agg [.sc (.int .u8 k),.sc (.string s),.sc (.int .i64 n),r.av 4]],true,25⟩::F) gh it os (h1.keep fun hn=>ai (h1.lt hn)) h2 (hlt.2.2.2.2 _ fun i hi=>ai (hlt.2.1 i hi)) hq.Nx hi (by simp only[Nd.size,Nd.kids] at *;omega)
  refine ai3 (aA ?_)
  simp only[aet,ux]
  refine Z fun L hL=>?_
  refine eQ (ei v1 v2 v3 v4) ?_
  refine hL _ _ ?_
  clear hL
  refine eQ (ei v1 v2 v3 v4) ?_
  refine gp qD ?_
  rintro w G El ⟨JD,z6⟩
  refine fh ?_
  exact ⟨_,rfl,JD,hq.trans z6⟩
theorem HN(l:List Nd)(ih:∀t∈l,Ny t.kids):Ny l:=by
 intro r xs rs F gh it os hr UJ hot hb uK hsz
 obtain ⟨v1,v2,v3⟩:=cg.A6 (k:=4) (r:=r)
 have v4:(r.av 4).cells=[r.av 4]:=by cases hh:r.av 4<;>first|rfl|(rw[hh] at v3;simp[AV.isAgg] at v3)
 have mF:=hb.box
 have ir:=Y.ax mF
 refine ai2 (aA ?_)
 simp only[aes,ux]
 refine Z fun L hL=>?_
 have mid:∀ts G,(∃it1,wX F gh it os G it1 (os++[r])∧Fr (some (.ptr 21 gh 0 0)::some (r.av 4)::none::iv (dL [])) ts)→L ts G:=by
  rintro ts G ⟨it1,hq,aX⟩
  obtain ⟨js,rfl⟩:=aX.opened
  clear aX
  refine hL _ _ ?_
  clear hL
  refine Z fun L hL=>?_
  refine yV ?_
  refine hL _ _ ?_
  clear hL
  refine fh ?_
  have NA:=sG hot
  have aaB:∀i∈cC (r::rs),i<F.length:=fun i hi=>by
   rw[lP] at hi
   cases hn:r.nil with
   |true=>rw[hn] at hi;simp at hi;exact NA.2.1 i hi
   |false =>
    rw[hn] at hi
    simp at hi
    rcases hi with rfl|hi
    ·exact hr.lt hn
    ·exact NA.2.1 i hi
  have hlen:pS (r.av 4)=l.length∧oz (r.av 4):=by
   cases hn:r.nil with
   |true =>
    rcases hr with ⟨_,_,h⟩|⟨h,_⟩
    ·rw[cg.th hn]
     exact ⟨by rw[←UJ,h];rfl,trivial⟩
    ·rw[hn] at h;cases h
   |false =>
    rw[cg.nK hn]
    exact ⟨UJ,trivial⟩
  obtain ⟨n1,n2⟩:=hlen
  have ef:=Nd.fZ l
  refine aZ (fun ts K=>∃(k it2:Nat)(dn rest:List cg),(k≤l.length∧rs=dn++rest∧B6 F (l.drop k) (xs.drop k) rest)∧wX F gh it os K it2 (os++r::dn)∧Fr (some (.ptr 21 gh 0 0)::some (r.av 4)::none::none::some (.sc (.int .i64 k))::none::none::fg (dL [])) ts) (fun ts _=>l.length-(aM (ts.getD 4 .top)).toNat) ?_ ?_
  ·exact ⟨0,it1,[],rs,⟨Nat.zero_le _,rfl,by rw[List.drop_zero,List.drop_zero];exact hot⟩,hq,by simp[Fr]⟩
  clear hq
  rintro ts K ⟨k,it2,dn,rest,⟨hk,BN,NB⟩,hq,aX⟩ L2 bM
  obtain ⟨js,rfl⟩:=aX.opened
  clear aX
  by_cases hd:k<l.length
  ·have d1:(k:Int)<l.length:=by omega
   rw[List.drop_eq_getElem_cons hd] at NB
   generalize hxd:xs.drop k=xd at NB
   cases NB with
   |@cons _ _ x xt ra rb h1 h2 =>
    have uv:k<xs.length:=by rw[NA.1];exact hd
    rw[List.drop_eq_getElem_cons uv] at hxd
    obtain ⟨hx1,y9⟩:=List.cons.inj hxd
    have hkeep:∀i∈cC (r::rs),Y.find K i=Y.find F i:=fun i hi=>hq.old i (aaB i hi) (uK i hi).1 (uK i hi).2
    have dW:=List.getElem_mem hd
    have pR:=Nd.de dW
    have hone:=Nz (ih _ dW) ((Cs _ h1).2.2.2 K fun i hi=>hkeep i (tL (by rw[BN,dR,dR];simp[hi]))) hq.Nx (fun i hi=>by
     have hm:i∈cC (r::rs):=tL (by rw[BN,dR,dR];simp[hi])
     refine ⟨(uK i hm).1,fun _=>?_⟩
     rcases hq.new (by simp) with ⟨g1,g2⟩|g1
     ·rw[g2];exact (uK i hm).2 g1
     ·have:=aaB i hm;omega) (by
     have e1:=NA.2.2.1
     have e2:=(Cs _ h1).2.1
     rw[BN] at e1
     simp only[List.length_append,List.length_cons] at e1 ⊢
     omega)
    rcases hr with ⟨_,_,h⟩|⟨hn,es,ex,hf,htk,hne,_⟩
    ·omega
    ·have hfK:Y.find K r.id=some ⟨4,es,ex,25⟩:=by rw[hkeep _ (xZ hn),hf]
     have hge:es.getD k .top=x:=by
      have NZ:k<es.length:=by omega
      rw[←hx1]
      simp only[←htk,List.getElem_take]
      simp[List.getD,NZ]
     have NZ:k<es.length:=by omega
     have hkn:(k:Int)<r.n:=by omega
     obtain ⟨kk,ks,kn,kr,ri⟩:∃(a:Int)(b:ByteArray)(c:Int)(d:cg),x = .agg [.sc (.int .u8 a),.sc (.string b),.sc (.int .i64 c),d.av 4]:=by
      have fx:∀u:Nd,OT F u x ra→∃(a:Int)(b:ByteArray)(c:Int)(d:cg),x = .agg [.sc (.int .u8 a),.sc (.string b),.sc (.int .i64 c),d.av 4]:=fun u h=>by
       cases h
       exact ⟨_,_,_,_,rfl⟩
      exact fx _ h1
     rw[ri] at hge hone
     have hav:=cg.nK (k:=4) hn
     have mb:pS (r.av 4)=r.n:=by rw[n1,UJ]
     rw[hav] at n2
     refine df (Fv n1 mb n2 d1 hav hfK hge hkn NZ) ?_
     refine ⟨by omega,gp hone ?_⟩
     rintro w K2 PY ⟨it3,z6⟩
     refine fh ?_
     have Iu:=hq.trans z6
     rw[List.append_assoc,List.cons_append] at Iu
     exact bM _ _ ⟨k+1,it3,dn++ra,rb,⟨by omega,by rw[BN,List.append_assoc],by rw[y9];exact h2⟩,Iu,by simp[Fr,hav]⟩ (by simp[aM,mk];omega)
  ·have d1:¬(k:Int)<l.length:=by omega
   rw[List.drop_of_length_le (by omega),List.drop_of_length_le (by rw[NA.1];omega)] at NB
   cases NB
   rw[List.append_nil] at BN
   subst BN
   refine df (gq n1 n2 d1) ?_
   exact ⟨_,rfl,it2,hq⟩
 clear hL
 cases os with
 |nil =>
  have hO:aW 1 (gF 4 []) it=kf:=rfl
  rw[hO] at mF
  refine eQ (kZ mF v1 v2 v3 v4) ?_
  refine mid _ _ ⟨F.length,⟨⟨?_,fun _=>?_,by omega⟩,by simp[Y.af],fun i hi h1 h2=>?_,fun _=>.inr (Nat.le_refl _)⟩,by simp[Fr]⟩
  ·rw[ai (by simp[Y.af];exact ir),Y.aC ir]
   rfl
  ·rw[aJ (by simp[Y.af])]
   rfl
  ·rw[ai (by simp[Y.af];exact hi),Y.aj h1]
 |cons o os =>
  have hne:gF 4 (o::os)≠[]:=sD.2 (by simp)
  have hrow:=hb.row (by simp)
  rw[bj hne] at hrow
  rw[jj hne] at mF
  have oc:gh≠it:=fun h=>hb.ne h.symm
  simp -implicitDefEqProofs (maxSteps:=99999999) (disch:=first|omega|(simp only[vl];first|done|omega)) only[mF,hrow,v1,v2,v3,v4,va,vg,vs,vw,vk,simprocAttr]
  have qE:=Y.ax hrow
  have oP:=wV (k:=4) (rs:=o::os)
  have acF:(gF 4 (o::os)).length+1≤9000000:=by rw[oP];omega
  refine ⟨by omega,mid _ _ ⟨F.length,⟨⟨?_,fun _=>?_,by omega⟩,by simp[Y.af],fun i hi h1 h2=>?_,fun _=>.inr (Nat.le_refl _)⟩,by simp[Fr]⟩⟩
  ·rw[ai (by simp[Y.af];exact ir),Y.aC (by rw[Y.af];exact ir),jj (sD.2 (by simp)),wW,List.length_append]
   rfl
  ·rw[aJ (by simp[Y.af]),bj (sD.2 (by simp)),wW]
   rfl
  ·rw[ai (by simp[Y.af];exact hi),Y.aj h1,Y.aj (h2 (by simp))]
theorem QK(l:List Nd):Ny l:=by
 have key:∀n:Nat,∀l:List Nd,Nd.ay l≤n→Ny l:=by
  intro n
  induction n with
  |zero =>
   intro l h
   refine HN l fun t ht=>?_
   have:=Nd.de ht
   have:=t.size_pos
   omega
  |succ n ih =>
   intro l h
   refine HN l fun t ht=>ih _ ?_
   have:=Nd.de ht
   have:=Nd.size_eq t
   omega
 exact key _ l (Nat.le_refl _)
structure oX where
 r:cg
 l:List Nd
 xs:List AV
 rs:List cg
structure oX.ok(F:Y)(T:oX):Prop where
 row:mL F T.r T.xs
 n:T.r.n=T.l.length
 els:B6 F T.l T.xs T.rs
def iQ:List oX→List cg
 |[]=>[]
 |T::q=>(T.r::T.rs)++iQ q
theorem JE(a b:List oX):iQ (a++b)=iQ a++iQ b:=by
 induction a with
 |nil=>rfl
 |cons x r ih=>simp[iQ,ih]
def lG:List oX→Nat
 |[]=>0
 |T::q=>1+Nd.ay T.l+lG q
theorem zO(a b:List oX):lG (a++b)=lG a+lG b:=by
 induction a with
 |nil=>simp[lG]
 |cons x r ih=>simp only[List.cons_append,lG,ih];omega
theorem Vf(q:List oX):q.length≤lG q:=by
 induction q with
 |nil=>exact Nat.zero_le _
 |cons x r ih=>simp only[List.length_cons,lG];omega
theorem tM{F:Y}:∀{q:List oX},(∀T∈q,T.ok F)→(iQ q).length=lG q
 |[],_=>rfl
 |T::q,h=>by
  have h1:=sG (h T (by simp)).els
  simp only[iQ,lG,List.length_append,List.length_cons,h1.2.2.1,tM (q:=q) fun S hS=>h S (List.mem_cons_of_mem _ hS)]
  omega
theorem sH{F:Y}:∀{q:List oX},(∀T∈q,T.ok F)→∀r∈iQ q,∃xs,mL F r xs∧r.n≤lG q
 |[],_,r,hr=>by simp[iQ] at hr
 |T::q,h,r,hr=>by
  have hT:=h T (by simp)
  have h1:=sG hT.els
  have hl:=Nd.fZ T.l
  simp only[iQ,List.mem_append,List.mem_cons] at hr
  simp only[lG]
  rcases hr with (rfl|hr)|hr
  ·exact ⟨_,hT.row,by rw[hT.n];omega⟩
  ·obtain ⟨xs,g1,g2⟩:=h1.2.2.2.1 r hr
   exact ⟨xs,g1,by omega⟩
  ·obtain ⟨xs,g1,g2⟩:=sH (q:=q) (fun S hS=>h S (List.mem_cons_of_mem _ hS)) r hr
   exact ⟨xs,g1,by omega⟩
theorem oX.ok.keep{F G:Y}{T:oX}(h:T.ok F)(hk:∀i∈cC (T.r::T.rs),Y.find G i=Y.find F i):T.ok G :=
 ⟨h.row.keep fun hn=>hk _ (xZ hn),h.n,(sG h.els).2.2.2.2 G fun i hi=>hk i (tL hi)⟩
theorem E4{F:Y}{q:List oX}(h:∀T∈q,T.ok F):∀i∈cC (iQ q),i<F.length:=by
 intro i hi
 obtain ⟨o,h1,rfl⟩:=List.mem_map.1 hi
 obtain ⟨h2,h3⟩:=List.mem_filter.1 h1
 obtain ⟨xs,g1,_⟩:=sH h o h2
 exact g1.lt (by simpa using h3)
theorem Vg{F:Y}{q:List oX}(h:∀T∈q,T.ok F)(hn:(cC (iQ q)).Nodup)(hs:lG q≤1000000):mK kU F (iQ q) where
 zero:=fun r hr hnil=>by
  obtain ⟨xs,g1,_⟩:=sH h r hr
  rcases g1 with ⟨_,_,h⟩|⟨h,_⟩
  ·exact h
  ·rw[hnil] at h;cases h
 blk:=fun r hr hnil=>by
  obtain ⟨xs,g1,_⟩:=sH h r hr
  rcases g1 with ⟨h,_⟩|⟨_,es,ex,k1,k2,k3,k4,k5,k6⟩
  ·rw[hnil] at h;cases h
  ·exact ⟨es,ex,k1,fun hc=>⟨k4 hc,k3⟩,k5,k6⟩
 apart:=hn
 rF:=fun r hr=>by
  obtain ⟨xs,g1,g2⟩:=sH h r hr
  omega
theorem FM(H:Y)(ee:Nat)(q:List oX)(ex:Bool)(xX:TypeId)(cl:Option Nat)(hl:Y.find H ee=some ⟨1,q.map fun T=>T.r.av 4,ex,xX⟩)(ok:∀T∈q,T.ok H)(hn:(cC (iQ q)).Nodup)(E1:ee∉cC (iQ q))(hs:lG q≤1000000) :
  DK Tryz.prog 19 [.aD 1 ee 0 q.length cl] H (fun e F=>∃v,e = .ret v∧v = .sc (.bool true)):=by
 have hlt:=Y.ax hl
 have yx:=E4 ok
 have hqS:=Vf q
 have Zy:(q.map fun T=>T.r.av 4).length=q.length:=by simp
 refine ai1 (aA ?_)
 simp only[aer,ux]
 refine Z fun L hL=>?_
 refine fh ?_
 refine hL _ _ ?_
 clear hL
 refine Z fun L hL=>?_
 refine fh ?_
 refine hL _ _ ?_
 clear hL
 refine Z fun L hL=>?_
 refine fh ?_
 obtain ⟨F1,kY⟩:∃F1:Y,F1=some (sF kf)::H:=⟨_,rfl⟩
 have ajx:F1.length=H.length+1:=by rw[kY];rfl
 have ai4:∀i,i<H.length→Y.find F1 i=Y.find H i:=fun i hi=>by rw[kY,ai hi]
 have ai5:Y.find F1 H.length=some (sF kf):=by rw[kY];exact aJ rfl
 rw[←kY]
 clear kY
 refine aZ (fun ts K=>∃k it:Nat,k≤q.length∧wX F1 H.length (H.length+1) [] K it (iQ (q.take k))∧Fr (some (.aD 1 ee 0 q.length cl)::none::some (.sc (.bool false))::some (.ptr 21 H.length 0 0)::some (.sc (.int .i64 k))::dL []) ts) (fun ts _=>q.length-(aM (ts.getD 4 .top)).toNat) ?_ ?_
 ·exact ⟨0,H.length+1,Nat.zero_le _,⟨⟨ai5,fun h=>(h rfl).elim,by omega⟩,Nat.le_refl _,fun _ _ _ _=>rfl,fun h=>(h rfl).elim⟩,by simp[Fr]⟩
 rintro ts K ⟨k,it,hk,hq,aX⟩ L2 bM
 obtain ⟨js,rfl⟩:=aX.opened
 clear aX
 have hold:∀i,i<H.length→Y.find K i=Y.find H i:=fun i hi=>by rw[hq.old i (by omega) (by omega) (fun h=>(h rfl).elim),ai4 i hi]
 have hit:iQ (q.take k)≠[]→H.length<it:=fun h=>by
  rcases hq.new h with ⟨h1,_⟩|h1
  ·exact (h1 rfl).elim
  ·omega
 by_cases hd:k<q.length
 ·have d1:(k:Int)<q.length:=by omega
  have hlK:Y.find K ee=some ⟨1,q.map fun T=>T.r.av 4,ex,xX⟩:=by rw[hold _ hlt,hl]
  obtain ⟨T,hT⟩:∃T,q[k]=T:=⟨_,rfl⟩
  have hTm:T∈q:=by rw[←hT];exact List.getElem_mem hd
  have hge:(q.map fun T=>T.r.av 4).getD k .top=T.r.av 4:=by simp[List.getD,hd,hT]
  have htk:q.take (k+1)=q.take k++[T]:=by rw[List.take_succ_eq_append_getElem hd,hT]
  have hts:lG (q.take k)+(1+Nd.ay T.l)≤lG q:=by
   have e:lG q=lG (q.take (k+1))+lG (q.drop (k+1)):=by rw[←zO,List.take_append_drop]
   rw[htk,zO] at e
   simp only[lG] at e
   omega
  have hTi:∀i∈cC (T.r::T.rs),i<H.length:=by
   have:=E4 (q:=[T]) (fun S hS=>by rw[List.mem_singleton.1 hS];exact ok T hTm)
   simpa [iQ] using this
  have hTK:=(ok T hTm).keep fun i hi=>hold i (hTi i hi)
  have dY:=QK T.l T.r T.xs T.rs K H.length it (iQ (q.take k)) hTK.row hTK.n hTK.els hq.Nx (fun i hi=>⟨by have:=hTi i hi;omega,fun h=>by have:=hTi i hi;have:=hit h;omega⟩) (by
   rw[tM (F:=H) fun S hS=>ok S (List.mem_of_mem_take hS)]
   omega)
  obtain ⟨v1,v2,v3⟩:=cg.A6 (k:=4) (r:=T.r)
  have v4:(T.r.av 4).cells=[T.r.av 4]:=by cases hh:T.r.av 4<;>first|rfl|(rw[hh] at v3;simp[AV.isAgg] at v3)
  refine df (Fv d1 hlK Zy hge hd v1 v2 v3 v4) ?_
  refine ⟨by omega,gp dY ?_⟩
  rintro w K2 PY ⟨it3,z6⟩
  refine fh ?_
  have Iu:=hq.trans z6
  have e:iQ (q.take k)++T.r::T.rs=iQ (q.take (k+1)):=by rw[htk,JE];simp[iQ]
  rw[e] at Iu
  exact bM _ _ ⟨k+1,it3,by omega,Iu,by simp[Fr]⟩ (by simp[aM,mk];omega)
 ·have d1:¬(k:Int)<q.length:=by omega
  rw[List.take_of_length_le (by omega)] at hq hit
  have okK:∀T∈q,T.ok K:=fun T hT=>(ok T hT).keep fun i hi=>hold i (by
   have:=E4 (q:=[T]) (fun S hS=>by rw[List.mem_singleton.1 hS];exact ok T hT) i (by simpa [iQ] using hi)
   exact this)
  have hap:=FL K H.length it (iQ q) hq.Nx.box hq.Nx.row (Vg okK hn hs) (fun h=>by have:=yx _ h;have:=hit (fun e=>by rw[e] at h;simp[cC] at h);omega) (fun h=>by
   rcases E2 h with ⟨h1,h2⟩|h1
   ·have:=hit h1;omega
   ·have:=yx _ h1;omega) (by rw[tM ok];omega)
  refine df (ak d1 Zy) ?_
  refine hL _ _ ?_
  clear hL
  refine fh ?_
  refine ae hap ?_
  refine fh ?_
  exact ⟨_,rfl,rfl⟩
theorem acC(l:List Nd):∀a,∀x∈eT l a,kU.is x:=by
 induction l with
 |nil=>intro a x h;simp[eT] at h
 |cons t r ih =>
  intro a x h
  simp only[eT,List.mem_cons] at h
  rcases h with rfl|h
  ·rw[ey];exact ⟨rfl,rfl,rfl⟩
  ·exact ih _ x h
theorem aaC{F:Y}(t:Nd):∀{a:Nat},dP F t a→∃rs,OT F t (fF t a) rs∧(cC rs).Nodup∧∀i∈cC rs,a≤i∧i<a+t.size:=by
 induction t using Nd.ind with
 |_ t ih =>
  intro a h
  have key:∀(l:List Nd),(∀k∈l,∀{a:Nat},dP F k a→∃rs,OT F k (fF k a) rs∧(cC rs).Nodup∧∀i∈cC rs,a≤i∧i<a+k.size)→∀a,jd F l a→∃rs,B6 F l (eT l a) rs∧(cC rs).Nodup∧∀i∈cC rs,a≤i∧i<a+Nd.ay l:=by
   intro l
   induction l with
   |nil=>intro _ a _;exact ⟨[],.nil,by simp[cC],by simp[cC]⟩
   |cons x r fC =>
    intro hx a hl
    obtain ⟨r1,p1,p2,p3⟩:=hx x (by simp) hl.first
    obtain ⟨r2,q1,q2,q3⟩:=fC (fun k hk=>hx k (by simp[hk])) _ hl.rest
    refine ⟨r1++r2,.cons p1 q1,?_,fun i hi=>?_⟩
    ·rw[dR]
     refine List.nodup_append.2 ⟨p2,q2,fun y h1 z h2 e=>?_⟩
     have:=p3 y h1
     have:=q3 z h2
     omega
    ·simp only[Nd.ay]
     rw[dR,List.mem_append] at hi
     rcases hi with hi|hi
     ·have:=p3 i hi;omega
     ·have:=q3 i hi;omega
  obtain ⟨rs,q1,q2,q3⟩:=key _ ih _ h.kids
  have hh:=h.head
  have S2:=acC t.kids (a+1)
  have ef:=gW t.kids (a+1)
  have zY:=Nd.size_eq t
  rw[ey]
  by_cases e:t.kids=[]
  ·have e2:eT t.kids (a+1)=[]:=by rw[e];rfl
   rw[e2] at q1 ⊢
   have e3:rs=[]:=by rw[e] at q1;cases q1;rfl
   subst e3
   refine ⟨[⟨true,0,0,none⟩],?_,by simp[cC],by simp[cC]⟩
   cases t with
   |mk k s n l =>
    simp only[Nd.kids] at e
    subst e
    exact .mk (r:=⟨true,0,0,none⟩) (.inl ⟨rfl,rfl,rfl⟩) rfl .nil
  ·have e2:eT t.kids (a+1)≠[]:=fun h=>e (by rw[h] at ef;exact List.length_eq_zero_iff.1 (by simpa using ef.symm))
   rw[bj e2] at hh
   rw[jj e2,ef]
   refine ⟨⟨false,t.kids.length,a,none⟩::rs,?_,?_,?_⟩
   ·have h1:mL F ⟨false,t.kids.length,a,none⟩ (eT t.kids (a+1)):=.inr ⟨rfl,_,false,hh,List.take_of_length_le (by rw[ef];exact Nat.le_refl _),by rw[ef];exact Nat.le_refl _,fun _=>rfl,fun m h=>by simp at h,S2⟩
    cases t with
    |mk k s n l=>exact .mk h1 rfl q1
   ·rw[lP]
    refine List.nodup_cons.2 ⟨fun h=>?_,q2⟩
    have:=q3 _ h
    simp at this
    omega
   ·intro i hi
    rw[lP] at hi
    simp at hi
    rcases hi with rfl|hi
    ·omega
    ·have:=q3 i hi;omega
def aeu:IC:=(.seq (.ops [iH 3 (.box 4 25 (.t 0)),iP 6 (.mv kF)]) (.seq (.seq (.ops [iH 15 (yA 4 3),iH 16 (.call 7 [(.t 15),(kI 1000)]),iP 17 (.aN .gtr (.t 16) (kI 1000)),iM 18 17,gM 19 18 false 1,gP 20 18 false (.nP (.t 19)),gP 21 18 false (.aN .gtr (.t 20) (kI 1000)),iP 22 (.pick (.t 18) kT (.t 21)),iM 23 22,gM 24 23 false 2,gP 25 23 false (xL 24),gP 26 23 false (.aN .gtr (.t 25) (kI 200)),iP 27 (.pick (.t 23) kT (.t 26))]) (.cond (.t 27) (.seq (.ops [iH 28 (.call 8 []),iM 6 28]) .ret) .skip)) (.seq (.ops [iH 29 (yA 4 3),iH 30 (.call 9 [(.t 29)]),iM 31 2,iH 32 (.call 13 [(.t 31)]),⟨(some 7),none,(.h (.alloc (.agg [(.sc (.int .u8 0)),(.sc (.string ⟨#[]⟩)),(.sc (.int .i64 0)),bG]) 25))⟩,iS 4 7 30,iM 8 32]) (.seq (.ops [iH 34 (yA 4 7),iM 35 1,iM 36 8,iH 37 (.call 14 [(.t 34),(.t 35),(.t 36)]),iM 33 37,iP 38 (.ext (.t 33) 0),iP 39 (.ext (.t 33) 1),⟨(some 9),none,(.h (.alloc (.agg [(.sc (.int .u8 0)),(.sc (.string ⟨#[]⟩)),(.sc (.int .i64 0)),bG]) 25))⟩,iS 4 9 38,iM 10 39]) (.seq (.ops [iH 41 (yA 4 7),iM 42 1,iM 43 8,iH 44 (.call 14 [(.t 41),(.t 42),(.t 43)]),iM 40 44,iP 45 (.ext (.t 40) 0),iP 46 (.ext (.t 40) 1),⟨(some 11),none,(.h (.alloc (.agg [(.sc (.int .u8 0)),(.sc (.string ⟨#[]⟩)),(.sc (.int .i64 0)),bG]) 25))⟩,iS 4 11 45,iM 12 46]) (.seq (.ops [iH 48 (yA 4 3),iM 49 1,iM 50 2,iH 51 (.call 15 [(.t 48),(.t 49),(.t 50)]),iM 47 51,iP 52 (.ext (.t 47) 0),iP 53 (.ext (.t 47) 1),⟨(some 13),none,(.h (.alloc (.agg [(.sc (.int .u8 0)),(.sc (.string ⟨#[]⟩)),(.sc (.int .i64 0)),bG]) 25))⟩,iS 4 13 52,iM 14 53]) (.seq (.seq (.ops [iM 54 10,iM 55 14,iP 56 (xB .neq 54 55),iM 57 56,gH 58 57 false (yA 4 9),gH 59 57 false (yA 4 13),gH 60 57 false (yC 16 58 59),gP 61 57 false (xN 60),iP 62 (.pick (.t 57) kT (.t 61)),iM 63 62,gH 64 63 false (yA 4 7),gH 65 63 false (yA 4 3),gH 66 63 false (yC 12 64 65),gP 67 63 false (xN 66),iP 68 (.pick (.t 63) kT (.t 67)),iM 69 68,gM 70 69 false 8,gM 71 69 false 2,gH 72 69 false (yC 17 70 71),gP 73 69 false (xN 72),iP 74 (.pick (.t 69) kT (.t 73))]) (.cond (.t 74) (.seq (.ops [iP 6 (.mv kF)]) .ret) .skip)) (.seq (.ops [iH 75 (yA 4 7),iH 76 (.call 18 [(.t 75)])]) (.seq (.ops [iH 77 (yA 4 9),iH 78 (yA 4 13),iH 79 (yC 16 77 78),iM 80 79,gH 81 80 true (yA 4 9),⟨(some 82),(some (80,true)),(.h (.kO 4 25 (.agg [(.sc (.int .u8 0)),(.sc (.string ⟨#[]⟩)),(.sc (.int .i64 0)),bG]) 1 [(0,(.t 81))]))⟩,gH 83 80 true (yA 4 11),⟨(some 84),(some (80,true)),(.h (.kO 4 25 (.agg [(.sc (.int .u8 0)),(.sc (.string ⟨#[]⟩)),(.sc (.int .i64 0)),bG]) 1 [(0,(.t 83))]))⟩,gH 85 80 true (.kO 1 23 bG 2 [(0,(.t 82)),(1,(.t 84))]),gH 86 80 true (.call 19 [(.t 85)]),iP 87 (.pick (.t 80) (.t 86) kF),iM 88 87,gH 89 88 true (.call 8 []),iP 90 (.pick (.t 88) (.t 89) kF),iM 6 90]) .ret)))))))))
theorem ai6:Dk Tryz.prog 4 aeu [(.t 6)] 91:=fun h=>qO (fn:=Tryz.f4) (c:=Tryz.f4.body.getD .skip) (bx:=List.range 200) Tryz.func4 (by kernel_rfl) (by kernel_rfl) (by kernel_rfl) h
theorem aaD{K:Y}{A:Nd}{x y:AV}(hz:A.size≤1000000)(h:View K x (eu A))(k:View K y (eu A)):D Tryz.prog 16 [x,y] K (.ret (.sc (.bool true))) K:=by
 have hs:=qY A hz A none none []
 rw[qS,ky] at hs
 exact tc (.cons h (.cons k .nil)) .sc hs
theorem FN{n:Nd}{x:ByteArray}{p:List Int}(h:n.size≤10000):(bw n x p).1.size≤10000:=by
 have h0:Nd.none.size≤10000:=by decide
 unfold bw
 split
 ·split
  ·split
   ·exact h0
   ·split
    ·split
     ·show (bN _ _ _ _).size≤10000
      rw[xU]
      exact h
     ·exact h0
    ·exact h0
  ·exact h0
 ·exact h0
theorem BL{F:Y}{p q:List Int}{id:Nat}{ex:Bool}{ty:TypeId}{c:Option Nat}(h:Y.find F id=some ⟨1,aK (p++q),ex,ty⟩):View F (.aD 1 id 0 p.length c) (.am 1 (aK p) none):=by
 refine .aD h rfl (by rw[aB,List.length_append];omega) ?_
 rw[List.drop_zero,zu,List.take_append_of_le_length (by rw[aB];exact Nat.le_refl _),List.take_of_length_le (by rw[aB];exact Nat.le_refl _)]
 exact cJ.Tq
theorem B7(n:Nd)(x:ByteArray)(p:List Int)(hw:n.wt≤1900000)(hp:p.length≤2000000):D Tryz.prog 4 [dZ n none,.sc (.string x),.am 1 (aK p) none] [] (.ret (.sc (.bool true))) []:=by
 have n1:=fun K=>PC n none 1000 (by omega) (by omega) K
 rw[aQ] at n1
 rw[aQ]
 have dY:=aB p
 refine aG (Nat.le_refl _) (ai6 (aA ?_))
 simp only[aeu,ux]
 refine Z fun L hL=>?_
 refine aw ?_
 refine hL _ _ ?_
 clear hL
 refine Z fun L hL=>?_
 refine aw ?_
 refine ae (n1 _) ?_
 by_cases ca:bulk n 1000 > 1000
 ·refine aI ca ?_
  refine ae (tK _) ?_
  refine aw ?_
  exact bL (.cons .refl)
 by_cases cx:(x.size:Int) > 1000
 ·refine aI (ak ca cx) ?_
  refine ae (tK _) ?_
  refine aw ?_
  exact bL (.cons .refl)
 by_cases cp:(p.length:Int) > 200
 ·refine aI (ei ca cx cp dY) ?_
  refine ae (tK _) ?_
  refine aw ?_
  exact bL (.cons .refl)
 have wa:=aav n 1000 (by omega)
 have sa:=aaw n
 refine aI (ei ca cx cp dY) ?_
 refine hL _ _ ?_
 clear hL
 refine Z fun L hL=>?_
 refine aw ?_
 obtain ⟨F0,gT⟩:∃F0:Y,F0=[some ⟨4,[.agg [.sc (.int .u8 n.kind),.sc (.string n.text),.sc (.int .i64 n.num),.am 4 (bh n.kids) none]],true,25⟩]:=⟨_,rfl⟩
 have a0:Y.find F0 0=some ⟨4,[.agg [.sc (.int .u8 n.kind),.sc (.string n.text),.sc (.int .i64 n.num),.am 4 (bh n.kids) none]],true,25⟩:=by rw[gT];rfl
 have al:F0.length=1:=by rw[gT];rfl
 rw[←gT]
 clear gT
 have l1:=MQ n (by omega) none F0
 rw[aQ,j9] at l1
 refine ae l1 ?_
 clear l1
 have hO:=QH (t:=n) (H:=F0)
 have hO1:∀i,i<F0.length→Y.find (qu n F0.length++F0) i=Y.find F0 i:=fun i hi=>Y.bF hi
 have bl:(qu n F0.length++F0).length=n.size+F0.length:=by rw[List.length_append,tC]
 generalize qu n F0.length++F0=F1 at *
 rw[al] at hO hO1 bl ⊢
 refine aw ?_
 have li:=L4 p none F1 (by omega)
 refine ae li ?_
 clear li
 obtain ⟨F2,jH⟩:∃F2:Y,F2=some ⟨1,aK (p++mC 12),true,3⟩::F1:=⟨_,rfl⟩
 have c1:Y.find F2 F1.length=some ⟨1,aK (p++mC 12),true,3⟩:=by rw[jH];exact aJ rfl
 have c2:∀i,i<F1.length→Y.find F2 i=Y.find F1 i:=fun i hi=>by rw[jH];exact ai hi
 have cl:F2.length=F1.length+1:=by rw[jH];rfl
 rw[←jH]
 clear jH
 refine aw ?_
 refine hL _ _ ?_
 clear hL
 refine Z fun L hL=>?_
 refine aw ?_
 obtain ⟨F3,MZ⟩:∃F3:Y,F3=some ⟨4,[.agg [.sc (.int .u8 n.kind),.sc (.string n.text),.sc (.int .i64 n.num),.aD 4 1 0 n.kids.length (some (n.kids.length+12))]],true,25⟩::F2:=⟨_,rfl⟩
 have dl:F3.length=F2.length+1:=by rw[MZ];rfl
 have dX:Y.find F3 F2.length=some ⟨4,[.agg [.sc (.int .u8 n.kind),.sc (.string n.text),.sc (.int .i64 n.num),.aD 4 1 0 n.kids.length (some (n.kids.length+12))]],true,25⟩:=by rw[MZ];exact aJ rfl
 have do_:∀i,i<F2.length→Y.find F3 i=Y.find F2 i:=fun i hi=>by rw[MZ];exact ai hi
 rw[←MZ]
 clear MZ
 have dI:=(do_ _ (by omega)).trans c1
 have d0:=(do_ 0 (by omega)).trans ((c2 0 (by omega)).trans ((hO1 0 (by omega)).trans a0))
 have dO:iO F3 n 1:=hO.of fun i h1 h2=>(do_ i (by omega)).trans (c2 i (by omega))
 clear hO1 c1 c2 do_ a0
 have hTz:(bw n x p).1.size≤10000:=FN (by omega)
 have rn:=fun (F:Y) v w hv hw=>A5 n (by omega) (by omega) x p (by omega) (H:=F) (v:=v) (w:=w) hv hw
 have rr:=fun (F:Y)=>Qr n (by omega) x p (by omega) F
 obtain ⟨T,hT⟩:∃T,(bw n x p).1=T:=⟨_,rfl⟩
 obtain ⟨e,he⟩:∃e,(bw n x p).2=e:=⟨_,rfl⟩
 rw[hT] at hTz rn rr
 rw[he] at rn rr
 clear hT he
 simp only[ey T] at rn
 rw[ew T] at rr
 rw[aQ] at rr
 have vX:∀F,iO F n 1→View F (.agg [.sc (.int .u8 n.kind),.sc (.string n.text),.sc (.int .i64 n.num),.aD 4 1 0 n.kids.length (some (n.kids.length+12))]) (eu n):=fun F h=>by
  have:=Ez n h
  rw[j9] at this
  exact this
 refine ae (rn _ _ _ (vX _ dO) (BL dI)) ?_
 have e3:dP (gd T F3.length++F3) T F3.length:=j6
 have eo:∀i,i<F3.length→Y.find (gd T F3.length++F3) i=Y.find F3 i:=fun i hi=>Y.bF hi
 have el:(gd T F3.length++F3).length=T.size+F3.length:=by rw[List.length_append,iL]
 generalize gd T F3.length++F3=F4 at *
 refine aw ?_
 obtain ⟨F5,UG⟩:∃F5:Y,F5=some ⟨4,[.agg [.sc (.int .u8 T.kind),.sc (.string T.text),.sc (.int .i64 T.num),aW 4 (eT T.kids (F3.length+1)) F3.length]],true,25⟩::F4:=⟨_,rfl⟩
 have fl:F5.length=F4.length+1:=by rw[UG];rfl
 have fA:Y.find F5 F4.length=some ⟨4,[.agg [.sc (.int .u8 T.kind),.sc (.string T.text),.sc (.int .i64 T.num),aW 4 (eT T.kids (F3.length+1)) F3.length]],true,25⟩:=by rw[UG];exact aJ rfl
 have fo:∀i,i<F4.length→Y.find F5 i=Y.find F4 i:=fun i hi=>by rw[UG];exact ai hi
 rw[←UG]
 clear UG
 have f35:∀i,i<F3.length→Y.find F5 i=Y.find F3 i:=fun i hi=>(fo i (by omega)).trans (eo i hi)
 have f0:=(f35 _ (by omega)).trans d0
 have fI:=(f35 _ (by omega)).trans dI
 have fX:=(f35 _ (by omega)).trans dX
 have fL:dP F5 T F3.length:=e3.of fun i h1 h2=>fo i (by omega)
 have fO:iO F5 n 1:=dO.of fun i h1 h2=>f35 i (by omega)
 clear e3 eo fo
 refine hL _ _ ?_
 clear hL
 refine Z fun L hL=>?_
 refine aI fX ?_
 refine ae (rn _ _ _ (vX _ fO) (BL fI)) ?_
 have e5:dP (gd T F5.length++F5) T F5.length:=j6
 have eo:∀i,i<F5.length→Y.find (gd T F5.length++F5) i=Y.find F5 i:=fun i hi=>Y.bF hi
 have el2:(gd T F5.length++F5).length=T.size+F5.length:=by rw[List.length_append,iL]
 generalize gd T F5.length++F5=F6 at *
 refine aw ?_
 obtain ⟨F7,hF7⟩:∃F7:Y,F7=some ⟨4,[.agg [.sc (.int .u8 T.kind),.sc (.string T.text),.sc (.int .i64 T.num),aW 4 (eT T.kids (F5.length+1)) F5.length]],true,25⟩::F6:=⟨_,rfl⟩
 have gl:F7.length=F6.length+1:=by rw[hF7];rfl
 have gC:Y.find F7 F6.length=some ⟨4,[.agg [.sc (.int .u8 T.kind),.sc (.string T.text),.sc (.int .i64 T.num),aW 4 (eT T.kids (F5.length+1)) F5.length]],true,25⟩:=by rw[hF7];exact aJ rfl
 have go:∀i,i<F6.length→Y.find F7 i=Y.find F6 i:=fun i hi=>by rw[hF7];exact ai hi
 rw[←hF7]
 clear hF7
 have QL:∀i,i<F5.length→Y.find F7 i=Y.find F5 i:=fun i hi=>(go i (by omega)).trans (eo i hi)
 have g0:=(QL _ (by omega)).trans f0
 have gI:=(QL _ (by omega)).trans fI
 have gX:=(QL _ (by omega)).trans fX
 have gA:=(QL _ (by omega)).trans fA
 have gL:dP F7 T F3.length:=fL.of fun i h1 h2=>QL i (by omega)
 have gM:dP F7 T F5.length:=e5.of fun i h1 h2=>go i (by omega)
 have gO:iO F7 n 1:=fO.of fun i h1 h2=>QL i (by omega)
 clear e5 eo go
 refine hL _ _ ?_
 clear hL
 refine Z fun L hL=>?_
 refine aI g0 ?_
 refine ae (rr _) ?_
 refine aw ?_
 obtain ⟨F8,hF8⟩:∃F8:Y,F8=some ⟨4,[.agg [.sc (.int .u8 T.kind),.sc (.string T.text),.sc (.int .i64 T.num),.am 4 (bh T.kids) none]],true,25⟩::F7:=⟨_,rfl⟩
 have hl:F8.length=F7.length+1:=by rw[hF8];rfl
 have hB:Y.find F8 F7.length=some ⟨4,[.agg [.sc (.int .u8 T.kind),.sc (.string T.text),.sc (.int .i64 T.num),.am 4 (bh T.kids) none]],true,25⟩:=by rw[hF8];exact aJ rfl
 have ho:∀i,i<F7.length→Y.find F8 i=Y.find F7 i:=fun i hi=>by rw[hF8];exact ai hi
 rw[←hF8]
 clear hF8
 have h0:=(ho _ (by omega)).trans g0
 have hI:=(ho _ (by omega)).trans gI
 have hX:=(ho _ (by omega)).trans gX
 have hA:=(ho _ (by omega)).trans gA
 have hC:=(ho _ (by omega)).trans gC
 have Z3:dP F8 T F3.length:=gL.of fun i h1 h2=>ho i (by omega)
 have hM:dP F8 T F5.length:=gM.of fun i h1 h2=>ho i (by omega)
 have hO8:iO F8 n 1:=gO.of fun i h1 h2=>ho i (by omega)
 clear QL f35 g0 gI gX gA gC gL gM gO fL fO f0 fI fX fA d0 dI dX dO ho
 have vA:∀F a,dP F T a→View F (.agg [.sc (.int .u8 T.kind),.sc (.string T.text),.sc (.int .i64 T.num),aW 4 (eT T.kids (a+1)) a]) (eu T):=fun F a h=>by
  have:=AH T h
  rw[ey] at this
  exact this
 have vB:∀F,View F (.agg [.sc (.int .u8 T.kind),.sc (.string T.text),.sc (.int .i64 T.num),.am 4 (bh T.kids) none]) (eu T):=fun F=>by
  have:=iE T none F
  rw[aQ] at this
  exact this
 have m1:=fun F h=>aaD (K:=F) (by omega) (vA F F3.length h) (vB F)
 have m2:=zI n (MS _) (by omega) 1 F8 hO8
 rw[j9,aQ] at m2
 have m3:=L5 p none F8 F1.length _ hI (by omega)
 refine hL _ _ ?_
 clear hL
 refine Z fun L hL=>?_
 simp -implicitDefEqProofs (maxSteps:=99999999) (disch:=first|omega|(simp only[vl];first|done|omega)) only[vu,vg,h0,hI,hX,hA,hB,va,vg,vs,vw,vk,simprocAttr]
 refine ae (m1 _ Z3) ?_
 simp -implicitDefEqProofs (maxSteps:=99999999) (disch:=first|omega|(simp only[vl];first|done|omega)) only[vu,vg,h0,hI,hX,hA,hB,va,vg,vs,vw,vk,simprocAttr]
 refine ae m2 ?_
 simp -implicitDefEqProofs (maxSteps:=99999999) (disch:=first|omega|(simp only[vl];first|done|omega)) only[vu,vg,h0,hI,hX,hA,hB,va,vg,vs,vw,vk,simprocAttr]
 refine ae m3 ?_
 refine aw ?_
 refine hL _ _ ?_
 clear hL
 refine Z fun L hL=>?_
 simp -implicitDefEqProofs (maxSteps:=99999999) (disch:=first|omega|(simp only[vl];first|done|omega)) only[vu,vg,hX,va,vg,vs,vw,vk,simprocAttr]
 have ov:=M1 n (by omega) 1 F8 hO8
 rw[j9] at ov
 refine gp ov ?_
 clear ov m2 m3
 rintro v K eK ⟨rfl,-,hK⟩
 have kA:=(hK F4.length (by omega) (by omega)).trans hA
 have kB:=(hK F7.length (by omega) (by omega)).trans hB
 have kC:=(hK F6.length (by omega) (by omega)).trans hC
 have kL:dP K T F3.length:=Z3.of fun i h1 h2=>hK i (by omega) (by omega)
 have kM:dP K T F5.length:=hM.of fun i h1 h2=>hK i (by omega) (by omega)
 clear hA hB hC Z3 hM hO8 h0 hI hX hK vX vA rn rr
 refine aw ?_
 refine hL _ _ ?_
 clear hL
 refine Z fun L hL=>?_
 refine aI (ak kA kB) ?_
 refine ae (m1 _ kL) ?_
 refine aI (ak kA kC) ?_
 obtain ⟨K5,Vh⟩:∃K5:Y,K5=some ⟨1,[.aD 4 K.length 0 1 (some 1),.aD 4 (K.length+1) 0 1 (some 1)],true,23⟩::some ⟨4,[.agg [.sc (.int .u8 T.kind),.sc (.string T.text),.sc (.int .i64 T.num),aW 4 (eT T.kids (F5.length+1)) F5.length]],true,25⟩::some ⟨4,[.agg [.sc (.int .u8 T.kind),.sc (.string T.text),.sc (.int .i64 T.num),aW 4 (eT T.kids (F3.length+1)) F3.length]],true,25⟩::K:=⟨_,rfl⟩
 have r1:Y.find K5 (K.length+2)=some ⟨1,[.aD 4 K.length 0 1 (some 1),.aD 4 (K.length+1) 0 1 (some 1)],true,23⟩:=by rw[Vh];exact aJ (by simp)
 have r2:Y.find K5 (K.length+1)=some ⟨4,[fF T F5.length],true,25⟩:=by rw[Vh,ey,ai (by simp),aJ (by simp)]
 have r3:Y.find K5 K.length=some ⟨4,[fF T F3.length],true,25⟩:=by rw[Vh,ey,ai (by simp;omega),ai (by simp),aJ rfl]
 have r4:∀i,i<K.length→Y.find K5 i=Y.find K i:=fun i hi=>by rw[Vh,ai (by simp;omega),ai (by simp;omega),ai hi]
 rw[←Vh]
 clear Vh
 obtain ⟨rsA,qa1,qa2,qa3⟩:=aaC (F:=K5) T (kL.of fun i h1 h2=>r4 i (by omega))
 obtain ⟨Vi,qc1,qc2,qc3⟩:=aaC (F:=K5) T (kM.of fun i h1 h2=>r4 i (by omega))
 have isx:∀a,kU.is (fF T a):=fun a=>by rw[ey];exact ⟨rfl,rfl,rfl⟩
 have ok1:oX.ok K5 ⟨⟨false,1,K.length,some 1⟩,[T],[fF T F3.length],rsA++[]⟩:=⟨.inr ⟨rfl,[fF T F3.length],true,r3,rfl,Nat.le_refl _,fun h=>by simp at h,fun m h=>by simp only[Option.some.injEq] at h;subst h;exact .inl ⟨rfl,rfl,Nat.le_refl _⟩,fun x hx=>by rw[List.mem_singleton.1 hx];exact isx _⟩,rfl,.cons qa1 .nil⟩
 have ok2:oX.ok K5 ⟨⟨false,1,K.length+1,some 1⟩,[T],[fF T F5.length],Vi++[]⟩:=⟨.inr ⟨rfl,[fF T F5.length],true,r2,rfl,Nat.le_refl _,fun h=>by simp at h,fun m h=>by simp only[Option.some.injEq] at h;subst h;exact .inl ⟨rfl,rfl,Nat.le_refl _⟩,fun x hx=>by rw[List.mem_singleton.1 hx];exact isx _⟩,rfl,.cons qc1 .nil⟩
 have hgi:cC (iQ [⟨⟨false,1,K.length,some 1⟩,[T],[fF T F3.length],rsA++[]⟩,⟨⟨false,1,K.length+1,some 1⟩,[T],[fF T F5.length],Vi++[]⟩])=K.length::(cC rsA++((K.length+1)::cC Vi)):=by
  simp[iQ,lP,dR]
 have hap:=FM K5 (K.length+2) [⟨⟨false,1,K.length,some 1⟩,[T],[fF T F3.length],rsA++[]⟩,⟨⟨false,1,K.length+1,some 1⟩,[T],[fF T F5.length],Vi++[]⟩] true 23 (some 2) r1 (fun T hT=>by
  simp only[List.mem_cons,List.mem_nil_iff,or_false] at hT
  rcases hT with rfl|rfl
  ·exact ok1
  ·exact ok2) (by
  rw[hgi]
  have l1:((K.length+1)::cC Vi).Nodup:=List.nodup_cons.2 ⟨fun h=>by have:=qc3 _ h;omega,qc2⟩
  have l2:(cC rsA++((K.length+1)::cC Vi)).Nodup:=List.nodup_append.2 ⟨qa2,l1,fun y hy z hz=>by
   have:=qa3 y hy
   rcases List.mem_cons.1 hz with rfl|hz
   ·omega
   ·have:=qc3 z hz;omega⟩
  refine List.nodup_cons.2 ⟨fun h=>?_,l2⟩
  rcases List.mem_append.1 h with h|h
  ·have:=qa3 _ h;omega
  ·rcases List.mem_cons.1 h with h|h
   ·omega
   ·have:=qc3 _ h;omega) (fun h=>by
  rw[hgi] at h
  rcases List.mem_cons.1 h with h|h
  ·omega
  ·rcases List.mem_append.1 h with h|h
   ·have:=qa3 _ h;omega
   ·rcases List.mem_cons.1 h with h|h
    ·omega
    ·have:=qc3 _ h;omega) (by simp only[lG,Nd.ay];omega)
 refine gp hap ?_
 rintro v K6 hl6 rfl
 refine aw ?_
 refine ae (tK _) ?_
 refine aw ?_
 refine hL _ _ ?_
 clear hL
 refine aw ?_
 have ai7:∀K:Y,Over [] K:=fun K=>by
  have:∀(A B:Y),Over [] B→Over [] (A++B):=fun A B h=>by
   induction A with
   |nil=>exact h
   |cons x r ih=>exact .cons ih
  have:=this K [] .refl
  rwa [List.append_nil] at this
 exact bL (ai7 _)
theorem aaE{Hh:Type}{enc:TypeId×Value→Hh}{w:World}{n:Nat}:jh enc Tryz.prog w n 9 (fun s:ByteArray=>.sc (.string s)) (fun _ _=>True):=(jh.str Tryz.underlying9).map id fun _ _ _=>⟨rfl,trivial⟩
def aev(t:Nd):List AV:=[.sc (.int .u8 t.kind),.sc (.string t.text),.sc (.int .i64 t.num),.am 4 (bh t.kids) none]
theorem acD(l:List Nd):(l.map fun t=>AV.agg (aev t))=bh l:=by
 rw[qb]
 congr 1
 funext t
 rw[ew]
 rfl
theorem NC{Hh:Type}{l:List Nd}{ds:List (DataW Hh)}(h:pW (fun (t:Nd) d=>t.wt≤Rows.uptoBulk d) l ds):Nd.mB l≤Rows.uptoBulkAll ds:=by
 induction h with
 |nil=>simp[Nd.mB]
 |cons k _ ih =>
  simp only[Nd.mB,Rows.uptoBulkAll]
  omega
theorem ND{Hh:Type}{l:List Int}{ds:List (DataW Hh)}(h:pW (fun (_:Int) d=>1≤Rows.uptoBulk d) l ds):l.length≤Rows.uptoBulkAll ds:=by
 induction h with
 |nil=>simp
 |cons k _ ih =>
  simp only[List.length_cons,Rows.uptoBulkAll]
  omega
section
variable {Hh:Type}{enc:TypeId×Value→Hh}{w:World}
theorem aaF{n:Nat}:jh enc Tryz.prog w n 9 (fun s:ByteArray=>.sc (.string s)) (fun s d=>s.size+1≤Rows.uptoBulk d) :=
 (jh.str Tryz.underlying9).map id fun a d h=>⟨rfl,by
  subst h
  simp only[Rows.uptoBulk,Array.length_toList]
  exact Nat.le_refl _⟩
theorem aaG{n:Nat}:jh enc Tryz.prog w n 2 (fun i:Int=>.sc (.int .i64 i)) (fun i d=>1≤Rows.uptoBulk d) :=
 (jh.int Tryz.underlying2).map id fun a d h=>⟨rfl,by
  rw[h.1]
  simp only[Rows.uptoBulk]
  exact Nat.le_refl _⟩
theorem Vj{n:Nat}:jh enc Tryz.prog w n 22 (fun i:Int=>.sc (.int .u8 i)) (fun i d=>1≤Rows.uptoBulk d) :=
 (jh.int Tryz.underlying22).map id fun a d h=>⟨rfl,by
  rw[h.1]
  simp only[Rows.uptoBulk]
  exact Nat.le_refl _⟩
theorem aaH{n:Nat}:jh enc Tryz.prog w n 3 (fun i:Int=>.sc (.int .i64 i)) (fun i d=>1≤Rows.uptoBulk d) :=
 (jh.int Tryz.underlying3).map id fun a d h=>⟨rfl,by
  rw[h.1]
  simp only[Rows.uptoBulk]
  exact Nat.le_refl _⟩
theorem aaI{n:Nat}:jh enc Tryz.prog w n 30 (fun l:List Int=>.am 1 (ahX l) none) (fun l d=>l.length≤Rows.uptoBulk d):=by
 cases n with
 |zero=>exact jh.zero
 |succ n =>
  refine (jh.slice Tryz.underlying30 (k:=1) (by kernel_rfl) (by decide) (fun _=>rfl) aaH).map id fun a d h=>⟨rfl,?_⟩
  rcases h with ⟨rfl,rfl⟩|⟨ds,r,rfl,h⟩
  ·exact Nat.zero_le _
  ·have:=ND h
   simp only[Rows.uptoBulk,id]
   omega
theorem aaJ{n:Nat}:jh enc Tryz.prog w n 25 (fun t:Nd=>.agg (aev t)) (fun t d=>t.wt≤Rows.uptoBulk d):=by
 induction n using Nat.strongRecOn with
 |_ n ih =>
  cases n with
  |zero=>exact jh.zero
  |succ n =>
   have agv:jh enc Tryz.prog w n 23 (fun l:List Nd=>.am 4 (bh l) none) (fun l d=>Nd.mB l≤Rows.uptoBulk d):=by
    cases n with
    |zero=>exact jh.zero
    |succ n =>
     refine (jh.slice Tryz.underlying23 (k:=4) (by kernel_rfl) (by decide) (fun _=>rfl) (ih n (by omega))).map id fun a d h=>⟨by rw[acD];rfl,?_⟩
     rcases h with ⟨rfl,rfl⟩|⟨ds,r,rfl,h⟩
     ·exact Nat.zero_le _
     ·have:=NC h
      simp only[Rows.uptoBulk,id]
      omega
   refine (jh.struct Tryz.underlying25 (fun a=>?_) (uX.cons (k:=1) rfl (by kernel_rfl) (fun _=>rfl) Vj (uX.cons (k:=1) rfl (by kernel_rfl) (fun _=>rfl) aaF (uX.cons (k:=1) rfl (by kernel_rfl) (fun _=>rfl) aaG (uX.cons (k:=1) rfl (by kernel_rfl) (fun _=>rfl) agv uX.nil))))).map (fun p=>(⟨p.1,p.2.1,p.2.2.1,p.2.2.2.1⟩:Nd)) fun a d h=>⟨rfl,?_⟩
   ·have:Tryz.prog.cellsOf 25=4:=by kernel_rfl
    rw[this]
    rfl
   ·obtain ⟨_,rfl,d1,_,rfl,h1,d2,_,rfl,h2,d3,_,rfl,h3,d4,_,rfl,h4,rfl⟩:=h
    simp only[Rows.uptoBulk,Rows.uptoBulkAll,Nd.wt]
    omega
end
def Sg:List Int:=(List.range 256).map fun c=>if c=9∨c=10∨c=11∨c=12∨c=13∨c=32 then 1 else 0
theorem QM:(Sg.map fun z=>Value.int .u8 z)=(List.range 256).map fun c=>Value.int .u8 (if c=9∨c=10∨c=11∨c=12∨c=13∨c=32 then 1 else 0):=by
 unfold Sg
 rw[List.map_map]
 rfl
theorem FO{P:Program}{w:World}{x:String×DataW Unit}{r:List (String×DataW Unit)}(h:laidMet P (x::r) w):laidMet P r w:=by
 obtain ⟨ps,⟨g,t,cs,fuel,p,q,h1,h2,h3,h4,h5,h6⟩,hn,hc⟩:=h
 subst h6
 exact ⟨q,h5,(List.nodup_append.1 hn).2.1,fun b off hm=>hc b off (List.mem_append_right _ hm)⟩
theorem FP {l : List (String × DataW Unit)} {a : String × DataW Unit} {w : World} (hl : l = [a, ("strings.asciiSpace", Lib.tabData .u8 Sg)]) (h : laidMet Tryz.prog l w) : BM gS [] w := by
 subst hl
 have hT := Lib.tabIs_of_head (t := 264) (e := 5) (n := 256) (by kernel_rfl : Tryz.prog.globalNamed "strings.asciiSpace" = some 0) (by kernel_rfl) (by kernel_rfl) (by kernel_rfl) (by kernel_rfl) (by kernel_rfl) (FO h)
 intro p hp
 refine ⟨?_,tP⟩
 rcases List.mem_cons.1 hp with rfl|hp
 ·unfold Lib.TabIs World.var? at hT
  rw [show Tryz.prog.globalNamed "strings.asciiSpace" = some 0 by kernel_rfl] at hT
  simp only[Option.bind_some] at hT
  split at hT
  ·rename_i cs e fr hh
   refine ⟨e,fr,by rw[hh,Option.some.inj hT,QM]⟩
  ·cases hT
 ·cases hp
end Go.Proofs.YtnoplgongieehaaGreatDoor
