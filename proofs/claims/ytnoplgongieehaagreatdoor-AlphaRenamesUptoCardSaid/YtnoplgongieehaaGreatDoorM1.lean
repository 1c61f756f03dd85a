import Derived.Shelf.Strings.SplitShaped
import Derived.Shelf.Sort.Plain
import Derived.Shelf.Slices.CompactS
import Derived.Shelf.Slices.In.SortNone
import Derived.Test.YtnoplgongieehaaGreatDoorProg
import Derived.WalkKit
import Derived.WalkSpells
import Derived.WalkLawsBesides
import Derived.Lib.Hide
import Derived.Laws.AppendOwnNone
import Derived.Orders
import Derived.Laws.BytesString
import Derived.Great.BuildSlice
import Derived.Laws.CopyRow
import Derived.Laws.Externs
import Derived.Lib.Bytealg
import Derived.MapKept
import Derived.Maps.RangeRun
namespace Go.Proofs.YtnoplgongieehaaGreatDoor
open Go.RowKit Go.Shelf
set_option linter.unusedVariables false
def HP:Go.Shelf.Ren:=⟨fun|157=>126|229=>179|199=>180|261=>203|311=>214|312=>215|n=>n,fun|9=>9|31=>41|3=>3|5=>5|4=>4|119=>264|0=>0|40=>266|152=>289|21=>21|154=>291|51=>186|141=>293|196=>304|193=>301|198=>307|49=>305|194=>302|201=>310|226=>316|46=>181|227=>317|n=>n,fun|0=>0|6=>1|n=>n⟩
theorem Vl:Go.Proofs.Lays.n157 Tryz.prog HP:={
 mixed:=by kernel_rfl
 f157:=Tryz.func126.trans (congrArg some (by kernel_rfl))
 f199:=Tryz.func180.trans (congrArg some (by kernel_rfl))
 f229:=Tryz.func179.trans (congrArg some (by kernel_rfl))
 f261:=Tryz.func203.trans (congrArg some (by kernel_rfl))
 f311:=Tryz.func214.trans (congrArg some (by kernel_rfl))
 f312:=Tryz.func215.trans (congrArg some (by kernel_rfl))
 t0:=Tryz.underlying0
 a0:=Tryz.isAgg0
 z0:=Tryz.sizeOf0
 v0:=Tryz.zeroValue0
 t3:=Tryz.underlying3
 a3:=Tryz.isAgg3
 z3:=Tryz.sizeOf3
 v3:=Tryz.zeroValue3
 t4:=Tryz.underlying4
 a4:=Tryz.isAgg4
 z4:=Tryz.sizeOf4
 v4:=Tryz.zeroValue4
 t5:=Tryz.underlying5
 a5:=Tryz.isAgg5
 z5:=Tryz.sizeOf5
 v5:=Tryz.zeroValue5
 t9:=Tryz.underlying9
 a9:=Tryz.isAgg9
 z9:=Tryz.sizeOf9
 v9:=Tryz.zeroValue9
 t21:=Tryz.underlying21
 a21:=Tryz.isAgg21
 z21:=Tryz.sizeOf21
 v21:=Tryz.zeroValue21
 t31:=Tryz.underlying41
 a31:=Tryz.isAgg41
 z31:=Tryz.sizeOf41
 v31:=Tryz.zeroValue41
 t40:=Tryz.underlying266
 a40:=Tryz.isAgg266
 z40:=Tryz.sizeOf266
 v40:=Tryz.zeroValue266
 t46:=Tryz.underlying181
 a46:=Tryz.isAgg181
 z46:=Tryz.sizeOf181
 v46:=Tryz.zeroValue181
 t49:=Tryz.underlying305
 a49:=Tryz.isAgg305
 z49:=Tryz.sizeOf305
 v49:=Tryz.zeroValue305
 t51:=Tryz.underlying186
 a51:=Tryz.isAgg186
 z51:=Tryz.sizeOf186
 v51:=Tryz.zeroValue186
 t119:=Tryz.underlying264
 a119:=Tryz.isAgg264
 z119:=Tryz.sizeOf264
 t141:=Tryz.underlying293
 a141:=Tryz.isAgg293
 z141:=Tryz.sizeOf293
 v141:=Tryz.zeroValue293
 t152:=Tryz.underlying289
 a152:=Tryz.isAgg289
 z152:=Tryz.sizeOf289
 v152:=Tryz.zeroValue289
 t154:=Tryz.underlying291
 a154:=Tryz.isAgg291
 z154:=Tryz.sizeOf291
 v154:=Tryz.zeroValue291
 t193:=Tryz.underlying301
 a193:=Tryz.isAgg301
 z193:=Tryz.sizeOf301
 v193:=Tryz.zeroValue301
 t194:=Tryz.underlying302
 a194:=Tryz.isAgg302
 z194:=Tryz.sizeOf302
 v194:=Tryz.zeroValue302
 t196:=Tryz.underlying304
 a196:=Tryz.isAgg304
 z196:=Tryz.sizeOf304
 v196:=Tryz.zeroValue304
 t198:=Tryz.underlying307
 a198:=Tryz.isAgg307
 z198:=Tryz.sizeOf307
 v198:=Tryz.zeroValue307
 t201:=Tryz.underlying310
 a201:=Tryz.isAgg310
 z201:=Tryz.sizeOf310
 v201:=Tryz.zeroValue310
 t226:=Tryz.underlying316
 a226:=Tryz.isAgg316
 z226:=Tryz.sizeOf316
 v226:=Tryz.zeroValue316
 t227:=Tryz.underlying317
 a227:=Tryz.isAgg317
 z227:=Tryz.sizeOf317
 v227:=Tryz.zeroValue317
 g0:=by kernel_rfl
 g6:=by kernel_rfl }
open Go.RowKit
inductive AV where
 | sc (v:Value)
 | am (k:Nat)(xs:List AV)(room:Option (List AV))
 | aD (k id off n:Nat)(c:Option Nat)
 | ptr (k id j f:Nat)
 | lp (x:AV)(f:Nat)
 | agg (cs:List AV)
 | aO (vs:List AV)
 | fn (f:Fn)(first cK:List AV)
 | eP (t:TypeId)(v:AV)
 | ub
 | top
 | HQ (r:Loop)
def AV.az:AV→Nat
 |.agg cs=>cs.length
 |_=>1
def AV.isAgg:AV→Bool
 |.agg _=>true
 |_=>false
def AV.bT:AV→Bool
 |.top=>true
 |.aO _=>true
 |_=>false
structure aP where
 k:Nat
 es:List AV
 exact:Bool
 ty:TypeId
abbrev Y:=List (Option aP)
def Y.find:Y→Nat→Option aP
 |[],_=>none
 |b::r,i=>if i=r.length then b else Y.find r i
def Y.set:Y→Nat→Option aP→Y
 |[],_,_=>[]
 |b::r,i,x=>if i=r.length then x::r else b::Y.set r i x
theorem Y.ax{H:Y}{i:Nat}{b:aP}(h:Y.find H i=some b):i<H.length:=by
 induction H with
 |nil=>simp[Y.find] at h
 |cons x r ih =>
  simp only[Y.find] at h
  split at h
  ·simp;omega
  ·have:=ih h;simp;omega
theorem Y.ya{H:Y}{i:Nat}(h:H.length≤i):Y.find H i=none:=by
 cases hf:Y.find H i with
 |none=>rfl
 |some b=>have:=Y.ax hf;omega
theorem Y.bA{H:Y}{i:Nat}{b:Option aP}(h:i<H.length):Y.find (b::H) i=Y.find H i:=by
 simp only[Y.find];rw[if_neg (by omega)]
theorem Y.iw{H:Y}{b:Option aP}:Y.find (b::H) H.length=b:=by simp[Y.find]
theorem Y.af(H:Y)(i:Nat)(x:Option aP):(Y.set H i x).length=H.length:=by
 induction H with
 |nil=>rfl
 |cons b r ih=>simp only[Y.set];split<;>simp[ih]
theorem Y.aC{H:Y}{i:Nat}{x:Option aP}(h:i<H.length):Y.find (Y.set H i x) i=x:=by
 induction H with
 |nil=>simp at h
 |cons b r ih =>
  simp only[Y.set]
  split
  ·rename_i e;simp[Y.find,e]
  ·rename_i e
   have:i<r.length:=by simp at h;omega
   simp only[Y.find,Y.af]
   rw[if_neg e,ih this]
theorem Y.aj{H:Y}{i j:Nat}{x:Option aP}(h:j≠i):Y.find (Y.set H i x) j=Y.find H j:=by
 induction H with
 |nil=>rfl
 |cons b r ih =>
  simp only[Y.set]
  split
  ·rename_i e;simp only[Y.find];rw[if_neg (by omega),if_neg (by omega)]
  ·simp only[Y.find,Y.af,ih]
theorem Y.bF{G H:Y}{i:Nat}(h:i<H.length):Y.find (G++H) i=Y.find H i:=by
 induction G with
 |nil=>rfl
 |cons b r ih=>rw[List.cons_append,Y.bA (by simp;omega),ih]
abbrev aU:=Nat→Option Nat
def Own(φ:aU)(H:Y)(b:Nat):Prop:=∃id blk,φ id=some b∧Y.find H id=some blk
def fR(v:Value):Nat→Option Value:=fun i=>v.cells[i]?
def cX(w:World)(b off:Nat):Nat→Option Value:=fun i=>w.cell? ⟨b,off+i,none⟩
def kV:AV→Value→Prop
 |.agg cs,u=>∃us,u = .agg us∧us.size=cs.length
 |.aO _,u=>∃us,u = .tuple us
 |.top,_=>True
 |_,u=>u.oneCell'=true
def A8:Nat→Nat→Nat→Nat→Value
 |0,_,0,b=>.map (some b)
 |0,_,1,b=>.func (.yield b) #[] #[]
 |0,_,_+2,b=>.pointer (some ⟨b,0,none⟩)
 |k+1,j,f,b=>.pointer (some ⟨b,j*(k+1)+f,none⟩)
theorem fJ{k j f b:Nat}(h:0<k):A8 k j f b = .pointer (some ⟨b,j*k+f,none⟩):=by
 cases k with
 |zero=>omega
 |succ k=>rfl
theorem FQ{k j f b:Nat}:(A8 k j f b).oneCell'=true:=by
 unfold A8
 split<;>rfl
mutual
def R(φ:aU)(O:Nat→Prop)(w:World):AV→(Nat→Option Value)→Prop
 |.sc v,g=>g 0=some v
 |.am k xs room,g=>∃a c,g 0=some (.slice a xs.length c)∧xs.length≤c∧c≤maxLen∧(a=none→c=0)∧
   (0<xs.length→∃b off,a=some ⟨b,off,none⟩∧¬O b∧b<w.heap.size∧Rl φ O w b k xs off)∧Rm φ O w k xs.length a c room
 |.aD k id off n c,g=>∃b c' cur e fr,φ id=some b∧g 0=some (.slice (some ⟨b,off*k,none⟩) n c')∧n≤c'∧c'≤maxLen∧(∀m,c=some m→c'=m)∧
   w.heap[b]? = some (.cells cur e fr)∧cur.size=(off+c')*k
 |.ptr k id j f,g=>∃b,φ id=some b∧g 0=some (A8 k j f b)
 |.lp x f,g=>∃b off,g 0=some (.pointer (some ⟨b,off+f,none⟩))∧¬O b∧b<w.heap.size∧(x.isAgg=false→∃u,cX w b off 0=some u∧u.oneCell'=true)∧R φ O w x (cX w b off)
 |.agg cs,g=>Rs φ O w cs g
 |.aO vs,g=>∃us,g 0=some (.tuple us)∧Rt φ O w vs us.toList
 |.fn f first cK,g=>∃us ws,g 0=some (.func f us ws)∧Rt φ O w first us.toList∧Rt φ O w cK ws.toList
 |.eP t x,g=>∃u,g 0=some (.iface t u)∧kV x u∧R φ O w x (fR u)
 |.ub,g=>∃b,g 0=some (.bool b)
 |.top,_=>True
 |.HQ _,_=>False
def Rm(φ:aU)(O:Nat→Prop)(w:World)(k n:Nat)(a:Option Addr)(c:Nat):Option (List AV)→Prop
 |none=>True
 |some ys=>c=n+ys.length∧(0<ys.length→∃b off,a=some ⟨b,off,none⟩∧¬O b∧b<w.heap.size∧Rl φ O w b k ys (off+n*k))
def Rl(φ:aU)(O:Nat→Prop)(w:World)(b k:Nat):List AV→Nat→Prop
 |[],_=>True
 |x::r,off=>x.az=k∧(x.isAgg=false→∃u,cX w b off 0=some u∧u.oneCell'=true)∧R φ O w x (cX w b off)∧Rl φ O w b k r (off+k)
def Rs(φ:aU)(O:Nat→Prop)(w:World):List AV→(Nat→Option Value)→Prop
 |[],_=>True
 |x::r,g=>x.isAgg=false∧R φ O w x g∧(∃u,g 0=some u∧u.oneCell'=true)∧Rs φ O w r (fun i=>g (i+1))
def Rt(φ:aU)(O:Nat→Prop)(w:World):List AV→List Value→Prop
 |[],us=>us=[]
 |x::r,us=>∃v s,us=v::s∧kV x v∧R φ O w x (fR v)∧Rt φ O w r s
end
def VR(φ:aU)(O:Nat→Prop)(w:World)(x:AV)(v:Value):Prop:=kV x v∧R φ O w x (fR v)
mutual
def AV.ids(ok:Nat→Prop):AV→Prop
 |.sc _=>True
 |.am _ xs room=>AV.cV ok xs∧AV.gG ok room
 |.aD _ id _ _ _=>ok id
 |.ptr _ id _ _=>ok id
 |.lp x _=>AV.ids ok x
 |.agg cs=>AV.cV ok cs
 |.aO vs=>AV.cV ok vs
 |.fn _ first cK=>AV.cV ok first∧AV.cV ok cK
 |.eP _ x=>AV.ids ok x
 |.ub=>True
 |.top=>True
 |.HQ _=>True
def AV.gG(ok:Nat→Prop):Option (List AV)→Prop
 |none=>True
 |some ys=>AV.cV ok ys
def AV.cV(ok:Nat→Prop):List AV→Prop
 |[]=>True
 |x::r=>AV.ids ok x∧AV.cV ok r
end
theorem AV.rJ{ok:Nat→Prop}:∀{l:List AV},AV.cV ok l↔∀x∈l,AV.ids ok x
 |[]=>by simp[AV.cV]
 |x::r=>by simp[AV.cV,AV.rJ (l:=r)]
mutual
theorem AV.zP{p q:Nat→Prop}(h:∀i,p i→q i):∀(x:AV),x.ids p→x.ids q
 |.sc _,_=>trivial
 |.am _ xs none,hx=>⟨AV.eU h xs hx.1,trivial⟩
 |.am _ xs (some ys),hx=>⟨AV.eU h xs hx.1,AV.eU h ys hx.2⟩
 |.aD ..,hx=>h _ hx
 |.ptr ..,hx=>h _ hx
 |.lp x _,hx=>AV.zP h x hx
 |.agg cs,hx=>AV.eU h cs hx
 |.aO vs,hx=>AV.eU h vs hx
 |.fn _ a b,hx=>⟨AV.eU h a hx.1,AV.eU h b hx.2⟩
 |.eP _ x,hx=>AV.zP h x hx
 |.ub,_=>trivial
 |.top,_=>trivial
 |.HQ _,_=>trivial
theorem AV.eU{p q:Nat→Prop}(h:∀i,p i→q i):∀(l:List AV),AV.cV p l→AV.cV q l
 |[],_=>trivial
 |x::r,hx=>⟨AV.zP h x hx.1,AV.eU h r hx.2⟩
end
mutual
theorem AV.lQ:∀(x:AV),x.ids (fun _=>True)
 |.sc _=>trivial
 |.am _ xs none=>⟨AV.cO xs,trivial⟩
 |.am _ xs (some ys)=>⟨AV.cO xs,AV.cO ys⟩
 |.aD ..=>trivial
 |.ptr ..=>trivial
 |.lp x _=>AV.lQ x
 |.agg cs=>AV.cO cs
 |.aO vs=>AV.cO vs
 |.fn _ a b=>⟨AV.cO a,AV.cO b⟩
 |.eP _ x=>AV.lQ x
 |.ub=>trivial
 |.top=>trivial
 |.HQ _=>trivial
theorem AV.cO:∀(l:List AV),AV.cV (fun _=>True) l
 |[]=>trivial
 |x::r=>⟨AV.lQ x,AV.cO r⟩
end
structure Later(ok:Nat→Prop)(φ φ':aU)(O O':Nat→Prop)(w w':World):Prop where
 map:∀id b,ok id→φ id=some b→φ' id=some b
 size:w.heap.size≤w'.heap.size
 own:∀b,b<w.heap.size→¬O b→¬O' b
 same:∀b,b<w.heap.size→¬O b→w'.heap[b]? = w.heap[b]?
 shape:∀b,b<w.heap.size→w'.shape? b=w.shape? b
theorem jI{w:World}{b:Nat}{o:Obj}(h:w.heap[b]? = some o):b<w.heap.size:=(Array.getElem?_eq_some_iff.1 h).1
theorem Later.cells{ok:Nat→Prop}{φ φ':aU}{O O':Nat→Prop}{w w':World}(h:Later ok φ φ' O O' w w'){b:Nat}{cur:Array Value}{e:TypeId}{fr:Nat×Nat}(hb:w.heap[b]? = some (.cells cur e fr)) :
  ∃iJ fr',w'.heap[b]? = some (.cells iJ e fr')∧iJ.size=cur.size:=by
 have hs:=h.shape b (jI hb)
 unfold World.shape? at hs
 rw[hb] at hs
 simp only at hs
 split at hs
 ·rename_i c e' fr' hh
  simp at hs
  exact ⟨c,fr',by rw[hh,hs.1],hs.2⟩
 ·simp at hs
mutual
theorem lh{ok:Nat→Prop}{φ φ':aU}{O O':Nat→Prop}{w w':World}(h:Later ok φ φ' O O' w w') :
  ∀(x:AV)(g g':Nat→Option Value),x.ids ok→(∀i v,g i=some v→g' i=some v)→R φ O w x g→R φ' O' w' x g'
 |.sc v,g,g',_,hg,hr=>hg _ _ hr
 |.am k xs room,g,g',hi,hg,hr=>by
  obtain ⟨a,c,h1,h2,h3,h4,h5,h6⟩:=hr
  refine ⟨a,c,hg _ _ h1,h2,h3,h4,fun hn=>?_,?_⟩
  ·obtain ⟨b,off,ha,ho,hb,hl⟩:=h5 hn
   exact ⟨b,off,ha,h.own b hb ho,Nat.lt_of_lt_of_le hb h.size,rK h b (h.same b hb ho) k xs off hi.1 hl⟩
  ·cases room with
   |none=>trivial
   |some ys =>
    refine ⟨h6.1,fun hn=>?_⟩
    obtain ⟨b,off,ha,ho,hb,hl⟩:=h6.2 hn
    exact ⟨b,off,ha,h.own b hb ho,Nat.lt_of_lt_of_le hb h.size,rK h b (h.same b hb ho) k ys _ hi.2 hl⟩
 |.aD k id off n c,g,g',hi,hg,hr=>by
  obtain ⟨b,c',cur,e,fr,h1,h2,h3,h4,h5,h6,h7⟩:=hr
  obtain ⟨iJ,fr',h8,h9⟩:=h.cells h6
  exact ⟨b,c',iJ,e,fr',h.map id b hi h1,hg _ _ h2,h3,h4,h5,h8,by rw[h9];exact h7⟩
 |.ptr k id j f,g,g',hi,hg,hr=>by
  obtain ⟨b,h1,h2⟩:=hr
  exact ⟨b,h.map id b hi h1,hg _ _ h2⟩
 |.lp x f,g,g',hi,hg,hr=>by
  obtain ⟨b,off,h1,ho,hb,h3,h2⟩:=hr
  have hm:∀i v,cX w b off i=some v→cX w' b off i=some v:=fun i v hv=>by
   unfold cX at hv ⊢
   rw[World.cell?_of_block (h.same b hb ho)]
   exact hv
  refine ⟨b,off,hg _ _ h1,h.own b hb ho,Nat.lt_of_lt_of_le hb h.size,fun hx=>?_,lh h x _ _ hi hm h2⟩
  obtain ⟨u,h4,h5⟩:=h3 hx
  exact ⟨u,hm _ _ h4,h5⟩
 |.agg cs,g,g',hi,hg,hr=>jq h cs g g' hi hg hr
 |.aO vs,g,g',hi,hg,hr=>by
  obtain ⟨us,h1,h2⟩:=hr
  exact ⟨us,hg _ _ h1,mV h vs _ hi h2⟩
 |.fn f a b,g,g',hi,hg,hr=>by
  obtain ⟨us,ws,h1,h2,h3⟩:=hr
  exact ⟨us,ws,hg _ _ h1,mV h a _ hi.1 h2,mV h b _ hi.2 h3⟩
 |.eP t x,g,g',hi,hg,hr=>by
  obtain ⟨u,h1,h2,h3⟩:=hr
  exact ⟨u,hg _ _ h1,h2,lh h x _ _ hi (fun _ _ h=>h) h3⟩
 |.ub,g,g',hi,hg,hr=>by
  obtain ⟨b,h1⟩:=hr
  exact ⟨b,hg _ _ h1⟩
 |.top,_,_,_,_,_=>trivial
 |.HQ _,_,_,_,_,hr=>hr.elim
theorem rK{ok:Nat→Prop}{φ φ':aU}{O O':Nat→Prop}{w w':World}(h:Later ok φ φ' O O' w w')(b:Nat)(hs:w'.heap[b]? = w.heap[b]?)(k:Nat) :
  ∀(l:List AV)(off:Nat),AV.cV ok l→Rl φ O w b k l off→Rl φ' O' w' b k l off
 |[],_,_,_=>trivial
 |x::r,off,hi,hr=>by
  have hm:∀i v,cX w b off i=some v→cX w' b off i=some v:=fun i v hv=>by
   unfold cX at hv ⊢
   rw[World.cell?_of_block hs]
   exact hv
  refine ⟨hr.1,fun hx=>?_,lh h x _ _ hi.1 hm hr.2.2.1,rK h b hs k r _ hi.2 hr.2.2.2⟩
  obtain ⟨u,h1,h2⟩:=hr.2.1 hx
  exact ⟨u,hm _ _ h1,h2⟩
theorem jq{ok:Nat→Prop}{φ φ':aU}{O O':Nat→Prop}{w w':World}(h:Later ok φ φ' O O' w w') :
  ∀(l:List AV)(g g':Nat→Option Value),AV.cV ok l→(∀i v,g i=some v→g' i=some v)→Rs φ O w l g→Rs φ' O' w' l g'
 |[],_,_,_,_,_=>trivial
 | x::r,g,g',hi,hg,hr=>⟨hr.1,lh h x _ _ hi.1 hg hr.2.1,by
   obtain ⟨u,h1,h2⟩:=hr.2.2.1
   exact ⟨u,hg _ _ h1,h2⟩,jq h r _ _ hi.2 (fun i v=>hg (i+1) v) hr.2.2.2⟩
theorem mV{ok:Nat→Prop}{φ φ':aU}{O O':Nat→Prop}{w w':World}(h:Later ok φ φ' O O' w w') :
  ∀(l:List AV)(us:List Value),AV.cV ok l→Rt φ O w l us→Rt φ' O' w' l us
 |[],_,_,hr=>hr
 |x::r,us,hi,hr=>by
  obtain ⟨v,s,h1,h2,h3,h4⟩:=hr
  exact ⟨v,s,h1,h2,lh h x _ _ hi.1 (fun _ _ h=>h) h3,mV h r _ hi.2 h4⟩
end
theorem rL{ok:Nat→Prop}{φ φ':aU}{O O':Nat→Prop}{w w':World}(h:Later ok φ φ' O O' w w'){x:AV}{v:Value}(hi:x.ids ok)(hr:VR φ O w x v):VR φ' O' w' x v :=
 ⟨hr.1,lh h x _ _ hi (fun _ _ h=>h) hr.2⟩
def Vm(φ:aU)(O:Nat→Prop)(w:World)(k:aP)(b:Nat):Prop :=
 ∃cur cap,w.heap[b]? = some (.cells cur k.ty (0,0))∧cur.size=cap*k.k∧k.es.length≤cap∧(k.exact=true→cap=k.es.length)∧cap≤maxLen∧Rl φ O w b k.k k.es 0
def RE(φ:aU)(O:Nat→Prop)(w:World):List AV→List MapEntry→Prop
 |[],es=>es=[]
 |x::r,es=>∃e s,es=e::s∧VR φ O w x (.tuple #[e.key,e.val])∧RE φ O w r s
def agw(φ:aU)(O:Nat→Prop)(w:World)(k:aP)(b:Nat):Prop :=
 ∃(bU:Array MapEntry)(clock:Nat),w.heap[b]? = some (.map bU clock)∧(bU.toList.map (·.born)).Pairwise (· < ·)∧(∀e∈bU.toList,e.born<clock)∧RE φ O w k.es bU.toList
def agx(φ:aU)(O:Nat→Prop)(w:World)(k:aP)(b:Nat):Prop :=
 ∃(r:Loop)(ts:List AV)(tm:Array Value),k.es = .HQ r::ts∧w.heap[b]? = some (.loop { r with tmps:=tm })∧Rt φ O w ts tm.toList
def mW(l:List Nat):Value:=.func (.yield 0) (l.map fun (n:Nat)=>Value.int .i64 n).toArray #[]
def agy(φ:aU)(O:Nat→Prop)(w:World)(k:aP)(b:Nat):Prop :=
 ∃(bU:Array MapEntry)(clock:Nat)(x:AV)(r:List AV),k.es=x::r∧w.heap[b]? = some (.map bU clock)∧(bU.toList.map (·.born)).Pairwise (· < ·)∧(∀e∈bU.toList,e.born<clock)∧VR φ O w x (mW (clock::bU.toList.map (·.born)))∧RE φ O w r bU.toList
def agz(φ:aU)(O:Nat→Prop)(w:World)(k:aP)(b:Nat):Prop :=
 ∃(bm clock:Nat)(seen:Array Nat),w.heap[b]? = some (.mapIter (some bm) clock seen clock)∧Rt φ O w k.es [.map (some bm),mW (clock::seen.toList)]
def jJ(φ:aU)(O:Nat→Prop)(w:World)(k:aP)(b:Nat):Prop:=(0<k.k∧Vm φ O w k b)∨(k.k=0∧k.ty=0∧agw φ O w k b)∨(k.k=0∧k.ty=1∧agx φ O w k b)∨(k.k=0∧k.ty=2∧agy φ O w k b)∨(k.k=0∧k.ty=3∧agz φ O w k b)
theorem jJ.cells{φ:aU}{O:Nat→Prop}{w:World}{k:aP}{b:Nat}(h:jJ φ O w k b)(hk:0<k.k):Vm φ O w k b:=by
 rcases h with h|h|h|h|h
 ·exact h.2
 ·omega
 ·omega
 ·omega
 ·omega
theorem jJ.jK{φ:aU}{O:Nat→Prop}{w:World}{k:aP}{b:Nat}(h:jJ φ O w k b){cur:Array Value}{e:TypeId}{fr:Nat×Nat}(hb:w.heap[b]? = some (.cells cur e fr)):0<k.k∧Vm φ O w k b:=by
 rcases h with h|⟨_,_,bU,clock,h,_⟩|⟨_,_,r,ts,tm,_,h,_⟩|⟨_,_,bU,clock,x,r,_,h,_⟩|⟨_,_,bm,clock,seen,h,_⟩
 ·exact h
 ·rw[hb] at h;cases h
 ·rw[hb] at h;cases h
 ·rw[hb] at h;cases h
 ·rw[hb] at h;cases h
theorem mX{ok:Nat→Prop}{φ φ':aU}{O O':Nat→Prop}{w w':World}(h:Later ok φ φ' O O' w w'):∀{l:List AV}{es:List MapEntry},AV.cV ok l→RE φ O w l es→RE φ' O' w' l es
 |[],_,_,hr=>hr
 |_::_,_,hi,hr=>by
  obtain ⟨e,s,h1,h2,h3⟩:=hr
  exact ⟨e,s,h1,rL h hi.1 h2,mX h hi.2 h3⟩
theorem jJ.later{ok:Nat→Prop}{φ φ':aU}{O O':Nat→Prop}{w w':World}(hl:Later ok φ φ' O O' w w'){k:aP}{b:Nat}(hs:w'.heap[b]? = w.heap[b]?)(hi:AV.cV ok k.es)(h:jJ φ O w k b):jJ φ' O' w' k b:=by
 rcases h with ⟨h0,c1,c2,a1,a2,a3,a4,a5,a6⟩|⟨h0,ht,bU,clock,a1,a2,a3,a4⟩|⟨h0,ht,r,ts,tm,e,a1,a2⟩|⟨h0,ht,bU,clock,x,r,e,a1,a2,a3,a4,a5⟩|⟨h0,ht,bm,clock,seen,a1,a2⟩
 ·exact .inl ⟨h0,c1,c2,by rw[hs];exact a1,a2,a3,a4,a5,rK hl b hs _ _ _ hi a6⟩
 ·exact .inr (.inl ⟨h0,ht,bU,clock,by rw[hs];exact a1,a2,a3,mX hl hi a4⟩)
 ·rw[e] at hi
  exact .inr (.inr (.inl ⟨h0,ht,r,ts,tm,e,by rw[hs];exact a1,mV hl _ _ hi.2 a2⟩))
 ·rw[e] at hi
  exact .inr (.inr (.inr (.inl ⟨h0,ht,bU,clock,x,r,e,by rw[hs];exact a1,a2,a3,rL hl hi.1 a4,mX hl hi.2 a5⟩)))
 ·exact .inr (.inr (.inr (.inr ⟨h0,ht,bm,clock,seen,by rw[hs];exact a1,mV hl _ _ hi a2⟩)))
theorem jJ.on{φ φ':aU}{O O':Nat→Prop}{w w':World}(hl:Later (fun _=>True) φ φ' O O' w w'){k:aP}{b:Nat}(hs:w'.heap[b]? = w.heap[b]?)(h:jJ φ O w k b):jJ φ' O' w' k b:=h.later hl hs (AV.cO _)
def Vn:List (Nat×List Value):=[(0,(List.range 256).map fun c=>Value.int .u8 (if c=9∨c=10∨c=11∨c=12∨c=13∨c=32 then 1 else 0))]
def BM(φ:aU)(H:Y)(w:World):Prop:=∀p∈Vn,(∃e fr,w.heap[p.1]? = some (.cells p.2.toArray e fr))∧¬Own φ H p.1
theorem BM.later{ok:Nat→Prop}{φ φ':aU}{H H':Y}{w w':World}(h:BM φ H w)(hl:Later ok φ φ' (Own φ H) (Own φ' H') w w'):BM φ' H' w':=fun p hp=>by
 obtain ⟨⟨e,fr,h1⟩,h2⟩:=h p hp
 exact ⟨⟨e,fr,(hl.same _ (jI h1) h2).trans h1⟩,hl.own _ (jI h1) h2⟩
theorem BM.less{φ φ':aU}{H H':Y}{w:World}(h:BM φ H w)(ho:∀b,Own φ' H' b→Own φ H b):BM φ' H' w:=fun p hp=>⟨(h p hp).1,fun k=>(h p hp).2 (ho _ k)⟩
structure Rel(φ:aU)(H:Y)(w:World):Prop where
 jC:BM φ H w
 dom:∀id b,φ id=some b→id<H.length∧b<w.heap.size
 inj:∀i j b,φ i=some b→φ j=some b→(Y.find H i).isSome→(Y.find H j).isSome→i=j
 blk:∀id b k,φ id=some b→Y.find H id=some k→jJ φ (Own φ H) w k b
structure Step(φ:aU)(H:Y)(w:World)(φ':aU)(H':Y)(w':World):Prop extends Later (fun _=>True) φ φ' (Own φ H) (Own φ' H') w w' where
 os:w'.os=w.os
 tape:w'.tape=w.tape
 output:w'.output=w.output
 len:H.length≤H'.length
 old:∀id,id<H.length→φ' id=φ id
theorem Later.refl{φ:aU}{O:Nat→Prop}{w:World}{ok:Nat→Prop}:Later ok φ φ O O w w :=
 ⟨fun _ _ _ h=>h,Nat.le_refl _,fun _ _ h=>h,fun _ _ _=>rfl,fun _ _=>rfl⟩
theorem Later.trans{φ ψ χ:aU}{O P Q:Nat→Prop}{u v w:World}(h:Later (fun _=>True) φ ψ O P u v)(k:Later (fun _=>True) ψ χ P Q v w):Later (fun _=>True) φ χ O Q u w where
 map:=fun id b _ e=>k.map id b trivial (h.map id b trivial e)
 size:=Nat.le_trans h.size k.size
 own:=fun b hb ho=>k.own b (Nat.lt_of_lt_of_le hb h.size) (h.own b hb ho)
 same:=fun b hb ho=>(k.same b (Nat.lt_of_lt_of_le hb h.size) (h.own b hb ho)).trans (h.same b hb ho)
 shape:=fun b hb=>(k.shape b (Nat.lt_of_lt_of_le hb h.size)).trans (h.shape b hb)
theorem Step.refl(φ:aU)(H:Y)(w:World):Step φ H w φ H w:=⟨Later.refl,rfl,rfl,rfl,Nat.le_refl _,fun _ _=>rfl⟩
theorem Step.trans{φ ψ χ:aU}{G H K:Y}{u v w:World}(h:Step φ G u ψ H v)(k:Step ψ H v χ K w):Step φ G u χ K w :=
 ⟨h.toLater.trans k.toLater,k.os.trans h.os,k.tape.trans h.tape,k.output.trans h.output,Nat.le_trans h.len k.len,fun id hid=>(k.old id (Nat.lt_of_lt_of_le hid h.len)).trans (h.old id hid)⟩
theorem Step.vr{φ φ':aU}{H H':Y}{w w':World}(h:Step φ H w φ' H' w'){x:AV}{v:Value}(hr:VR φ (Own φ H) w x v):VR φ' (Own φ' H') w' x v :=
 rL h.toLater (AV.lQ x) hr
theorem pB{φ:aU}{H:Y}{w:World}(h:Rel φ H w):Rel φ H { w with drawn:=w.drawn+1 }:=by
 have hl:Later (fun _=>True) φ φ (Own φ H) (Own φ H) w { w with drawn:=w.drawn+1 }:=⟨fun _ _ _ h=>h,Nat.le_refl _,fun _ _ h=>h,fun _ _ _=>rfl,fun _ _=>rfl⟩
 refine ⟨h.jC.later hl,h.dom,h.inj,fun id b k h1 h2=>?_⟩
 exact (h.blk id b k h1 h2).on hl rfl
theorem iR(φ:aU)(H:Y)(w:World):Step φ H w φ H { w with drawn:=w.drawn+1 } :=
 ⟨⟨fun _ _ _ h=>h,Nat.le_refl _,fun _ _ h=>h,fun _ _ _=>rfl,fun _ _=>rfl⟩,rfl,rfl,rfl,Nat.le_refl _,fun _ _=>rfl⟩
def FR(φ:aU)(O:Nat→Prop)(w:World)(ts:List AV)(a:Act):Prop :=
 a.tmps.size=ts.length∧∀i,VR φ O w (ts.getD i .top) (a.tmps.getD i undef)
theorem FR.step{φ φ':aU}{H H':Y}{w w':World}(h:Step φ H w φ' H' w'){ts:List AV}{a:Act}(hr:FR φ (Own φ H) w ts a):FR φ' (Own φ' H') w' ts a :=
 ⟨hr.1,fun i=>h.vr (hr.2 i)⟩
def cz(ts:List AV)(d:Option Tmp)(v:AV):List AV :=
 match d with
 |some d=>ts.set d v
 |none=>ts
theorem nI{φ:aU}{O:Nat→Prop}{w:World}(v:Value):VR φ O w .top v:=⟨trivial,trivial⟩
theorem FR.put{φ:aU}{O:Nat→Prop}{w:World}{ts:List AV}{a:Act}(hr:FR φ O w ts a)(d:Option Tmp){x:AV}{v:Value}(hv:VR φ O w x v):FR φ O w (cz ts d x) (a.put d v):=by
 cases d with
 |none=>exact hr
 |some d =>
  refine ⟨by simp[cz,Act.put,hr.1],fun i=>?_⟩
  have h0:=hr.2 i
  simp only[cz,Act.put,List.getD,Array.getD_eq_getD_getElem?,List.getElem?_set,Array.getElem?_setIfInBounds] at h0 ⊢
  by_cases e:d=i
  ·subst e
   simp only[if_true]
   by_cases hl:d<ts.length
   ·have E5:d<a.tmps.size:=by rw[hr.1];exact hl
    simp[hl,E5]
    exact hv
   ·simp[hl]
    exact nI _
  ·simp only[if_neg e]
   exact h0
inductive X where
 | t (n:Nat)
 | k (v:AV)
def X.ev(ts:List AV):X→AV
 |.t n=>ts.getD n .top
 |.k v=>v
def B8:Value→Option AV
 |.slice none 0 0=>some (.am 0 [] (some []))
 |.slice _ _ _=>none
 |.agg _=>none
 |.tuple _=>none
 |.func ..=>none
 |.iface ..=>none
 |v=>some (.sc v)
def l7:List Value→Option (List AV)
 |[]=>some []
 |v::r=>match B8 v,l7 r with
  |some x,some s=>some (x::s)
  |_,_=>none
def fS:Value→Option AV
 |.agg cs=>(l7 cs.toList).map .agg
 |.tuple _=>some .top
 |.func f a b=>if a.isEmpty && b.isEmpty then some (.fn f [] []) else none
 |v=>B8 v
def bt:Operand→Option X
 |.tmp t=>some (.t t)
 |.const v=>(fS v).map .k
 |.global g=>some (.k (.sc (.pointer (some ⟨g,0,none⟩))))
 |.func f=>some (.k (.fn (.func f) [] []))
theorem yb{φ:aU}{O:Nat→Prop}{w:World}{v:Value}{x:AV}(h:B8 v=some x) :
  x.isAgg=false∧v.oneCell'=true∧kV x v∧∀g:Nat→Option Value,g 0=some v→R φ O w x g:=by
 unfold B8 at h
 split at h
 ·cases h
  exact ⟨rfl,rfl,rfl,fun g hg=>⟨none,0,hg,Nat.le_refl _,by simp,fun _=>rfl,fun h=>by simp at h,rfl,fun h=>by simp at h⟩⟩
 all_goals first
  | (simp at h;done)
  | skip
 rename_i h1 h2 h3 h4 h5 h6
 cases h
 have hv:v.oneCell'=true:=by
  cases v<;>first|rfl|(exact absurd rfl (h3 _))|(exact absurd rfl (h4 _))
 exact ⟨rfl,hv,hv,fun g hg=>hg⟩
theorem rh{φ:aU}{O:Nat→Prop}{w:World}:∀{l:List Value}{xs:List AV},l7 l=some xs→
  xs.length=l.length∧∀g:Nat→Option Value,(∀i,g i=l[i]?)→Rs φ O w xs g
 |[],xs,h=>by
  simp[l7] at h
  subst h
  exact ⟨rfl,fun _ _=>trivial⟩
 |v::r,xs,h=>by
  unfold l7 at h
  split at h
  ·rename_i x s h1 h2
   cases h
   obtain ⟨a1,a2,a3,a4⟩:=yb (φ:=φ) (O:=O) (w:=w) h1
   obtain ⟨b1,b2⟩:=rh (φ:=φ) (O:=O) (w:=w) h2
   exact ⟨by simp[b1],fun g hg=>⟨a1,a4 g (by simpa using hg 0),⟨v,by simpa using hg 0,a2⟩,b2 _ fun i=>by simpa using hg (i+1)⟩⟩
  ·simp at h
theorem eF{φ:aU}{O:Nat→Prop}{w:World}{v:Value}{x:AV}(h:fS v=some x):VR φ O w x v:=by
 unfold fS at h
 split at h
 ·rename_i cs
  cases hc:l7 cs.toList with
  |none=>rw[hc] at h;simp at h
  |some xs =>
   rw[hc] at h
   simp at h
   subst h
   obtain ⟨b1,b2⟩:=rh (φ:=φ) (O:=O) (w:=w) hc
   exact ⟨⟨cs,rfl,by simp[b1]⟩,b2 _ fun i=>by simp[fR,Value.cells]⟩
 ·cases h
  exact nI _
 ·rename_i f a b
  split at h
  ·rename_i he
   simp at he
   obtain ⟨rfl,rfl⟩:=he
   cases h
   exact ⟨rfl,⟨#[],#[],rfl,rfl,rfl⟩⟩
  ·simp at h
 ·obtain ⟨a1,a2,a3,a4⟩:=yb (φ:=φ) (O:=O) (w:=w) h
  refine ⟨a3,a4 _ ?_⟩
  cases v<;>first|rfl|(simp[Value.oneCell'] at a2)
def B9:Value→Option AV
 |.agg cs=>match cs.toList with
  |[.pointer none,.slice none 0 0]=>some (.agg [.sc (.pointer none),.sc (.slice none 0 0)])
  |_=>fS (.agg cs)
 |v=>fS v
theorem yc{φ:aU}{O:Nat→Prop}{w:World}{v:Value}{x:AV}(h:B9 v=some x):VR φ O w x v:=by
 unfold B9 at h
 split at h
 ·rename_i cs
  split at h
  ·rename_i e
   cases h
   have hcs:cs=#[.pointer none,.slice none 0 0]:=by apply Array.toList_inj.1;simpa using e
   subst hcs
   exact ⟨⟨_,rfl,rfl⟩,rfl,rfl,⟨_,rfl,rfl⟩,rfl,rfl,⟨_,rfl,rfl⟩,trivial⟩
  ·exact eF h
 ·exact eF h
theorem aF{φ:aU}{O:Nat→Prop}{w:World}{ts:List AV}{a:Act}(hr:FR φ O w ts a){o:Operand}{x:X}(h:bt o=some x):VR φ O w (x.ev ts) (a.eval o):=by
 cases o with
 |tmp t=>cases h;exact hr.2 t
 |const v =>
  simp[bt] at h
  obtain ⟨y,h1,h2⟩:=h
  subst h2
  exact eF h1
 |global g=>cases h;exact ⟨rfl,rfl⟩
 |func f=>cases h;exact ⟨rfl,⟨#[],#[],rfl,rfl,rfl⟩⟩
section cells
variable {φ:aU}{O:Nat→Prop}{w:World}
theorem Ca{x:AV}(hx:x.isAgg=false){g g':Nat→Option Value}(h:R φ O w x g)(h0:g' 0=g 0):R φ O w x g':=by
 cases x<;>first|(simp[AV.isAgg] at hx;done)|(simp only[R,h0] at h ⊢;exact h)|trivial
theorem cA:∀{cs:List AV}{g g':Nat→Option Value},(∀i,i<cs.length→g' i=g i)→Rs φ O w cs g→Rs φ O w cs g'
 |[],_,_,_,_=>trivial
 |x::r,g,g',hg,h=>by
  have h0:=hg 0 (by simp)
  refine ⟨h.1,Ca h.1 h.2.1 h0,by rw[h0];exact h.2.2.1,cA (fun i hi=>?_) h.2.2.2⟩
  exact hg (i+1) (by simpa using hi)
theorem vQ:∀{cs:List AV}{g:Nat→Option Value},Rs φ O w cs g→∃us:List Value,us.length=cs.length∧(∀i,i<cs.length→g i=us[i]?)∧∀u∈us,u.oneCell'=true
 |[],g,_=>⟨[],rfl,fun i hi=>by simp at hi,fun u hu=>by simp at hu⟩
 |x::r,g,h=>by
  obtain ⟨u,h1,h2⟩:=h.2.2.1
  obtain ⟨us,h3,h4,h5⟩:=vQ h.2.2.2
  refine ⟨u::us,by simp[h3],fun i hi=>?_,fun v hv=>?_⟩
  ·cases i with
   |zero=>simpa using h1
   |succ i=>simpa using h4 i (by simpa using hi)
  ·rcases List.mem_cons.1 hv with rfl|hv
   ·exact h2
   ·exact h5 v hv
theorem Cb:∀{cs:List AV}{g:Nat→Option Value}{i:Nat}{x:AV},Rs φ O w cs g→cs[i]? = some x→
  x.isAgg=false∧R φ O w x (fun j=>g (i+j))∧∃u,g i=some u∧u.oneCell'=true
 |[],_,_,_,_,h=>by simp at h
 |y::r,g,0,x,h,hi=>by
  simp at hi
  subst hi
  exact ⟨h.1,Ca h.1 h.2.1 (by simp),h.2.2.1⟩
 |y::r,g,i+1,x,h,hi=>by
  have:=Cb h.2.2.2 (by simpa using hi)
  refine ⟨this.1,Ca this.1 this.2.1 (by simp),this.2.2⟩
theorem lj:∀{f:Nat}{cs:List AV}{g:Nat→Option Value},Rs φ O w cs g→Rs φ O w (cs.drop f) (fun j=>g (f+j))
 |0,cs,g,h=>by simpa using h
 |f+1,[],g,h=>by simp[Rs]
 |f+1,x::r,g,h=>by
  have:=lj (f:=f) h.2.2.2
  simp only[List.drop_succ_cons]
  exact cA (fun i _=>by congr 1;omega) this
theorem lm:∀{n:Nat}{cs:List AV}{g:Nat→Option Value},Rs φ O w cs g→Rs φ O w (cs.take n) g
 |0,cs,g,h=>by simp[Rs]
 |n+1,[],g,h=>by simp[Rs]
 |n+1,x::r,g,h=>by
  simp only[List.take_succ_cons]
  exact ⟨h.1,h.2.1,h.2.2.1,lm h.2.2.2⟩
theorem dB:∀{a b:List AV}{g:Nat→Option Value},Rs φ O w a g→Rs φ O w b (fun j=>g (a.length+j))→Rs φ O w (a++b) g
 |[],b,g,_,h=>by simpa using h
 |x::r,b,g,h,h'=>by
  refine ⟨h.1,h.2.1,h.2.2.1,dB h.2.2.2 (cA (fun i _=>?_) h')⟩
  congr 1
  simp
  omega
def AV.cells:AV→List AV
 |.agg cs=>cs
 |x=>[x]
theorem AV.eW(x:AV):x.az=x.cells.length:=by cases x<;>rfl
theorem QN{x:AV}{g:Nat→Option Value}(h:R φ O w x g)(h1:x.isAgg=false→∃u,g 0=some u∧u.oneCell'=true):Rs φ O w x.cells g:=by
 cases x<;>first|exact h|exact ⟨rfl,h,h1 rfl,trivial⟩
theorem uf{x:AV}{v:Value}(h:VR φ O w x v)(ht:x.bT=false):Rs φ O w x.cells (fR v):=by
 refine QN h.2 fun hx=>?_
 have h1:v.oneCell'=true:=by
  have:=h.1
  cases x<;>first|(simp[AV.isAgg] at hx;done)|(simp[AV.bT] at ht;done)|exact this
 refine ⟨v,?_,h1⟩
 cases v<;>first|rfl|(simp[Value.oneCell'] at h1)
theorem HR{cs:List AV}{us:Array Value}(h:Rs φ O w cs (fun i=>us[i]?))(hs:us.size=cs.length):VR φ O w (.agg cs) (.agg us) :=
 ⟨⟨us,rfl,hs⟩,h⟩
theorem QO{x:AV}{v:Value}(hx:x.isAgg=false)(hv:v.oneCell'=true){g:Nat→Option Value}(h:R φ O w x g)(h0:g 0=some v):VR φ O w x v:=by
 have hc:fR v 0=some v:=by cases v<;>first|rfl|(simp[Value.oneCell'] at hv)
 refine ⟨?_,Ca hx h (by rw[hc,h0])⟩
 cases x<;>first|(simp[AV.isAgg] at hx;done)|exact hv|trivial|skip
 obtain ⟨us,h1,_⟩:=h
 rw[h0] at h1
 exact ⟨us,Option.some.inj h1⟩
theorem aaL{x:AV}{v:Value}(hx:x.isAgg=false)(ht:x.bT=false)(h:VR φ O w x v):fR v 0=some v∧v.oneCell'=true:=by
 have h1:v.oneCell'=true:=by
  have:=h.1
  cases x<;>first|(simp[AV.isAgg] at hx;done)|(simp[AV.bT] at ht;done)|exact this
 refine ⟨?_,h1⟩
 cases v<;>first|rfl|(simp[Value.oneCell'] at h1)
theorem cw{u v:Value}(h:VR φ O w (.sc u) v):v=u:=by
 have h1:=(aaL rfl rfl h).1
 have h2:=h.2
 simp only[R] at h2
 rw[h1] at h2
 exact Option.some.inj h2
theorem dh{u:Value}(h:u.oneCell'=true):VR φ O w (.sc u) u :=
 ⟨h,by cases u<;>first|rfl|(simp[Value.oneCell'] at h)⟩
theorem Ct{cs:List AV}{v:Value}(h:VR φ O w (.agg cs) v):∃us:Array Value,v = .agg us∧us.size=cs.length∧Rs φ O w cs (fun i=>us[i]?):=by
 obtain ⟨us,rfl,hs⟩:=h.1
 exact ⟨us,rfl,hs,h.2⟩
theorem Cc:∀{l:List AV}{us:List Value}{i:Nat}{x:AV},Rt φ O w l us→l[i]? = some x→∃u,us[i]? = some u∧VR φ O w x u
 |[],_,_,_,_,h=>by simp at h
 |y::r,us,0,x,h,hi=>by
  obtain ⟨v,s,rfl,h1,h2,_⟩:=h
  simp at hi
  subst hi
  exact ⟨v,rfl,h1,h2⟩
 |y::r,us,i+1,x,h,hi=>by
  obtain ⟨v,s,rfl,_,_,h3⟩:=h
  obtain ⟨u,h4,h5⟩:=Cc h3 (by simpa using hi)
  exact ⟨u,by simpa using h4,h5⟩
theorem Cd:∀{l:List AV}{us:List Value},Rt φ O w l us→us.length=l.length
 |[],us,h=>by simp only[Rt] at h;subst h;rfl
 |y::r,us,h=>by
  obtain ⟨v,s,rfl,_,_,h3⟩:=h
  simp[Cd h3]
theorem oY{ts:List AV}{a:Act}(hr:FR φ O w ts a):∀{l:List Operand}{xs:List X},l.mapM bt=some xs→Rt φ O w (xs.map (X.ev ts)) (l.map a.eval)
 |[],xs,h=>by simp at h;subst h;rfl
 |o::r,xs,h=>by
  rw[List.mapM_cons] at h
  cases h1:bt o with
  |none=>rw[h1] at h;simp at h
  |some x =>
   cases h2:r.mapM bt with
   |none=>rw[h1,h2] at h;simp at h
   |some ys =>
    rw[h1,h2] at h
    simp at h
    subst h
    have hv:=aF hr h1
    exact ⟨_,_,rfl,hv.1,hv.2,oY hr h2⟩
end cells
def AV.sub(x:AV)(f n:Nat)(ag:Bool):AV:=if ag then .agg ((x.cells.drop f).take n) else x.cells.getD f .top
def AV.jw(x:AV)(f n:Nat)(ag:Bool):Prop:=if ag then f+n≤x.cells.length else f<x.cells.length
def fits(n:Nat):Bool:=Nat.ble n 9223372036854775807
theorem Sh{n:Nat}(h:fits n=true):¬((n:Nat):Int) > IntKind.i64.max:=by
 have h1:n≤9223372036854775807:=Nat.le_of_ble_eq_true h
 have h2:IntKind.i64.max=9223372036854775807:=by decide
 rw[h2]
 omega
def wD:BinOp→Value→Value→Option Value
 |op,.int k a,.int k' b =>
  if k=k' then
   match op with
   |.add=>some (.int k (k.wrap (a+b)))
   |.sub=>some (.int k (k.wrap (a-b)))
   |.mul=>some (.int k (k.wrap (a*b)))
   |.quo=>if b=0 then none else some (.int k (k.wrap (a.tdiv b)))
   |.rem=>if b=0 then none else some (.int k (a.tmod b))
   |.eql=>some (.bool (a == b))
   |.neq=>some (.bool (a != b))
   |.lss=>some (.bool (a<b))
   |.leq=>some (.bool (a≤b))
   |.gtr=>some (.bool (a > b))
   |.geq=>some (.bool (a≥b))
   |.and=>some (.int k (k.wrap (BitVec.ofInt k.bits a &&& BitVec.ofInt k.bits b).toNat))
   |.or=>some (.int k (k.wrap (BitVec.ofInt k.bits a||| BitVec.ofInt k.bits b).toNat))
   |.xor=>some (.int k (k.wrap (BitVec.ofInt k.bits a ^^^ BitVec.ofInt k.bits b).toNat))
   |.andNot=>some (.int k (k.wrap (BitVec.ofInt k.bits a &&& ~~~BitVec.ofInt k.bits b).toNat))
   |_=>none
  else none
 |op,.string s,.string t =>
  match op with
  |.add=>if fits (s.size+t.size)=true then some (.string (s++t)) else none
  |.eql=>some (.bool (s.toList == t.toList))
  |.neq=>some (.bool !(s.toList == t.toList))
  |.lss=>some (.bool (Op.bytesLess s.toList t.toList))
  |.leq=>some (.bool (Op.bytesLess s.toList t.toList|| s.toList == t.toList))
  |.gtr=>some (.bool !(Op.bytesLess s.toList t.toList|| s.toList == t.toList))
  |.geq=>some (.bool !(Op.bytesLess s.toList t.toList))
  |_=>none
 |_,_,_=>none
def NE(op:BinOp):Value→Value→Option Value
 |.int k a,.int _ y=>if y<0 then none else
  match op with
  |.shl=>some (.int k (k.wrap (a*2 ^ (min y.toNat k.bits))))
  |.shr=>some (.int k (a.fdiv (2 ^ (min y.toNat k.bits))))
  |_=>none
 |_,_=>none
def JF(op:UnOp):Value→Option Value
 |.bool b=>match op with|.not=>some (.bool !b)|_=>none
 |.int k n=>match op with
  |.neg=>some (.int k (k.wrap (0-n)))
  |.xor=>some (.int k (k.wrap (BitVec.ofInt k.bits (if k.signed then -1 else k.max) ^^^ BitVec.ofInt k.bits n).toNat))
  |_=>none
 |_=>none
theorem Si{op:BinOp}{x y r:Value}(h:wD op x y=some r)(P:Program)(t:TypeId)(w:World):(binOp op t x y).run P w = .ok r w∧r.oneCell'=true:=by
  unfold wD at h
  split at h
  · rename_i k a k' b
    split at h
    · rename_i hk
      subst hk
      unfold binOp
      cases op<;>simp only at h<;>first
        | (cases h;simp[Op.intArith,Op.intBits,Op.intCmp,Value.oneCell'];done)
        | (split at h
           · simp at h
           · rename_i hb
             cases h
             simp[Op.intDiv,hb,Value.oneCell'])
        | (simp at h;done)
    · simp at h
  · rename_i s t
    unfold binOp
    cases op<;>simp only at h<;>first
      | (cases h;simp[Op.stringOp,Value.oneCell'];done)
      | (split at h
         · rename_i hb
           cases h
           simp only[Op.stringOp]
           rw[if_neg (Sh hb)]
           exact ⟨rfl,rfl⟩
         · simp at h)
      | (simp at h;done)
  · simp at h
theorem JG{op:BinOp}{x y r:Value}(h:wD op x y=some r)(P:Program)(t:TypeId)(xo yo:Operand)(w:World):(eqGuard op t xo yo x y).run P w = .ok () w:=by
 unfold wD at h
 unfold eqGuard
 split at h
 ·split<;>simp
 ·split<;>simp
 ·simp at h
theorem Vo{op:BinOp}{x y r:Value}(h:NE op x y=some r)(P:Program)(t:TypeId)(w:World):(binOp op t x y).run P w = .ok r w∧r.oneCell'=true∧∀xo yo,(eqGuard op t xo yo x y).run P w = .ok () w:=by
 unfold NE at h
 split at h
 ·rename_i k a k' y
  split at h
  ·simp at h
  ·rename_i hy
   split at h
   ·cases h
    simp[binOp,Op.shift,hy,Value.oneCell',eqGuard]
   ·cases h
    simp[binOp,Op.shift,hy,Value.oneCell',eqGuard]
   ·simp at h
 ·simp at h
theorem Vp{op:UnOp}{x r:Value}(h:JF op x=some r)(P:Program)(w:World):(Op.unary op x).run P w = .ok r w∧r.oneCell'=true:=by
 unfold JF at h
 split at h
 ·split at h
  ·cases h;simp[Op.unary,Value.oneCell']
  ·simp at h
 ·split at h
  ·cases h;simp[Op.unary,Op.intArith,Value.oneCell']
  ·cases h;simp[Op.unary,Op.intBits,Value.oneCell']
  ·simp at h
 ·simp at h
inductive PO where
 | mv (x:X)
 | pick (c a b:X)
 | aN (op:BinOp)(x y:X)
 | E6 (op:BinOp)(x y:X)
 | JH (pos:Bool)(x y:X)
 | HS (pos:Bool)(x:X)
 | yd (pos:Bool)(x:X)
 | un (op:UnOp)(x:X)
 | conv (k:IntKind)(x:X)
 | wY (x:X)
 | bV (x:X)
 | an (off:Nat)(x:X)
 | field (off n:Nat)(ag:Bool)(x:X)
 | gm (k:Nat)(x i:X)
 | sI (len k:Nat)(x i:X)
 | kN (x i:X)
 | A9 (len n:Nat)(ag:Bool)(x i:X)
 | qC (k:Nat)(x:X)(lo hi mx:Option X)
 | rM (x:X)(lo hi:Option X)
 | len (x:X)
 | nP (x:X)
 | mm (mx:Bool)(x y:X)
 | ext (x:X)(i:Nat)
 | oQ (f:Fn)(first cK:List X)
 | Ba (t:TypeId)(x:X)
 | Bb (t:TypeId)(z:AV)(x:X)
 | build (zs:List AV)(parts:List (Nat×Nat×X))
 | ug (pos:Bool)(x:X)
 | wF (t:TypeId)(x:X)
def og(ev:X→AV):List AV→List (Nat×Nat×X)→(List AV→Prop)→Prop
 |zs,[],K=>K zs
 |zs,(off,n,x)::r,K=>((ev x).bT=false∧(ev x).az=n∧off+n≤zs.length)∧og ev (zs.take off++(ev x).cells++zs.drop (off+n)) r K
def l8(ev:X→AV)(d:Nat):Option X→(Nat→Prop)→Prop
 |none,K=>K d
 |some x,K=>match ev x with
  |.sc (.int _ n)=>0≤n∧K n.toNat
  |_=>False
def pG:AV→Option UInt8
 |.sc (.int .u8 n)=>some (UInt8.ofNat n.toNat)
 |_=>none
def l9:List AV→Bool
 |[]=>true
 |x::r=>(pG x).isSome && l9 r
def oZ(xs:List AV):ByteArray:=⟨(xs.map fun x=>(pG x).getD 0).toArray⟩
def PO.bu(ev:X→AV)(K:AV→Prop):PO→Prop
 |.mv x=>K (ev x)
 |.pick c a b=>match ev c with
  |.sc (.bool t)=>(t=true→K (ev a))∧(t=false→K (ev b))
  |_=>False
 |.aN op x y=>match ev x,ev y with
  |.sc u,.sc v=>∃r,wD op u v=some r∧K (.sc r)
  |_,_=>False
 |.E6 op x y=>match ev x,ev y with
  |.sc u,.sc v=>∃r,NE op u v=some r∧K (.sc r)
  |_,_=>False
 |.JH pos x y=>match ev x,ev y with
  |.sc (.bool a),.sc (.bool b)=>K (.sc (.bool (if pos then a == b else !(a == b))))
  |_,_=>False
 |.HS pos x=>match ev x with
  |.sc .nilIface=>K (.sc (.bool pos))
  |.eP _ _=>K (.sc (.bool !pos))
  |_=>False
 |.yd pos x=>match ev x with
  |.am _ [] _=>K .ub
  |.am _ (_::_) _=>K (.sc (.bool !pos))
  |.aD _ _ _ _ _=>K (.sc (.bool !pos))
  |_=>False
 |.un op x=>match ev x with
  |.sc u=>∃r,JF op u=some r∧K (.sc r)
  |_=>False
 |.conv k x=>match ev x with
  |.sc (.int _ n)=>K (.sc (.int k (k.wrap n)))
  |_=>False
 |.wY x=>match ev x with
  |.am k xs _=>(k=1∧l9 xs=true)∧K (.sc (.string (oZ xs)))
  |_=>False
 |.bV x=>match ev x with
  |.ptr k id j f=>(0<k∨0<f)∧K (.ptr k id j f)
  |.lp y f=>K (.lp y f)
  |.fn (.func f) a b=>K (.fn (.func f) a b)
  |_=>False
 |.an off x=>match ev x with
  |.ptr k id j f=>0<k∧K (.ptr k id j (f+off))
  |.lp y f=>K (.lp y (f+off))
  |_=>False
 |.field off n ag x=>match ev x with
  |.agg cs=>AV.jw (.agg cs) off n ag∧K (AV.sub (.agg cs) off n ag)
  |_=>False
 |.gm k x i=>match ev x,ev i with
  |.am k' xs _,.sc (.int _ n)=>(0≤n∧n<(xs.length:Int)∧k'=k)∧K (.lp (xs.getD n.toNat .top) 0)
  |.aD k' id off m _,.sc (.int _ n)=>(0≤n∧n<(m:Int)∧k'=k∧0<k)∧K (.ptr k id (off+n.toNat) 0)
  |_,_=>False
 |.sI ln k x i=>match ev x,ev i with
  |.ptr k' id j f,.sc (.int _ n)=>(0≤n∧n<(ln:Int)∧0<k')∧K (.ptr k' id j (f+n.toNat*k))
  |.lp y f,.sc (.int _ n)=>(0≤n∧n<(ln:Int))∧K (.lp y (f+n.toNat*k))
  |_,_=>False
 |.kN x i=>match ev x,ev i with
  |.sc (.string s),.sc (.int _ n)=>(0≤n∧n<(s.size:Int))∧K (.sc (.int .u8 ((s.data.getD n.toNat 0).toNat:Int)))
  |_,_=>False
 |.A9 ln n ag x i=>match ev x,ev i with
  |.agg cs,.sc (.int _ m)=>(0≤m∧m<(ln:Int))∧AV.jw (.agg cs) (m.toNat*n) n ag∧K (AV.sub (.agg cs) (m.toNat*n) n ag)
  |_,_=>False
 |.qC k x lo hi mx=>match ev x with
  |.am k' xs room=>(k'=k∨xs=[]∧room=some [])∧
   match mx with
   |some m=>l8 ev 0 (some m) fun m=>l8 ev 0 hi fun h=>l8 ev 0 lo fun l=>(hi.isSome∧l≤h∧h≤m∧m≤xs.length)∧K (.am k ((xs.take h).drop l) (some ((xs.take m).drop h)))
   |none=>match room with
    |none=>l8 ev xs.length hi fun h=>l8 ev 0 lo fun l=>(l≤h∧h≤xs.length)∧K (.am k ((xs.take h).drop l) none)
    |some ys=>l8 ev xs.length hi fun h=>l8 ev 0 lo fun l=>(l≤h∧h≤xs.length+ys.length)∧K (.am k (((xs++ys).take h).drop l) (some ((xs++ys).drop h)))
  |.aD k' id off n c=>k'=k∧mx.isNone∧l8 ev n hi fun h=>l8 ev 0 lo fun l=>(l≤h∧h≤c.getD n)∧
    match c with
    |none=>(l<h→K (.aD k id (off+l) (h-l) none))∧(l=h→K (.am k [] none))
    |some m=>(l<m→K (.aD k id (off+l) (h-l) (some (m-l))))∧(m≤l→K (.am k [] none))
  |_=>False
 |.rM x lo hi=>match ev x with
  |.sc (.string s)=>l8 ev s.size hi fun h=>l8 ev 0 lo fun l=>(l≤h∧h≤s.size)∧K (.sc (.string (s.extract l h)))
  |_=>False
 |.len x=>match ev x with
  |.am _ xs _=>K (.sc (.int .i64 xs.length))
  |.aD _ _ _ n _=>K (.sc (.int .i64 n))
  |.sc (.slice none 0 0)=>K (.sc (.int .i64 0))
  |_=>False
 |.nP x=>match ev x with
  |.sc (.string s)=>K (.sc (.int .i64 s.size))
  |_=>False
 |.mm mx x y=>match ev x,ev y with
  |.sc (.int k a),.sc (.int _ b)=>K (.sc (.int k (if mx then (if b > a then b else a) else (if b<a then b else a))))
  |_,_=>False
 |.ext x i=>match ev x with
  |.aO vs=>i<vs.length∧K (vs.getD i .top)
  |_=>False
 |.oQ f first cK=>K (.fn f (first.map ev) (cK.map ev))
 |.Ba t x=>K (.eP t (ev x))
 |.Bb t z x=>match ev x with
  |.eP u v=>(u=t→K (.aO [v,.sc (.bool true)]))∧(u≠t→K (.aO [z,.sc (.bool false)]))
  |.sc .nilIface=>K (.aO [z,.sc (.bool false)])
  |_=>False
 |.build zs parts=>og ev zs parts fun cs=>K (.agg cs)
 |.ug pos x=>match ev x with
  |.sc .nilFunc=>K (.sc (.bool pos))
  |.fn _ _ _=>K (.sc (.bool !pos))
  |_=>False
 |.wF t x=>match ev x with
  |.eP u v=>u=t∧K v
  |_=>False
def Ce:TypeDesc→Bool
 |.struct _|.array _ _=>true
 |_=>false
def fT(P:Program)(t:TypeId):Option (Nat×Bool) :=
 match P.underlying t,P.info? t with
 |some d,some i=>some (i.size,Ce d)
 |_,_=>none
def pH(l:Array Operand):Option (List X):=l.toList.mapM bt
def pI:Option Operand→Option (Option X)
 |none=>some none
 |some o=>(bt o).map some
def placesOf(P:Program)(fs:List Field):Option (List (Nat×Nat)):=fs.mapM fun f=>(P.info? f.type).map fun i=>(f.offset,i.size)
def partsOf(pl:Nat→Option (Nat×Nat)):List (Nat×Operand)→Option (List (Nat×Nat×X))
 |[]=>some []
 |(i,o)::r=>match pl i,bt o,partsOf pl r with
  |some (off,n),some x,some s=>some ((off,n,x)::s)
  |_,_,_=>none
def Cu(P:Program)(e:TypeId):Bool:=match P.underlying e with
 |some (.int .u8)=>true
 |_=>false
theorem Cv{P:Program}{e:TypeId}(h:Cu P e=true):P.underlying e=some (.int .u8):=by
 unfold Cu at h
 split at h
 ·assumption
 ·simp at h
def JI(P:Program)(op:BinOp)(t:TypeId)(x y:Operand):Option PO :=
 match bt x,bt y with
 |some x',some y' =>
  match op with
  |.shl|.shr=>some (.E6 op x' y')
  |_ =>
   match P.underlying t with
   |some .bool=>(match op with|.eql=>some (.JH true x' y')|.neq=>some (.JH false x' y')|_=>none)
   |some (.interface _)=>(match op,y with|.eql,.const .nilIface=>some (.HS true x')|.neq,.const .nilIface=>some (.HS false x')|_,_=>none)
   |some (.slice _)=>(match op,y with|.eql,.const (.slice none 0 0)=>some (.yd true x')|.neq,.const (.slice none 0 0)=>some (.yd false x')|_,_=>none)
   |some (.int _)|some .string=>some (.aN op x' y')
   |some (.func _ _ _)=>(match op,y with|.eql,.const .nilFunc=>some (.ug true x')|.neq,.const .nilFunc=>some (.ug false x')|_,_=>none)
   |_=>none
 |_,_=>none
def NF(P:Program)(o:Oper):Option PO :=
 match o.op with
 |.move x|.assign x=>(bt x).map .mv
 |.pick c a b=>match bt c,bt a,bt b with
  |some c,some a,some b=>some (.pick c a b)
  |_,_,_=>none
 |.binOp op t x y _=>JI P op t x y
 |.unOp op _ x=>(bt x).map (.un op)
 |.convert s d x=>match P.underlying s,P.underlying d,bt x with
  |some (.int _),some (.int k),some x=>some (.conv k x)
  |some .string,some .string,some x=>some (.rM x none none)
  |some (.slice e),some .string,some x=>if Cu P e=true then some (.wY x) else none
  |_,_,_=>none
 |.nilCheck x=>(bt x).map .bV
 |.fieldAddr s x f=>match P.underlying s,bt x with
  |some (.struct fs),some x=>match fs[f]? with
   |some fd=>match P.info? fd.type with
    |some i=>if i.size=0 then none else some (.an fd.offset x)
    |none=>none
   |none=>none
  |_,_=>none
 |.field t x f=>match P.underlying t,bt x with
  |some (.struct fs),some x=>match fs[f]? with
   |some fd=>match fT P fd.type with
    |some (n,ag)=>some (.field fd.offset n ag x)
    |none=>none
   |none=>none
  |_,_=>none
 |.indexAddr t x i=>match P.underlying t,bt x,bt i with
  |some (.slice e),some x,some i=>(P.info? e).map fun inf=>.gm inf.size x i
  |some (.array ln e),some x,some i=>(P.info? e).map fun inf=>.sI ln inf.size x i
  |_,_,_=>none
 |.index t x i=>match P.underlying t,bt x,bt i with
  |some .string,some x,some i=>some (.kN x i)
  |some (.array ln e),some x,some i=>(fT P e).map fun (n,ag)=>.A9 ln n ag x i
  |_,_,_=>none
 |.slice t x lo hi mx=>match P.underlying t,bt x,pI lo,pI hi,pI mx with
  |some (.slice e),some x,some lo,some hi,some mx=>(P.info? e).map fun inf=>.qC inf.size x lo hi mx
  |some .string,some x,some lo,some hi,some none=>some (.rM x lo hi)
  |_,_,_,_,_=>none
 |.extract x i=>(bt x).map (.ext · i)
 |.makeFunc f a b=>match pH a,pH b with
  |some a,some b=>some (.oQ f a b)
  |_,_=>none
 |.makeInterface t x=>match P.underlying t,bt x with
  |some (.interface _),_=>none
  |some _,some x=>some (.Ba t x)
  |_,_=>none
 |.typeAssert x _ t true=>match P.underlying t,P.info? t,bt x with
  |some (.interface _),_,_=>none
  |some _,some i,some x=>(i.zero.bind fS).map fun z=>.Bb t z x
  |_,_,_=>none
 |.typeAssert x _ t false=>match P.underlying t,bt x with
  |some (.struct _),some x=>some (.wF t x)
  |_,_=>none
 |.build t parts=>match P.underlying t,(P.info? t).bind (·.zero) with
  |some (.struct fs),some (.agg zs)=>match placesOf P fs.toList,l7 zs.toList with
   |some pl,some cs=>(partsOf (fun i=>pl[i]?) parts.toList).map fun ps=>.build cs ps
   |_,_=>none
  |some (.array _ e),some (.agg zs)=>match P.info? e,l7 zs.toList with
   |some inf,some cs=>(partsOf (fun i=>some (i*inf.size,inf.size)) parts.toList).map fun ps=>.build cs ps
   |_,_=>none
  |_,_=>none
 |.call { callee:=.builtin .len,args,argTypes }=>match args.toList,argTypes.toList with
  |[x],[t]=>match P.underlying t,bt x with
   |some (.slice _),some x=>some (.len x)
   |some .string,some x=>some (.nP x)
   |some (.array n _),some _=>some (.mv (.k (.sc (.int .i64 n))))
   |_,_=>none
  |_,_=>none
 |.call { callee:=.builtin .min,args,.. }=>match args.toList with
  |[x,y]=>match bt x,bt y with
   |some x,some y=>some (.mm false x y)
   |_,_=>none
  |_=>none
 |.call { callee:=.builtin .max,args,.. }=>match args.toList with
  |[x,y]=>match bt x,bt y with
   |some x,some y=>some (.mm true x y)
   |_,_=>none
  |_=>none
 |_=>none
set_option linter.unusedSimpArgs false
section
variable {P:Program}{φ:aU}{O:Nat→Prop}{w:World}
theorem iz{t:TypeId}{i:TypeInfo}(h:P.info? t=some i):(sizeOf t).run P w = .ok i.size w:=by simp[sizeOf,typeInfo,h]
theorem bD{t:TypeId}{d:TypeDesc}(h:P.underlying t=some d):(underlying t).run P w = .ok d w:=run_underlying h w
theorem vR{t:TypeId}{d:TypeDesc}(h:P.underlying t=some d):(isAgg t).run P w = .ok (Ce d) w:=by
 simp only[isAgg,Sem.run_bind,bD h,Result.andThen_ok]
 cases d<;>rfl
theorem Vq{cs:List AV}{us:Array Value}{f n:Nat}(h:Rs φ O w cs (fun i=>us[i]?))(hs:us.size=cs.length)(hf:f+n≤cs.length) :
  VR φ O w (.agg ((cs.drop f).take n)) (.agg (us.extract f (f+n))):=by
 refine HR (cA (fun i hi=>?_) (lm (n:=n) (lj (f:=f) h))) ?_
 ·have:i<n:=by simp at hi;omega
  have h1:f+i<us.size:=by simp at hi;omega
  rw[Array.getElem?_extract]
  have:i<min (f+n) us.size-f:=by omega
  rw[if_pos this]
 ·simp;omega
theorem FT{t:TypeId}{n:Nat}{ag:Bool}(hs:fT P t=some (n,ag)){cs:List AV}{us:Array Value}(h:Rs φ O w cs (fun i=>us[i]?))(hz:us.size=cs.length){f:Nat}(hok:AV.jw (.agg cs) f n ag) :
  ∃u,(part t us f).run P w = .ok u w∧VR φ O w (AV.sub (.agg cs) f n ag) u:=by
 unfold fT at hs
 split at hs
 ·rename_i d i h1 h2
  cases hs
  unfold part
  simp only[Sem.run_bind,vR h1,Result.andThen_ok]
  cases hd:Ce d with
  |true =>
   simp only[AV.jw,hd,if_true,AV.cells] at hok
   simp only[if_true,Sem.run_bind,iz h2,Result.andThen_ok,Sem.run_pure,AV.sub,hd,AV.cells]
   exact ⟨_,rfl,Vq h hz hok⟩
  |false =>
   simp only[AV.jw,hd,AV.cells] at hok
   simp only[AV.sub,hd,AV.cells]
   have hf:f<us.size:=by rw[hz];simpa using hok
   have hl:f<cs.length:=by simpa using hok
   obtain ⟨a1,a2,u,a3,a4⟩:=Cb h (i:=f) (x:=cs[f]) (by simp[hl])
   refine ⟨u,?_,?_⟩
   ·simp[a3]
   ·have:cs.getD f AV.top=cs[f]:=by simp[List.getD,hl]
    simp only[Bool.false_eq_true,if_false,this]
    exact QO a1 a4 a2 (by simpa using a3)
 ·simp at hs
theorem HT{vs:List AV}{v:Value}(h:VR φ O w (.aO vs) v):∃us,v = .tuple us∧Rt φ O w vs us.toList:=by
 obtain ⟨us,h1,h2⟩:=h.2
 obtain ⟨us',rfl⟩:=h.1
 simp[fR,Value.cells] at h1
 subst h1
 exact ⟨_,rfl,h2⟩
theorem mY{v:Value}(h:v.oneCell'=true):fR v 0=some v:=by
 cases v<;>first|rfl|(simp[Value.oneCell'] at h)
theorem iU{k:Nat}{xs:List AV}{room:Option (List AV)}{v:Value}(h:VR φ O w (.am k xs room) v):∃a c,v = .slice a xs.length c∧xs.length≤c∧c≤maxLen∧(a=none→c=0)∧
   (0<xs.length→∃b off,a=some ⟨b,off,none⟩∧¬O b∧b<w.heap.size∧Rl φ O w b k xs off)∧Rm φ O w k xs.length a c room:=by
 obtain ⟨a,c,h1,h2⟩:=h.2
 rw[mY h.1] at h1
 exact ⟨a,c,Option.some.inj h1,h2⟩
theorem iV{k id off n:Nat}{c:Option Nat}{v:Value}(h:VR φ O w (.aD k id off n c) v):∃b c' cur e fr,φ id=some b∧v = .slice (some ⟨b,off*k,none⟩) n c'∧n≤c'∧c'≤maxLen∧(∀m,c=some m→c'=m)∧
   w.heap[b]? = some (.cells cur e fr)∧cur.size=(off+c')*k:=by
 obtain ⟨b,c',cur,e,fr,h1,h2,h3⟩:=h.2
 rw[mY h.1] at h2
 exact ⟨b,c',cur,e,fr,h1,Option.some.inj h2,h3⟩
theorem fK{k id j f:Nat}{v:Value}(h:VR φ O w (.ptr k id j f) v):∃b,φ id=some b∧v=A8 k j f b:=by
 obtain ⟨b,h1,h2⟩:=h.2
 rw[mY h.1] at h2
 exact ⟨b,h1,Option.some.inj h2⟩
theorem Cw{x:AV}{f:Nat}{v:Value}(h:VR φ O w (.lp x f) v):∃b off,v = .pointer (some ⟨b,off+f,none⟩)∧¬O b∧b<w.heap.size∧(x.isAgg=false→∃u,cX w b off 0=some u∧u.oneCell'=true)∧R φ O w x (cX w b off):=by
 obtain ⟨b,off,h1,h2⟩:=h.2
 rw[mY h.1] at h1
 exact ⟨b,off,Option.some.inj h1,h2⟩
theorem Cx{f:Fn}{a b:List AV}{v:Value}(h:VR φ O w (.fn f a b) v):∃us ws,v = .func f us ws∧Rt φ O w a us.toList∧Rt φ O w b ws.toList:=by
 obtain ⟨us,ws,h1,h2⟩:=h.2
 rw[mY h.1] at h1
 exact ⟨us,ws,Option.some.inj h1,h2⟩
theorem vS{t:TypeId}{x:AV}{v:Value}(h:VR φ O w (.eP t x) v):∃u,v = .iface t u∧VR φ O w x u:=by
 obtain ⟨u,h1,h2⟩:=h.2
 rw[mY h.1] at h1
 exact ⟨u,Option.some.inj h1,h2⟩
theorem Cf{k id j f b:Nat}(h:φ id=some b):VR φ O w (.ptr k id j f) (A8 k j f b):=⟨FQ,b,h,mY FQ⟩
theorem addr_add(b o n:Nat):(⟨b,o,none⟩:Addr).add n=⟨b,o+n,none⟩:=by unfold Addr.add;split<;>simp_all
theorem ye:∀{l:List AV}{b k off j:Nat}{x:AV},Rl φ O w b k l off→l[j]? = some x→
  x.az=k∧(x.isAgg=false→∃u,cX w b (off+j*k) 0=some u∧u.oneCell'=true)∧R φ O w x (cX w b (off+j*k))
 |[],_,_,_,_,_,_,h=>by simp at h
 |y::r,b,k,off,0,x,h,hj=>by
  simp at hj
  subst hj
  simp only[Nat.zero_mul,Nat.add_zero]
  exact ⟨h.1,h.2.1,h.2.2.1⟩
 |y::r,b,k,off,j+1,x,h,hj=>by
  have:=ye h.2.2.2 (by simpa using hj)
  rw[show off+k+j*k=off+(j+1)*k from by rw[Nat.add_mul];omega] at this
  exact this
theorem lq:∀{f:Nat}{l:List AV}{b k off:Nat},Rl φ O w b k l off→Rl φ O w b k (l.drop f) (off+f*k)
 |0,l,b,k,off,h=>by simpa using h
 |f+1,[],b,k,off,h=>by simp[Rl]
 |f+1,x::r,b,k,off,h=>by
  have:=lq (f:=f) h.2.2.2
  rw[show off+k+f*k=off+(f+1)*k from by rw[Nat.add_mul];omega] at this
  simpa using this
theorem jL:∀{n:Nat}{l:List AV}{b k off:Nat},Rl φ O w b k l off→Rl φ O w b k (l.take n) off
 |0,l,b,k,off,h=>by simp[Rl]
 |n+1,[],b,k,off,h=>by simp[Rl]
 |n+1,x::r,b,k,off,h=>⟨h.1,h.2.1,h.2.2.1,jL h.2.2.2⟩
theorem Cy:∀{l m:List AV}{b k off:Nat},Rl φ O w b k l off→Rl φ O w b k m (off+l.length*k)→Rl φ O w b k (l++m) off
 |[],m,b,k,off,_,h=>by simpa using h
 | x::r,m,b,k,off,h,h'=>⟨h.1,h.2.1,h.2.2.1,Cy h.2.2.2 (by
   rw[show off+(x::r).length*k=off+k+r.length*k from by simp[Nat.add_mul];omega] at h'
   exact h')⟩
theorem Vr{ts:List AV}{a:Act}(hr:FR φ O w ts a){o:Option Operand}{x:Option X}(hx:pI o=some x){d:Nat}{K:Nat→Prop}(h:l8 (X.ev ts) d x K) :
  (o=none∧x=none∧K d)∨(∃p k n,o=some p∧x.isSome∧a.eval p = .int k n∧0≤n∧K n.toNat):=by
 cases o with
 |none=>cases hx;exact .inl ⟨rfl,rfl,h⟩
 |some p =>
  simp only[pI,Option.map_eq_some_iff] at hx
  obtain ⟨y,h1,rfl⟩:=hx
  simp only[l8] at h
  have hv:=aF hr h1
  cases he:X.ev ts y<;>rw[he] at h hv<;>try exact False.elim h
  rename_i v
  cases v<;>try exact False.elim h
  exact .inr ⟨p,_,_,rfl,rfl,cw hv,h.1,h.2⟩
theorem lI{k:IntKind}{n:Int}{y:Nat}{c:BoundsCode}(h0:0≤n)(h1:n.toNat≤y):(Instr.sliceBound (.int k n) y c).run P w = .ok n.toNat w:=by
 unfold Instr.sliceBound
 have:n≤(y:Int):=by omega
 simp[asIntOf,h0,this]
theorem Bc{sl:Bool}{len cap:Nat}{lo hi mx:Option Value}{l h m:Nat}
  (hm:(mx=none∧m=cap)∨∃k n,mx=some (.int k n)∧0≤n∧m=n.toNat∧hi.isSome)(hh:(hi=none∧h=len)∨∃k n,hi=some (.int k n)∧0≤n∧h=n.toNat)
  (hl:(lo=none∧l=0)∨∃k n,lo=some (.int k n)∧0≤n∧l=n.toNat)(h1:l≤h)(h2:h≤m)(h3:m≤cap):(Instr.sliceBounds sl len cap lo hi mx).run P w = .ok (l,h,m) w:=by
 unfold Instr.sliceBounds
 rcases hm with ⟨rfl,rfl⟩|⟨km,nm,rfl,m0,rfl,hi'⟩<;>rcases hh with ⟨rfl,rfl⟩|⟨kh,nh,rfl,Sj,rfl⟩<;>rcases hl with ⟨rfl,rfl⟩|⟨kl,nl,rfl,oh,rfl⟩ <;>
  first
  | (simp at hi';done)
  | (simp only[Sem.run_bind,Sem.run_pure,Result.andThen_ok];done)
  | (simp only[Sem.run_bind,Sem.run_pure,Result.andThen_ok];rw[lI (by assumption) (by omega)];done)
  | (simp only[Sem.run_bind,Sem.run_pure,Result.andThen_ok];rw[lI (by assumption) (by omega)];simp only[Sem.run_bind,Sem.run_pure,Result.andThen_ok];done)
  | (simp only[Sem.run_bind,Sem.run_pure,Result.andThen_ok];rw[lI (by assumption) (by omega)];simp only[Sem.run_bind,Sem.run_pure,Result.andThen_ok];rw[lI (by assumption) (by omega)];simp only[Sem.run_bind,Sem.run_pure,Result.andThen_ok];done)
  | (simp only[Sem.run_bind,Sem.run_pure,Result.andThen_ok];rw[lI (by assumption) (by omega)];simp only[Sem.run_bind,Sem.run_pure,Result.andThen_ok];rw[lI (by assumption) (by omega)];simp only[Sem.run_bind,Sem.run_pure,Result.andThen_ok];rw[lI (by assumption) (by omega)];simp only[Sem.run_bind,Sem.run_pure,Result.andThen_ok];done)
end
def da(P:Program)(o:Oper)(op:PO):Prop :=
 ∀(φ:aU)(O:Nat→Prop)(w:World)(ts:List AV)(a:Act),FR φ O w ts a→∀K:AV→Prop,PO.bu (X.ev ts) K op→
  ∃v u,K v∧VR φ O w v u∧(execOp a.eval o).run P w = .ok (.value u) w
section
variable {P:Program}
theorem Vs{o:Oper}{x:Operand}{x':X}(ho:o.op = .move x∨o.op = .assign x)(hx:bt x=some x'):da P o (.mv x'):=by
 intro φ O w ts a hr K h
 refine ⟨_,_,h,aF hr hx,?_⟩
 rcases ho with ho|ho<;>simp[execOp,ho]
theorem Vt{o:Oper}{c x y:Operand}{c' x' y':X}(ho:o.op = .pick c x y)(hc:bt c=some c')(hx:bt x=some x')(hy:bt y=some y'):da P o (.pick c' x' y'):=by
 intro φ O w ts a hr K h
 have hv:=aF hr hc
 simp only[PO.bu] at h
 cases he:X.ev ts c'<;>rw[he] at h hv<;>try exact False.elim h
 rename_i u
 cases u<;>try exact False.elim h
 rename_i t
 have hu:=cw hv
 cases t with
 |true=>exact ⟨_,_,h.1 rfl,aF hr hx,by simp[execOp,ho,hu,asBool]⟩
 |false=>exact ⟨_,_,h.2 rfl,aF hr hy,by simp[execOp,ho,hu,asBool]⟩
theorem aaM{o:Oper}{op:BinOp}{t ty:TypeId}{x y:Operand}{x' y':X}(ho:o.op = .binOp op t x y ty)(hx:bt x=some x')(hy:bt y=some y'):da P o (.aN op x' y'):=by
 intro φ O w ts a hr K h
 have hv:=aF hr hx
 have hw:=aF hr hy
 simp only[PO.bu] at h
 cases he:X.ev ts x'<;>cases hf:X.ev ts y'<;>rw[he,hf] at h<;>try exact False.elim h
 rw[he] at hv
 rw[hf] at hw
 obtain ⟨r,h1,h2⟩:=h
 obtain ⟨h3,h4⟩:=Si h1 P t w
 refine ⟨_,_,h2,dh h4,?_⟩
 simp[execOp,ho,cw hv,cw hw,JG h1 P t x y w,h3]
theorem aaN{o:Oper}{op:BinOp}{t ty:TypeId}{x y:Operand}{x' y':X}(ho:o.op = .binOp op t x y ty)(hx:bt x=some x')(hy:bt y=some y'):da P o (.E6 op x' y'):=by
 intro φ O w ts a hr K h
 have hv:=aF hr hx
 have hw:=aF hr hy
 simp only[PO.bu] at h
 cases he:X.ev ts x'<;>cases hf:X.ev ts y'<;>rw[he,hf] at h<;>try exact False.elim h
 rw[he] at hv
 rw[hf] at hw
 obtain ⟨r,h1,h2⟩:=h
 obtain ⟨h3,h4,h5⟩:=Vo h1 P t w
 refine ⟨_,_,h2,dh h4,?_⟩
 simp[execOp,ho,cw hv,cw hw,h5,h3]
theorem JJ{t:TypeId}(ht:P.underlying t=some .bool)(x y:Bool)(w:World):(Op.equal t (.bool x) (.bool y)).run P w = .ok (x == y) w:=by
 show (Op.equalIn (9999+1) t _ _).run P w=_
 rw[Op.equalIn]
 simp only[Sem.run_bind,bD ht,Result.andThen_ok]
 rfl
theorem Vu{t:TypeId}{ms:Array (String×TypeId)}(ht:P.underlying t=some (.interface ms))(w:World):(Op.equal t .nilIface .nilIface).run P w = .ok true w:=by
 show (Op.equalIn (9999+1) t _ _).run P w=_
 rw[Op.equalIn]
 simp only[Sem.run_bind,bD ht,Result.andThen_ok]
 rfl
theorem Vv{t u:TypeId}{v:Value}{ms:Array (String×TypeId)}(ht:P.underlying t=some (.interface ms))(w:World):(Op.equal t (.iface u v) .nilIface).run P w = .ok false w:=by
 show (Op.equalIn (9999+1) t _ _).run P w=_
 rw[Op.equalIn]
 simp only[Sem.run_bind,bD ht,Result.andThen_ok]
 rfl
theorem NG{φ:aU}{O:Nat→Prop}{w:World}{x:AV}{f b off p:Nat}(h1:¬O b)(h2:b<w.heap.size)(h4:x.isAgg=false→∃u,cX w b off 0=some u∧u.oneCell'=true)(h3:R φ O w x (cX w b off))(hp:p=off+f):VR φ O w (.lp x f) (.pointer (some ⟨b,p,none⟩)) :=
 ⟨rfl,b,off,by rw[hp];rfl,h1,h2,h4,h3⟩
theorem QP{o:Oper}{op:BinOp}{t ty:TypeId}{x y:Operand}{x' y':X}{pos:Bool}(ho:o.op = .binOp op t x y ty)(ht:P.underlying t=some .bool)(hop:op=if pos then .eql else .neq)(hx:bt x=some x')(hy:bt y=some y'):da P o (.JH pos x' y'):=by
 intro φ O w ts a hr K h
 have hv:=aF hr hx
 have hw:=aF hr hy
 simp only[PO.bu] at h
 split at h
 case h_2=>exact h.elim
 rename_i u v he hf
 rw[he] at hv
 rw[hf] at hw
 refine ⟨_,_,h,dh rfl,?_⟩
 cases pos<;>simp at hop<;>subst hop
 ·simp only[execOp,ho,cw hv,cw hw]
  have e:∀u v,binOp .neq t (.bool u) (.bool v)=(do pure (.bool (!(←Op.equal t (.bool u) (.bool v))))):=fun _ _=>rfl
  rw[e]
  simp[eqGuard,JJ ht]
 ·simp only[execOp,ho,cw hv,cw hw]
  have e:∀u v,binOp .eql t (.bool u) (.bool v)=(do pure (.bool (←Op.equal t (.bool u) (.bool v)))):=fun _ _=>rfl
  rw[e]
  simp[eqGuard,JJ ht]
theorem QQ{o:Oper}{op:BinOp}{t ty:TypeId}{x:Operand}{x':X}{pos:Bool}{ms:Array (String×TypeId)}(ho:o.op = .binOp op t x (.const .nilIface) ty)(ht:P.underlying t=some (.interface ms))(hop:op=if pos then .eql else .neq)(hx:bt x=some x'):da P o (.HS pos x'):=by
 intro φ O w ts a hr K h
 have hv:=aF hr hx
 have hc:a.eval (.const .nilIface) = .nilIface:=rfl
 simp only[PO.bu] at h
 cases he:X.ev ts x'<;>rw[he] at h hv<;>try exact False.elim h
 ·rename_i u
  cases u<;>try exact False.elim h
  refine ⟨_,_,h,dh rfl,?_⟩
  have e1:binOp .neq t .nilIface .nilIface=(do pure (.bool (!(←Op.equal t .nilIface .nilIface)))):=rfl
  have e2:binOp .eql t .nilIface .nilIface=(do pure (.bool (←Op.equal t .nilIface .nilIface))):=rfl
  cases pos<;>simp at hop<;>subst hop<;>simp only[execOp,ho,cw hv,hc,e1,e2]<;>simp[eqGuard,Vu ht]
 ·obtain ⟨u,hu,_⟩:=vS hv
  refine ⟨_,_,h,dh rfl,?_⟩
  have e1:∀a b,binOp .neq t (.iface a b) .nilIface=(do pure (.bool (!(←Op.equal t (.iface a b) .nilIface)))):=fun _ _=>rfl
  have e2:∀a b,binOp .eql t (.iface a b) .nilIface=(do pure (.bool (←Op.equal t (.iface a b) .nilIface))):=fun _ _=>rfl
  cases pos<;>simp at hop<;>subst hop<;>simp only[execOp,ho,hu,hc,e1,e2]<;>simp[eqGuard,Vv ht]
theorem Vw{t e:TypeId}(ht:P.underlying t=some (.slice e))(a:Option Addr)(n c:Nat)(w:World):(Op.equal t (.slice a n c) (.slice none 0 0)).run P w = .ok a.isNone w:=by
 show (Op.equalIn (9999+1) t _ _).run P w=_
 rw[Op.equalIn]
 simp only[Sem.run_bind,bD ht,Result.andThen_ok]
 cases a<;>rfl
theorem aew{φ:aU}{O:Nat→Prop}{w:World}{b:Bool}:VR φ O w .ub (.bool b):=⟨rfl,b,rfl⟩
theorem JK{o:Oper}{op:BinOp}{t ty e:TypeId}{x:Operand}{x':X}{pos:Bool}(ho:o.op = .binOp op t x (.const (.slice none 0 0)) ty)(ht:P.underlying t=some (.slice e))(hop:op=if pos then .eql else .neq)(hx:bt x=some x'):da P o (.yd pos x'):=by
 intro φ O w ts a hr K h
 have hv:=aF hr hx
 have hc:a.eval (.const (.slice none 0 0)) = .slice none 0 0:=rfl
 have e1:∀a n c,binOp .neq t (.slice a n c) (.slice none 0 0)=(do pure (.bool (!(←Op.equal t (.slice a n c) (.slice none 0 0))))):=fun _ _ _=>rfl
 have e2:∀a n c,binOp .eql t (.slice a n c) (.slice none 0 0)=(do pure (.bool (←Op.equal t (.slice a n c) (.slice none 0 0)))):=fun _ _ _=>rfl
 have key:∀{z:Option Addr}{n c:Nat},a.eval x = .slice z n c→(execOp a.eval o).run P w = .ok (.value (.bool (if pos then z.isNone else !z.isNone))) w:=by
  intro z n c hz
  cases pos<;>simp at hop<;>subst hop<;>simp only[execOp,ho,hz,hc,e1,e2]<;>simp[eqGuard,Vw ht]
 have key':∀{z:Option Addr}{n c:Nat}{v:Value},a.eval x = .slice z n c→v = .bool (if pos then z.isNone else !z.isNone)→(execOp a.eval o).run P w = .ok (.value v) w:=fun h1 h2=>by rw[h2];exact key h1
 simp only[PO.bu] at h
 split at h
 ·rename_i k room he
  rw[he] at hv
  obtain ⟨z,c,hz,_⟩:=iU hv
  exact ⟨_,_,h,aew,key' hz rfl⟩
 ·rename_i k y ys room he
  rw[he] at hv
  obtain ⟨z,c,hz,h1,h2,h3,h4,_⟩:=iU hv
  obtain ⟨b,off,rfl,_⟩:=h4 (by simp)
  exact ⟨_,_,h,dh rfl,key' hz (by cases pos<;>rfl)⟩
 ·rename_i he
  rw[he] at hv
  obtain ⟨b,c',cur,e,fr,h1,hz,_⟩:=iV hv
  exact ⟨_,_,h,dh rfl,key' hz (by cases pos<;>rfl)⟩
 ·exact h.elim
theorem aex{o:Oper}{op:UnOp}{t:TypeId}{x:Operand}{x':X}(ho:o.op = .unOp op t x)(hx:bt x=some x'):da P o (.un op x'):=by
 intro φ O w ts a hr K h
 have hv:=aF hr hx
 simp only[PO.bu] at h
 cases he:X.ev ts x'<;>rw[he] at h hv<;>try exact False.elim h
 obtain ⟨r,h1,h2⟩:=h
 obtain ⟨h3,h4⟩:=Vp h1 P w
 exact ⟨_,_,h2,dh h4,by simp[execOp,ho,cw hv,h3]⟩
theorem Vx{o:Oper}{s d:TypeId}{x:Operand}{x':X}{k k':IntKind}(ho:o.op = .convert s d x)(hs:P.underlying s=some (.int k'))(hd:P.underlying d=some (.int k))(hx:bt x=some x'):da P o (.conv k x'):=by
 intro φ O w ts a hr K h
 have hv:=aF hr hx
 simp only[PO.bu] at h
 cases he:X.ev ts x'<;>rw[he] at h hv<;>try exact False.elim h
 rename_i u
 cases u<;>try exact False.elim h
 exact ⟨_,_,h,dh rfl,by simp[execOp,ho,cw hv,convert,bD hs,bD hd,Conv.intToInt]⟩
theorem Sk{o:Oper}{s d:TypeId}{x:Operand}{x':X}(ho:o.op = .convert s d x)(hs:P.underlying s=some .string)(hd:P.underlying d=some .string)(hx:bt x=some x'):da P o (.rM x' none none):=by
 intro φ O w ts a hr K h
 have hv:=aF hr hx
 simp only[PO.bu] at h
 cases he:X.ev ts x'<;>rw[he] at h hv<;>try exact False.elim h
 rename_i u
 cases u<;>try exact False.elim h
 rename_i s'
 refine ⟨_,_,h.2,dh rfl,?_⟩
 have e:s'.extract 0 s'.size=s':=by
  have:=ByteArray.extract_zero_size (b:=s')
  exact this
 simp[execOp,ho,cw hv,convert,bD hs,bD hd,e]
theorem JL{x:AV}(h:(pG x).isSome=true):∃n,x = .sc (.int .u8 n):=by
 unfold pG at h
 split at h
 ·exact ⟨_,rfl⟩
 ·simp at h
theorem Bf{φ:aU}{O:Nat→Prop}{w:World}{b:Nat}:∀{xs:List AV}{off:Nat},l9 xs=true→Rl φ O w b 1 xs off→
  ∃ns:List Int,ns.length=xs.length∧(∀j n,ns[j]? = some n→w.cell? ⟨b,off+j,none⟩=some (.int .u8 n))∧ns.map (fun n=>UInt8.ofNat n.toNat)=xs.map fun x=>(pG x).getD 0
 |[],off,_,_=>⟨[],rfl,fun j n h=>by simp at h,rfl⟩
 |x::r,off,ho,h=>by
  simp only[l9,Bool.and_eq_true] at ho
  obtain ⟨ns,h1,h2,h3⟩:=Bf ho.2 h.2.2.2
  obtain ⟨n,rfl⟩:=JL ho.1
  refine ⟨n::ns,by simp[h1],fun j m hj=>?_,by simp[h3,pG]⟩
  cases j with
  |zero =>
   simp at hj
   subst hj
   have:=h.2.2.1
   simp only[R,cX] at this
   exact this
  |succ j =>
   have:=h2 j m (by simpa using hj)
   rw[show off+(j+1)=off+1+j from by omega]
   exact this
theorem uh:∀(ns:List Int)(s:ByteArray),ns.foldl (fun r n=>r.push (UInt8.ofNat n.toNat)) s=⟨s.data++(ns.map fun n=>UInt8.ofNat n.toNat).toArray⟩
 |[],s=>by simp
 |n::r,s=>by
  rw[List.foldl_cons,uh r]
  simp[ByteArray.push]
theorem Sl{o:Oper}{s d e:TypeId}{x:Operand}{x':X}(ho:o.op = .convert s d x)(hs:P.underlying s=some (.slice e))(hd:P.underlying d=some .string)(he:P.underlying e=some (.int .u8))(hx:bt x=some x'):da P o (.wY x'):=by
 intro φ O w ts a hr K h
 have hv:=aF hr hx
 simp only[PO.bu] at h
 cases ri:X.ev ts x'<;>rw[ri] at h hv<;>try exact False.elim h
 rename_i k xs room
 obtain ⟨⟨rfl,hb⟩,hk⟩:=h
 obtain ⟨ad,c,h1,h2,h3,h4,h5,h6⟩:=iU hv
 refine ⟨_,_,hk,dh rfl,?_⟩
 have hrun:(convert s d (.slice ad xs.length c)).run P w = .ok (.string (oZ xs)) w:=by
  rw[run_convert_bytes_string w s d e _ _ _ hs he hd]
  by_cases hp:0<xs.length
  ·obtain ⟨b,off,rfl,g1,g2,g3⟩:=h5 hp
   obtain ⟨ns,n1,n2,n3⟩:=Bf hb g3
   have zQ:=run_loadCells_list (P:=P) w ⟨b,off,none⟩ (ns.map (Value.int .u8)) (fun j v hv=>by
    rw[List.getElem?_map,Option.map_eq_some_iff] at hv
    obtain ⟨n,e1,rfl⟩:=hv
    rw[addr_add]
    exact n2 j n e1)
   rw[List.length_map,n1] at zQ
   rw[run_bytesToString w _ _ _ ns zQ,uh,n3]
   have e0:ByteArray.empty.data=#[]:=rfl
   rw[e0]
   simp[oZ]
  ·have:xs=[]:=List.length_eq_zero_iff.1 (by omega)
   subst this
   cases ad with
   |none=>simp[Conv.bytesToString];rfl
   |some ad =>
    have zQ:=run_loadCells_list (P:=P) w ad [] (fun j v hv=>by simp at hv)
    rw[show ([]:List AV).length=([]:List Value).length from rfl,run_bytesToString w _ _ _ [] zQ]
    rfl
 simp[execOp,ho,h1,hrun]
theorem Sm{o:Oper}{x:Operand}{x':X}(ho:o.op = .nilCheck x)(hx:bt x=some x'):da P o (.bV x'):=by
 intro φ O w ts a hr K h
 have hv:=aF hr hx
 simp only[PO.bu] at h
 cases he:X.ev ts x'<;>rw[he] at h hv<;>try exact False.elim h
 ·obtain ⟨b,h1,h2⟩:=fK hv
  refine ⟨_,_,h.2,hv,?_⟩
  rename_i k id j f
  cases k with
  |zero =>
   cases f with
   |zero=>have:=h.1;omega
   |succ f=>cases f<;>simp[execOp,ho,h2,A8]
  |succ k=>simp[execOp,ho,h2,A8]
 ·obtain ⟨b,off,h1,h2⟩:=Cw hv
  exact ⟨_,_,h,hv,by simp[execOp,ho,h1]⟩
 ·rename_i f _ _
  cases f<;>try exact False.elim h
  obtain ⟨us,ws,h1,h2⟩:=Cx hv
  exact ⟨_,_,h,hv,by simp[execOp,ho,h1]⟩
theorem Sn{o:Oper}{s:TypeId}{x:Operand}{x':X}{f:Nat}{fs:Array Field}{fd:Field}{i:TypeInfo}(ho:o.op = .fieldAddr s x f)(hs:P.underlying s=some (.struct fs))(hf:fs[f]? = some fd)(hi:P.info? fd.type=some i)(hz:i.size≠0)(hx:bt x=some x'):da P o (.an fd.offset x'):=by
 intro φ O w ts a hr K h
 have hv:=aF hr hx
 simp only[PO.bu] at h
 cases he:X.ev ts x'<;>rw[he] at h hv<;>try exact False.elim h
 ·obtain ⟨b,h1,h2⟩:=fK hv
  refine ⟨_,_,h.2,Cf h1,?_⟩
  rw[fJ h.1] at h2 ⊢
  simp[execOp,ho,h2,Instr.fieldAt,bD hs,hf,Instr.sureAddr,fieldPlace,iz hi,hz,addr_add,Nat.add_assoc]
 ·obtain ⟨b,off,h1,h2,h3,Vy,h4⟩:=Cw hv
  refine ⟨_,_,h,NG h2 h3 Vy h4 rfl,?_⟩
  simp[execOp,ho,h1,Instr.fieldAt,bD hs,hf,Instr.sureAddr,fieldPlace,iz hi,hz,addr_add,Nat.add_assoc]
theorem Sp{o:Oper}{t:TypeId}{x:Operand}{x':X}{f n:Nat}{ag:Bool}{fs:Array Field}{fd:Field}(ho:o.op = .field t x f)(hs:P.underlying t=some (.struct fs))(hf:fs[f]? = some fd)(hi:fT P fd.type=some (n,ag))(hx:bt x=some x'):da P o (.field fd.offset n ag x'):=by
 intro φ O w ts a hr K h
 have hv:=aF hr hx
 simp only[PO.bu] at h
 cases he:X.ev ts x'<;>rw[he] at h hv<;>try exact False.elim h
 obtain ⟨us,h1,h2,h3⟩:=Ct hv
 obtain ⟨u,h4,h5⟩:=FT hi h3 h2 h.1
 exact ⟨_,_,h.2,h5,by simp[execOp,ho,h1,Instr.field,bD hs,hf,asAgg,h4]⟩
theorem Sq{o:Oper}{t e:TypeId}{x i:Operand}{x' i':X}{inf:TypeInfo}(ho:o.op = .indexAddr t x i)(ht:P.underlying t=some (.slice e))(hi:P.info? e=some inf)(hx:bt x=some x')(hj:bt i=some i'):da P o (.gm inf.size x' i'):=by
 intro φ O w ts a hr K h
 have hv:=aF hr hx
 have hw:=aF hr hj
 simp only[PO.bu] at h
 cases he:X.ev ts x'<;>cases hf:X.ev ts i'<;>rw[he,hf] at h<;>try exact False.elim h
 all_goals
  rename_i u
  rw[he] at hv
  rw[hf] at hw
  cases u<;>try exact False.elim h
  rename_i kk n
  obtain ⟨⟨h0,h1,hk⟩,h2⟩:=h
  have hi':=cw hw
 ·subst hk
  rename_i xs _
  obtain ⟨ad,c,h3,h4,h5,h6,h7,h8⟩:=iU hv
  have hpos:0<xs.length:=by omega
  obtain ⟨b,off,rfl,h9,h10,h11⟩:=h7 hpos
  have hn:n.toNat<xs.length:=by omega
  have hg:xs[n.toNat]? = some (xs.getD n.toNat .top):=by simp[List.getD,hn]
  obtain ⟨a1,a2,a3⟩:=ye h11 hg
  refine ⟨_,_,h2,NG h9 h10 a2 a3 rfl,?_⟩
  simp[execOp,ho,h3,hi',Instr.indexAt,asIntOf,bD ht,h0,h1,iz hi,addr_add]
 ·obtain ⟨hk,cE⟩:=hk
  subst hk
  obtain ⟨b,c',cur,e',fr,h3,h4,h5,_⟩:=iV hv
  refine ⟨_,_,h2,Cf h3,?_⟩
  rw[fJ cE]
  simp[execOp,ho,h4,hi',Instr.indexAt,asIntOf,bD ht,h0,h1,iz hi,addr_add,Nat.add_mul]
theorem NH{o:Oper}{t e:TypeId}{x i:Operand}{x' i':X}{ln:Nat}{inf:TypeInfo}(ho:o.op = .indexAddr t x i)(ht:P.underlying t=some (.array ln e))(hi:P.info? e=some inf)(hx:bt x=some x')(hj:bt i=some i'):da P o (.sI ln inf.size x' i'):=by
 intro φ O w ts a hr K h
 have hv:=aF hr hx
 have hw:=aF hr hj
 simp only[PO.bu] at h
 cases he:X.ev ts x'<;>cases hf:X.ev ts i'<;>rw[he,hf] at h<;>try exact False.elim h
 all_goals
  rename_i u
  rw[he] at hv
  rw[hf] at hw
  cases u<;>try exact False.elim h
  rename_i kk n
  obtain ⟨⟨h0,h1⟩,h2⟩:=h
  have hi':=cw hw
 ·obtain ⟨h1,cE⟩:=h1
  obtain ⟨b,h3,h4⟩:=fK hv
  refine ⟨_,_,h2,Cf h3,?_⟩
  rw[fJ cE] at h4 ⊢
  simp[execOp,ho,h4,hi',Instr.indexAt,asIntOf,bD ht,h0,h1,iz hi,addr_add,Instr.sureAddr,Nat.add_assoc]
 ·obtain ⟨b,off,h3,h4,h5,h5',h6⟩:=Cw hv
  refine ⟨_,_,h2,NG h4 h5 h5' h6 rfl,?_⟩
  simp[execOp,ho,h3,hi',Instr.indexAt,asIntOf,bD ht,h0,h1,iz hi,addr_add,Instr.sureAddr,Nat.add_assoc]
theorem Vz{o:Oper}{t:TypeId}{x i:Operand}{x' i':X}(ho:o.op = .index t x i)(ht:P.underlying t=some .string)(hx:bt x=some x')(hj:bt i=some i'):da P o (.kN x' i'):=by
 intro φ O w ts a hr K h
 have hv:=aF hr hx
 have hw:=aF hr hj
 simp only[PO.bu] at h
 split at h
 case h_2=>exact h.elim
 rename_i s kk n he hf
 rw[he] at hv
 rw[hf] at hw
 obtain ⟨⟨h0,h1⟩,h2⟩:=h
 refine ⟨_,_,h2,dh rfl,?_⟩
 have hn:n.toNat<s.size:=by omega
 have hd:n.toNat<s.data.size:=hn
 have hs:s[n.toNat]? = some (s.data.getD n.toNat 0):=by
  rw[getElem?_pos s n.toNat hn]
  rw[Array.getD,dif_pos hd]
  rfl
 simp[execOp,ho,cw hv,cw hw,Instr.index,asIntOf,bD ht,h0,hs]
theorem VA{o:Oper}{t e:TypeId}{x i:Operand}{x' i':X}{ln n:Nat}{ag:Bool}(ho:o.op = .index t x i)(ht:P.underlying t=some (.array ln e))(hi:fT P e=some (n,ag))(hx:bt x=some x')(hj:bt i=some i'):da P o (.A9 ln n ag x' i'):=by
 intro φ O w ts a hr K h
 have hv:=aF hr hx
 have hw:=aF hr hj
 simp only[PO.bu] at h
 cases he:X.ev ts x'<;>cases hf:X.ev ts i'<;>rw[he,hf] at h<;>try exact False.elim h
 rename_i v
 rw[he] at hv
 rw[hf] at hw
 cases v<;>try exact False.elim h
 rename_i kk m
 obtain ⟨⟨h0,h1⟩,h2,h3⟩:=h
 obtain ⟨us,h4,h5,h6⟩:=Ct hv
 obtain ⟨u,h7,h8⟩:=FT hi h6 h5 h2
 refine ⟨_,_,h3,h8,?_⟩
 have hsz:∃inf,P.info? e=some inf∧inf.size=n:=by
  unfold fT at hi
  split at hi
  ·rename_i h9;cases hi;exact ⟨_,h9,rfl⟩
  ·simp at hi
 obtain ⟨inf,hi1,rfl⟩:=hsz
 simp[execOp,ho,h4,cw hw,Instr.index,asIntOf,bD ht,h0,h1,iz hi1,h7]
theorem VB{o:Oper}{t e:TypeId}{x:Operand}{x':X}{args:Array Operand}{ats:Array TypeId}(ho:o.op = .call { callee:=.builtin .len,args,argTypes:=ats })(ha:args.toList=[x])(ej:ats.toList=[t])(ht:P.underlying t=some (.slice e))(hx:bt x=some x'):da P o (.len x'):=by
 intro φ O w ts a hr K h
 obtain rfl:args=#[x]:=by apply Array.toList_inj.1;simpa using ha
 obtain rfl:ats=#[t]:=by apply Array.toList_inj.1;simpa using ej
 have hv:=aF hr hx
 simp only[PO.bu] at h
 cases he:X.ev ts x'<;>rw[he] at h hv<;>try exact False.elim h
 ·rename_i v
  have h1:=cw hv
  split at h
  ·rename_i e0;cases e0
  ·rename_i e0;cases e0
  ·rename_i e0
   cases e0
   exact ⟨_,_,h,dh rfl,by simp[execOp,ho,resolve,invoke,builtin,h1,Builtin.len_,bD ht,goInt]⟩
  ·exact h.elim
 ·obtain ⟨ad,c,h3,_⟩:=iU hv
  exact ⟨_,_,h,dh rfl,by simp[execOp,ho,resolve,invoke,builtin,h3,Builtin.len_,bD ht,goInt]⟩
 ·obtain ⟨b,c',cur,e',fr,h3,h4,h5,_⟩:=iV hv
  exact ⟨_,_,h,dh rfl,by simp[execOp,ho,resolve,invoke,builtin,h4,Builtin.len_,bD ht,goInt]⟩
theorem VC{o:Oper}{t:TypeId}{x:Operand}{x':X}{args:Array Operand}{ats:Array TypeId}(ho:o.op = .call { callee:=.builtin .len,args,argTypes:=ats })(ha:args.toList=[x])(ej:ats.toList=[t])(ht:P.underlying t=some .string)(hx:bt x=some x'):da P o (.nP x'):=by
 intro φ O w ts a hr K h
 obtain rfl:args=#[x]:=by apply Array.toList_inj.1;simpa using ha
 obtain rfl:ats=#[t]:=by apply Array.toList_inj.1;simpa using ej
 have hv:=aF hr hx
 simp only[PO.bu] at h
 cases he:X.ev ts x'<;>rw[he] at h hv<;>try exact False.elim h
 rename_i u
 cases u<;>try exact False.elim h
 exact ⟨_,_,h,dh rfl,by simp[execOp,ho,resolve,invoke,builtin,cw hv,Builtin.len_,bD ht,goInt]⟩
theorem VD{o:Oper}{t e:TypeId}{x:Operand}{n:Nat}{args:Array Operand}{ats:Array TypeId}(ho:o.op = .call { callee:=.builtin .len,args,argTypes:=ats })(ha:args.toList=[x])(ej:ats.toList=[t])(ht:P.underlying t=some (.array n e)):da P o (.mv (.k (.sc (.int .i64 n)))):=by
 intro φ O w ts a hr K h
 obtain rfl:args=#[x]:=by apply Array.toList_inj.1;simpa using ha
 obtain rfl:ats=#[t]:=by apply Array.toList_inj.1;simpa using ej
 exact ⟨_,_,h,dh rfl,by simp[execOp,ho,resolve,invoke,builtin,Builtin.len_,bD ht,goInt]⟩
theorem VE{o:Oper}{x y:Operand}{x' y':X}{mx:Bool}{args:Array Operand}{ats:Array TypeId}(ho:o.op = .call { callee:=.builtin (if mx then .max else .min),args,argTypes:=ats })(ha:args.toList=[x,y])(hx:bt x=some x')(hy:bt y=some y'):da P o (.mm mx x' y'):=by
 intro φ O w ts a hr K h
 obtain rfl:args=#[x,y]:=by apply Array.toList_inj.1;simpa using ha
 have hv:=aF hr hx
 have hw:=aF hr hy
 simp only[PO.bu] at h
 split at h
 case h_2=>exact h.elim
 rename_i kk a1 kk2 b1 he hf
 rw[he] at hv
 rw[hf] at hw
 refine ⟨_,_,h,dh rfl,?_⟩
 cases mx<;>simp[execOp,ho,resolve,invoke,builtin,cw hv,cw hw,Builtin.max_,Builtin.min_,Builtin.max2,Builtin.min2]
theorem aaO{o:Oper}{x:Operand}{x':X}{i:Nat}(ho:o.op = .extract x i)(hx:bt x=some x'):da P o (.ext x' i):=by
 intro φ O w ts a hr K h
 have hv:=aF hr hx
 simp only[PO.bu] at h
 cases he:X.ev ts x'<;>rw[he] at h hv<;>try exact False.elim h
 rename_i vs
 obtain ⟨us,h1,h2⟩:=HT hv
 obtain ⟨u,h3,h4⟩:=Cc h2 (i:=i) (x:=vs.getD i .top) (by simp[List.getD,h.1])
 exact ⟨_,_,h.2,h4,by simp at h3;simp[execOp,ho,h1,Instr.extract,h3]⟩
theorem VF{o:Oper}{f:Fn}{A B:Array Operand}{A' B':List X}(ho:o.op = .makeFunc f A B)(hA:pH A=some A')(hB:pH B=some B'):da P o (.oQ f A' B'):=by
 intro φ O w ts a hr K h
 refine ⟨_,.func f (A.map a.eval) (B.map a.eval),h,⟨rfl,_,_,rfl,?_,?_⟩,by simp[execOp,ho,Instr.makeFunc]⟩
 ·have:=oY hr hA
  simpa using this
 ·have:=oY hr hB
  simpa using this
theorem VG{o:Oper}{t:TypeId}{d:TypeDesc}{x:Operand}{x':X}(ho:o.op = .makeInterface t x)(ht:P.underlying t=some d)(hd:∀ms,d≠.interface ms)(hx:bt x=some x'):da P o (.Ba t x'):=by
 intro φ O w ts a hr K h
 have hv:=aF hr hx
 refine ⟨_,.iface t (a.eval x),h,⟨rfl,_,rfl,hv.1,hv.2⟩,?_⟩
 cases d<;>first|(exact absurd rfl (hd _))|simp[execOp,ho,Instr.makeInterface,bD ht]
theorem VH{o:Oper}{t xt:TypeId}{d:TypeDesc}{i:TypeInfo}{zv:Value}{z:AV}{x:Operand}{x':X}(ho:o.op = .typeAssert x xt t true)(ht:P.underlying t=some d)(hd:∀ms,d≠.interface ms)(hi:P.info? t=some i)(hz:i.zero=some zv)(hz':fS zv=some z)(hx:bt x=some x'):da P o (.Bb t z x'):=by
 intro φ O w ts a hr K h
 have hv:=aF hr hx
 have tV:VR φ O w z zv:=eF hz'
 simp only[PO.bu] at h
 cases he:X.ev ts x'<;>rw[he] at h hv<;>try exact False.elim h
 ·rename_i u
  cases u<;>try exact False.elim h
  refine ⟨_,.tuple #[zv,.bool false],h,⟨⟨_,rfl⟩,_,rfl,_,_,rfl,tV.1,tV.2,_,_,rfl,rfl,rfl,rfl⟩,?_⟩
  cases d<;>first|(exact absurd rfl (hd _))|simp[execOp,ho,Instr.typeAssert,bD ht,cw hv,zeroValue,typeInfo,hi,hz]
 ·rename_i u v
  obtain ⟨y,h1,h2⟩:=vS hv
  by_cases hu:u=t
  ·subst hu
   refine ⟨_,.tuple #[y,.bool true],h.1 rfl,⟨⟨_,rfl⟩,_,rfl,_,_,rfl,h2.1,h2.2,_,_,rfl,rfl,rfl,rfl⟩,?_⟩
   cases d<;>first|(exact absurd rfl (hd _))|simp[execOp,ho,Instr.typeAssert,bD ht,h1]
  ·refine ⟨_,.tuple #[zv,.bool false],h.2 hu,⟨⟨_,rfl⟩,_,rfl,_,_,rfl,tV.1,tV.2,_,_,rfl,rfl,rfl,rfl⟩,?_⟩
   cases d<;>first|(exact absurd rfl (hd _))|simp[execOp,ho,Instr.typeAssert,bD ht,h1,hu,zeroValue,typeInfo,hi,hz]
theorem Sr{t:TypeId}{a:Array TypeId}{b:Array TypeId}{c:Bool}(ht:P.underlying t=some (.func a b c))(w:World):(Op.equal t .nilFunc .nilFunc).run P w = .ok true w:=by
 show (Op.equalIn (9999+1) t _ _).run P w=_
 rw[Op.equalIn]
 simp only[Sem.run_bind,bD ht,Result.andThen_ok]
 rfl
theorem Ss{t:TypeId}{a:Array TypeId}{b:Array TypeId}{c:Bool}{f:Fn}{p q:Array Value}(ht:P.underlying t=some (.func a b c))(w:World):(Op.equal t (.func f p q) .nilFunc).run P w = .ok false w:=by
 show (Op.equalIn (9999+1) t _ _).run P w=_
 rw[Op.equalIn]
 simp only[Sem.run_bind,bD ht,Result.andThen_ok]
 rfl
theorem JM{o:Oper}{op:BinOp}{t ty:TypeId}{x:Operand}{x':X}{pos:Bool}{a:Array TypeId}{b:Array TypeId}{c:Bool}(ho:o.op = .binOp op t x (.const .nilFunc) ty)(ht:P.underlying t=some (.func a b c))(hop:op=if pos then .eql else .neq)(hx:bt x=some x'):da P o (.ug pos x'):=by
 intro φ O w ts a hr K h
 have hv:=aF hr hx
 have hc:a.eval (.const .nilFunc) = .nilFunc:=rfl
 have e1:binOp .neq t .nilFunc .nilFunc=(do pure (.bool (!(←Op.equal t .nilFunc .nilFunc)))):=rfl
 have e2:binOp .eql t .nilFunc .nilFunc=(do pure (.bool (←Op.equal t .nilFunc .nilFunc))):=rfl
 have e3:∀f p q,binOp .neq t (.func f p q) .nilFunc=(do pure (.bool (!(←Op.equal t (.func f p q) .nilFunc)))):=fun _ _ _=>rfl
 have e4:∀f p q,binOp .eql t (.func f p q) .nilFunc=(do pure (.bool (←Op.equal t (.func f p q) .nilFunc))):=fun _ _ _=>rfl
 simp only[PO.bu] at h
 cases he:X.ev ts x'<;>rw[he] at h hv<;>try exact False.elim h
 ·rename_i u
  cases u<;>try exact False.elim h
  refine ⟨_,_,h,dh rfl,?_⟩
  cases pos<;>simp at hop<;>subst hop<;>simp only[execOp,ho,cw hv,hc,e1,e2]<;>simp[eqGuard,Sr ht]
 ·obtain ⟨us,ws,hu,_,_⟩:=Cx hv
  refine ⟨_,_,h,dh rfl,?_⟩
  cases pos<;>simp at hop<;>subst hop<;>simp only[execOp,ho,hu,hc,e3,e4]<;>simp[eqGuard,Ss ht]
theorem VI{o:Oper}{t xt:TypeId}{fs:Array Field}{x:Operand}{x':X}(ho:o.op = .typeAssert x xt t false)(ht:P.underlying t=some (.struct fs))(hx:bt x=some x'):da P o (.wF t x'):=by
 intro φ O w ts a hr K h
 have hv:=aF hr hx
 simp only[PO.bu] at h
 cases he:X.ev ts x'<;>rw[he] at h hv<;>try exact False.elim h
 rename_i u v
 obtain ⟨y,h1,h2⟩:=vS hv
 obtain ⟨hu,hk⟩:=h
 subst hu
 refine ⟨_,y,hk,h2,?_⟩
 simp[execOp,ho,Instr.typeAssert,bD ht,h1]
end
section
variable {P:Program}{φ:aU}{O:Nat→Prop}{w:World}
theorem jM{ts:List AV}{a:Act}(hr:FR φ O w ts a){o:Option Operand}{x:Option X}(hx:pI o=some x){d:Nat}{K:Nat→Prop}(h:l8 (X.ev ts) d x K) :
  ∃n,K n∧((o.map a.eval=none∧n=d)∨∃k m,o.map a.eval=some (.int k m)∧0≤m∧n=m.toNat)∧(x.isSome=(o.map a.eval).isSome):=by
 rcases Vr hr hx h with ⟨rfl,rfl,h1⟩|⟨p,k,n,rfl,h2,h3,h4,h5⟩
 ·exact ⟨_,h1,.inl ⟨rfl,rfl⟩,rfl⟩
 ·exact ⟨_,h5,.inr ⟨k,n,by simp[h3],h4,rfl⟩,by simp[h2]⟩
theorem FU{k:Nat}{xs ys:List AV}{v:Value}(h:VR φ O w (.am k xs (some ys)) v):∃a,v = .slice a xs.length (xs.length+ys.length)∧xs.length+ys.length≤maxLen∧
  (0<xs.length+ys.length→∃b off,a=some ⟨b,off,none⟩∧¬O b∧b<w.heap.size∧Rl φ O w b k (xs++ys) off):=by
 obtain ⟨a,c,rfl,h2,h3,h4,h5,h6,h7⟩:=iU h
 subst h6
 refine ⟨a,rfl,h3,fun hp=>?_⟩
 by_cases hx:0<xs.length
 ·obtain ⟨b,off,rfl,h8,h9,h10⟩:=h5 hx
  refine ⟨b,off,rfl,h8,h9,?_⟩
  by_cases hy:0<ys.length
  ·obtain ⟨b',off',e,_,_,h11⟩:=h7 hy
   cases e
   exact Cy h10 h11
  ·have:ys=[]:=List.length_eq_zero_iff.1 (by omega)
   subst this
   simpa using h10
 ·have:xs=[]:=List.length_eq_zero_iff.1 (by omega)
  subst this
  obtain ⟨b,off,rfl,h8,h9,h11⟩:=h7 (by simpa using hp)
  exact ⟨b,off,rfl,h8,h9,by simpa using h11⟩
theorem JN{k:Nat}{zs:List AV}{a:Option Addr}{l h m:Nat}(hz:0<zs.length→∃b off,a=some ⟨b,off,none⟩∧¬O b∧b<w.heap.size∧Rl φ O w b k zs off)
  (h1:l≤h)(h2:h≤m)(h3:m≤zs.length)(h4:m≤maxLen) :
  VR φ O w (.am k ((zs.take h).drop l) (some ((zs.take m).drop h))) (.slice (if m=l then a else a.map (·.add (l*k))) (h-l) (m-l)):=by
 have hlen:((zs.take h).drop l).length=h-l:=by simp;omega
 have VJ:((zs.take m).drop h).length=m-h:=by simp;omega
 have e1:h-l≤m-l:=by omega
 have e2:m-l≤maxLen:=by omega
 have e3:m-l=(h-l)+(m-h):=by omega
 have e4:l+(h-l)=h:=by omega
 refine ⟨rfl,(if m=l then a else a.map (·.add (l*k))),m-l,by rw[hlen];rfl,by rw[hlen];exact e1,e2,fun hn=>?_,fun hp=>?_,?_⟩
 ·by_cases e:m=l
  ·omega
  ·have hq:=hz (by omega)
   obtain ⟨b,off,rfl,_⟩:=hq
   rw[if_neg e] at hn
   simp at hn
 ·rw[hlen] at hp
  have hq:=hz (by omega)
  obtain ⟨b,off,rfl,h5,h6,h7⟩:=hq
  rw[if_neg (by omega)]
  exact ⟨b,off+l*k,by simp[addr_add],h5,h6,lq (jL h7)⟩
 ·refine ⟨by rw[hlen,VJ];exact e3,fun hp=>?_⟩
  rw[VJ] at hp
  have hq:=hz (by omega)
  obtain ⟨b,off,rfl,h5,h6,h7⟩:=hq
  rw[if_neg (by omega)]
  refine ⟨b,off+l*k,by simp[addr_add],h5,h6,?_⟩
  rw[hlen]
  have h8:=lq (f:=h) (jL (n:=m) h7)
  rw[Nat.add_assoc,←Nat.add_mul,e4]
  exact h8
theorem VK{k:Nat}{xs:List AV}{a:Option Addr}{l h c:Nat}(hz:0<xs.length→∃b off,a=some ⟨b,off,none⟩∧¬O b∧b<w.heap.size∧Rl φ O w b k xs off)
  (h1:l≤h)(h2:h≤xs.length)(h3:xs.length≤c)(h4:c≤maxLen)(h5:a=none→c=0) :
  VR φ O w (.am k ((xs.take h).drop l) none) (.slice (if c=l then a else a.map (·.add (l*k))) (h-l) (c-l)):=by
 have hlen:((xs.take h).drop l).length=h-l:=by simp;omega
 have e1:h-l≤c-l:=by omega
 have e2:c-l≤maxLen:=by omega
 refine ⟨rfl,(if c=l then a else a.map (·.add (l*k))),c-l,by rw[hlen];rfl,by rw[hlen];exact e1,e2,fun hn=>?_,fun hp=>?_,trivial⟩
 ·by_cases e:c=l
  ·omega
  ·rw[if_neg e] at hn
   simp at hn
   have:=h5 hn
   omega
 ·rw[hlen] at hp
  have hq:=hz (by omega)
  obtain ⟨b,off,rfl,h5,h6,h7⟩:=hq
  rw[if_neg (by omega)]
  exact ⟨b,off+l*k,by simp[addr_add],h5,h6,lq (jL h7)⟩
theorem sJ{t e:TypeId}{inf:TypeInfo}(ht:P.underlying t=some (.slice e))(hi:P.info? e=some inf){a:Option Addr}{n c l h m:Nat}{lo hi' mx:Option Value}
  (hm:(mx=none∧m=c)∨∃k n,mx=some (.int k n)∧0≤n∧m=n.toNat∧hi'.isSome)(hh:(hi'=none∧h=n)∨∃k n,hi'=some (.int k n)∧0≤n∧h=n.toNat)
  (hl:(lo=none∧l=0)∨∃k n,lo=some (.int k n)∧0≤n∧l=n.toNat)(h1:l≤h)(h2:h≤m)(h3:m≤c) :
  (Instr.sliceAt t (.slice a n c) lo hi' mx).run P w = .ok (.slice (if m=l then a else a.map (·.add (l*inf.size))) (h-l) (m-l)) w:=by
 simp only[Instr.sliceAt,Instr.slice,Sem.run_bind,bD ht,Result.andThen_ok,Bc hm hh hl h1 h2 h3,iz hi,Sem.run_pure]
theorem aaP{o:Oper}{t e:TypeId}{inf:TypeInfo}{x:Operand}{x':X}{lo hi mx:Option Operand}{lo' hi' mx':Option X}(ho:o.op = .slice t x lo hi mx)(ht:P.underlying t=some (.slice e))(NI:P.info? e=some inf)
  (hx:bt x=some x')(hlo:pI lo=some lo')(hhi:pI hi=some hi')(nQ:pI mx=some mx'):da P o (.qC inf.size x' lo' hi' mx'):=by
 intro φ O w ts a hr K h
 have hv:=aF hr hx
 have hex:∀{V:Value}{r:Value},a.eval x=V→(Instr.sliceAt t V (lo.map a.eval) (hi.map a.eval) (mx.map a.eval)).run P w = .ok r w→(execOp a.eval o).run P w = .ok (.value r) w:=by
  intro V r h1 h2
  simp only[execOp,ho,Sem.run_bind,h1,h2,Result.andThen_ok,Sem.run_pure]
 simp only[PO.bu] at h
 cases he:X.ev ts x'<;>rw[he] at h hv<;>try exact False.elim h
 ·rename_i k xs room
  obtain ⟨hk,h⟩:=h
  have VL:∀{zs:List AV},k=inf.size∨zs.length=0→∀{b off:Nat},Rl φ O w b k zs off→Rl φ O w b inf.size zs off:=by
   intro zs hz b off hl
   rcases hz with rfl|hz
   ·exact hl
   ·have:zs=[]:=List.length_eq_zero_iff.1 hz
    subst this
    trivial
  cases mx' with
  |some m =>
   have agA:∃p,mx=some p:=by
    cases mx with
    |none=>simp[pI] at nQ
    |some p=>exact ⟨p,rfl⟩
   obtain ⟨nm,h1,h2,_⟩:=jM hr nQ h
   obtain ⟨nh,h3,h4,JO⟩:=jM hr hhi h1
   obtain ⟨nl,h5,h6,_⟩:=jM hr hlo h3
   obtain ⟨⟨g0,g1,g2,g3⟩,h8⟩:=h5
   have h4:(hi.map a.eval=none∧nh=xs.length)∨∃k m,hi.map a.eval=some (.int k m)∧0≤m∧nh=m.toNat:=by
    rcases h4 with ⟨e,_⟩|e
    ·rw[g0,e] at JO
     simp at JO
    ·exact .inr e
   obtain ⟨ad,c,zR,c1,c2,c3,c4,_⟩:=iU hv
   obtain ⟨p,rfl⟩:=agA
   refine ⟨_,_,h8,JN (k:=inf.size) (a:=ad) (zs:=xs) (l:=nl) (h:=nh) (m:=nm) (fun hp=>?_) g1 g2 g3 (by omega),hex zR (sJ ht NI ?_ h4 h6 g1 g2 (by omega))⟩
   ·obtain ⟨b,off,e1,e2,e3,e4⟩:=c4 hp
    exact ⟨b,off,e1,e2,e3,VL (hk.imp id fun e=>by rw[e.1];rfl) e4⟩
   ·rcases h2 with ⟨e1,_⟩|⟨kk,mm,e1,e2,e3⟩
    ·simp at e1
    ·refine .inr ⟨kk,mm,e1,e2,e3,?_⟩
     rw[←JO]
     exact g0
  |none =>
   have hmn:mx=none:=by
    cases mx with
    |none=>rfl
    |some p=>simp[pI] at nQ
   subst hmn
   cases room with
   |none =>
    obtain ⟨nh,h3,h4,_⟩:=jM hr hhi h
    obtain ⟨nl,h5,h6,_⟩:=jM hr hlo h3
    obtain ⟨⟨g1,g2⟩,h8⟩:=h5
    obtain ⟨ad,c,zR,c1,c2,c3,c4,_⟩:=iU hv
    refine ⟨_,_,h8,VK (k:=inf.size) (a:=ad) (xs:=xs) (c:=c) (fun hp=>?_) g1 g2 c1 c2 c3,hex zR (sJ ht NI (.inl ⟨rfl,rfl⟩) h4 h6 g1 (by omega) (Nat.le_refl _))⟩
    obtain ⟨b,off,e1,e2,e3,e4⟩:=c4 hp
    exact ⟨b,off,e1,e2,e3,VL (hk.imp id fun e=>by rw[e.1];rfl) e4⟩
   |some ys =>
    obtain ⟨nh,h3,h4,_⟩:=jM hr hhi h
    obtain ⟨nl,h5,h6,_⟩:=jM hr hlo h3
    obtain ⟨⟨g1,g2⟩,h8⟩:=h5
    obtain ⟨ad,zR,c2,c4⟩:=FU hv
    have fx:k=inf.size∨(xs++ys).length=0:=hk.imp id fun e=>by rw[e.1];have:=e.2;cases this;rfl
    refine ⟨_,_,h8,?_,hex zR (sJ ht NI (.inl ⟨rfl,rfl⟩) h4 h6 g1 g2 (Nat.le_refl _))⟩
    have:=JN (φ:=φ) (O:=O) (w:=w) (k:=inf.size) (a:=ad) (zs:=xs++ys) (l:=nl) (h:=nh) (m:=xs.length+ys.length) (fun hp=>by
     obtain ⟨b,off,e1,e2,e3,e4⟩:=c4 (by simpa using hp)
     exact ⟨b,off,e1,e2,e3,VL fx e4⟩) g1 g2 (by simp) (by omega)
    rw[show (xs++ys).take (xs.length+ys.length)=xs++ys from List.take_of_length_le (by simp)] at this
    exact this
 ·rename_i k id off n c
  obtain ⟨rfl,hm,h⟩:=h
  have hmn:mx=none:=by
   cases mx with
   |none=>rfl
   |some p =>
    simp[pI] at nQ
    obtain ⟨q,_,rfl⟩:=nQ
    simp at hm
  subst hmn
  obtain ⟨nh,h3,h4,_⟩:=jM hr hhi h
  obtain ⟨nl,h5,h6,_⟩:=jM hr hlo h3
  obtain ⟨⟨g1,g2⟩,h8⟩:=h5
  obtain ⟨b,c',cur,e',fr,v1,v2,v3,v4,v5,v6,v7⟩:=iV hv
  have hcap:nh≤c':=by
   cases c with
   |none=>simp at g2;omega
   |some m=>have:=v5 m rfl;simp at g2;omega
  have hrun:=hex v2 (sJ ht NI (lo:=lo.map a.eval) (hi':=hi.map a.eval) (mx:=none) (.inl ⟨rfl,rfl⟩) h4 h6 g1 hcap (Nat.le_refl _))
  have acE:nl<c'→VR φ O w (.aD inf.size id (off+nl) (nh-nl) (c.map (· - nl))) (.slice (if c'=nl then some ⟨b,off*inf.size,none⟩ else (some (⟨b,off*inf.size,none⟩:Addr)).map (·.add (nl*inf.size))) (nh-nl) (c' - nl)):=by
   intro hlt
   rw[if_neg (by omega)]
   refine ⟨rfl,b,c' - nl,cur,e',fr,v1,?_,by omega,by omega,?_,v6,?_⟩
   ·simp[fR,Value.cells,addr_add,Nat.add_mul]
   ·intro m hm
    cases c with
    |none=>simp at hm
    |some mm=>simp at hm;have:=v5 mm rfl;omega
   ·rw[v7];congr 1;omega
  have hnil:nl=nh→VR φ O w (.am inf.size [] none) (.slice (if c'=nl then some ⟨b,off*inf.size,none⟩ else (some (⟨b,off*inf.size,none⟩:Addr)).map (·.add (nl*inf.size))) (nh-nl) (c' - nl)):=by
   intro hlt
   have hz:nh-nl=0:=by omega
   rw[hz]
   refine ⟨rfl,_,c' - nl,rfl,Nat.zero_le _,by omega,fun hn=>?_,fun hp=>by simp at hp,trivial⟩
   split at hn<;>simp at hn
  cases c with
  |none =>
   by_cases hlt:nl<nh
   ·exact ⟨_,_,h8.1 hlt,acE (by omega),hrun⟩
   ·exact ⟨_,_,h8.2 (by omega),hnil (by omega),hrun⟩
  |some m =>
   have hm:=v5 m rfl
   simp at g2
   by_cases hlt:nl<m
   ·exact ⟨_,_,h8.1 hlt,acE (by omega),hrun⟩
   ·exact ⟨_,_,h8.2 (by omega),hnil (by omega),hrun⟩
theorem VM{o:Oper}{t:TypeId}{x:Operand}{x':X}{lo hi:Option Operand}{lo' hi':Option X}(ho:o.op = .slice t x lo hi none)(ht:P.underlying t=some .string)
  (hx:bt x=some x')(hlo:pI lo=some lo')(hhi:pI hi=some hi'):da P o (.rM x' lo' hi'):=by
 intro φ O w ts a hr K h
 have hv:=aF hr hx
 simp only[PO.bu] at h
 cases he:X.ev ts x'<;>rw[he] at h hv<;>try exact False.elim h
 rename_i u
 cases u<;>try exact False.elim h
 rename_i s
 obtain ⟨nh,h3,h4,_⟩:=jM hr hhi h
 obtain ⟨nl,h5,h6,_⟩:=jM hr hlo h3
 obtain ⟨⟨g1,g2⟩,h8⟩:=h5
 refine ⟨_,_,h8,dh rfl,?_⟩
 have hb:=Bc (P:=P) (w:=w) (sl:=false) (len:=s.size) (cap:=s.size) (mx:=none) (.inl ⟨rfl,rfl⟩) h4 h6 g1 g2 (Nat.le_refl _)
 simp only[execOp,ho,cw hv,Instr.sliceAt,Instr.slice,Sem.run_bind,bD ht,Result.andThen_ok,Option.map_none,hb,Option.isSome_none,Bool.false_eq_true,if_false,Sem.run_pure]
end
section
variable {P:Program}{φ:aU}{O:Nat→Prop}{w:World}
theorem foldl_set(off:Nat):∀(l:List Value)(i:Nat)(cs:Array Value),
  ((l.zipIdx i).foldl (fun cs (c,j)=>cs.setIfInBounds (off+j) c) cs).size=cs.size∧
  ∀k,k<cs.size→((l.zipIdx i).foldl (fun cs (c,j)=>cs.setIfInBounds (off+j) c) cs)[k]? = if off+i≤k∧k<off+i+l.length then l[k-(off+i)]? else cs[k]?
 | [],i,cs=>⟨rfl,fun k hk=>by
   have:¬(off+i≤k∧k<off+i+([]:List Value).length):=by rw[List.length_nil];omega
   rw[if_neg this];rfl⟩
 |v::r,i,cs=>by
  obtain ⟨h1,h2⟩:=foldl_set off r (i+1) (cs.setIfInBounds (off+i) v)
  simp only[List.zipIdx_cons,List.foldl_cons]
  refine ⟨by rw[h1];simp,fun k hk=>?_⟩
  rw[h2 k (by simpa using hk)]
  by_cases e:off+i=k
  ·subst e
   have c1:¬(off+(i+1)≤off+i∧off+i<off+(i+1)+r.length):=by omega
   have c2:off+i≤off+i∧off+i<off+i+(v::r).length:=by simp
   rw[if_neg c1,if_pos c2]
   simp[hk]
  ·by_cases c1:off+(i+1)≤k∧k<off+(i+1)+r.length
   ·have c2:off+i≤k∧k<off+i+(v::r).length:=by simp;omega
    rw[if_pos c1,if_pos c2,show k-(off+i)=(k-(off+(i+1)))+1 from by omega]
    simp
   ·have c2:¬(off+i≤k∧k<off+i+(v::r).length):=by simp;omega
    rw[if_neg c1,if_neg c2,Array.getElem?_setIfInBounds_ne e]
theorem gJ{x:AV}{v:Value}(h:VR φ O w x v)(ht:x.bT=false):v.cells.size=x.az:=by
 have h1:=h.1
 cases x<;>first
  | (simp[AV.bT] at ht;done)
  | (obtain ⟨us,rfl,hs⟩:=h1;exact hs)
  | (cases v<;>first|rfl|(simp[kV,Value.oneCell'] at h1))
theorem zS{ts:List AV}{a:Act}(hr:FR φ O w ts a){pl:Nat→Option (Nat×Nat)}{K:List AV→Prop}:∀{l:List (Nat×Operand)}{ps:List (Nat×Nat×X)},partsOf pl l=some ps→∀{zs:List AV}{cells:Array Value},
  Rs φ O w zs (fun i=>cells[i]?)→cells.size=zs.length→og (X.ev ts) zs ps K→
  ∃cs cells',K cs∧Instr.fill pl cells (l.map fun (i,x)=>(i,a.eval x))=some cells'∧cells'.size=cs.length∧Rs φ O w cs (fun i=>cells'[i]?)
 |[],ps,h,zs,cells,hz,hs,hf=>by
  simp[partsOf] at h
  subst h
  exact ⟨zs,cells,hf,rfl,hs,hz⟩
 |(i,o)::r,ps,h,zs,cells,hz,hs,hf=>by
  unfold partsOf at h
  split at h
  case h_2=>simp at h
  rename_i off n x s h1 h2 h3
  cases h
  obtain ⟨⟨g1,g2,g3⟩,hf⟩:=hf
  have hv:=aF hr h2
  have hsz:=gJ hv g1
  have hcs:=uf hv g1
  rw[g2] at hsz
  have mb:(X.ev ts x).cells.length=n:=by rw[←AV.eW,g2]
  obtain ⟨k1,k2⟩:=foldl_set off (a.eval o).cells.toList 0 cells
  have VN:(a.eval o).cells.zipIdx.foldl (fun cs (c,j)=>cs.setIfInBounds (off+j) c) cells=((a.eval o).cells.toList.zipIdx 0).foldl (fun cs (c,j)=>cs.setIfInBounds (off+j) c) cells:=by
   rw[←Array.foldl_toList,Array.toList_zipIdx]
  have ui:Rs φ O w (zs.take off++(X.ev ts x).cells++zs.drop (off+n)) (fun i=>((a.eval o).cells.zipIdx.foldl (fun cs (c,j)=>cs.setIfInBounds (off+j) c) cells)[i]?):=by
   rw[VN]
   refine dB (dB (cA (fun j hj=>?_) (lm (n:=off) hz)) (cA (fun j hj=>?_) hcs)) (cA (fun j hj=>?_) (lj (f:=off+n) hz))
   ·have hj':j<off:=by simp at hj;omega
    rw[k2 j (by omega),if_neg (by omega)]
   ·have hl:(zs.take off).length=off:=by simp;omega
    rw[hl]
    have hj':j<n:=by omega
    have hjs:j<(a.eval o).cells.size:=by omega
    rw[k2 (off+j) (by omega),if_pos (by simp;omega)]
    simp[fR]
   ·have hl:(zs.take off++(X.ev ts x).cells).length=off+n:=by simp[mb];omega
    rw[hl]
    have hj':j<zs.length-(off+n):=by simpa using hj
    rw[k2 (off+n+j) (by omega),if_neg (by simp;omega)]
  have hsize:((a.eval o).cells.zipIdx.foldl (fun cs (c,j)=>cs.setIfInBounds (off+j) c) cells).size=(zs.take off++(X.ev ts x).cells++zs.drop (off+n)).length:=by
   rw[VN,k1]
   simp[mb]
   omega
  obtain ⟨cs,cells',e1,e2,e3,e4⟩:=zS hr h3 ui hsize hf
  refine ⟨cs,cells',e1,?_,e3,e4⟩
  simp only[List.map_cons,Instr.fill,h1]
  rw[if_neg (by simp[hsz];omega)]
  exact e2
theorem FV{o:Oper}{t:TypeId}{parts:Array (Nat×Operand)}{pl:Nat→Option (Nat×Nat)}{zs:Array Value}{cs:List AV}{ps:List (Nat×Nat×X)}(ho:o.op = .build t parts)
  (hz:l7 zs.toList=some cs)(hps:partsOf pl parts.toList=some ps)(hb:∀l cells,Instr.fill pl zs l=some cells→P.built t l=some cells):da P o (.build cs ps):=by
 intro φ O w ts a hr K h
 obtain ⟨h1,h2⟩:=rh (φ:=φ) (O:=O) (w:=w) hz
 obtain ⟨cs',cells',e1,e2,e3,e4⟩:=zS hr hps (zs:=cs) (cells:=zs) (h2 _ fun i=>by simp) (by simp[h1]) h
 refine ⟨_,_,e1,HR e4 e3,?_⟩
 have VO:=hb _ _ e2
 have hrun:=run_build (P:=P) w t (parts.map fun (i,x)=>(i,a.eval x)) cells' (by simpa using VO)
 simp only[execOp,ho,Sem.run_bind,hrun,Result.andThen_ok,Sem.run_pure]
end
theorem HU{P:Program}{o:Oper}{op:PO}(h:NF P o=some op):da P o op:=by
 unfold NF at h
 split at h
 ·rename_i x ho
  simp at h;obtain ⟨x',h1,rfl⟩:=h
  exact Vs (.inl ho) h1
 ·rename_i x ho
  simp at h;obtain ⟨x',h1,rfl⟩:=h
  exact Vs (.inr ho) h1
 ·rename_i c a b ho
  split at h<;>cases h
  exact Vt ho (by assumption) (by assumption) (by assumption)
 ·rename_i op' t x y ty ho
  unfold JI at h
  split at h
  case h_2=>simp at h
  rename_i x' y' hx hy
  have hs:∀q,some q=some op→(q = .aN op' x' y'∨q = .E6 op' x' y')→da P o op:=by
   intro q hq h2
   cases hq
   rcases h2 with rfl|rfl
   ·exact aaM ho hx hy
   ·exact aaN ho hx hy
  split at h
  ·exact hs _ h (.inr rfl)
  ·exact hs _ h (.inr rfl)
  ·split at h
   ·rename_i ht
    split at h
    ·cases h;exact QP ho ht rfl hx hy
    ·cases h;exact QP ho ht rfl hx hy
    ·simp at h
   ·rename_i ms ht
    split at h
    ·cases h;exact QQ ho ht rfl hx
    ·cases h;exact QQ ho ht rfl hx
    ·simp at h
   ·rename_i e ht
    split at h
    ·cases h;exact JK ho ht rfl hx
    ·cases h;exact JK ho ht rfl hx
    ·simp at h
   ·exact hs _ h (.inl rfl)
   ·exact hs _ h (.inl rfl)
   ·rename_i fa fb fc ht
    split at h
    ·cases h;exact JM ho ht rfl hx
    ·cases h;exact JM ho ht rfl hx
    ·simp at h
   ·simp at h
 ·rename_i op' t x ho
  simp at h;obtain ⟨x',h1,rfl⟩:=h
  exact aex ho h1
 ·rename_i s d x ho
  split at h
  ·cases h;exact Vx ho (by assumption) (by assumption) (by assumption)
  ·cases h;exact Sk ho (by assumption) (by assumption) (by assumption)
  ·split at h
   ·cases h
    exact Sl ho (by assumption) (by assumption) (Cv (by assumption)) (by assumption)
   ·simp at h
  ·simp at h
 ·rename_i x ho
  simp at h;obtain ⟨x',h1,rfl⟩:=h
  exact Sm ho h1
 ·rename_i s x f ho
  split at h
  case h_2=>simp at h
  rename_i fs x' h1 h2
  split at h
  case h_2=>simp at h
  rename_i fd h3
  split at h
  case h_2=>simp at h
  rename_i i h4
  split at h
  ·simp at h
  ·rename_i h5
   cases h
   exact Sn ho h1 h3 h4 h5 h2
 ·rename_i t x f ho
  split at h
  case h_2=>simp at h
  rename_i fs x' h1 h2
  split at h
  case h_2=>simp at h
  rename_i fd h3
  split at h
  case h_2=>simp at h
  rename_i n ag h4
  cases h
  exact Sp ho h1 h3 h4 h2
 ·rename_i t x i ho
  split at h
  ·simp at h;obtain ⟨inf,h1,rfl⟩:=h
   exact Sq ho (by assumption) h1 (by assumption) (by assumption)
  ·simp at h;obtain ⟨inf,h1,rfl⟩:=h
   exact NH ho (by assumption) h1 (by assumption) (by assumption)
  ·simp at h
 ·rename_i t x i ho
  split at h
  ·cases h
   exact Vz ho (by assumption) (by assumption) (by assumption)
  ·rw[Option.map_eq_some_iff] at h
   obtain ⟨⟨n,ag⟩,h1,rfl⟩:=h
   exact VA ho (by assumption) h1 (by assumption) (by assumption)
  ·simp at h
 ·rename_i t x lo hi mx ho
  split at h
  ·simp at h;obtain ⟨inf,h1,rfl⟩:=h
   exact aaP ho (by assumption) h1 (by assumption) (by assumption) (by assumption) (by assumption)
  ·rename_i nQ
   cases h
   have:mx=none:=by
    cases mx with
    |none=>rfl
    |some p=>simp[pI] at nQ
   subst this
   exact VM ho (by assumption) (by assumption) (by assumption) (by assumption)
  ·simp at h
 ·rename_i x i ho
  simp at h;obtain ⟨x',h1,rfl⟩:=h
  exact aaO ho h1
 ·rename_i f a b ho
  split at h<;>cases h
  exact VF ho (by assumption) (by assumption)
 ·rename_i t x ho
  split at h
  ·simp at h
  ·rename_i hd h1 h2
   cases h
   exact VG ho h1 (fun ms e=>hd ms e) h2
  ·simp at h
 ·rename_i x xt t ho
  split at h
  ·simp at h
  ·rename_i hd h1 h2 h3
   rw[Option.map_eq_some_iff] at h
   obtain ⟨z,hz,rfl⟩:=h
   rw[Option.bind_eq_some_iff] at hz
   obtain ⟨zv,h4,h5⟩:=hz
   exact VH ho h1 (fun ms e=>hd ms e) h2 h4 h5 h3
  ·simp at h
 ·rename_i x xt t ho
  split at h
  ·cases h;exact VI ho (by assumption) (by assumption)
  ·simp at h
 ·rename_i t parts ho
  split at h
  ·rename_i fs zs h1 h2
   split at h
   case h_2=>simp at h
   rename_i pl cs h3 h4
   simp at h
   obtain ⟨ps,h5,rfl⟩:=h
   simp[Option.bind_eq_some_iff] at h2
   obtain ⟨it,h6,h7⟩:=h2
   refine FV ho h4 h5 fun l cells hl=>?_
   unfold Program.built
   rw[h6,h1]
   simp only[h7]
   unfold placesOf at h3
   rw[h3]
   simpa [Value.cells] using hl
  ·rename_i n e zs h1 h2
   split at h
   case h_2=>simp at h
   rename_i inf cs h3 h4
   simp at h
   obtain ⟨ps,h5,rfl⟩:=h
   simp[Option.bind_eq_some_iff] at h2
   obtain ⟨it,h6,h7⟩:=h2
   refine FV ho h4 h5 fun l cells hl=>?_
   unfold Program.built
   rw[h6,h1]
   simp only[h7,h3]
   simpa [Value.cells] using hl
  ·simp at h
 ·rename_i args ats ho
  split at h
  case h_2=>simp at h
  rename_i x t ha ej
  split at h
  ·cases h;exact VB ho ha ej (by assumption) (by assumption)
  ·cases h;exact VC ho ha ej (by assumption) (by assumption)
  ·cases h;exact VD ho ha ej (by assumption)
  ·simp at h
 ·rename_i args ats ho
  split at h
  case h_2=>simp at h
  split at h<;>cases h
  exact VE (mx:=false) ho (by assumption) (by assumption) (by assumption)
 ·rename_i args ats ho
  split at h
  case h_2=>simp at h
  split at h<;>cases h
  exact VE (mx:=true) ho (by assumption) (by assumption) (by assumption)
 ·simp at h
section
variable {P:Program}{φ:aU}{O:Nat→Prop}{w:World}
def flat(es:List AV):List AV:=es.flatMap AV.cells
theorem gZ(x:AV)(r:List AV):flat (x::r)=x.cells++flat r:=by simp[flat]
theorem ek(a b:List AV):flat (a++b)=flat a++flat b:=by simp[flat]
theorem dc{k:Nat}:∀{es:List AV},(∀x∈es,x.az=k)→(flat es).length=es.length*k
 |[],_=>by simp[flat]
 |x::r,h=>by
  rw[gZ,List.length_append,←AV.eW,h x (by simp),dc (fun y hy=>h y (by simp[hy])),List.length_cons,Nat.add_mul]
  omega
theorem aey(w:World)(b off:Nat):(fun j=>cX w b 0 (off+j))=cX w b off:=by
 funext j;simp[cX]
theorem uj(w:World)(b off k:Nat):(fun j=>cX w b off (k+j))=cX w b (off+k):=by
 funext j;simp[cX,Nat.add_assoc]
theorem pJ{b k:Nat}:∀{es:List AV}{off:Nat},Rl φ O w b k es off→(∀x∈es,x.az=k)∧Rs φ O w (flat es) (cX w b off)
 |[],off,_=>⟨by simp,trivial⟩
 |x::r,off,h=>by
  obtain ⟨h1,h2⟩:=pJ h.2.2.2
  refine ⟨fun y hy=>?_,?_⟩
  ·rcases List.mem_cons.1 hy with rfl|hy
   ·exact h.1
   ·exact h1 y hy
  ·rw[gZ]
   refine dB (QN h.2.2.1 h.2.1) ?_
   rw[←AV.eW,h.1,uj]
   exact h2
theorem yf{x:AV}{r:List AV}{g:Nat→Option Value}(h:Rs φ O w (x.cells++r) g):R φ O w x g∧(x.isAgg=false→∃u,g 0=some u∧u.oneCell'=true):=by
 have h1:=lm (n:=x.cells.length) h
 rw[List.take_left] at h1
 cases x<;>first
  |exact ⟨h1,fun h=>by simp[AV.isAgg] at h⟩
  |exact ⟨h1.2.1,fun _=>h1.2.2.1⟩
theorem uk{b k:Nat}:∀{es:List AV}{off:Nat},(∀x∈es,x.az=k)→Rs φ O w (flat es) (cX w b off)→Rl φ O w b k es off
 |[],off,_,_=>trivial
 |x::r,off,hk,h=>by
  rw[gZ] at h
  obtain ⟨h1,h2⟩:=yf h
  refine ⟨hk x (by simp),h2,h1,uk (fun y hy=>hk y (by simp[hy])) ?_⟩
  have h3:=lj (f:=x.cells.length) h
  rw[List.drop_left,←AV.eW,hk x (by simp),uj] at h3
  exact h3
theorem pK{k:Nat}{es:List AV}(hk:∀x∈es,x.az=k):∀j,flat (es.take j)=(flat es).take (j*k):=by
 induction es with
 |nil=>intro j;simp[flat]
 |cons x r ih =>
  intro j
  cases j with
  |zero=>simp[flat]
  |succ j =>
   have hx:x.cells.length=k:=by rw[←AV.eW];exact hk x (by simp)
   rw[List.take_succ_cons,gZ,gZ,ih (fun y hy=>hk y (by simp[hy])),Nat.add_mul,Nat.one_mul,List.take_append,hx]
   rw[List.take_of_length_le (l:=x.cells) (by omega)]
   congr 2
   omega
theorem mZ{k:Nat}{es:List AV}(hk:∀x∈es,x.az=k):∀j,flat (es.drop j)=(flat es).drop (j*k):=by
 induction es with
 |nil=>intro j;simp[flat]
 |cons x r ih =>
  intro j
  cases j with
  |zero=>simp[flat]
  |succ j =>
   have hx:x.cells.length=k:=by rw[←AV.eW];exact hk x (by simp)
   rw[List.drop_succ_cons,gZ,ih (fun y hy=>hk y (by simp[hy])),Nat.add_mul,Nat.one_mul,List.drop_append,hx]
   rw[List.drop_of_length_le (l:=x.cells) (by omega),List.nil_append]
   congr 1
   omega
theorem zT{t:TypeId}{n:Nat}{ag:Bool}(hs:fT P t=some (n,ag)){x:AV}{b off f:Nat}(h:Rs φ O w x.cells (cX w b off))(hok:AV.jw x f n ag) :
  ∃u,(loadVar t ⟨b,off+f,none⟩).run P w = .ok u w∧VR φ O w (AV.sub x f n ag) u:=by
 unfold fT at hs
 split at hs
 case h_2=>simp at hs
 rename_i d i h1 h2
 cases hs
 unfold loadVar
 simp only[Sem.run_bind,vR h1,Result.andThen_ok]
 cases hd:Ce d with
 |true =>
  simp only[AV.jw,hd,if_true] at hok
  simp only[if_true,Sem.run_bind,iz h2,Result.andThen_ok,Sem.run_pure,AV.sub,hd]
  have h3:=lm (n:=i.size) (lj (f:=f) h)
  rw[uj] at h3
  obtain ⟨us,h4,h5,h6⟩:=vQ h3
  have hl:((x.cells.drop f).take i.size).length=i.size:=by simp;omega
  rw[hl] at h4 h5
  have zQ:=run_loadCells_list (P:=P) w ⟨b,off+f,none⟩ us (fun j v hv=>by
   have hj:j<us.length:=(List.getElem?_eq_some_iff.1 hv).1
   rw[addr_add]
   have:=h5 j (by omega)
   rw[hv] at this
   exact this)
  rw[h4] at zQ
  rw[zQ]
  refine ⟨_,rfl,HR (cA (fun j hj=>?_) h3) (by simp[h4,hl])⟩
  rw[hl] at hj
  rw[h5 j hj]
  simp
 |false =>
  simp only[AV.jw,hd] at hok
  have hf:f<x.cells.length:=by simpa using hok
  obtain ⟨a1,a2,u,a3,a4⟩:=Cb h (i:=f) (x:=x.cells[f]) (by simp[hf])
  refine ⟨u,?_,?_⟩
  ·have hc:w.cell? ⟨b,off+f,none⟩=some u:=a3
   simp[hc]
  ·have e:x.cells.getD f AV.top=x.cells[f]:=by simp[List.getD,hf]
   simp only[AV.sub,hd,Bool.false_eq_true,if_false,e]
   exact QO a1 a4 a2 (by simpa using a3)
theorem Rel.elem{H:Y}(h:Rel φ H w){id b j:Nat}{blk:aP}{e:AV}(hm:φ id=some b)(hf:Y.find H id=some blk)(he:blk.es[j]? = some e)(cE:0<blk.k) :
  e.az=blk.k∧Rs φ (Own φ H) w e.cells (cX w b (j*blk.k)):=by
 obtain ⟨cur,cap,a1,a2,a3,a4,a5,a6⟩:=(h.blk id b blk hm hf).cells cE
 obtain ⟨b1,b2,b3⟩:=ye a6 he
 rw[Nat.zero_add] at b2 b3
 exact ⟨b1,QN b3 b2⟩
theorem Rel.grow{H:Y}(h:Rel φ H w){w':World}(hs:w.heap.size≤w'.heap.size)(hb:∀b,b<w.heap.size→w'.heap[b]? = w.heap[b]?):Rel φ H w':=by
 have hl:Later (fun _=>True) φ φ (Own φ H) (Own φ H) w w':=⟨fun _ _ _ h=>h,hs,fun _ _ h=>h,fun b hb' _=>hb b hb',fun b hb'=>by unfold World.shape?;rw[hb b hb']⟩
 refine ⟨h.jC.later hl,fun id b hm=>⟨(h.dom id b hm).1,Nat.lt_of_lt_of_le (h.dom id b hm).2 hs⟩,h.inj,fun id b k h1 h2=>?_⟩
 exact (h.blk id b k h1 h2).on hl (hb b (h.dom id b h1).2)
theorem grow_step{H:Y}{w':World}(ho:w'.os=w.os)(ht:w'.tape=w.tape)(hu:w'.output=w.output)(hs:w.heap.size≤w'.heap.size)(hb:∀b,b<w.heap.size→w'.heap[b]? = w.heap[b]?):Step φ H w φ H w' :=
 ⟨⟨fun _ _ _ h=>h,hs,fun _ _ h=>h,fun b hb' _=>hb b hb',fun b hb'=>by unfold World.shape?;rw[hb b hb']⟩,ho,ht,hu,Nat.le_refl _,fun _ _=>rfl⟩
def aU.add(φ:aU)(id b:Nat):aU:=fun i=>if i=id then some b else φ i
theorem Cz{H:Y}{b b':Nat}{blk:aP}(hd:∀id b,φ id=some b→id<H.length)(h:Own (φ.add H.length b) (some blk::H) b'):Own φ H b'∨b'=b:=by
 obtain ⟨id,k,h1,h2⟩:=h
 unfold aU.add at h1
 split at h1
 ·cases h1;exact .inr rfl
 ·have l1:=hd id b' h1
  rw[Y.bA l1] at h2
  exact .inl ⟨id,k,h1,h2⟩
theorem Rel.alloc{H:Y}(h:Rel φ H w)(blk:aP)(cE:0<blk.k)(cur:Array Value)(cap:Nat)(hsz:cur.size=cap*blk.k)
  (hcap:blk.es.length≤cap)(hex:blk.exact=true→cap=blk.es.length)(hm:cap≤maxLen)(hk:∀x∈blk.es,x.az=blk.k)(hr:Rs φ (Own φ H) w (flat blk.es) (fun i=>cur[i]?)) :
  Rel (φ.add H.length w.heap.size) (some blk::H) (w.alloc (.cells cur blk.ty))∧Step φ H w (φ.add H.length w.heap.size) (some blk::H) (w.alloc (.cells cur blk.ty)):=by
 have hold:∀b,b<w.heap.size→(w.alloc (.cells cur blk.ty)).heap[b]? = w.heap[b]?:=fun b hb=>heap_alloc_old w _ hb
 have hsize:w.heap.size≤(w.alloc (.cells cur blk.ty)).heap.size:=by simp
 have hg:=h.grow hsize hold
 have hs:Step φ H w φ H (w.alloc (.cells cur blk.ty)):=grow_step rfl rfl rfl hsize hold
 have hdom:∀id b,φ id=some b→id<H.length:=fun id b hm=>(h.dom id b hm).1
 have eK:Later (fun _=>True) φ (φ.add H.length w.heap.size) (Own φ H) (Own (φ.add H.length w.heap.size) (some blk::H)) w (w.alloc (.cells cur blk.ty)):=by
  refine ⟨fun id b _ hm'=>?_,hsize,fun b hb ho fN=>?_,fun b hb _=>hold b hb,fun b hb=>by unfold World.shape?;rw[hold b hb]⟩
  ·unfold aU.add
   rw[if_neg (by have:=hdom id b hm';omega)]
   exact hm'
  ·rcases Cz hdom fN with h1|h1
   ·exact ho h1
   ·omega
 have hstep:Step φ H w (φ.add H.length w.heap.size) (some blk::H) (w.alloc (.cells cur blk.ty)):=⟨eK,rfl,rfl,rfl,by simp,fun id hid=>by unfold aU.add;rw[if_neg (by omega)]⟩
 have hRs:∀{l:List AV}{g g':Nat→Option Value},(∀i v,g i=some v→g' i=some v)→Rs φ (Own φ H) w l g→Rs (φ.add H.length w.heap.size) (Own (φ.add H.length w.heap.size) (some blk::H)) (w.alloc (.cells cur blk.ty)) l g' :=
  fun VP hl=>jq eK _ _ _ (AV.cO _) VP hl
 refine ⟨⟨h.jC.later hstep.toLater,fun id b' hm'=>?_,fun i j b' hi hj jx mM=>?_,fun id b' k h1 h2=>?_⟩,hstep⟩
 ·unfold aU.add at hm'
  split at hm'
  ·rename_i e
   cases hm'
   exact ⟨by simp[e],by simp⟩
  ·have:=h.dom id b' hm'
   exact ⟨by simp;omega,by simp;omega⟩
 ·unfold aU.add at hi hj
  split at hi<;>split at hj
  ·omega
  ·cases hi;have:=(h.dom j _ hj).2;omega
  ·cases hj;have:=(h.dom i _ hi).2;omega
  ·have l1:=(h.dom i b' hi).1
   have l2:=(h.dom j b' hj).1
   rw[Y.bA l1] at jx
   rw[Y.bA l2] at mM
   exact h.inj i j b' hi hj jx mM
 ·unfold aU.add at h1
  split at h1
  ·rename_i e
   cases h1
   subst e
   rw[Y.iw] at h2
   cases h2
   refine .inl ⟨cE,cur,cap,heap_alloc_new w _,hsz,hcap,hex,hm,uk hk (hRs (fun i v hv=>?_) hr)⟩
   unfold cX
   rw[Nat.zero_add,World.cell?_alloc_at _ _ _ _ rfl]
   exact hv
  ·have l1:=(h.dom id b' h1).1
   have l2:=(h.dom id b' h1).2
   rw[Y.bA l1] at h2
   exact (h.blk id b' k h1 h2).on eK (hold b' l2)
end
section
variable {P:Program}{φ:aU}{O:Nat→Prop}{w:World}
theorem E7(w:World)(g:Nat)(old cs:Array Value)(t:TypeId)(fr:Nat×Nat)(hg:w.heap[g]? = some (.cells old t fr))(hs:cs.size=old.size)(b:Nat):(w.setRow g cs).shape? b=w.shape? b:=by
 unfold World.shape?
 by_cases e:b=g
 ·subst e
  rw[setRow_heap w b old cs t fr hg,hg]
  simp[hs]
 ·rw[setRow_other w g b cs e]
theorem Rel.write{H:Y}(h:Rel φ H w){id b:Nat}{blk:aP}(cE:0<blk.k){cur iJ:Array Value}{cap:Nat}(hm:φ id=some b)(hf:Y.find H id=some blk)(hb:w.heap[b]? = some (.cells cur blk.ty (0,0)))(hsz:cur.size=cap*blk.k)
  (es':List AV)(hs':iJ.size=cur.size)(hcap:es'.length≤cap)(nQ:cap≤maxLen)(hex:blk.exact=true→cap=es'.length)(hk:∀x∈es',x.az=blk.k)(hr:Rs φ (Own φ H) w (flat es') (fun i=>iJ[i]?)) :
  Rel φ (Y.set H id (some { blk with es:=es' })) (w.setRow b iJ)∧Step φ H w φ (Y.set H id (some { blk with es:=es' })) (w.setRow b iJ):=by
 have hid:id<H.length:=Y.ax hf
 have hown:∀b',Own φ (Y.set H id (some { blk with es:=es' })) b'↔Own φ H b':=by
  intro b'
  constructor
  ·rintro ⟨i,k,h1,h2⟩
   by_cases e:i=id
   ·subst e;exact ⟨i,blk,h1,hf⟩
   ·rw[Y.aj e] at h2;exact ⟨i,k,h1,h2⟩
  ·rintro ⟨i,k,h1,h2⟩
   by_cases e:i=id
   ·subst e;exact ⟨i,_,h1,Y.aC hid⟩
   ·exact ⟨i,k,h1,by rw[Y.aj e];exact h2⟩
 have NJ:Own φ H b:=⟨id,blk,hm,hf⟩
 have hl:Later (fun _=>True) φ φ (Own φ H) (Own φ (Y.set H id (some { blk with es:=es' }))) w (w.setRow b iJ):=by
  refine ⟨fun _ _ _ h=>h,by simp,fun b' hb' ho fN=>ho ((hown b').1 fN),fun b' hb' ho=>?_,fun b' hb'=>E7 w b cur iJ _ _ hb hs' b'⟩
  exact setRow_other w b b' iJ (fun e=>ho (e▸NJ))
 refine ⟨⟨h.jC.later hl,fun i b' hi=>?_,fun i j b' hi hj jx mM=>?_,fun i b' k h1 h2=>?_⟩,⟨hl,rfl,rfl,rfl,by rw[Y.af];exact Nat.le_refl _,fun _ _=>rfl⟩⟩
 ·rw[Y.af]
  simpa using h.dom i b' hi
 ·have g1:(Y.find H i).isSome:=by
   by_cases e:i=id
   ·subst e;rw[hf];rfl
   ·rwa [Y.aj e] at jx
  have g2:(Y.find H j).isSome:=by
   by_cases e:j=id
   ·subst e;rw[hf];rfl
   ·rwa [Y.aj e] at mM
  exact h.inj i j b' hi hj g1 g2
 ·by_cases e:i=id
  ·subst e
   rw[hm] at h1
   cases h1
   rw[Y.aC hid] at h2
   cases h2
   refine .inl ⟨cE,iJ,cap,setRow_heap w b cur iJ _ _ hb,by rw[hs',hsz],hcap,hex,nQ,uk hk (jq hl _ _ _ (AV.cO _) (fun i v hv=>?_) hr)⟩
   unfold cX
   rw[Nat.zero_add,cell_setRow_same w b i cur iJ _ _ hb]
   exact hv
  ·rw[Y.aj e] at h2
   have hne:b'≠b:=fun eb=>by
    subst eb
    exact e (h.inj i id b' h1 hm (by rw[h2];rfl) (by rw[hf];rfl))
   exact (h.blk i b' k h1 h2).on hl (setRow_other w b b' iJ hne)
theorem FW{H:Y}{id b:Nat}(h:Own φ (Y.set H id none) b):Own φ H b:=by
 obtain ⟨i,k,h1,h2⟩:=h
 by_cases e:i=id
 ·subst e
  by_cases hl:i<H.length
  ·rw[Y.aC hl] at h2;simp at h2
  ·rw[Y.ya (by rw[Y.af];omega)] at h2;simp at h2
 ·rw[Y.aj e] at h2;exact ⟨i,k,h1,h2⟩
theorem iW{H:Y}{id i:Nat}{k:aP}(h:Y.find (Y.set H id none) i=some k):i≠id∧Y.find H i=some k:=by
 by_cases e:i=id
 ·subst e
  by_cases hl:i<H.length
  ·rw[Y.aC hl] at h;simp at h
  ·rw[Y.ya (by rw[Y.af];omega)] at h;simp at h
 ·rw[Y.aj e] at h;exact ⟨e,h⟩
theorem Rel.kill{H:Y}(h:Rel φ H w)(id:Nat):Rel φ (Y.set H id none) w∧Step φ H w φ (Y.set H id none) w:=by
 have hl:Later (fun _=>True) φ φ (Own φ H) (Own φ (Y.set H id none)) w w:=⟨fun _ _ _ h=>h,Nat.le_refl _,fun b _ ho fN=>ho (FW fN),fun _ _ _=>rfl,fun _ _=>rfl⟩
 refine ⟨⟨h.jC.later hl,fun i b hi=>by rw[Y.af];exact h.dom i b hi,fun i j b hi hj jx mM=>?_,fun i b k h1 h2=>?_⟩,⟨hl,rfl,rfl,rfl,by rw[Y.af];exact Nat.le_refl _,fun _ _=>rfl⟩⟩
 ·obtain ⟨k1,e1⟩:=Option.isSome_iff_exists.1 jx
  obtain ⟨k2,e2⟩:=Option.isSome_iff_exists.1 mM
  exact h.inj i j b hi hj (by rw[(iW e1).2];rfl) (by rw[(iW e2).2];rfl)
 ·exact (h.blk i b k h1 (iW h2).2).on hl rfl
theorem Rel.move{H:Y}(h:Rel φ H w){id b:Nat}{blk:aP}(hm:φ id=some b)(hf:Y.find H id=some blk) :
  Rel (φ.add H.length b) (some blk::Y.set H id none) w∧Step φ H w (φ.add H.length b) (some blk::Y.set H id none) w:=by
 have hid:id<H.length:=Y.ax hf
 have hdom:∀i b',φ i=some b'→i<H.length:=fun i b' hi=>(h.dom i b' hi).1
 have hown:∀b',Own (φ.add H.length b) (some blk::Y.set H id none) b'→Own φ H b':=by
  rintro b' ⟨i,k,h1,h2⟩
  unfold aU.add at h1
  split at h1
  ·cases h1;exact ⟨id,blk,hm,hf⟩
  ·have l1:=hdom i b' h1
   rw[Y.bA (by rw[Y.af];exact l1)] at h2
   exact ⟨i,k,h1,(iW h2).2⟩
 have hl:Later (fun _=>True) φ (φ.add H.length b) (Own φ H) (Own (φ.add H.length b) (some blk::Y.set H id none)) w w:=by
  refine ⟨fun i b' _ hi=>?_,Nat.le_refl _,fun b' _ ho fN=>ho (hown b' fN),fun _ _ _=>rfl,fun _ _=>rfl⟩
  unfold aU.add
  rw[if_neg (by have:=hdom i b' hi;omega)]
  exact hi
 refine ⟨⟨h.jC.later hl,fun i b' hi=>?_,fun i j b' hi hj jx mM=>?_,fun i b' k h1 h2=>?_⟩,⟨hl,rfl,rfl,rfl,by simp[Y.af],fun id hid=>by unfold aU.add;rw[if_neg (by omega)]⟩⟩
 ·unfold aU.add at hi
  split at hi
  ·cases hi
   exact ⟨by simp[Y.af];omega,(h.dom id b hm).2⟩
  ·have:=h.dom i b' hi
   exact ⟨by simp[Y.af];omega,this.2⟩
 ·have key:∀i,φ i=some b'→(Y.find (some blk::Y.set H id none) i).isSome→i≠id∧(Y.find H i).isSome:=by
   intro i hi jx
   rw[Y.bA (by rw[Y.af];exact hdom i b' hi)] at jx
   obtain ⟨k1,e1⟩:=Option.isSome_iff_exists.1 jx
   exact ⟨(iW e1).1,by rw[(iW e1).2];rfl⟩
  unfold aU.add at hi hj
  split at hi<;>split at hj
  ·omega
  ·cases hi
   obtain ⟨n1,n2⟩:=key j hj mM
   exact absurd (h.inj j id b hj hm n2 (by rw[hf];rfl)) n1
  ·cases hj
   obtain ⟨n1,n2⟩:=key i hi jx
   exact absurd (h.inj i id b hi hm n2 (by rw[hf];rfl)) n1
  ·exact h.inj i j b' hi hj (key i hi jx).2 (key j hj mM).2
 ·have hblk:∀i k,φ i=some b'→Y.find H i=some k→jJ (φ.add H.length b) (Own (φ.add H.length b) (some blk::Y.set H id none)) w k b':=by
   intro i k h1 h2
   exact (h.blk i b' k h1 h2).on hl rfl
  unfold aU.add at h1
  split at h1
  ·rename_i e
   cases h1
   subst e
   have:Y.find (some blk::Y.set H id none) H.length=some blk:=by
    have:=Y.iw (H:=Y.set H id none) (b:=some blk)
    rwa [Y.af] at this
   rw[this] at h2
   cases h2
   exact hblk id blk hm hf
  ·rw[Y.bA (by rw[Y.af];exact hdom i b' h1)] at h2
   exact hblk i k h1 (iW h2).2
structure Src(φ:aU)(O:Nat→Prop)(w:World)(k:Nat)(ys:List AV)(v:Value):Prop where
 ex:∃a c news,v = .slice a ys.length c∧news.length=ys.length*k∧(∀x∈ys,x.az=k)∧Rs φ O w (flat ys) (fun i=>(news:List Value)[i]?)∧(∀u∈news,u.oneCell'=true)∧
  (0<ys.length→∃ad,a=some ad∧∀j u,news[j]? = some u→w.cell? (ad.add j)=some u)
theorem Src.HV{k:Nat}{ys:List AV}{b off c:Nat}(h:Rl φ O w b k ys off):Src φ O w k ys (.slice (some ⟨b,off,none⟩) ys.length c):=by
 obtain ⟨h1,h2⟩:=pJ h
 obtain ⟨us,h3,h4,h5⟩:=vQ h2
 refine ⟨_,c,us,rfl,by rw[h3,dc h1],h1,cA (fun i hi=>?_) h2,h5,fun _=>⟨_,rfl,fun j u hj=>?_⟩⟩
 ·exact (h4 i hi).symm
 ·have hj':j<us.length:=(List.getElem?_eq_some_iff.1 hj).1
  have:=h4 j (by omega)
  rw[hj] at this
  rw[addr_add]
  exact this
theorem Src.QR{k:Nat}{ys:List AV}{room:Option (List AV)}{v:Value}(h:VR φ O w (.am k ys room) v){k':Nat}(hk:k=k'∨ys=[]):Src φ O w k' ys v:=by
 obtain ⟨a,c,rfl,h2,h3,h4,h5,h6⟩:=iU h
 by_cases hn:0<ys.length
 ·obtain ⟨b,off,rfl,_,_,h7⟩:=h5 hn
  rcases hk with rfl|rfl
  ·exact Src.HV h7
  ·simp at hn
 ·have:ys=[]:=List.length_eq_zero_iff.1 (by omega)
  subst this
  exact ⟨a,c,[],rfl,by simp,by simp,trivial,by simp,fun h=>by simp at h⟩
theorem Src.vT{H:Y}(hR:Rel φ H w){k id off n:Nat}{c:Option Nat}{v:Value}(h:VR φ (Own φ H) w (.aD k id off n c) v){blk:aP}(hf:Y.find H id=some blk)(hk:blk.k=k)(hl:off+n≤blk.es.length) :
  Src φ (Own φ H) w k ((blk.es.drop off).take n) v:=by
 obtain ⟨b,c',cur,e,fr,v1,rfl,v3,v4,v5,v6,v7⟩:=iV h
 obtain ⟨_,iJ,cap,a1,a2,a3,a4,a5,a6⟩:=(hR.blk id b blk v1 hf).jK v6
 have h7:=jL (n:=n) (lq (f:=off) a6)
 rw[hk,Nat.zero_add] at h7
 have mb:((blk.es.drop off).take n).length=n:=by simp;omega
 have:=Src.HV (c:=c') h7
 rwa [mb] at this
theorem yg{t ty e:TypeId}{inf:TypeInfo}(ht:P.underlying t=some (.slice e))(hi:P.info? e=some inf){base a:Option Addr}{n c c':Nat}(hn:n≤c) :
  (Builtin.append_ #[t,t] ty #[.slice base n c,.slice a 0 c']).run P w = .ok (.slice base n c) w:=by
 cases base<;>cases a<;>simp[Builtin.append_,bD ht,iz hi,Builtin.lenOf,Builtin.firstCells,hn,loadCells,loadCellsFrom,storeCells]
theorem um{H:Y}(hR:Rel φ H w){t ty e:TypeId}{inf:TypeInfo}{z:Value}(ht:P.underlying t=some (.slice e))(hi:P.info? e=some inf)(hz:inf.zero=some z)(hzs:z.cells.size=inf.size)(hby:inf.bytes≤1000)(cE:0<inf.size)
  {xs ys:List AV}{s v:Value}(hs:Src φ (Own φ H) w inf.size xs s)(hv:Src φ (Own φ H) w inf.size ys v)(hy:0<ys.length)(hb:xs.length+ys.length≤100000000)
  (hc:∃a c,s = .slice a xs.length c∧c<xs.length+ys.length∧(a=none→c=0)) :
  ∃c' w',(Builtin.append_ #[t,t] ty #[s,v]).run P w = .ok (.slice (some ⟨w.heap.size,0,none⟩) (xs.length+ys.length) c') w'∧
   Rel (φ.add H.length w.heap.size) (some ⟨inf.size,xs++ys,false,e⟩::H) w'∧Step φ H w (φ.add H.length w.heap.size) (some ⟨inf.size,xs++ys,false,e⟩::H) w'∧
   VR (φ.add H.length w.heap.size) (Own (φ.add H.length w.heap.size) (some ⟨inf.size,xs++ys,false,e⟩::H)) w' (.aD inf.size H.length 0 (xs.length+ys.length) none) (.slice (some ⟨w.heap.size,0,none⟩) (xs.length+ys.length) c'):=by
 obtain ⟨a,c,olds,e1,o2,o3,o4,o5,o6⟩:=hs.ex
 obtain ⟨a2,c2,news,e2,n2,n3,n4,n5,n6⟩:=hv.ex
 obtain ⟨a',c',e3,hlt,hn0⟩:=hc
 rw[e1] at e3
 cases e3
 subst e1
 subst e2
 obtain ⟨ad,rfl,hnews⟩:=n6 hy
 have VQ:=pB hR
 have yh:∀(cap:Nat)(arr:Array Value),xs.length+ys.length≤cap→cap≤maxLen→arr.size=cap*inf.size→(∀i,i<(olds++news).length→arr[i]? = (olds++news)[i]?)→
   Rel (φ.add H.length w.heap.size) (some ⟨inf.size,xs++ys,false,e⟩::H) (w.drew.alloc (.cells arr e))∧Step φ H w (φ.add H.length w.heap.size) (some ⟨inf.size,xs++ys,false,e⟩::H) (w.drew.alloc (.cells arr e))∧
   VR (φ.add H.length w.heap.size) (Own (φ.add H.length w.heap.size) (some ⟨inf.size,xs++ys,false,e⟩::H)) (w.drew.alloc (.cells arr e)) (.aD inf.size H.length 0 (xs.length+ys.length) none) (.slice (some ⟨w.heap.size,0,none⟩) (xs.length+ys.length) cap):=by
  intro cap arr h1 h2 h3 h4
  have hk:∀x∈xs++ys,x.az=inf.size:=fun x hx=>by
   rcases List.mem_append.1 hx with h|h
   ·exact o3 x h
   ·exact n3 x h
  have BN:Rs φ (Own φ H) w.drew (flat (xs++ys)) (fun i=>arr[i]?):=by
   have hl:Later (fun _=>True) φ φ (Own φ H) (Own φ H) w w.drew:=(iR φ H w).toLater
   refine jq hl _ _ _ (AV.cO _) (fun i v hv=>hv) ?_
   rw[ek]
   have uo:(flat xs).length=olds.length:=by rw[dc o3,o2]
   have hnl:(flat ys).length=news.length:=by rw[dc n3,n2]
   refine dB (cA (fun i hi=>?_) o4) (cA (fun i hi=>?_) n4)
   ·rw[h4 i (by simp;omega),List.getElem?_append_left (by omega)]
   ·rw[h4 _ (by simp;omega),List.getElem?_append_right (by omega)]
    congr 1
    omega
  have:=VQ.alloc ⟨inf.size,xs++ys,false,e⟩ cE arr cap h3 (by simpa using h1) (fun h=>by simp at h) h2 hk BN
  refine ⟨this.1,(iR φ H w).trans this.2,rfl,?_⟩
  refine ⟨w.heap.size,cap,arr,e,(0,0),by simp[aU.add],by simp[fR,Value.cells],h1,h2,fun m hm=>by simp at hm,heap_alloc_new w.drew _,by simpa using h3⟩
 have hlen:(olds++news).length=(xs.length+ys.length)*inf.size:=by rw[List.length_append,o2,n2,Nat.add_mul]
 have hbytes:(xs.length+ys.length)*inf.bytes≤100000000*1000:=Nat.mul_le_mul hb hby
 cases a with
 |none =>
  have hc0:=hn0 rfl
  have hx:xs=[]:=by
   cases xs with
   |nil=>rfl
   |cons x r=>obtain ⟨_,h,_⟩:=o6 (by simp);simp at h
  subst hc0
  subst hx
  have ho:olds=[]:=List.length_eq_zero_iff.1 (by simpa using o2)
  subst ho
  have hr:=run_append_nil (P:=P) w t ty e inf z ht hi hz ad ys.length c2 news n2 hnews hy (by omega) (by simp at hbytes;omega)
  simp only[List.length_nil,Nat.zero_add,List.nil_append] at yh hb ⊢
  have hge:=grownCap_ge w ys.length 0 e
  obtain ⟨f1,f2,f3⟩:=yh (grownCap w ys.length 0 e) (news.toArray++Builtin.zeroCells z.cells (grownCap w ys.length 0 e-ys.length)) hge (grownCap_le_maxLen w _ _ _ (by unfold maxLen;omega))
   (by simp only[Array.size_append,List.size_toArray,size_zeroCells,hzs,n2,←Nat.add_mul];congr 1;omega) (fun i hi=>by rw[Array.getElem?_append_left (by simpa using hi)];simp)
  exact ⟨_,_,hr,f1,f2,f3⟩
 |some b =>
  have holds:∀j u,olds[j]? = some u→w.cell? (b.add j)=some u:=fun j u hj=>by
   have hp:0<xs.length:=by
    rcases Nat.eq_zero_or_pos xs.length with h|h
    ·rw[h] at o2
     have:olds=[]:=List.length_eq_zero_iff.1 (by simpa using o2)
     subst this
     simp at hj
    ·exact h
   obtain ⟨ad',h,h'⟩:=o6 hp
   cases h
   exact h' j u hj
  have hr:=run_append_grow (P:=P) w t ty e inf z ht hi hz b xs.length c olds o2 holds ad ys.length c2 news n2 hnews hlt (by omega) (growslice_fits (by omega) (by omega))
  have hge:=grownCap_ge w (xs.length+ys.length) c e
  obtain ⟨f1,f2,f3⟩:=yh (grownCap w (xs.length+ys.length) c e) (olds.toArray++news.toArray++Builtin.zeroCells z.cells (grownCap w (xs.length+ys.length) c e-(xs.length+ys.length))) hge (grownCap_le_maxLen w _ _ _ (by unfold maxLen;omega))
   (by simp only[Array.size_append,List.size_toArray,size_zeroCells,hzs,n2,o2,←Nat.add_mul];congr 1;omega) (fun i hi=>by rw[Array.getElem?_append_left (by simpa using hi)];simp[List.getElem?_append])
  exact ⟨_,_,hr,f1,f2,f3⟩
end
inductive cH where
 | ret (v:AV)
 | bP (v:AV)
def cH.post(K Kp:AV→Y→Prop)(H':Y):cH→Prop
 |.ret v=>K v H'
 |.bP v=>Kp v H'
def tW(φ:aU)(O:Nat→Prop)(w:World)(x:AV)(c:List PanicEntry):Prop:=∃v older,c={ v:=v,recovered:=false }::older∧(∀p∈older,p.goexit=false)∧VR φ O w x v
theorem tW.one{φ:aU}{O:Nat→Prop}{w:World}{x:AV}{v:Value}(h:VR φ O w x v):tW φ O w x [{ v:=v,recovered:=false }]:=⟨v,[],rfl,by simp,h⟩
def Bg(φ:aU)(O:Nat→Prop)(w:World):cH→Ending→Prop
 |.ret x,.returned v=>VR φ O w x v
 |.bP x,.panicked c=>tW φ O w x c
 |_,_=>False
def D(P:Program)(f:FuncId)(args:List AV)(H:Y)(e:cH)(H':Y):Prop :=
 H.length≤H'.length∧∀(φ:aU)(w:World)(vs:Array Value),Rel φ H w→Rt φ (Own φ H) w args vs.toList→
  Calls P f vs w fun en w'=>∃φ',Bg φ' (Own φ' H') w' e en∧Rel φ' H' w'∧Step φ H w φ' H' w'
def DK(P:Program)(f:FuncId)(args:List AV)(H:Y)(Kr:cH→Y→Prop):Prop :=
 ∀(φ:aU)(w:World)(vs:Array Value),Rel φ H w→Rt φ (Own φ H) w args vs.toList→
  Calls P f vs w fun en w'=>∃e H' φ',Bg φ' (Own φ' H') w' e en∧Kr e H'∧Rel φ' H' w'∧Step φ H w φ' H' w'
theorem D.dk{P:Program}{f:FuncId}{args:List AV}{H H':Y}{e:cH}(h:D P f args H e H'):DK P f args H (fun e1 H1=>e1=e∧H1=H') :=
 fun φ w vs hR ha=>(h.2 φ w vs hR ha).mono fun en w' ⟨φ',h1,h2,h3⟩=>⟨e,H',φ',h1,⟨rfl,rfl⟩,h2,h3⟩
theorem DK.mono{P:Program}{f:FuncId}{args:List AV}{H:Y}{Kr Kr':cH→Y→Prop}(h:DK P f args H Kr)(hk:∀e H',H.length≤H'.length→Kr e H'→Kr' e H'):DK P f args H Kr' :=
 fun φ w vs hR ha=>(h φ w vs hR ha).mono fun en w' ⟨e,H',φ',h1,h2,h3,h4⟩=>⟨e,H',φ',h1,hk _ _ h4.len h2,h3,h4⟩
inductive GX where
 | cap
 | copy (k:Nat)
 | NK
 | rN (pos:Bool)(ks:List (Option IntKind))
 | qI (k:Nat)(ty:TypeId)(z:AV)
 | CA
 | NL
 | ol
 | vU
 | tas (t:TypeId)
 | Bh (pos:Bool)
 | pL (q:Option IntKind)(z:AV)(ok:Bool)
 | gi (q:Option IntKind)
 | Bi
 | yl (q:Option IntKind)
 | rj
 | rO (ty:TypeId)
 | wG (ty:TypeId)
 | pM
 | qJ (pos:Bool)
 | JP (pos:Bool)
 | NM
 | wZ (tys:List TypeId)
 | uq
 | Bj
def oS:List (Option IntKind)→List AV→List AV→Prop
 |[],[],[]=>True
 |none::r,.sc (.string _)::xs,.sc (.string _)::ys=>oS r xs ys
 |some k::r,.sc (.int k1 _)::xs,.sc (.int k2 _)::ys=>(k1=k∧k2=k)∧oS r xs ys
 |_,_,_=>False
def ur:List AV→List AV→Bool
 |.sc (.string a)::xs,.sc (.string b)::ys=>(a == b) && ur xs ys
 |.sc (.int _ a)::xs,.sc (.int _ b)::ys=>(a == b) && ur xs ys
 |_,_=>true
def lR:AV→Nat
 |.am _ xs _=>xs.length
 |.aD _ _ _ n _=>n
 |_=>0
def Bk(H:Y)(k m:Nat):AV→Prop
 |.am k' xs _=>(k'=k∨m=0)∧m≤xs.length
 |.aD k' id off n _=>match Y.find H id with
  |some blk=>k'=k∧blk.k=k∧m≤n∧off+m≤blk.es.length
  |none=>False
 |_=>False
def Su(H:Y)(m:Nat):AV→List AV
 |.am _ xs _=>xs.take m
 |.aD _ id off _ _=>match Y.find H id with
  |some blk=>(blk.es.drop off).take m
  |none=>[]
 |_=>[]
def FX(H:Y)(k:Nat)(s:AV):AV→Prop
 |.aD k' id off n _=>match Y.find H id with
  |some blk=>k'=k∧blk.k=k∧off≤blk.es.length∧(blk.exact=false∨off+min (lR s) n≤blk.es.length)∧Bk H k (min (lR s) n) s
  |none=>False
 |.am _ [] _=>Bk H k 0 s
 |_=>False
def NN(H:Y)(s:AV):AV→Y
 |.aD _ id off n _=>match Y.find H id with
  |some blk=>Y.set H id (some { blk with es:=blk.es.take off++Su H (min (lR s) n) s++blk.es.drop (off+min (lR s) n) })
  |none=>H
 |_=>H
def jf:Option IntKind→Value→Bool
 |none,.string _=>true
 |some a,.int b _=>a == b
 |_,_=>false
def oo:Value→Value→Bool
 |.string a,.string b=>decide (a=b)
 |.int _ a,.int _ b=>decide (a=b)
 |_,_=>false
def CB(q:Option IntKind):AV→Bool
 |.aO [.sc k,_]=>jf q k
 |_=>false
def sK(k:Value):AV→Bool
 |.aO [.sc k',_]=>oo k k'
 |_=>false
def VS:AV→AV
 |.aO [_,v]=>v
 |_=>.top
def fy(k:Value):List AV→Nat
 |[]=>0
 |x::r=>if sK k x=true then 0 else fy k r+1
def nR(k:Value)(z:AV)(es:List AV):AV:=if fy k es<es.length then VS (es.getD (fy k es) .top) else z
def qK(k:Value)(v:AV)(es:List AV):List AV:=if fy k es<es.length then es.set (fy k es) (.aO [.sc k,v]) else es++[.aO [.sc k,v]]
def JQ(k:Value)(es:List AV):List AV:=es.eraseIdx (fy k es)
def ut(H:Y)(id:Nat)(p:List AV→Prop):Prop:=match Y.find H id with
 |some blk=>(blk.k=0∧blk.ty=0)∧p blk.es
 |none=>False
def nc(H:Y)(id:Nat):List AV:=match Y.find H id with
 |some blk=>blk.es
 |none=>[]
def uu(H:Y)(id:Nat)(es:List AV):Y:=match Y.find H id with
 |some blk=>Y.set H id (some { blk with es:=es })
 |none=>H
def fM(q:Option IntKind)(es:List AV):Prop:=∀x∈es,CB q x=true
def bO(s:ByteArray):List AV:=s.data.toList.map fun b=>.sc (.int .u8 b.toNat)
def FY(H:Y)(ty:TypeId)(s:ByteArray):AV→Prop
 |.sc (.slice none 0 0)=>s.size≤100000000
 |.am _ [] (some [])=>s.size≤100000000
 |.aD k id off n c=>match Y.find H id with
  | some blk=>(k=1∧blk.k=1∧blk.ty=ty∧off=0∧n+s.size≤100000000)∧(match c with
   |none=>blk.exact=false∧n=blk.es.length
   | some m=>(blk.exact=true∧m=blk.es.length∧n≤m)∨(blk.exact=false∧n≤blk.es.length))
  |none=>False
 |_=>False
def NP(H:Y)(s:ByteArray):AV→AV
 |.aD _ id _ n (some m)=>if n+s.size≤m then .aD 1 id 0 (n+s.size) (some m) else .aD 1 H.length 0 (n+s.size) none
 |.aD _ _ _ n none=>.aD 1 H.length 0 (n+s.size) none
 |d=>if s.size=0 then d else .aD 1 H.length 0 s.size none
def JR(H:Y)(ty:TypeId)(s:ByteArray):AV→Y
 |.aD _ id _ n c=>match Y.find H id with
  |some blk=>match c with
   |none=>some ⟨1,blk.es++bO s,false,ty⟩::Y.set H id none
   |some m=>if n+s.size≤m then Y.set H id (some { blk with es:=blk.es.take n++bO s++blk.es.drop (n+s.size) }) else some ⟨1,blk.es.take n++bO s,false,ty⟩::H
  |none=>H
 |_=>if s.size=0 then H else some ⟨1,bO s,false,ty⟩::H
def FZ(H:Y)(ty:TypeId)(n:Int):AV→Prop
 |.ptr k id j f=>match Y.find H id with
  |some blk=>(k=1∧blk.k=1∧blk.ty=ty∧j=0∧f=0∧0<n∧n.toNat≤blk.es.length)∧∃s,blk.es.take n.toNat=bO s
  |none=>False
 |.sc (.pointer none)=>n=0
 |_=>False
def NQ(H:Y)(n:Int):AV→ByteArray
 |.ptr _ id _ _=>match Y.find H id with
  |some blk=>oZ (blk.es.take n.toNat)
  |none=>⟨#[]⟩
 |_=>⟨#[]⟩
def VT(H:Y):AV→Y
 |.ptr _ id _ _=>Y.set H id none
 |_=>H
def CC:AV→Prop
 |.ptr k _ _ _=>0<k
 |.lp _ _=>True
 |.sc (.pointer none)=>True
 |_=>False
def mc:AV→Bool
 |.sc (.pointer none)=>true
 |_=>false
def GX.ok(H:Y):GX→List AV→Prop
 |.cap,[.aD _ _ _ _ (some _)]=>True
 |.cap,[.am _ _ (some _)]=>True
 |.copy k,[d,s]=>FX H k s d
 |.NK,[.sc (.string s)]=>s.size≤100000000
 |.rN _ ks,[.agg xs,.agg ys]=>oS ks xs ys
 |.qI k _ _,[.aD k' id off n (some c),.sc (.int _ m)]=>match Y.find H id with
  |some blk=>(k'=k∧blk.k=k∧off=0∧n≤blk.es.length)∧0<m∧(c:Int)<n+m∧(n:Int)+m≤100000000
  |none=>False
 |.qI _ _ _,[.am _ [] (some []),.sc (.int _ m)]=>0<m∧m≤100000000
 |.CA,[.sc (.string _),.sc (.int .u8 _)]=>True
 |.NL,[.am k (_::_) _,.aD _ id _ _ _]=>match Y.find H id with
  |some _=>0<k
  |none=>False
 |.ol,[]=>True
 |.vU,[.eP _ (.ptr 0 id _ 0)]=>ut H id fun _=>True
 |.tas t,[.eP u _]=>u=t
 |.Bh _,[.ptr 0 _ _ 0]=>True
 |.Bh _,[.sc (.map none)]=>True
 |.pL q _ _,[.ptr 0 id _ 0,.sc k]=>jf q k=true∧ut H id (fM q)
 |.gi q,[.ptr 0 id _ 0,.sc k,_]=>jf q k=true∧ut H id (fM q)
 |.Bi,[.ptr 0 id _ 0]=>ut H id fun _=>True
 |.yl q,[.ptr 0 id _ 0,.sc k]=>jf q k=true∧ut H id (fM q)
 |.rj,[.aD k id off n _,.sc (.string s)]=>match Y.find H id with
  |some blk=>k=1∧blk.k=1∧off+n≤blk.es.length∧s.size≤n
  |none=>False
 |.rO ty,[d,.sc (.string s)]=>FY H ty s d
 |.wG ty,[p,.sc (.int .i64 n)]=>FZ H ty n p
 |.pM,[.aD k _ _ n _]=>0<k∧0<n
 |.pM,[.sc (.slice none 0 0)]=>True
 |.qJ _,[p]=>CC p
 |.JP _,[.ptr k id j f,.ptr k' id' j' f']=>(k=k'∧id=id'∧j=j'∧f=f')∧0<k
 |.NM,[.ptr k id j f]=>match Y.find H id with
  |some blk=>blk.k=k∧0<k∧j<blk.es.length∧f<k
  |none=>False
 |.wZ tys,[.ptr k id j f]=>match Y.find H id with
  |some blk=>(k=2∧blk.k=2∧j=0∧f=0∧blk.exact=true∧blk.es.length=1)∧tys.contains blk.ty=true
  |none=>False
 |.uq,[_]=>True
 |.Bj,[.sc (.string _),.sc (.int .u8 _)]=>True
 |_,_=>False
def GX.val(H:Y):GX→List AV→AV
 |.cap,[.aD _ _ _ _ (some c)]=>.sc (.int .i64 c)
 |.cap,[.am _ xs (some ys)]=>.sc (.int .i64 (xs.length+ys.length:Nat))
 |.copy _,[d,s]=>.sc (.int .i64 (min (lR s) (lR d):Nat))
 |.NK,[.sc (.string s)]=>.am 1 (bO s) none
 |.rN pos _,[.agg xs,.agg ys]=>.sc (.bool (if pos then ur xs ys else !ur xs ys))
 |.qI k _ _,[.aD _ _ _ n _,.sc (.int _ m)]=>.aD k H.length 0 (n+m.toNat) none
 |.qI k _ _,[.am _ _ _,.sc (.int _ m)]=>.aD k H.length 0 m.toNat none
 |.CA,[.sc (.string s),.sc (.int _ c)]=>.sc (.int .i64 (firstIdx s c.toNat.toUInt8))
 |.NL,_=>.sc (.bool false)
 |.ol,_=>.ptr 0 H.length 0 0
 |.vU,[.eP t _]=>.eP t (.ptr 0 H.length 0 0)
 |.tas _,[.eP _ v]=>v
 |.Bh pos,[.sc _]=>.sc (.bool pos)
 |.Bh pos,_=>.sc (.bool !pos)
 |.pL _ z ok,[.ptr _ id _ _,.sc k]=>if ok then .aO [nR k z (nc H id),.sc (.bool (decide (fy k (nc H id)<(nc H id).length)))] else nR k z (nc H id)
 |.Bi,[.ptr _ id _ _]=>.sc (.int .i64 (nc H id).length)
 |.yl _,_=>.aO []
 |.rj,[_,.sc (.string s)]=>.sc (.int .i64 s.size)
 |.rO _,[d,.sc (.string s)]=>NP H s d
 |.wG _,[p,.sc (.int _ n)]=>.sc (.string (NQ H n p))
 |.pM,[.aD k id off _ _]=>.ptr k id off 0
 |.pM,_=>.sc (.pointer none)
 |.qJ pos,[p]=>.sc (.bool (if pos then mc p else !mc p))
 |.JP pos,_=>.sc (.bool pos)
 |.NM,[p]=>p
 |.wZ _,[p]=>p
 |.uq,[p]=>p
 |.Bj,[.sc (.string s),.sc (.int _ c)]=>.sc (.int .i64 (Lib.countByte s.data.toList c.toNat.toUInt8))
 |_,_=>.top
def GX.heap(H:Y):GX→List AV→Y
 |.copy _,[d,s]=>NN H s d
 |.qI k ty z,[.aD _ id _ n _,.sc (.int _ m)]=>match Y.find H id with
  |some blk=>some ⟨k,blk.es.take n++List.replicate m.toNat z,false,ty⟩::H
  |none=>H
 |.qI k ty _,[.am _ _ _,_]=>some ⟨k,[],false,ty⟩::H
 |.ol,_=>some ⟨0,[],true,0⟩::H
 |.vU,[.eP _ (.ptr _ id _ _)]=>some ⟨0,nc H id,true,0⟩::H
 |.gi _,[.ptr _ id _ _,.sc k,v]=>uu H id (qK k v (nc H id))
 |.yl _,[.ptr _ id _ _,.sc k]=>uu H id (JQ k (nc H id))
 |.rj,[.aD _ id off _ _,.sc (.string s)]=>match Y.find H id with
  |some blk=>Y.set H id (some { blk with es:=blk.es.take off++bO s++blk.es.drop (off+s.size) })
  |none=>H
 |.rO ty,[d,.sc (.string s)]=>JR H ty s d
 |.wG _,[p,_]=>VT H p
 |_,_=>H
theorem yn{H:Y}{id:Nat}{es:List AV}:(uu H id es).length=H.length:=by
 unfold uu
 split
 ·rw[Y.af]
 ·rfl
theorem GX.VU{H:Y}{g:GX}{l:List AV}:H.length≤(GX.heap H g l).length:=by
 unfold GX.heap
 split
 ·unfold NN
  split
  ·split
   ·rw[Y.af];exact Nat.le_refl _
   ·exact Nat.le_refl _
  ·exact Nat.le_refl _
 ·split
  ·simp
  ·exact Nat.le_refl _
 ·simp
 ·simp
 ·simp
 ·rw[yn];exact Nat.le_refl _
 ·rw[yn];exact Nat.le_refl _
 ·split
  ·rw[Y.af];exact Nat.le_refl _
  ·exact Nat.le_refl _
 ·unfold JR
  repeat' split
  all_goals first|exact Nat.le_refl _|(simp[Y.af];done)
 ·unfold VT
  split
  ·rw[Y.af];exact Nat.le_refl _
  ·exact Nat.le_refl _
 ·exact Nat.le_refl _
def F9(P:Program):Nat→List Field→Option (List (Option IntKind))
  |_,[]=>some []
  | i, f :: r => if (f.name != "_") = true ∧ f.offset = i ∧ fT P f.type = some (1, false) then match P.underlying f.type, F9 P (i + 1) r with
      |some .string,some ks=>some (none::ks)
      |some (.int k),some ks=>some (some k::ks)
      |_,_=>none
    else none
def NR(P:Program)(t:TypeId):Option (List (Option IntKind)):=match P.underlying t with
 |some (.struct fs)=>if P.stoodInHeld t=false∧P.eqGuardType P.depth t=false then F9 P 0 fs.toList else none
 |some (.array n e)=>if P.eqGuardType P.depth t=false∧fT P e=some (1,false) then match P.underlying e with
   |some (.int k)=>some (List.replicate n (some k))
   |_=>none
  else none
 |_=>none
inductive NS where
 | range
 | next
 | entry
def CD(id clock:Nat)(seen:List Nat):aP:=⟨0,[.ptr 0 id 0 0,.sc (mW (clock::seen))],true,3⟩
def E8(clock:Nat)(bs:List Nat)(es:List AV)(ex:Bool):aP:=⟨0,.sc (mW (clock::bs))::es,ex,2⟩
def NT(K:AV→Y→Prop)(H:Y):NS→AV→Prop
 |.range,.ptr 0 id _ 0=>∃(es:List AV)(ex:Bool),Y.find H id=some ⟨0,es,ex,0⟩∧∀(clock:Nat)(bs:List Nat),bs.length=es.length→bs.Pairwise (· < ·)→K (.ptr 0 H.length 0 2) (some (CD id clock [])::Y.set H id (some (E8 clock bs es ex)))
 |.next,.ptr 0 it _ 2=>∃(id clock:Nat)(seen bs:List Nat)(es:List AV)(ex:Bool),Y.find H it=some (CD id clock seen)∧Y.find H id=some (E8 clock bs es ex)∧(∀x∈es,∃(k:Value)(v:AV),x = .aO [.sc k,v])∧
   ((∀b∈bs,b∈seen)→K (.aO [.sc (.bool false)]) (Y.set H id (some ⟨0,es,ex,0⟩)))∧
   ∀(i b:Nat)(k:Value)(v:AV),bs[i]? = some b→es[i]? = some (.aO [.sc k,v])→b∉seen→K (.aO [.sc (.bool true),.sc k,v]) (Y.set H it (some (CD id clock (seen++[b]))))
 |.entry,.ptr 0 it _ 2=>∃(id clock:Nat)(seen bs:List Nat)(es:List AV)(ex:Bool)(i b:Nat)(k:Value)(v:AV),Y.find H it=some (CD id clock (seen++[b]))∧Y.find H id=some (E8 clock bs es ex)∧bs[i]? = some b∧es[i]? = some (.aO [.sc k,v])∧K (.aO [.sc k,v]) H
 |_,_=>False
theorem Sv{K K':AV→Y→Prop}{H:Y}(hk:∀v H,K v H→K' v H){kd:NS}{x:AV}(h:NT K H kd x):NT K' H kd x:=by
 unfold NT at h ⊢
 split at h
 ·obtain ⟨es,ex,h1,h2⟩:=h
  exact ⟨es,ex,h1,fun c bs k1 k2=>hk _ _ (h2 c bs k1 k2)⟩
 ·obtain ⟨id,clock,seen,bs,es,ex,h1,h2,h3,h4,h5⟩:=h
  exact ⟨id,clock,seen,bs,es,ex,h1,h2,h3,fun k=>hk _ _ (h4 k),fun i b k v k1 k2 k3=>hk _ _ (h5 i b k v k1 k2 k3)⟩
 ·obtain ⟨id,clock,seen,bs,es,ex,i,b,k,v,h1,h2,h3,h4,h5⟩:=h
  exact ⟨id,clock,seen,bs,es,ex,i,b,k,v,h1,h2,h3,h4,hk _ _ h5⟩
 ·exact h.elim
inductive HO where
 | rP (kd:NS)(x:X)
 | gx (g:GX)(xs:List X)
 | load (n:Nat)(ag:Bool)(a:X)
 | alloc (z:AV)(ty:TypeId)
 | box (k:Nat)(ty:TypeId)(x:X)
 | ep (k:Nat)(ty:TypeId)(z:AV)(ln:Nat)(parts:List (Nat×X))
 | kO (k:Nat)(ty:TypeId)(z:AV)(ln:Nat)(parts:List (Nat×X))
 | store (n:Nat)(a x:X)
 | jN (k:Nat)(ty:TypeId)(z:AV)(l c:X)
 | ez (k:Nat)(ty:TypeId)(s x:X)
 | call (f:FuncId)(args:List X)
 | cq (f:X)(args:List X)
 | bP (x:X)
def JS(H:Y)(k:Nat):AV→(List AV→Prop)→Prop
 |.am k' ys _,K=>(k'=k∨ys=[])∧K ys
 |.aD k' id off n _,K=>∃blk,Y.find H id=some blk∧(k'=k∧blk.k=k∧off+n≤blk.es.length)∧K ((blk.es.drop off).take n)
 |_,_=>False
def AV.lu(e:AV)(f:Nat)(x:AV):AV :=
 match e with
 |.agg cs=>.agg (cs.take f++x.cells++cs.drop (f+x.az))
 |_=>x
def pN(ev:X→AV)(k:Nat):List AV→List (Nat×X)→(List AV→Prop)→Prop
 |es,[],K=>K es
 |es,(i,x)::r,K=>((ev x).bT=false∧(ev x).az=k∧i<es.length)∧pN ev k (es.set i (ev x)) r K
def HO.bu(P:Program)(ev:X→AV)(H:Y)(K Kp:AV→Y→Prop):HO→Prop
  |.load n ag a=>match ev a with
    |.ptr k id j f=>∃blk e,Y.find H id=some blk∧blk.es[j]? = some e∧(blk.k=k∧AV.jw e f n ag∧0<k)∧K (AV.sub e f n ag) H
    |.lp x f=>AV.jw x f n ag∧K (AV.sub x f n ag) H
    |_=>False
  |.alloc z ty=>K (.ptr z.az H.length 0 0) (some ⟨z.az,[z],true,ty⟩::H)
  |.box k ty x=>((ev x).bT=false∧(ev x).az=k)∧K (.ptr k H.length 0 0) (some ⟨k,[ev x],true,ty⟩::H)
  |.ep k ty z ln parts=>pN ev k (List.replicate ln z) parts fun es=>K (.am k es (some [])) H
  |.kO k ty z ln parts=>pN ev k (List.replicate ln z) parts fun es=>K (.aD k H.length 0 ln (some ln)) (some ⟨k,es,true,ty⟩::H)
  |.store n a x=>match ev a with
    |.ptr k id j f=>∃blk e,Y.find H id=some blk∧blk.es[j]? = some e∧(blk.k=k∧(ev x).bT=false∧(ev x).az=n∧f+n≤e.az∧(e.isAgg=false→(ev x).isAgg=false)∧0<k)∧
        K .top (Y.set H id (some { blk with es:=blk.es.set j (AV.lu e f (ev x)) }))
    |_=>False
  |.jN k ty z l c=>match ev l,ev c with
    |.sc (.int _ n),.sc (.int _ m)=>(0≤n∧n≤m∧m≤100000000)∧K (.aD k H.length 0 n.toNat (some m.toNat)) (some ⟨k,List.replicate m.toNat z,true,ty⟩::H)
    |_,_=>False
  |.ez k ty s x=>JS H k (ev x) fun ys=>match ev s with
    |.am k' xs (some [])=>((k'=k∨xs=[])∧xs.length+ys.length≤100000000)∧(ys=[]→K (.am k' xs (some [])) H)∧
        (ys≠[]→K (.aD k H.length 0 (xs.length+ys.length) none) (some ⟨k,xs++ys,false,ty⟩::H))
    |.aD k' id off n c=>∃blk,Y.find H id=some blk∧(k'=k∧blk.k=k∧blk.ty=ty∧off=0∧n+ys.length≤100000000)∧
        match c with
        |none=>(blk.exact=false∧n=blk.es.length)∧K (.aD k H.length 0 (n+ys.length) none) (some ⟨k,blk.es++ys,false,ty⟩::Y.set H id none)
        |some m=>((blk.exact=true∧m=blk.es.length∧n≤m)∨(blk.exact=false∧n≤blk.es.length))∧
            (n+ys.length≤m→K (.aD k id 0 (n+ys.length) (some m)) (Y.set H id (some { blk with es:=blk.es.take n++ys++blk.es.drop (n+ys.length) })))∧
            (m<n+ys.length→K (.aD k H.length 0 (n+ys.length) none) (some ⟨k,blk.es.take n++ys,false,ty⟩::H))
    |_=>False
  |.gx g xs=>g.ok H (xs.map ev)∧K (g.val H (xs.map ev)) (g.heap H (xs.map ev))
  |.rP _ _=>False
  |.call f args=>∃e H',D P f (args.map ev) H e H'∧cH.post K Kp H' e
  |.cq f args=>match ev f with
    | .fn (.func g) a b => (∃ fn, P.funcs[g]? = some fn ∧ fn.body.isSome ∧ fn.name ≠ "runtime.NumGoroutine") ∧ ∃ e H', D P g (a ++ args.map ev ++ b) H e H' ∧ cH.post K Kp H' e
    |_=>False
  |.bP x=>match ev x with
    |.eP t v=>Kp (.eP t v) H
    |_=>False
def cr(P:Program)(f:FuncId):Bool :=
  match P.funcs[f]? with
  | some fn => fn.body.isSome && !(fn.name == "runtime.NumGoroutine")
  |none=>false
def jO:List (Nat×Operand)→Option (List (Nat×X))
 |[]=>some []
 |(i,o)::r=>match bt o,jO r with
  |some x,some s=>some ((i,x)::s)
  |_,_=>none
def CE (fn : Func) : Bool := fn.body.isNone && !(fn.name == "runtime.NumGoroutine") && (Extern.findNext fn).isNone
def VV (P : Program) (fn : Func) : Bool := fn.origin == "slices.overlaps" && (Extern.allGenericRows.lookup fn.name).isNone && (Extern.allTypedRows.lookup fn.name).isNone && (Extern.allRows.lookup fn.name).isNone &&
  (match fn.params.toList with
   |t::_=>match P.underlying t with
     |some (.slice e)=>(P.info? e).isSome
     |_=>false
   | []=>false)
def yp(P:Program)(t:TypeId):Option (Option IntKind×TypeId):=match P.underlying t with
 |some (.map k e)=>match P.underlying k with
  |some .string=>some (none,e)
  |some (.int q)=>some (some q,e)
  |_=>none
 |_=>none
def HW(P:Program)(e:TypeId):Option AV:=((P.info? e).bind (·.zero)).bind fS
def Bl(P:Program)(f:FuncId)(args:Array Operand):Option HO:=match P.funcs[f]?,pH args with
  | some fn, some xs => if CE fn = true then (if fn.name = "internal/bytealg.IndexByteString" then some (.gx .CA xs) else if VV P fn = true then some (.gx .NL xs) else if fn.name = "maps.clone" then some (.gx .vU xs) else none) else none
  |_,_=>none
def w4(P:Program)(s x:Operand)(t t':TypeId):Option HO:=match P.underlying t,P.underlying t' with
 |some (.slice e),some (.int _)=>match P.info? e,bt s,bt x with
  |some i,some s,some x=>match i.zero.bind fS with
   |some z=>if z.az=i.size∧0<i.size∧i.bytes≤1000∧z.bT=false then some (.gx (.qI i.size e z) [s,x]) else none
   |none=>none
  |_,_,_=>none
 |_,_=>none
def CF(P:Program)(op:Op):Option HO:=match op with
 |.makeMap t none=>match P.underlying t with
  |some (.map _ _)=>some (.gx .ol [])
  |_=>none
 |.lookup t x i ok=>match yp P t,bt x,bt i with
  |some (q,e),some x,some i=>(HW P e).map fun z=>.gx (.pL q z ok) [x,i]
  |_,_,_=>none
 |.mapUpdate t m k v=>match yp P t,bt m,bt k,bt v with
  |some (q,_),some m,some k,some v=>some (.gx (.gi q) [m,k,v])
  |_,_,_,_=>none
 |.typeAssert x _ t false=>match P.underlying t,bt x with
  |some (.map _ _),some x=>some (.gx (.tas t) [x])
  |_,_=>none
 |.insert t m k v=>match yp P t,bt m,bt k,bt v with
  |some (q,_),some m,some k,some v=>some (.gx (.gi q) [m,k,v])
  |_,_,_,_=>none
 |.call { callee:=.builtin .len,args,argTypes }=>match args.toList,argTypes.toList with
  |[x],[t]=>match P.underlying t,bt x with
   |some (.map _ _),some x=>some (.gx .Bi [x])
   |_,_=>none
  |_,_=>none
 |.call { callee:=.builtin .delete,args,argTypes }=>match args.toList,argTypes.toList with
  |[m,k],t::_=>match yp P t,bt m,bt k with
   |some (q,_),some m,some k=>some (.gx (.yl q) [m,k])
   |_,_,_=>none
  |_,_=>none
 |_=>none
def kg(P:Program)(bx:Bool)(o:Oper):Option HO :=
 match o.op with
 |.load t a=>match fT P t,bt a with
  |some (n,ag),some a=>some (.load n ag a)
  |_,_=>none
 |.alloc t=>match (P.info? t).bind (·.zero) with
  |some z=>match B9 z with
   |some z'=>if z'.bT=false∧0<z'.az then some (.alloc z' t) else none
   |none=>none
  |none=>none
 |.box t x=>match P.info? t,bt x with
  |some i,some x=>if 0<i.size then some (.box i.size t x) else none
  |_,_=>none
 |.buildSlice t ln parts=>match P.underlying t with
  |some (.slice e)=>match P.info? e with
   |some i=>match i.zero.bind fS,jO parts.toList with
    |some z,some ps=>if z.az=i.size∧0<i.size∧ln*i.size≤1000000∧z.bT=false then some (if bx then .kO i.size e z ln ps else .ep i.size e z ln ps) else none
    |_,_=>none
   |none=>none
  |_=>none
 |.store t a x=>match P.info? t,bt a,bt x with
  |some i,some a,some x=>some (.store i.size a x)
  |_,_,_=>none
 |.makeSlice t l c=>match P.underlying t with
  |some (.slice e)=>match P.info? e,bt l,bt c with
   |some i,some l,some c=>match i.zero.bind fS with
    |some z=>if z.az=i.size∧0<i.size∧i.bytes≤1000∧z.bT=false then some (.jN i.size e z l c) else none
    |none=>none
   |_,_,_=>none
  |_=>none
 |.call { callee:=.builtin .append,args,argTypes }=>match args.toList,argTypes.toList with
  |[s,x],[t,t']=>if t=t' then match P.underlying t with
   |some (.slice e)=>match P.info? e,bt s,bt x with
    |some i,some s,some x=>match i.zero with
     |some z=>if z.cells.size=i.size∧0<i.size∧i.bytes≤1000 then some (.ez i.size e s x) else none
     |none=>none
    |_,_,_=>none
   |_=>none
   else w4 P s x t t'
  |_,_=>none
 |.call { callee:=.value (.func f),args,.. }=>if cr P f then (pH args).map (.call f) else Bl P f args
 |.call { callee:=.value (.tmp t),args,.. }=>(pH args).map (.cq (.t t))
 |.panic x=>(bt x).map .bP
 |.convert s d x=>match P.underlying s,P.underlying d,bt x with
  |some .string,some (.slice e),some x=>if Cu P e=true then some (.gx .NK [x]) else none
  |_,_,_=>none
 |.call { callee:=.builtin .cap,args,argTypes }=>match args.toList,argTypes.toList with
  |[x],[t]=>match P.underlying t,bt x with
   |some (.slice _),some x=>some (.gx .cap [x])
   |_,_=>none
  |_,_=>none
 |.call { callee:=.builtin .copy,args,argTypes }=>match args.toList,argTypes.toList with
  |[d,s],[t,t']=>if t=t' then match P.underlying t with
   |some (.slice e)=>match P.info? e,bt d,bt s with
    |some i,some d,some s=>if 0<i.size then some (.gx (.copy i.size) [d,s]) else none
    |_,_,_=>none
   |_=>none
   else none
  |_,_=>none
 |.binOp op t x y _=>match NR P t,bt x,bt y with
  |some ks,some x,some y=>match op with
   |.eql=>some (.gx (.rN true ks) [x,y])
   |.neq=>some (.gx (.rN false ks) [x,y])
   |_=>none
  |_,_,_=>none
 |op=>CF P op
def yq(P:Program)(u:TypeId):List TypeId:=(List.range P.types.size).filter fun T=>P.cellsOf T == 2 && liesAt P P.depth T 1 0 u 1
def CG(P:Program)(o:Oper):Option HO:=match o.op with
  |.call { callee:=.builtin .copy,args,argTypes }=>match args.toList,argTypes.toList with
    |[d,s],[t,t']=>match P.underlying t,P.underlying t',bt d,bt s with
      |some (.slice e),some .string,some d,some s=>if Cu P e=true∧(P.info? e).map (·.size)=some 1 then some (.gx .rj [d,s]) else none
      |_,_,_,_=>none
    |_,_=>none
  |.call { callee:=.builtin .append,args,argTypes }=>match args.toList,argTypes.toList with
    |[d,s],[t,t']=>match P.underlying t,P.underlying t',bt d,bt s with
      |some (.slice e),some .string,some d,some s=>match P.info? e with
        |some i=>if Cu P e=true∧i.size=1∧i.bytes=1∧(i.zero.any fun z=>z.cells.size == 1)=true then some (.gx (.rO e) [d,s]) else none
        |none=>none
      |_,_,_,_=>none
    |_,_=>none
  |.call { callee:=.builtin .unsafeString,args,argTypes }=>match args.toList,argTypes.toList with
    |[p,n],[t,_]=>match P.underlying t,bt p,bt n with
      |some (.pointer e),some p,some n=>if Cu P e=true∧P.cellsOf e=1 then some (.gx (.wG e) [p,n]) else none
      |_,_,_=>none
    |_,_=>none
  |.call { callee:=.builtin .unsafeSliceData,args,.. }=>match args.toList with
    |[s]=>(bt s).map fun s=>.gx .pM [s]
    |_=>none
  |.binOp op t x y _=>match P.underlying t,bt x with
    |some (.pointer e),some x'=>match op,y with
      |.eql,.const (.pointer none)=>some (.gx (.qJ true) [x'])
      |.neq,.const (.pointer none)=>some (.gx (.qJ false) [x'])
      |.eql,y=>if (P.info? e).any (fun i=>0<i.size) then (bt y).map fun y=>.gx (.JP true) [x',y] else none
      |.neq,y=>if (P.info? e).any (fun i=>0<i.size) then (bt y).map fun y=>.gx (.JP false) [x',y] else none
      |_,_=>none
    |some (.map _ _),some x'=>match op,y with
      |.eql,.const (.map none)=>some (.gx (.Bh true) [x'])
      |.neq,.const (.map none)=>some (.gx (.Bh false) [x'])
      |_,_=>none
    |_,_=>none
  |.convert s d x=>match P.underlying s,P.underlying d,bt x with
    |some (.pointer e),some .unsafePointer,some x=>if (P.info? e).any (fun i=>0<i.size) then some (.gx .NM [x]) else none
    |some .unsafePointer,some (.pointer u),some x=>if (P.info? u).isSome then some (.gx (.wZ (yq P u)) [x]) else none
    |_,_,_=>none
  |.call { callee:=.value (.func f),args,.. }=>match P.funcs[f]?,pH args with
    | some fn, some xs => if CE fn = true then (if fn.name = "internal/abi.NoEscape" then some (.gx .uq xs) else if fn.name = "internal/bytealg.CountString" then some (.gx .Bj xs) else none) else none
    |_,_=>none
  |_=>none
theorem Ga{P:Program}{o:Oper}{q:HO}(h:CG P o=some q):∃g xs,q = .gx g xs:=by
 unfold CG at h
 repeat' split at h
 all_goals first|(simp at h;done)|(cases h;exact ⟨_,_,rfl⟩)|(rw[Option.map_eq_some_iff] at h;obtain ⟨_,_,rfl⟩:=h;exact ⟨_,_,rfl⟩)
def zU(P:Program)(op:Op):Option HO:=match op with
 |.range t x=>match P.underlying t,bt x with
  |some (.map _ _),some x=>some (.rP .range x)
  |_,_=>none
 |.next x false=>(bt x).map (.rP .next)
 |.entry x=>(bt x).map (.rP .entry)
 |_=>none
def yt(P:Program)(o:Oper):Option HO:=match CG P o with
 |some q=>some q
 |none=>zU P o.op
theorem CH{P:Program}{op:Op}{q:HO}(h:zU P op=some q):∃kd x,q = .rP kd x:=by
 unfold zU at h
 repeat' split at h
 all_goals first|(simp at h;done)|(cases h;exact ⟨_,_,rfl⟩)|(rw[Option.map_eq_some_iff] at h;obtain ⟨_,_,rfl⟩:=h;exact ⟨_,_,rfl⟩)
theorem w5{P:Program}{o:Oper}{q:HO}(h:yt P o=some q):(∃g xs,q = .gx g xs)∨(∃kd x,q = .rP kd x):=by
 unfold yt at h
 split at h
 ·rename_i h1;cases h;exact .inl (Ga h1)
 ·exact .inr (CH h)
def oq(P:Program)(bx:Bool)(o:Oper):Option HO:=match kg P bx o with
 |some q=>some q
 |none=>yt P o
def cQ(P:Program)(o:Oper)(op:HO):Prop :=
 ∀(φ:aU)(H:Y)(w:World)(ts:List AV)(a:Act),Rel φ H w→FR φ (Own φ H) w ts a→∀K Kp:AV→Y→Prop,HO.bu P (X.ev ts) H K Kp op→
  ∀(next:Act→World→Prop)(Q:Exit→Act→World→Prop),
  (∀v u φ' H' w',K v H'→VR φ' (Own φ' H') w' v u→Rel φ' H' w'→Step φ H w φ' H' w'→next (a.put o.dst u) w')→
  (∀v u φ' H' w',Kp v H'→tW φ' (Own φ' H') w' v u→Rel φ' H' w'→Step φ H w φ' H' w'→Q (.panic u) a w')→
  o.wp P a w next Q
section
variable {P:Program}
theorem aY{o:Oper}{a:Act}{w w':World}{next:Act→World→Prop}{Q:Exit→Act→World→Prop}{u:Value}(hr:(execOp a.eval o).run P w = .ok (.value u) w')(h:next (a.put o.dst u) w'):o.wp P a w next Q:=by
 unfold Oper.wp
 rw[hr]
 exact h
theorem Gb{o:Oper}{a:Act}{w w':World}{next:Act→World→Prop}{Q:Exit→Act→World→Prop}(hr:(execOp a.eval o).run P w = .ok .skip w')(h:next (a.put o.dst undef) w'):o.wp P a w next Q:=by
 unfold Oper.wp
 rw[hr]
 exact h
theorem VW{o:Oper}{t:TypeId}{n:Nat}{ag:Bool}{x:Operand}{x':X}(ho:o.op = .load t x)(hs:fT P t=some (n,ag))(hx:bt x=some x'):cQ P o (.load n ag x'):=by
 intro φ H w ts a hR hr K Kp h next Q hn hp
 have hv:=aF hr hx
 simp only[HO.bu] at h
 cases he:X.ev ts x'<;>rw[he] at h hv<;>try exact False.elim h
 ·obtain ⟨blk,e,h1,h2,⟨rfl,h3,cE⟩,h4⟩:=h
  obtain ⟨b,h5,h6⟩:=fK hv
  rw[fJ cE] at h6
  obtain ⟨h7,h8⟩:=hR.elem h5 h1 h2 cE
  obtain ⟨u,h9,h10⟩:=zT hs h8 h3
  exact aY (by simp[execOp,ho,h6,Instr.loadAt,Instr.sureAddr,h9]) (hn _ _ _ _ _ h4 h10 hR (Step.refl _ _ _))
 ·obtain ⟨h1,h2⟩:=h
  obtain ⟨b,off,h3,h4,h5,h6,h7⟩:=Cw hv
  obtain ⟨u,h9,h10⟩:=zT hs (QN h7 h6) h1
  exact aY (by simp[execOp,ho,h3,Instr.loadAt,Instr.sureAddr,h9]) (hn _ _ _ _ _ h2 h10 hR (Step.refl _ _ _))
theorem JT{φ:aU}{O:Nat→Prop}{w:World}{H:Y}{k b:Nat}(cE:0<k):VR (φ.add H.length b) O w (.ptr k H.length 0 0) (.pointer (some ⟨b,0,none⟩)) :=
 ⟨rfl,b,by simp[aU.add],by simp[fR,Value.cells,fJ cE]⟩
theorem Bm{φ:aU}{H:Y}{w:World}(hR:Rel φ H w){x:AV}{v:Value}(hv:VR φ (Own φ H) w x v)(ht:x.bT=false){k:Nat}(hk:x.az=k)(cE:0<k)(t:TypeId) :
  (newVar t v).run P w = .ok ⟨w.heap.size,0,none⟩ (w.alloc (.cells v.cells t))∧
  Rel (φ.add H.length w.heap.size) (some ⟨k,[x],true,t⟩::H) (w.alloc (.cells v.cells t))∧Step φ H w (φ.add H.length w.heap.size) (some ⟨k,[x],true,t⟩::H) (w.alloc (.cells v.cells t)):=by
 have hsz:=gJ hv ht
 have:=hR.alloc ⟨k,[x],true,t⟩ cE v.cells 1 (by simp[hsz,hk]) (by simp) (by simp) (by unfold maxLen;omega) (by simp[hk]) (by simp only[flat,List.flatMap_cons,List.flatMap_nil,List.append_nil];exact uf hv ht)
 exact ⟨by simp[newVar,newRow],this.1,this.2⟩
theorem Sw{o:Oper}{t:TypeId}{i:TypeInfo}{zv:Value}{z:AV}(ho:o.op = .alloc t)(hi:P.info? t=some i)(hz:i.zero=some zv)(hc:B9 zv=some z)(ht:z.bT=false)(cE:0<z.az):cQ P o (.alloc z t):=by
 intro φ H w ts a hR hr K Kp h next Q hn hp
 have hv:VR φ (Own φ H) w z zv:=yc hc
 obtain ⟨h1,h2,h3⟩:=Bm (P:=P) hR hv ht rfl cE t
 refine aY (u:=.pointer (some ⟨w.heap.size,0,none⟩)) ?_ (hn _ _ _ _ _ h (JT cE) h2 h3)
 simp only[execOp,ho,Instr.alloc,zeroValue,typeInfo,Sem.run_bind,run_program,hi,Result.andThen_ok,Sem.run_pure,hz,h1]
theorem aaQ{o:Oper}{t:TypeId}{k:Nat}{x:Operand}{x':X}(cE:0<k)(ho:o.op = .box t x)(hx:bt x=some x'):cQ P o (.box k t x'):=by
 intro φ H w ts a hR hr K Kp h next Q hn hp
 have hv:=aF hr hx
 obtain ⟨⟨g1,g2⟩,h⟩:=h
 obtain ⟨h1,h2,h3⟩:=Bm (P:=P) hR hv g1 g2 cE t
 refine aY (u:=.pointer (some ⟨w.heap.size,0,none⟩)) ?_ (hn _ _ _ _ _ h (JT cE) h2 h3)
 simp only[execOp,ho,Instr.box,Sem.run_bind,h1,Result.andThen_ok,Sem.run_pure]
theorem NU{e x:AV}{f n:Nat}(hx:x.az=n)(hf:f+n≤e.az)(ha:e.isAgg=false→x.isAgg=false) :
  (AV.lu e f x).cells=e.cells.take f++x.cells++e.cells.drop (f+n)∧(AV.lu e f x).az=e.az:=by
 have uv:x.cells.length=n:=by rw[←AV.eW,hx]
 have key:e.isAgg=false→(AV.lu e f x).cells=e.cells.take f++x.cells++e.cells.drop (f+n)∧(AV.lu e f x).az=e.az:=by
  intro he
  have hu:AV.lu e f x=x:=by cases e<;>first|rfl|(simp[AV.isAgg] at he)
  have hx1:n=1:=by
   have:=ha he
   cases x<;>first|(simp[AV.isAgg] at this;done)|(simpa [AV.az] using hx.symm)
  have he1:e.az=1:=by cases e<;>first|rfl|(simp[AV.isAgg] at he)
  have Sx:f=0:=by omega
  subst Sx
  subst hx1
  rw[hu,he1,hx]
  have hl:e.cells.length=1:=by rw[←AV.eW,he1]
  simp[List.drop_of_length_le (l:=e.cells) (i:=1) (by omega)]
 cases e with
 |agg cs =>
  subst hx
  refine ⟨rfl,?_⟩
  show (cs.take f++x.cells++cs.drop (f+x.az)).length=cs.length
  have rk:f+x.az≤cs.length:=hf
  simp only[List.length_append,List.length_take,List.length_drop,uv]
  omega
 |_=>exact key rfl
theorem Gc{k:Nat}{es:List AV}(hk:∀x∈es,x.az=k){j:Nat}{e e':AV}(hj:es[j]? = some e):flat (es.set j e')=(flat es).take (j*k)++e'.cells++(flat es).drop (j*k+k):=by
 have hlt:j<es.length:=(List.getElem?_eq_some_iff.1 hj).1
 rw[List.set_eq_take_append_cons_drop,if_pos hlt,ek,gZ,pK hk,mZ hk]
 rw[show (j+1)*k=j*k+k from by rw[Nat.add_mul,Nat.one_mul]]
 simp
theorem aaR{α:Type}{L X:List α}{p k f n:Nat}(hX:X.length=n)(hf:f+n≤k)(hp:p+k≤L.length) :
  L.take p++(((L.drop p).take k).take f++X++((L.drop p).take k).drop (f+n))++L.drop (p+k)=L.take (p+f)++X++L.drop (p+f+n):=by
 have h1:L.take (p+f)=L.take p++(L.drop p).take f:=List.take_add
 have h2:((L.drop p).take k).take f=(L.drop p).take f:=by rw[List.take_take];congr 1;omega
 have h3:L.drop (p+f+n)=((L.drop p).take k).drop (f+n)++L.drop (p+k):=by
  have h5:L.drop (p+f+n)=(L.drop p).drop (f+n):=by rw[List.drop_drop];congr 1;omega
  have h6:L.drop (p+k)=(L.drop p).drop k:=by rw[List.drop_drop]
  have h4:((L.drop p).take k++(L.drop p).drop k).drop (f+n)=((L.drop p).take k).drop (f+n)++(L.drop p).drop k:=by
   rw[List.drop_append_of_le_length]
   simp
   omega
  rw[h5,h6,←h4,List.take_append_drop]
 rw[h1,h2,h3]
 simp
theorem Sy{o:Oper}{t:TypeId}{i:TypeInfo}{x y:Operand}{x' y':X}(ho:o.op = .store t x y)(hi:P.info? t=some i)(hx:bt x=some x')(hy:bt y=some y'):cQ P o (.store i.size x' y'):=by
 intro φ H w ts a hR hr K Kp h next Q hn hp
 have hv:=aF hr hx
 have hw:=aF hr hy
 simp only[HO.bu] at h
 cases he:X.ev ts x'<;>rw[he] at h hv<;>try exact False.elim h
 rename_i k id j f
 obtain ⟨blk,e,h1,h2,⟨rfl,h3,h4,h5,h6,cE⟩,h7⟩:=h
 obtain ⟨b,h8,h9⟩:=fK hv
 rw[fJ cE] at h9
 obtain ⟨cur,cap,a1,a2,a3,a4,a5,a6⟩:=(hR.blk id b blk h8 h1).cells cE
 obtain ⟨f1,f2⟩:=pJ a6
 have hlt:j<blk.es.length:=(List.getElem?_eq_some_iff.1 h2).1
 have hek:e.az=blk.k:=f1 e (List.mem_of_getElem? h2)
 have hsz:=gJ hw h3
 have hcs:=uf hw h3
 obtain ⟨u1,u2⟩:=NU (e:=e) (x:=X.ev ts y') h4 h5 h6
 have hone:∀v∈(a.eval y).cells.toList,v.oneCell'=true:=by
  obtain ⟨us,c1,c2,c3⟩:=vQ hcs
  intro v hv'
  refine c3 v ?_
  obtain ⟨q,hq⟩:=List.getElem?_of_mem hv'
  have iq:q<(X.ev ts y').cells.length:=by
   have:=(List.getElem?_eq_some_iff.1 hq).1
   rw[←AV.eW,←hsz]
   simpa using this
  have:=c2 q iq
  unfold fR at this
  rw[←Array.getElem?_toList,hq] at this
  exact List.mem_of_getElem? this.symm
 have hjk:j*blk.k+blk.k≤cap*blk.k:=by
  have:=Nat.mul_le_mul_right blk.k (show j+1≤cap from by omega)
  rwa [Nat.add_mul,Nat.one_mul] at this
 have hvl:(a.eval y).cells.toList.length=i.size:=by simp[hsz,h4]
 have hst:=run_storeCells_at P b (j*blk.k+f) blk.ty (a.eval y).cells.toList 0 cur w a1 (by rw[hvl];omega) hone
 have hrun:(execOp a.eval o).run P w = .ok .skip (w.setRow b (cur.toList.take (j*blk.k+f)++(a.eval y).cells.toList++cur.toList.drop (j*blk.k+f+i.size)).toArray):=by
  rw[Nat.add_zero,hvl] at hst
  have acF:(a.eval y).cells.size=i.size:=by rw[hsz,h4]
  simp only[execOp,ho,h9,Instr.storeAt,Instr.sureAddr,storeVar,Sem.run_bind,Sem.run_pure,Result.andThen_ok,iz hi,acF,ne_eq,not_true_eq_false,if_false,hst]
 have sL:(flat blk.es).length=blk.es.length*blk.k:=dc f1
 have iG:blk.es.length*blk.k≤cap*blk.k:=Nat.mul_le_mul_right _ a3
 have rQ:j*blk.k+blk.k≤blk.es.length*blk.k:=by
  have:=Nat.mul_le_mul_right blk.k (show j+1≤blk.es.length from by omega)
  rwa [Nat.add_mul,Nat.one_mul] at this
 have NV:f+i.size≤blk.k:=by omega
 have uv:(X.ev ts y').cells.length=i.size:=by rw[←AV.eW,h4]
 have hec:e.cells=((flat blk.es).drop (j*blk.k)).take blk.k:=by
  rw[←mZ f1,List.drop_eq_getElem_cons hlt,gZ]
  have:blk.es[j]=e:=by
   have:=List.getElem?_eq_some_iff.1 h2
   exact this.2
  rw[this,←hek,AV.eW,List.take_left]
 have CI:flat (blk.es.set j (AV.lu e f (X.ev ts y')))=(flat blk.es).take (j*blk.k+f)++(X.ev ts y').cells++(flat blk.es).drop (j*blk.k+f+i.size):=by
  rw[Gc f1 h2,u1,hec]
  exact aaR uv NV (by omega)
 have hwr:=hR.write cE h8 h1 a1 a2 (blk.es.set j (AV.lu e f (X.ev ts y'))) (iJ:=(cur.toList.take (j*blk.k+f)++(a.eval y).cells.toList++cur.toList.drop (j*blk.k+f+i.size)).toArray)
  (by simp only[List.size_toArray,List.length_append,List.length_take,List.length_drop,Array.length_toList,hsz,h4];omega) (by simpa using a3) a5 (by simpa using a4)
  (fun q hq=>by
   rcases List.mem_or_eq_of_mem_set hq with hq|rfl
   ·exact f1 q hq
   ·rw[u2];exact hek)
  (by
   rw[CI]
   refine dB (dB (cA (fun q hq=>?_) (lm (n:=j*blk.k+f) f2)) (cA (fun q hq=>?_) hcs)) (cA (fun q hq=>?_) (lj (f:=j*blk.k+f+i.size) f2))
   ·have iq:q<j*blk.k+f:=by simp at hq;omega
    simp only[List.getElem?_toArray]
    rw[List.getElem?_append_left (by simp;omega),List.getElem?_append_left (by simp;omega),List.getElem?_take_of_lt iq]
    simp[cX,World.cell?,a1]
   ·have hl:((flat blk.es).take (j*blk.k+f)).length=j*blk.k+f:=by simp[sL];omega
    rw[hl]
    simp only[List.getElem?_toArray]
    have eK:(cur.toList.take (j*blk.k+f)).length=j*blk.k+f:=by simp;omega
    rw[List.getElem?_append_left (by simp[hsz,h4];omega),List.getElem?_append_right (by omega),eK]
    simp[fR]
   ·have hl:((flat blk.es).take (j*blk.k+f)++(X.ev ts y').cells).length=j*blk.k+f+i.size:=by simp[sL,uv];omega
    rw[hl]
    simp only[List.getElem?_toArray]
    have eK:(cur.toList.take (j*blk.k+f)++(a.eval y).cells.toList).length=j*blk.k+f+i.size:=by simp[hsz,h4];omega
    rw[List.getElem?_append_right (by omega),eK]
    simp[cX,World.cell?,a1])
 exact Gb hrun (hn _ _ _ _ _ h7 (nI _) hwr.1 hwr.2)
end
section
variable {P:Program}{φ:aU}{O:Nat→Prop}{w:World}
theorem CJ{ev:X→AV}{k:Nat}{K:List AV→Prop}:∀{ps:List (Nat×X)}{es:List AV},pN ev k es ps K→(∀x∈es,x.az=k)→
  og ev (flat es) (ps.map fun (i,x)=>(i*k,k,x)) (fun cs=>∃es',cs=flat es'∧(∀x∈es',x.az=k)∧es'.length=es.length∧K es')
 |[],es,h,hk=>⟨es,rfl,hk,rfl,h⟩
 |(i,x)::r,es,h,hk=>by
  obtain ⟨⟨h1,h2,h3⟩,h4⟩:=h
  have hj:es[i]? = some es[i]:=by simp[h3]
  have hk':∀y∈es.set i (ev x),y.az=k:=fun y hy=>by
   rcases List.mem_or_eq_of_mem_set hy with hy|rfl
   ·exact hk y hy
   ·exact h2
  have ih:=CJ h4 hk'
  rw[Gc hk hj] at ih
  refine ⟨⟨h1,h2,?_⟩,?_⟩
  ·rw[dc hk]
   have:=Nat.mul_le_mul_right k (show i+1≤es.length from h3)
   rwa [Nat.add_mul,Nat.one_mul] at this
  ·simpa using ih
theorem uw{k:Nat}:∀{l:List (Nat×Operand)}{ps:List (Nat×X)},jO l=some ps→partsOf (fun i=>some (i*k,k)) l=some (ps.map fun (i,x)=>(i*k,k,x))
 |[],ps,h=>by simp[jO] at h;subst h;rfl
 |(i,o)::r,ps,h=>by
  unfold jO at h
  split at h
  case h_2=>simp at h
  rename_i x s h1 h2
  cases h
  simp[partsOf,h1,uw h2]
theorem lv{z:AV}{zc:Array Value}{k:Nat}(hz:Rs φ O w z.cells (fun i=>zc[i]?))(hk:z.az=k)(cE:0<k):∀(n:Nat)(g:Nat→Option Value),(∀i,i<n*k→g i=zc[i % k]?)→Rs φ O w (flat (List.replicate n z)) g
 |0,g,_=>by simp[flat,Rs]
 |n+1,g,h=>by
  rw[List.replicate_succ,gZ]
  have hl:z.cells.length=k:=by rw[←AV.eW,hk]
  refine dB (cA (fun i hi=>?_) hz) (lv hz hk cE n _ fun i hi=>?_)
  ·rw[hl] at hi
   rw[h i (by rw[Nat.add_mul];omega),Nat.mod_eq_of_lt hi]
  ·rw[hl,h (k+i) (by rw[Nat.add_mul];omega),Nat.add_mod_left]
theorem sM{zc:Array Value}{k n i:Nat}(hk:zc.size=k)(cE:0<k)(hi:i<n*k):((Array.range (n*k)).map (zc[· % zc.size]!))[i]? = zc[i % k]?:=by
 have hm:i % k<zc.size:=by rw[hk];exact Nat.mod_lt _ cE
 rw[Array.getElem?_map,Array.getElem?_range,if_pos hi,Option.map_some,hk]
 rw[getElem!_pos zc (i % k) hm,getElem?_pos zc (i % k) hm]
theorem CL{H:Y}{ts:List AV}{a:Act}(hr:FR φ O w ts a){t e:TypeId}{i:TypeInfo}{zv:Value}{z:AV}{ln:Nat}{parts:Array (Nat×Operand)}{ps:List (Nat×X)}
  (ht:P.underlying t=some (.slice e))(hi:P.info? e=some i)(hz:i.zero=some zv)(hc:fS zv=some z)(hp:jO parts.toList=some ps)(hk:z.az=i.size)(cE:0<i.size)(uy:ln*i.size≤1000000)(uz:z.bT=false)
  {K:List AV→Prop}(h:pN (X.ev ts) i.size (List.replicate ln z) ps K) :
  ∃es cells,K es∧es.length=ln∧(∀x∈es,x.az=i.size)∧cells.size=ln*i.size∧Rs φ O w (flat es) (fun i=>(cells:Array Value)[i]?)∧
   (Instr.buildSlice t ln (parts.map fun (i,x)=>(i,a.eval x))).run P w = .ok (.slice (some ⟨w.heap.size,0,none⟩) ln ln) (w.alloc (.cells cells e)):=by
 have tV:VR φ O w z zv:=eF hc
 have hzs:=gJ tV uz
 rw[hk] at hzs
 have hzr:=uf tV uz
 have hks:∀x∈List.replicate ln z,x.az=i.size:=fun x hx=>by rw[List.eq_of_mem_replicate hx];exact hk
 have CM:=lv (zc:=zv.cells) hzr hk cE ln (fun j=>((Array.range (ln*i.size)).map (zv.cells[· % zv.cells.size]!))[j]?) (fun j hj=>sM hzs cE hj)
 obtain ⟨cs,cells,⟨es,rfl,h1,h2,h3⟩,h4,h5,h6⟩:=zS hr (uw (k:=i.size) hp) (cells:=(Array.range (ln*i.size)).map (zv.cells[· % zv.cells.size]!)) CM
  (by rw[dc hks];simp) (CJ h hks)
 have hlen:es.length=ln:=by simpa using h2
 refine ⟨es,cells,h3,hlen,h1,by rw[h5,dc h1,hlen],h6,?_⟩
 by_cases oh:ln=0
 ·subst oh
  have h0:∀g:Nat→Value,(Array.range (0*i.size)).map g=#[]:=fun g=>by
   have:(0*i.size)=0:=Nat.zero_mul _
   rw[this,show Array.range 0=#[] by simp,Array.map_empty]
  rw[h0] at h4
  have JO:Instr.fill (fun j=>some (j*i.size,i.size)) #[] (parts.map fun (i,x)=>(i,a.eval x)).toList=some cells:=by simpa using h4
  simp only[Instr.buildSlice,Sem.run_bind,bD ht,Result.andThen_ok,iz hi,Sem.run_pure,h0]
  simp[newRow]
  have h5':Instr.fill (fun j=>some (j*i.size,i.size)) #[] (List.map (fun x=>(x.fst,a.eval x.snd)) parts.toList)=some cells:=by simpa using JO
  rw[h5']
  simp
 ·have h7:¬ln*i.size=0:=by
   have:=Nat.mul_pos (Nat.pos_of_ne_zero oh) cE
   omega
  exact run_buildSlice w t e ln _ cells i zv ht hi hz (by omega) h7 (by simpa using h4)
theorem aaS{o:Oper}{t e:TypeId}{i:TypeInfo}{zv:Value}{z:AV}{ln:Nat}{parts:Array (Nat×Operand)}{ps:List (Nat×X)}(ho:o.op = .buildSlice t ln parts)
  (ht:P.underlying t=some (.slice e))(hi:P.info? e=some i)(hz:i.zero=some zv)(hc:fS zv=some z)(hp:jO parts.toList=some ps)(hk:z.az=i.size)(cE:0<i.size)(uy:ln*i.size≤1000000)(uz:z.bT=false) :
  cQ P o (.ep i.size e z ln ps):=by
 intro φ H w ts a hR hr K Kp h next Q hn qD
 obtain ⟨es,cells,h1,h2,h3,h4,h5,h6⟩:=CL (H:=H) hr ht hi hz hc hp hk cE uy uz h
 have hold:∀b,b<w.heap.size→(w.alloc (.cells cells e)).heap[b]? = w.heap[b]?:=fun b hb=>heap_alloc_old w _ hb
 have hs:Step φ H w φ H (w.alloc (.cells cells e)):=grow_step rfl rfl rfl (by simp) hold
 have hno:¬Own φ H w.heap.size:=by
  rintro ⟨id,k,g1,_⟩
  have:=(hR.dom id _ g1).2
  omega
 have lw:Rl φ (Own φ H) (w.alloc (.cells cells e)) w.heap.size i.size es 0:=by
  refine uk h3 (jq hs.toLater _ _ _ (AV.cO _) (fun j v hv=>?_) h5)
  unfold cX
  rw[Nat.zero_add,World.cell?_alloc_at _ _ _ _ rfl]
  exact hv
 refine aY (u:=.slice (some ⟨w.heap.size,0,none⟩) ln ln) (w':=w.alloc (.cells cells e)) ?_ (hn _ _ _ _ _ h1 ⟨rfl,_,ln,by rw[h2];rfl,by omega,?_,fun h=>by simp at h,fun _=>⟨_,_,rfl,hno,by simp,lw⟩,?_,fun h=>by simp at h⟩ (hR.grow (by simp) hold) hs)
 ·simp only[execOp,ho,Sem.run_bind,h6,Result.andThen_ok,Sem.run_pure]
 ·have:ln*1≤ln*i.size:=Nat.mul_le_mul_left _ cE
  unfold maxLen
  omega
 ·simp[h2]
theorem VX{o:Oper}{t e:TypeId}{i:TypeInfo}{zv:Value}{z:AV}{ln:Nat}{parts:Array (Nat×Operand)}{ps:List (Nat×X)}(ho:o.op = .buildSlice t ln parts)
  (ht:P.underlying t=some (.slice e))(hi:P.info? e=some i)(hz:i.zero=some zv)(hc:fS zv=some z)(hp:jO parts.toList=some ps)(hk:z.az=i.size)(cE:0<i.size)(uy:ln*i.size≤1000000)(uz:z.bT=false) :
  cQ P o (.kO i.size e z ln ps):=by
 intro φ H w ts a hR hr K Kp h next Q hn qD
 obtain ⟨es,cells,h1,h2,h3,h4,h5,h6⟩:=CL (H:=H) hr ht hi hz hc hp hk cE uy uz h
 have nQ:ln≤maxLen:=by
  have:ln*1≤ln*i.size:=Nat.mul_le_mul_left _ cE
  unfold maxLen
  omega
 have hal:=hR.alloc ⟨i.size,es,true,e⟩ cE cells ln h4 (by simp[h2]) (fun _=>by simp[h2]) nQ h3 h5
 refine aY (u:=.slice (some ⟨w.heap.size,0,none⟩) ln ln) (w':=w.alloc (.cells cells e)) ?_ (hn _ _ _ _ _ h1 ⟨rfl,w.heap.size,ln,cells,e,(0,0),by simp[aU.add],by simp[fR,Value.cells],Nat.le_refl _,nQ,fun m hm=>by simpa using hm,heap_alloc_new w _,by simpa using h4⟩ hal.1 hal.2)
 simp only[execOp,ho,Sem.run_bind,h6,Result.andThen_ok,Sem.run_pure]
theorem uA{t e:TypeId}{i:TypeInfo}{zv:Value}(ht:P.underlying t=some (.slice e))(hi:P.info? e=some i)(hz:i.zero=some zv)(hby:i.bytes≤1000){k k':IntKind}{n m:Int}(h0:0≤n)(h1:n≤m)(h2:m≤100000000) :
  (Instr.makeSlice t (.int k n) (.int k' m)).run P w = .ok (.slice (some ⟨w.heap.size,0,none⟩) n.toNat m.toNat) (w.alloc (.cells ((Array.range (m.toNat*i.size)).map (zv.cells[· % zv.cells.size]!)) e)):=by
 have w1:IntKind.i64.wrap n=n:=IntWalk.i64_in _ (by omega)
 have w2:IntKind.i64.wrap m=m:=IntWalk.i64_in _ (by omega)
 have hb:(i.bytes:Int)*m≤1000*100000000:=by
  have e1:(i.bytes:Int)*m≤(i.bytes:Int)*100000000:=Int.mul_le_mul_of_nonneg_left h2 (by omega)
  have e2:(i.bytes:Int)*100000000≤1000*100000000:=Int.mul_le_mul_of_nonneg_right (by omega) (by omega)
  omega
 have hb':(i.bytes:Int)*n≤1000*100000000:=by
  have e1:(i.bytes:Int)*n≤(i.bytes:Int)*m:=Int.mul_le_mul_of_nonneg_left h1 (by omega)
  omega
 have c1:¬(m<0):=by omega
 have c2:¬((i.bytes:Int)*m > 2 ^ 48):=by omega
 have c3:¬(n<0):=by omega
 have c4:¬(n > m):=by omega
 have kW:(decide (m<0)|| decide ((i.bytes:Int)*m > 2 ^ 48)|| decide (n<0)|| decide (n > m))=false:=by simp[c1,c2,c3,c4];omega
 by_cases hz0:m.toNat*i.size=0
 ·simp only[Instr.makeSlice,Sem.run_bind,bD ht,Result.andThen_ok,asInt,asIntOf,Sem.run_pure,typeInfo,run_program,hi,w1,w2]
  simp[c1,c2,c3,c4,hz0,sizeOf,typeInfo,hi,newRow]
  rw[if_neg (by omega)]
  have hr0:Array.range 0=#[]:=by simp
  rw[hr0]
  simp
 ·simp only[Instr.makeSlice,Sem.run_bind,bD ht,Result.andThen_ok,asInt,asIntOf,Sem.run_pure,typeInfo,run_program,hi,w1,w2]
  simp[c1,c2,c3,c4,hz0,sizeOf,typeInfo,hi,newRow,zeroValue,hz]
  intro VY
  exfalso
  omega
theorem VZ{o:Oper}{t e:TypeId}{i:TypeInfo}{zv:Value}{z:AV}{l c:Operand}{l' c':X}(ho:o.op = .makeSlice t l c)
  (ht:P.underlying t=some (.slice e))(hi:P.info? e=some i)(hz:i.zero=some zv)(hc:fS zv=some z)(hl:bt l=some l')(hJ:bt c=some c')(hk:z.az=i.size)(cE:0<i.size)(hby:i.bytes≤1000)(uz:z.bT=false) :
  cQ P o (.jN i.size e z l' c'):=by
 intro φ H w ts a hR hr K Kp h next Q hn qD
 have hv:=aF hr hl
 have hw:=aF hr hJ
 simp only[HO.bu] at h
 split at h
 case h_2=>exact h.elim
 rename_i k1 n k2 m he hf
 rw[he] at hv
 rw[hf] at hw
 obtain ⟨⟨h0,h1,h2⟩,h3⟩:=h
 have tV:VR φ (Own φ H) w z zv:=eF hc
 have hzs:=gJ tV uz
 rw[hk] at hzs
 have hks:∀x∈List.replicate m.toNat z,x.az=i.size:=fun x hx=>by rw[List.eq_of_mem_replicate hx];exact hk
 have CM:=lv (zc:=zv.cells) (uf tV uz) hk cE m.toNat (fun j=>((Array.range (m.toNat*i.size)).map (zv.cells[· % zv.cells.size]!))[j]?) (fun j hj=>sM hzs cE hj)
 have nQ:m.toNat≤maxLen:=by unfold maxLen;omega
 have hal:=hR.alloc ⟨i.size,List.replicate m.toNat z,true,e⟩ cE ((Array.range (m.toNat*i.size)).map (zv.cells[· % zv.cells.size]!)) m.toNat (by simp) (by simp) (fun _=>by simp) nQ hks CM
 refine aY (u:=.slice (some ⟨w.heap.size,0,none⟩) n.toNat m.toNat) ?_ (hn _ _ _ _ _ h3 ⟨rfl,w.heap.size,m.toNat,_,e,(0,0),by simp[aU.add],by simp[fR,Value.cells],by omega,nQ,fun q hq=>by simpa using hq,heap_alloc_new w _,by simp⟩ hal.1 hal.2)
 simp only[execOp,ho,cw hv,cw hw,Sem.run_bind,uA ht hi hz hby h0 h1 h2,Result.andThen_ok,Sem.run_pure]
end
section
variable {φ:aU}{O:Nat→Prop}{w:World}
theorem yu:∀{l:List AV}{es:List MapEntry},RE φ O w l es→es.length=l.length
 |[],_,h=>by
  have h:_=[]:=h
  rw[h];rfl
 |_::_,_,h=>by
  obtain ⟨e,s,rfl,_,h⟩:=h
  simp[yu h]
theorem HX:∀{l:List AV}{es:List MapEntry}{i:Nat}{x:AV},RE φ O w l es→l[i]? = some x→∃e,es[i]? = some e∧VR φ O w x (.tuple #[e.key,e.val])
 |[],_,_,_,_,h=>by simp at h
 |y::r,_,i,x,h,hx=>by
  obtain ⟨e,s,rfl,h1,h2⟩:=h
  cases i with
  |zero=>cases hx;exact ⟨e,rfl,h1⟩
  |succ i=>exact HX (i:=i) h2 (by simpa using hx)
theorem QS:∀{l:List AV}{es:List MapEntry}{x:AV}{e:MapEntry},RE φ O w l es→VR φ O w x (.tuple #[e.key,e.val])→RE φ O w (l++[x]) (es++[e])
 |[],_,_,e,h,hx=>by
  have h:_=[]:=h
  subst h
  exact ⟨e,[],rfl,hx,rfl⟩
 |_::_,_,_,_,h,hx=>by
  obtain ⟨e,s,rfl,h1,h2⟩:=h
  exact ⟨e,_,rfl,h1,QS h2 hx⟩
theorem QT:∀{l:List AV}{es:List MapEntry}{i:Nat}{x:AV}{e:MapEntry},RE φ O w l es→VR φ O w x (.tuple #[e.key,e.val])→RE φ O w (l.set i x) (es.set i e)
 |[],_,i,_,e,h,hx=>by
  have h:_=[]:=h
  subst h
  simp[RE]
 |_::_,_,i,_,e',h,hx=>by
  obtain ⟨e,s,rfl,h1,h2⟩:=h
  cases i with
  |zero=>exact ⟨e',s,rfl,hx,h2⟩
  |succ i=>exact ⟨e,_,rfl,h1,QT h2 hx⟩
theorem Gd:∀{l:List AV}{es:List MapEntry}{i:Nat},RE φ O w l es→RE φ O w (l.eraseIdx i) (es.eraseIdx i)
 |[],_,i,h=>by
  have h:_=[]:=h
  subst h
  simp[RE]
 |_::_,_,i,h=>by
  obtain ⟨e,s,rfl,h1,h2⟩:=h
  cases i with
  |zero=>exact h2
  |succ i=>exact ⟨e,_,rfl,h1,Gd h2⟩
theorem V0{q:Option IntKind}{x:AV}(h:CB q x=true):∃k v,x = .aO [.sc k,v]∧jf q k=true:=by
 unfold CB at h
 split at h
 ·exact ⟨_,_,rfl,h⟩
 ·simp at h
theorem JU{q:Option IntKind}{k:Value}(h:jf q k=true):k.oneCell'=true:=by
 unfold jf at h
 split at h<;>first|rfl|(simp at h)
theorem aaT{k:Value}{v:AV}{a b:Value}(h:VR φ O w (.aO [.sc k,v]) (.tuple #[a,b])):a=k∧VR φ O w v b:=by
 obtain ⟨us,h1,h2⟩:=h.2
 have:us=#[a,b]:=by simpa [fR,Value.cells] using h1.symm
 subst this
 obtain ⟨x,s,e1,e2,e3,y,s',e4,e5,e6,e7⟩:=h2
 simp only[List.cons.injEq] at e1 e4
 obtain ⟨rfl,rfl⟩:=e1
 obtain ⟨rfl,rfl⟩:=by simpa using e4
 exact ⟨cw ⟨e2,e3⟩,e5,e6⟩
theorem QU{k:Value}{v:AV}{b:Value}(hk:k.oneCell'=true)(h:VR φ O w v b):VR φ O w (.aO [.sc k,v]) (.tuple #[k,b]) :=
 have h0:=dh (φ:=φ) (O:=O) (w:=w) hk
 ⟨⟨_,rfl⟩,#[k,b],by simp[fR,Value.cells],k,[b],rfl,h0.1,h0.2,b,[],rfl,h.1,h.2,rfl⟩
def sN:Option IntKind→TypeDesc
 |none=>.string
 |some q=>.int q
theorem zV{q:Option IntKind}{k:Value}(h:jf q k=true):MapKept.IsKey (sN q) k:=by
 unfold jf at h
 split at h
 ·trivial
 ·rename_i x y n
  have e:x=y:=by simpa using h
  exact e.symm
 ·simp at h
theorem JV{q:Option IntKind}{k k':Value}(h:jf q k=true)(h':jf q k'=true):Instr.sameNow (sN q) k k'=some (oo k k'):=by
 cases q with
 |none =>
  cases k<;>simp[jf] at h
  cases k'<;>simp[jf] at h'
  rename_i a b
  simp only[Instr.sameNow,sN,oo]
  congr 1
  rw[Bool.eq_iff_iff,MapKept.bytes_beq,decide_eq_true_eq]
 |some q =>
  cases k with
  |int ka a =>
   cases k' with
   |int kb b =>
    have e1:q=ka:=by simpa [jf] using h
    have e2:q=kb:=by simpa [jf] using h'
    subst e1 e2
    simp only[Instr.sameNow,sN,oo,if_true]
    by_cases c:a=b<;>simp[c]
   |_=>simp[jf] at h'
  |_=>simp[jf] at h
theorem Sz{q:Option IntKind}{k k':Value}(h:jf q k=true)(h':jf q k'=true):oo k k'=true↔k=k':=by
 cases q with
 |none =>
  cases k<;>simp[jf] at h
  cases k'<;>simp[jf] at h'
  simp[oo]
 |some q =>
  cases k with
  |int ka a =>
   cases k' with
   |int kb b =>
    have e1:q=ka:=by simpa [jf] using h
    have e2:q=kb:=by simpa [jf] using h'
    subst e1 e2
    simp[oo]
   |_=>simp[jf] at h'
  |_=>simp[jf] at h
theorem sP{q:Option IntKind}{k:Value}(hk:jf q k=true):∀{l:List AV}{es:List MapEntry}(i:Nat),RE φ O w l es→fM q l→
  (fy k l<l.length∧∃e v,es[fy k l]? = some e∧l[fy k l]? = some (.aO [.sc k,v])∧e.key=k∧VR φ O w v e.val∧Instr.findNow (sN q) k es i=some (some (i+fy k l,e.val)))∨(fy k l=l.length∧Instr.findNow (sN q) k es i=some none)
 |[],_,i,h,_=>by
  have h:_=[]:=h
  subst h
  exact .inr ⟨rfl,rfl⟩
 |x::r,_,i,h,ho=>by
  obtain ⟨e,s,rfl,h1,h2⟩:=h
  obtain ⟨k',v,rfl,hk'⟩:=V0 (ho x (by simp))
  obtain ⟨e1,e2⟩:=aaT h1
  have hs:=JV hk hk'
  rw[←e1] at hs
  cases hc:oo k k' with
  |true =>
   have hkk:=(Sz hk hk').1 hc
   have hm:fy k (.aO [.sc k',v]::r)=0:=by simp[fy,sK,hc]
   rw[hm]
   refine .inl ⟨by simp,e,v,rfl,by rw[hkk];rfl,by rw[e1,hkk],e2,?_⟩
   rw[e1,hc] at hs
   simp only[Instr.findNow,e1,hs,Nat.add_zero]
  |false =>
   have hm:fy k (.aO [.sc k',v]::r)=fy k r+1:=by simp[fy,sK,hc]
   rw[hm]
   rw[e1,hc] at hs
   rcases sP hk (i+1) h2 (fun y hy=>ho y (by simp[hy])) with ⟨g1,e',v',g2,g3,g4,g5,g6⟩|⟨g1,g2⟩
   ·refine .inl ⟨by simpa using g1,e',v',by simpa using g2,by simpa using g3,g4,g5,?_⟩
    simp only[Instr.findNow,e1,hs,g6]
    congr 3
    omega
   ·exact .inr ⟨by simp[g1],by simp only[Instr.findNow,e1,hs,g2]⟩
end
theorem Rel.QV{φ:aU}{w:World}{H:Y}(h:Rel φ H w){id b:Nat}{blk:aP}(hm:φ id=some b)(hf:Y.find H id=some blk)(hk:blk.k=0∧blk.ty=0){bU:Array MapEntry}{clock:Nat}(hb:w.heap[b]? = some (.map bU clock))
  (es':List AV)(fP:Array MapEntry)(clock':Nat)(hb1:(fP.toList.map (·.born)).Pairwise (· < ·))(jP:∀e∈fP.toList,e.born<clock')(hr:RE φ (Own φ H) w es' fP.toList) :
  Rel φ (Y.set H id (some { blk with es:=es' })) { w with heap:=w.heap.setIfInBounds b (.map fP clock') }∧Step φ H w φ (Y.set H id (some { blk with es:=es' })) { w with heap:=w.heap.setIfInBounds b (.map fP clock') }:=by
 have hid:id<H.length:=Y.ax hf
 obtain ⟨JW,zW⟩:=MapKept.heap_set (o':=.map fP clock') hb
 have hown:∀b',Own φ (Y.set H id (some { blk with es:=es' })) b'↔Own φ H b':=by
  intro b'
  constructor
  ·rintro ⟨i,k,h1,h2⟩
   by_cases e:i=id
   ·subst e;exact ⟨i,blk,h1,hf⟩
   ·rw[Y.aj e] at h2;exact ⟨i,k,h1,h2⟩
  ·rintro ⟨i,k,h1,h2⟩
   by_cases e:i=id
   ·subst e;exact ⟨i,_,h1,Y.aC hid⟩
   ·exact ⟨i,k,h1,by rw[Y.aj e];exact h2⟩
 have NJ:Own φ H b:=⟨id,blk,hm,hf⟩
 have hl:Later (fun _=>True) φ φ (Own φ H) (Own φ (Y.set H id (some { blk with es:=es' }))) w { w with heap:=w.heap.setIfInBounds b (.map fP clock') }:=by
  refine ⟨fun _ _ _ h=>h,by simp,fun b' hb' ho fN=>ho ((hown b').1 fN),fun b' hb' ho=>zW b' (fun e=>ho (e▸NJ)),fun b' hb'=>?_⟩
  unfold World.shape?
  by_cases e:b'=b
  ·subst e
   simp only[JW,hb]
  ·simp only[zW b' e]
 refine ⟨⟨h.jC.later hl,fun i b' hi=>?_,fun i j b' hi hj jx mM=>?_,fun i b' k h1 h2=>?_⟩,⟨hl,rfl,rfl,rfl,by rw[Y.af];exact Nat.le_refl _,fun _ _=>rfl⟩⟩
 ·rw[Y.af]
  simpa using h.dom i b' hi
 ·have g1:(Y.find H i).isSome:=by
   by_cases e:i=id
   ·subst e;rw[hf];rfl
   ·rwa [Y.aj e] at jx
  have g2:(Y.find H j).isSome:=by
   by_cases e:j=id
   ·subst e;rw[hf];rfl
   ·rwa [Y.aj e] at mM
  exact h.inj i j b' hi hj g1 g2
 ·by_cases e:i=id
  ·subst e
   rw[hm] at h1
   cases h1
   rw[Y.aC hid] at h2
   cases h2
   exact .inr (.inl ⟨hk.1,hk.2,fP,clock',JW,hb1,jP,mX hl (AV.cO _) hr⟩)
  ·rw[Y.aj e] at h2
   have hne:b'≠b:=fun eb=>by
    subst eb
    exact e (h.inj i id b' h1 hm (by rw[h2];rfl) (by rw[hf];rfl))
   exact (h.blk i b' k h1 h2).on hl (zW b' hne)
theorem Rel.aaU{φ:aU}{w:World}{H:Y}(h:Rel φ H w):Rel (φ.add H.length w.heap.size) (some ⟨0,[],true,0⟩::H) (w.alloc (.map #[] 0))∧Step φ H w (φ.add H.length w.heap.size) (some ⟨0,[],true,0⟩::H) (w.alloc (.map #[] 0)):=by
 obtain ⟨ui,hold⟩:=MapKept.heap_alloc w (.map #[] 0)
 have hsize:w.heap.size≤(w.alloc (.map #[] 0)).heap.size:=by simp
 have hdom:∀id b,φ id=some b→id<H.length:=fun id b hm=>(h.dom id b hm).1
 have eK:Later (fun _=>True) φ (φ.add H.length w.heap.size) (Own φ H) (Own (φ.add H.length w.heap.size) (some ⟨0,[],true,0⟩::H)) w (w.alloc (.map #[] 0)):=by
  refine ⟨fun id b _ hm'=>?_,hsize,fun b hb ho fN=>?_,fun b hb _=>hold b hb,fun b hb=>by unfold World.shape?;rw[hold b hb]⟩
  ·unfold aU.add
   rw[if_neg (by have:=hdom id b hm';omega)]
   exact hm'
  ·rcases Cz hdom fN with h1|h1
   ·exact ho h1
   ·omega
 refine ⟨⟨h.jC.later eK,fun id b' hm'=>?_,fun i j b' hi hj jx mM=>?_,fun id b' k h1 h2=>?_⟩,⟨eK,rfl,rfl,rfl,by simp,fun id hid=>by unfold aU.add;rw[if_neg (by omega)]⟩⟩
 ·unfold aU.add at hm'
  split at hm'
  ·rename_i e
   cases hm'
   exact ⟨by simp[e],by simp⟩
  ·have:=h.dom id b' hm'
   exact ⟨by simp;omega,by simp;omega⟩
 ·unfold aU.add at hi hj
  split at hi<;>split at hj
  ·omega
  ·cases hi;have:=(h.dom j _ hj).2;omega
  ·cases hj;have:=(h.dom i _ hi).2;omega
  ·have l1:=(h.dom i b' hi).1
   have l2:=(h.dom j b' hj).1
   rw[Y.bA l1] at jx
   rw[Y.bA l2] at mM
   exact h.inj i j b' hi hj jx mM
 ·unfold aU.add at h1
  split at h1
  ·rename_i e
   cases h1
   subst e
   rw[Y.iw] at h2
   cases h2
   exact .inr (.inl ⟨rfl,rfl,#[],0,ui,by simp,by simp,rfl⟩)
  ·have l1:=(h.dom id b' h1).1
   have l2:=(h.dom id b' h1).2
   rw[Y.bA l1] at h2
   exact (h.blk id b' k h1 h2).on eK (hold b' l2)
section
variable {P:Program}
theorem w6{t:TypeId}{q:Option IntKind}{e:TypeId}(h:yp P t=some (q,e)):∃k,P.underlying t=some (.map k e)∧P.underlying k=some (sN q):=by
 unfold yp at h
 split at h
 case h_2=>simp at h
 rename_i k e' ht
 split at h
 ·cases h;exact ⟨k,ht,by assumption⟩
 ·cases h;exact ⟨k,ht,by assumption⟩
 ·simp at h
theorem JX{φ:aU}{O:Nat→Prop}{w:World}{e:TypeId}{z:AV}(h:HW P e=some z):∃zv,(zeroValue e).run P w = .ok zv w∧VR φ O w z zv:=by
 unfold HW at h
 rw[Option.bind_eq_some_iff] at h
 obtain ⟨zv,h1,h2⟩:=h
 rw[Option.bind_eq_some_iff] at h1
 obtain ⟨i,h3,h4⟩:=h1
 exact ⟨zv,by simp only[zeroValue,typeInfo,Sem.run_bind,run_program,h3,Result.andThen_ok,Sem.run_pure,h4],eF h2⟩
theorem uB{φ:aU}{w:World}{H:Y}(hR:Rel φ H w){id f j:Nat}{p:List AV→Prop}{v:Value}(hv:VR φ (Own φ H) w (.ptr 0 id j f) v)(Sx:f=0)(h:ut H id p) :
  ∃b blk bU clock,v = .map (some b)∧φ id=some b∧Y.find H id=some blk∧(blk.k=0∧blk.ty=0)∧p blk.es∧nc H id=blk.es∧w.heap[b]? = some (.map bU clock)∧(bU.toList.map (·.born)).Pairwise (· < ·)∧(∀e∈bU.toList,e.born<clock)∧RE φ (Own φ H) w blk.es bU.toList:=by
 unfold ut at h
 split at h
 case h_2=>exact h.elim
 rename_i blk hf
 obtain ⟨b,h1,h2⟩:=fK hv
 subst Sx
 rcases hR.blk id b blk h1 hf with ⟨h0,_⟩|⟨_,_,bU,clock,a1,a2,a3,a4⟩|⟨_,h0,_⟩|⟨_,h0,_⟩|⟨_,h0,_⟩
 ·have:=h.1.1;omega
 ·exact ⟨b,blk,bU,clock,h2,h1,hf,h.1,h.2,by unfold nc;rw[hf],a1,a2,a3,a4⟩
 ·rw[h.1.2] at h0;cases h0
 ·rw[h.1.2] at h0;cases h0
 ·rw[h.1.2] at h0;cases h0
theorem V1{H:Y}{q:Option IntKind}{z:AV}{ok:Bool}{l:List AV}(h:GX.ok H (.pL q z ok) l):∃id j k,l=[.ptr 0 id j 0,.sc k]∧jf q k=true∧ut H id (fM q):=by
 match l,h with
 |[.ptr 0 id j 0,.sc k],h=>exact ⟨id,j,k,rfl,h⟩
theorem V2{H:Y}{q:Option IntKind}{l:List AV}(h:GX.ok H (.gi q) l):∃id j k v,l=[.ptr 0 id j 0,.sc k,v]∧jf q k=true∧ut H id (fM q):=by
 match l,h with
 |[.ptr 0 id j 0,.sc k,v],h=>exact ⟨id,j,k,v,rfl,h⟩
theorem V3{H:Y}{l:List AV}(h:GX.ok H .Bi l):∃id j,l=[.ptr 0 id j 0]∧ut H id fun _=>True:=by
 match l,h with
 |[.ptr 0 id j 0],h=>exact ⟨id,j,rfl,h⟩
theorem V4{H:Y}{q:Option IntKind}{l:List AV}(h:GX.ok H (.yl q) l):∃id j k,l=[.ptr 0 id j 0,.sc k]∧jf q k=true∧ut H id (fM q):=by
 match l,h with
 |[.ptr 0 id j 0,.sc k],h=>exact ⟨id,j,k,rfl,h⟩
theorem SA{o:Oper}{t:TypeId}(ho:o.op = .makeMap t none):cQ P o (.gx .ol []):=by
 intro φ H w ts a hR hr K Kp h next Q hn hp
 obtain ⟨_,h2⟩:=h
 obtain ⟨r1,r2⟩:=hR.aaU
 refine aY (u:=.map (some w.heap.size)) ?_ (hn _ _ _ _ _ h2 ⟨rfl,w.heap.size,by simp[aU.add],rfl⟩ r1 r2)
 simp only[execOp,ho,Instr.makeMap,Option.map_none,Sem.run_bind,run_newObj,Sem.run_pure,Result.andThen_ok]
 rfl
theorem V5{o:Oper}{t e:TypeId}{q:Option IntKind}{x i:Operand}{x' i':X}{z:AV}{ok:Bool}(ho:o.op = .lookup t x i ok)(hk:yp P t=some (q,e))(hx:bt x=some x')(hi:bt i=some i')(hz:HW P e=some z):cQ P o (.gx (.pL q z ok) [x',i']):=by
 intro φ H w ts a hR hr K Kp h next Q hn hp
 have hv:=aF hr hx
 have hw:=aF hr hi
 simp only[HO.bu,List.map_cons,List.map_nil] at h
 obtain ⟨h1,h2⟩:=h
 generalize X.ev ts x'=X1 at h1 h2 hv
 generalize X.ev ts i'=X2 at h1 h2 hw
 obtain ⟨id,j,k,hl,w7,h3⟩:=V1 h1
 simp only[List.cons.injEq,and_true] at hl
 obtain ⟨rfl,rfl⟩:=hl
 obtain ⟨b,blk,bU,clock,HY,m1,m2,m3,m4,m5,m6,m7,m8,m9⟩:=uB hR hv rfl h3
 obtain ⟨kt,t1,t2⟩:=w6 hk
 obtain ⟨zv,z1,z2⟩:=JX (φ:=φ) (O:=Own φ H) (w:=w) hz
 have HZ:=cw hw
 have ki:=MapKept.run_checkKey (P:=P) (w:=w) t2 (zV w7) bU.isEmpty 9999
 have hval:∃r u,((do
   let es ←(pure bU:Sem (Array MapEntry))
   Instr.checkKey es.isEmpty 10000 kt k
   let (v,ok) ←match ←Instr.findKey kt k es.toList with
    |some (_,v)=>pure (v,true)
    |none=>pure (←zeroValue e,false)
   pure (v,ok)):Sem (Value×Bool)).run P w = .ok (r,u) w∧VR φ (Own φ H) w (nR k z blk.es) r∧u=decide (fy k blk.es<blk.es.length):=by
  rcases sP w7 0 m9 m4 with ⟨g1,en,v,g2,g3,g4,g5,g6⟩|⟨g1,g2⟩
  ·refine ⟨en.val,true,?_,?_,by simp[g1]⟩
   ·simp only[Sem.run_bind,Sem.run_pure,Result.andThen_ok,ki,MapKept.run_findKey t2 g6]
   ·unfold nR
    rw[if_pos g1,List.getD_eq_getElem?_getD,g3]
    exact g5
  ·refine ⟨zv,false,?_,?_,by simp[g1]⟩
   ·simp only[Sem.run_bind,Sem.run_pure,Result.andThen_ok,ki,MapKept.run_findKey t2 g2,z1]
   ·unfold nR
    rw[if_neg (by omega)]
    exact z2
 obtain ⟨r,u,hrun,V6,E9⟩:=hval
 have aez:(Instr.lookup t (.map (some b)) k ok).run P w = .ok (if ok then .tuple #[r,.bool u] else r) w:=by
  simp only[Sem.run_bind,Sem.run_pure,Result.andThen_ok,ki] at hrun
  unfold Instr.lookup
  simp only[Sem.run_bind,run_underlying t1,Sem.run_pure,Result.andThen_ok,MapKept.run_getObj_map m6,ki]
  revert hrun
  cases NV:(Instr.findKey kt k bU.toList).run P w with
  |halt _ _=>intro hrun;simp[Result.andThen] at hrun
  |ok y w1 =>
   simp only[Result.andThen_ok]
   cases y with
   |none =>
    simp only[Sem.run_bind]
    cases hzz:(zeroValue e).run P w1 with
    |halt _ _=>intro hrun;simp[Result.andThen] at hrun
    |ok z' w2 =>
     simp only[Result.andThen_ok,Sem.run_pure]
     intro hrun
     simp only[Result.ok.injEq,Prod.mk.injEq] at hrun
     obtain ⟨⟨rfl,rfl⟩,rfl⟩:=hrun
     cases ok<;>simp
   |some y =>
    intro hrun
    have hrun:Result.ok (y.2,true) w1=Result.ok (r,u) w:=hrun
    simp only[Result.ok.injEq,Prod.mk.injEq] at hrun
    obtain ⟨⟨rfl,rfl⟩,rfl⟩:=hrun
    cases ok<;>simp
 have fx:K (if ok then .aO [nR k z blk.es,.sc (.bool u)] else nR k z blk.es) H:=by
  have:K (if ok then .aO [nR k z (nc H id),.sc (.bool (decide (fy k (nc H id)<(nc H id).length)))] else nR k z (nc H id)) H:=h2
  rw[m5,←E9] at this
  exact this
 refine aY (u:=if ok then .tuple #[r,.bool u] else r) ?_ (hn _ _ _ _ _ fx ?_ hR (Step.refl _ _ _))
 ·simp only[execOp,ho,HY,HZ,Sem.run_bind,aez,Result.andThen_ok,Sem.run_pure]
 ·cases ok with
  |false=>exact V6
  |true=>exact ⟨⟨_,rfl⟩,#[r,.bool u],by simp[fR,Value.cells],r,[.bool u],rfl,V6.1,V6.2,.bool u,[],rfl,rfl,rfl,rfl⟩
theorem sameBits_self{q:Option IntKind}{k:Value}(h:jf q k=true):Instr.sameBits 10000 k k=true:=by
 cases q<;>cases k<;>simp_all [jf,Instr.sameBits,MapKept.bytes_beq]
theorem Fa{l:List MapEntry}{i:Nat}{e e':MapEntry}(h:l[i]? = some e)(hb:e'.born=e.born):(l.set i e').map (·.born)=l.map (·.born):=by
 apply List.ext_getElem?
 intro j
 rw[List.getElem?_map,List.getElem?_map,List.getElem?_set]
 split
 ·rename_i hij
  subst hij
  rw[h]
  have:=(List.getElem?_eq_some_iff.1 h).1
  simp[this,hb]
 ·rfl
theorem JY{o:Oper}{t e:TypeId}{q:Option IntKind}{m k v:Operand}{m' k' v':X}(ho:o.op = .mapUpdate t m k v∨o.op = .insert t m k v)(hk:yp P t=some (q,e))(hm:bt m=some m')(hkk:bt k=some k')(hv:bt v=some v'):cQ P o (.gx (.gi q) [m',k',v']):=by
 intro φ H w ts a hR hr K Kp h next Q hn hp
 have JZ:=aF hr hm
 have BO:=aF hr hkk
 have SB:=aF hr hv
 simp only[HO.bu,List.map_cons,List.map_nil] at h
 obtain ⟨h1,h2⟩:=h
 generalize X.ev ts m'=X1 at h1 h2 JZ
 generalize X.ev ts k'=X2 at h1 h2 BO
 generalize X.ev ts v'=x3 at h1 h2 SB
 obtain ⟨id,j,kv,x4,hl,w7,h3⟩:=V2 h1
 simp only[List.cons.injEq,and_true] at hl
 obtain ⟨rfl,rfl,rfl⟩:=hl
 obtain ⟨b,blk,bU,clock,HY,m1,m2,m3,m4,m5,m6,m7,m8,m9⟩:=uB hR JZ rfl h3
 obtain ⟨kt,t1,t2⟩:=w6 hk
 have HZ:=cw BO
 have ki:=MapKept.run_checkKey (P:=P) (w:=w) t2 (zV w7) false 9999
 have fx:K .top (Y.set H id (some { blk with es:=qK kv x3 blk.es })):=by
  have:K .top (uu H id (qK kv x3 (nc H id))):=h2
  unfold uu at this
  rw[m2,m5] at this
  exact this
 have fin:∀{fP:Array MapEntry}{clock':Nat},(Instr.mapUpdate t (.map (some b)) kv (a.eval v)).run P w = .ok () { w with heap:=w.heap.setIfInBounds b (.map fP clock') }→(fP.toList.map (·.born)).Pairwise (· < ·)→(∀e∈fP.toList,e.born<clock')→
   RE φ (Own φ H) w (qK kv x3 blk.es) fP.toList→o.wp P a w next Q:=by
  intro fP clock' hrun c1 c2 c3
  obtain ⟨r1,r2⟩:=hR.QV m1 m2 m3 m6 _ fP clock' c1 c2 c3
  refine Gb ?_ (hn _ _ _ _ _ fx (nI _) r1 r2)
  rcases ho with ho|ho<;>simp only[execOp,ho,HY,HZ,Sem.run_bind,hrun,Result.andThen_ok,Sem.run_pure]
 rcases sP w7 0 m9 m4 with ⟨g1,en,vv,g2,g3,g4,g5,g6⟩|⟨g1,g2⟩
 ·have hi:fy kv blk.es<bU.size:=by have:=(List.getElem?_eq_some_iff.1 g2).1;simpa using this
  have hen:bU[fy kv blk.es]? = some en:=by rw[←Array.getElem?_toList];exact g2
  have V7:(bU.modify (fy kv blk.es) fun e=>{ e with key:=kv,val:=a.eval v }).toList=bU.toList.set (fy kv blk.es) { en with key:=kv,val:=a.eval v }:=by
   apply List.ext_getElem?
   intro j
   rw[Array.getElem?_toList,Array.getElem?_modify,List.getElem?_set]
   by_cases e:fy kv blk.es=j
   ·subst e
    have hi2:fy kv blk.es<bU.toList.length:=by simpa using hi
    rw[if_pos rfl,if_pos rfl,if_pos hi2,hen]
    rfl
   ·rw[if_neg e,if_neg e,Array.getElem?_toList]
  refine fin (fP:=bU.modify (fy kv blk.es) fun e=>{ e with key:=kv,val:=a.eval v }) (clock':=clock) ?_ ?_ ?_ ?_
  ·unfold Instr.mapUpdate
   rw[Nat.zero_add] at g6
   simp only[Sem.run_bind,run_underlying t1,Sem.run_pure,Result.andThen_ok,MapKept.run_getObj_map m6,ki,MapKept.run_findKey t2 g6,hen,Option.map_some,Option.getD_some,g4,Instr.keyThatStays,sameBits_self w7,if_true,MapKept.run_setObj_map _ m6]
  ·rw[V7,Fa (e':={ en with key:=kv,val:=a.eval v }) g2 rfl];exact m7
  ·rw[V7]
   intro e he
   rcases List.mem_or_eq_of_mem_set he with he|rfl
   ·exact m8 e he
   ·exact m8 en (List.mem_of_getElem? g2)
  ·rw[V7]
   unfold qK
   rw[if_pos g1]
   exact QT m9 (QU (JU w7) SB)
 ·refine fin (fP:=bU.push { key:=kv,val:=a.eval v,born:=clock }) (clock':=clock+1) ?_ ?_ ?_ ?_
  ·unfold Instr.mapUpdate
   simp only[Sem.run_bind,run_underlying t1,Sem.run_pure,Result.andThen_ok,MapKept.run_getObj_map m6,ki,MapKept.run_findKey t2 g2,MapKept.run_setObj_map _ m6]
  ·rw[Array.toList_push,List.map_append,List.pairwise_append]
   refine ⟨m7,by simp,fun x hx y hy=>?_⟩
   obtain ⟨e,he,rfl⟩:=List.mem_map.1 hx
   simp only[List.map_cons,List.map_nil,List.mem_singleton] at hy
   subst hy
   exact m8 e he
  ·intro e he
   rw[Array.toList_push] at he
   rcases List.mem_append.1 he with he|he
   ·have:=m8 e he;omega
   ·simp at he;subst he;exact Nat.lt_succ_self _
  ·rw[Array.toList_push]
   unfold qK
   rw[if_neg (by omega)]
   exact QS m9 (QU (JU w7) SB)
theorem V8{o:Oper}{t k e:TypeId}{x:Operand}{x':X}{args:Array Operand}{ats:Array TypeId}(ho:o.op = .call { callee:=.builtin .len,args,argTypes:=ats })(ha:args.toList=[x])(ej:ats.toList=[t])(ht:P.underlying t=some (.map k e))(hx:bt x=some x'):cQ P o (.gx .Bi [x']):=by
 intro φ H w ts a hR hr K Kp h next Q hn hp
 obtain rfl:args=#[x]:=by apply Array.toList_inj.1;simpa using ha
 obtain rfl:ats=#[t]:=by apply Array.toList_inj.1;simpa using ej
 have hv:=aF hr hx
 simp only[HO.bu,List.map_cons,List.map_nil] at h
 obtain ⟨h1,h2⟩:=h
 generalize X.ev ts x'=X1 at h1 h2 hv
 obtain ⟨id,j,hl,h3⟩:=V3 h1
 simp only[List.cons.injEq,and_true] at hl
 obtain rfl:=hl
 obtain ⟨b,blk,bU,clock,HY,m1,m2,m3,m4,m5,m6,m7,m8,m9⟩:=uB hR hv rfl h3
 have mb:=yu m9
 have fx:K (.sc (.int .i64 bU.size)) H:=by
  have:K (.sc (.int .i64 (nc H id).length)) H:=h2
  rw[m5,←mb] at this
  simpa using this
 refine aY (u:=.int .i64 bU.size) ?_ (hn _ _ _ _ _ fx (dh rfl) hR (Step.refl _ _ _))
 simp only[execOp,ho,resolve,invoke,builtin,Sem.run_bind,Sem.run_pure,Result.andThen_ok,List.map_toArray,List.map_cons,List.map_nil,HY]
 simp[Builtin.len_,run_underlying ht,MapKept.run_getObj_map m6,goInt,Result.andThen]
theorem V9{o:Oper}{t e:TypeId}{q:Option IntKind}{m k:Operand}{m' k':X}{args:Array Operand}{ats:Array TypeId}{rest:List TypeId}(ho:o.op = .call { callee:=.builtin .delete,args,argTypes:=ats })(ha:args.toList=[m,k])(ej:ats.toList=t::rest)(hk:yp P t=some (q,e))(hm:bt m=some m')(hkk:bt k=some k'):cQ P o (.gx (.yl q) [m',k']):=by
 intro φ H w ts a hR hr K Kp h next Q hn hp
 obtain rfl:args=#[m,k]:=by apply Array.toList_inj.1;simpa using ha
 have acG:ats[0]? = some t:=by rw[←Array.getElem?_toList,ej];rfl
 have JZ:=aF hr hm
 have BO:=aF hr hkk
 simp only[HO.bu,List.map_cons,List.map_nil] at h
 obtain ⟨h1,h2⟩:=h
 generalize X.ev ts m'=X1 at h1 h2 JZ
 generalize X.ev ts k'=X2 at h1 h2 BO
 obtain ⟨id,j,kv,hl,w7,h3⟩:=V4 h1
 simp only[List.cons.injEq,and_true] at hl
 obtain ⟨rfl,rfl⟩:=hl
 obtain ⟨b,blk,bU,clock,HY,m1,m2,m3,m4,m5,m6,m7,m8,m9⟩:=uB hR JZ rfl h3
 obtain ⟨kt,t1,t2⟩:=w6 hk
 have HZ:=cw BO
 have ki:=MapKept.run_checkKey (P:=P) (w:=w) t2 (zV w7) bU.isEmpty 9999
 have fx:K (.aO []) (Y.set H id (some { blk with es:=JQ kv blk.es })):=by
  have:K (.aO []) (uu H id (JQ kv (nc H id))):=h2
  unfold uu at this
  rw[m2,m5] at this
  exact this
 have fin:∀{fP:Array MapEntry},fP.toList=bU.toList.eraseIdx (fy kv blk.es)→(Builtin.delete_ ats o.type #[.map (some b),kv]).run P w = .ok (.tuple #[]) { w with heap:=w.heap.setIfInBounds b (.map fP clock) }→o.wp P a w next Q:=by
  intro fP he hrun
  have hsub:fP.toList.Sublist bU.toList:=by rw[he];exact List.eraseIdx_sublist _ _
  obtain ⟨r1,r2⟩:=hR.QV m1 m2 m3 m6 (JQ kv blk.es) fP clock (List.Pairwise.sublist (hsub.map _) m7) (fun e h=>m8 e (hsub.subset h)) (by rw[he];exact Gd m9)
  refine aY (u:=.tuple #[]) ?_ (hn _ _ _ _ _ fx ⟨⟨_,rfl⟩,#[],rfl,rfl⟩ r1 r2)
  simp only[execOp,ho,resolve,invoke,builtin,Sem.run_bind,Sem.run_pure,Result.andThen_ok,List.map_toArray,List.map_cons,List.map_nil,HY,HZ,hrun]
 rcases sP w7 0 m9 m4 with ⟨g1,en,vv,g2,g3,g4,g5,g6⟩|⟨g1,g2⟩
 ·have hi:fy kv blk.es<bU.size:=by have:=(List.getElem?_eq_some_iff.1 g2).1;simpa using this
  refine fin (fP:=bU.eraseIdxIfInBounds (fy kv blk.es)) ?_ ?_
  ·unfold Array.eraseIdxIfInBounds
   rw[dif_pos hi]
   simp
  ·rw[Nat.zero_add] at g6
   unfold Builtin.delete_
   simp[acG,run_underlying t1,MapKept.run_getObj_map m6,ki,MapKept.run_findKey t2 g6,MapKept.run_setObj_map _ m6,Result.andThen]
 ·refine fin (fP:=bU) ?_ ?_
  ·have mb:=yu m9
   rw[List.eraseIdx_of_length_le (by omega)]
  ·unfold Builtin.delete_
   simp[acG,run_underlying t1,MapKept.run_getObj_map m6,ki,MapKept.run_findKey t2 g2,MapKept.run_setObj_map _ m6,Result.andThen]
theorem Rel.QW{φ:aU}{w:World}{H:Y}(h:Rel φ H w)(blk:aP)(o:Obj)(hx:Later (fun _=>True) φ (φ.add H.length w.heap.size) (Own φ H) (Own (φ.add H.length w.heap.size) (some blk::H)) w (w.alloc o)→jJ (φ.add H.length w.heap.size) (Own (φ.add H.length w.heap.size) (some blk::H)) (w.alloc o) blk w.heap.size) :
  Rel (φ.add H.length w.heap.size) (some blk::H) (w.alloc o)∧Step φ H w (φ.add H.length w.heap.size) (some blk::H) (w.alloc o):=by
 obtain ⟨ui,hold⟩:=MapKept.heap_alloc w o
 have hsize:w.heap.size≤(w.alloc o).heap.size:=by simp
 have hdom:∀id b,φ id=some b→id<H.length:=fun id b hm=>(h.dom id b hm).1
 have eK:Later (fun _=>True) φ (φ.add H.length w.heap.size) (Own φ H) (Own (φ.add H.length w.heap.size) (some blk::H)) w (w.alloc o):=by
  refine ⟨fun id b _ hm'=>?_,hsize,fun b hb ho fN=>?_,fun b hb _=>hold b hb,fun b hb=>by unfold World.shape?;rw[hold b hb]⟩
  ·unfold aU.add
   rw[if_neg (by have:=hdom id b hm';omega)]
   exact hm'
  ·rcases Cz hdom fN with h1|h1
   ·exact ho h1
   ·omega
 refine ⟨⟨h.jC.later eK,fun id b' hm'=>?_,fun i j b' hi hj jx mM=>?_,fun id b' k h1 h2=>?_⟩,⟨eK,rfl,rfl,rfl,by simp,fun id hid=>by unfold aU.add;rw[if_neg (by omega)]⟩⟩
 ·unfold aU.add at hm'
  split at hm'
  ·rename_i e
   cases hm'
   exact ⟨by simp[e],by simp⟩
  ·have:=h.dom id b' hm'
   exact ⟨by simp;omega,by simp;omega⟩
 ·unfold aU.add at hi hj
  split at hi<;>split at hj
  ·omega
  ·cases hi;have:=(h.dom j _ hj).2;omega
  ·cases hj;have:=(h.dom i _ hi).2;omega
  ·have l1:=(h.dom i b' hi).1
   have l2:=(h.dom j b' hj).1
   rw[Y.bA l1] at jx
   rw[Y.bA l2] at mM
   exact h.inj i j b' hi hj jx mM
 ·unfold aU.add at h1
  split at h1
  ·rename_i e
   cases h1
   subst e
   rw[Y.iw] at h2
   cases h2
   exact hx eK
  ·have l1:=(h.dom id b' h1).1
   have l2:=(h.dom id b' h1).2
   rw[Y.bA l1] at h2
   exact (h.blk id b' k h1 h2).on eK (hold b' l2)
theorem Rel.Cg{φ:aU}{w w':World}{H:Y}(h:Rel φ H w){id b:Nat}{blk:aP}(hm:φ id=some b)(hf:Y.find H id=some blk)(x:Option aP)(hsz:w'.heap.size=w.heap.size)(J0:∀b',b'≠b→w'.heap[b']? = w.heap[b']?)(hsh:w'.shape? b=w.shape? b)
  (ho:w'.os=w.os)(htp:w'.tape=w.tape)(hou:w'.output=w.output)(hx:∀k,x=some k→Later (fun _=>True) φ φ (Own φ H) (Own φ (Y.set H id x)) w w'→jJ φ (Own φ (Y.set H id x)) w' k b):Rel φ (Y.set H id x) w'∧Step φ H w φ (Y.set H id x) w':=by
 have hid:id<H.length:=Y.ax hf
 have hown:∀b',Own φ (Y.set H id x) b'→Own φ H b':=by
  rintro b' ⟨i,k,h1,h2⟩
  by_cases e:i=id
  ·subst e;exact ⟨i,blk,h1,hf⟩
  ·rw[Y.aj e] at h2;exact ⟨i,k,h1,h2⟩
 have NJ:Own φ H b:=⟨id,blk,hm,hf⟩
 have hl:Later (fun _=>True) φ φ (Own φ H) (Own φ (Y.set H id x)) w w':=by
  refine ⟨fun _ _ _ h=>h,by omega,fun b' hb' ho fN=>ho (hown b' fN),fun b' hb' ho=>J0 b' (fun e=>ho (e▸NJ)),fun b' hb'=>?_⟩
  by_cases e:b'=b
  ·rw[e];exact hsh
  ·unfold World.shape?;rw[J0 b' e]
 refine ⟨⟨h.jC.later hl,fun i b' hi=>?_,fun i j b' hi hj jx mM=>?_,fun i b' k h1 h2=>?_⟩,⟨hl,ho,htp,hou,by rw[Y.af];exact Nat.le_refl _,fun _ _=>rfl⟩⟩
 ·rw[Y.af]
  have:=h.dom i b' hi
  exact ⟨this.1,by omega⟩
 ·have g:∀i,(Y.find (Y.set H id x) i).isSome→(Y.find H i).isSome:=by
   intro i hi
   by_cases e:i=id
   ·subst e;rw[hf];rfl
   ·rwa [Y.aj e] at hi
  exact h.inj i j b' hi hj (g i jx) (g j mM)
 ·by_cases e:i=id
  ·subst e
   rw[hm] at h1
   cases h1
   rw[Y.aC hid] at h2
   exact hx k h2 hl
  ·rw[Y.aj e] at h2
   have hne:b'≠b:=fun eb=>by
    subst eb
    exact e (h.inj i id b' h1 hm (by rw[h2];rfl) (by rw[hf];rfl))
   exact (h.blk i b' k h1 h2).on hl (J0 b' hne)
theorem CN:∀{l l':List Nat},l.map (fun (n:Nat)=>Value.int .i64 n)=l'.map (fun (n:Nat)=>Value.int .i64 n)→l=l'
 |[],[],_=>rfl
 |[],_::_,h=>by simp at h
 |_::_,[],h=>by simp at h
 |a::r,b::s,h=>by
  simp only[List.map_cons,List.cons.injEq,Value.int.injEq,true_and] at h
  rw[Int.ofNat_inj.1 h.1,CN h.2]
theorem CO{l l':List Nat}(h:mW l=mW l'):l=l':=by
 unfold mW at h
 simp only[Value.func.injEq,true_and,and_true] at h
 have h:=congrArg Array.toList h
 simp only[List.toList_toArray] at h
 exact CN h
theorem QX{φ:aU}{w:World}{H:Y}(hR:Rel φ H w){id b clock:Nat}{bs:List Nat}{es:List AV}{ex:Bool}(hm:φ id=some b)(hf:Y.find H id=some (E8 clock bs es ex)) :
  ∃bU:Array MapEntry,w.heap[b]? = some (.map bU clock)∧bU.toList.map (·.born)=bs∧(bU.toList.map (·.born)).Pairwise (· < ·)∧(∀e∈bU.toList,e.born<clock)∧RE φ (Own φ H) w es bU.toList:=by
 rcases hR.blk id b _ hm hf with ⟨h0,_⟩|⟨_,h0,_⟩|⟨_,h0,_⟩|⟨_,_,bU,clock',x,r,e,a1,a2,a3,a4,a5⟩|⟨_,h0,_⟩
 ·exact absurd h0 (by simp[E8])
 ·exact absurd h0 (by simp[E8])
 ·exact absurd h0 (by simp[E8])
 ·simp only[E8,List.cons.injEq] at e
  obtain ⟨rfl,rfl⟩:=e
  have:=CO (cw a4)
  simp only[List.cons.injEq] at this
  obtain ⟨rfl,h2⟩:=this
  exact ⟨bU,a1,h2,a2,a3,a5⟩
 ·exact absurd h0 (by simp[E8])
theorem QY{φ:aU}{w:World}{H:Y}(hR:Rel φ H w){it id b clock:Nat}{seen:List Nat}(hm:φ it=some b)(hf:Y.find H it=some (CD id clock seen)) :
  ∃bm,φ id=some bm∧w.heap[b]? = some (.mapIter (some bm) clock seen.toArray clock):=by
 rcases hR.blk it b _ hm hf with ⟨h0,_⟩|⟨_,h0,_⟩|⟨_,h0,_⟩|⟨_,h0,_⟩|⟨_,_,bm,clock',seen',a1,a2⟩
 ·exact absurd h0 (by simp[CD])
 ·exact absurd h0 (by simp[CD])
 ·exact absurd h0 (by simp[CD])
 ·exact absurd h0 (by simp[CD])
 ·obtain ⟨u1,r1,e1,o1,p1,u2,r2,e2,o2,p2,e3⟩:=a2
  cases e1
  cases e2
  obtain ⟨bm',g1,g2⟩:=fK (⟨o1,p1⟩:VR φ (Own φ H) w _ _)
  have g2:Value.map (some bm) = .map (some bm'):=g2
  cases g2
  have:=CO (cw (⟨o2,p2⟩:VR φ (Own φ H) w _ _))
  simp only[List.cons.injEq] at this
  obtain ⟨rfl,h2⟩:=this
  exact ⟨bm,g1,by rw[a1,←h2]⟩
theorem SC{φ:aU}{O:Nat→Prop}{w:World}{l:List Nat}:VR φ O w (.sc (mW l)) (mW l):=dh rfl
theorem aaV{o:Oper}{t xt k e:TypeId}{x:Operand}{x':X}(ho:o.op = .typeAssert x xt t false)(ht:P.underlying t=some (.map k e))(hx:bt x=some x'):cQ P o (.gx (.tas t) [x']):=by
 intro φ H w ts a hR hr K Kp h next Q hn qD
 have hv:=aF hr hx
 simp only[HO.bu,List.map_cons,List.map_nil] at h
 obtain ⟨h1,h2⟩:=h
 generalize X.ev ts x'=x1 at h1 h2 hv
 match x1,h1 with
 |.eP u v,h1 =>
  have h1:u=t:=h1
  subst h1
  obtain ⟨y,e1,hy⟩:=vS hv
  refine aY (u:=y) ?_ (hn _ _ φ H w h2 hy hR (Step.refl _ _ _))
  simp[execOp,ho,Instr.typeAssert,bD ht,e1]
theorem aaW{o:Oper}{kd:NS}{y:X}(hc:zU P o.op=some (.rP kd y)){φ:aU}{H:Y}{w:World}{ts:List AV}{a:Act}(hR:Rel φ H w)(hr:FR φ (Own φ H) w ts a){K:AV→Y→Prop}(h:NT K H kd (X.ev ts y)){next:Act→World→Prop}{Q:Exit→Act→World→Prop}
  (hn:∀v u φ' H' w',K v H'→VR φ' (Own φ' H') w' v u→Rel φ' H' w'→Step φ H w φ' H' w'→next (a.put o.dst u) w'):o.wp P a w next Q:=by
 unfold zU at hc
 split at hc
 ·
  rename_i t x ho
  split at hc
  case h_2=>simp at hc
  rename_i kt et x' ht hx
  cases hc
  have hv:=aF hr hx
  generalize X.ev ts y=x1 at h hv
  match x1,h with
  |.ptr 0 id j 0,h =>
   obtain ⟨es,ex,hf,hK⟩:=h
   obtain ⟨b,hm,e1⟩:=fK hv
   have e1:a.eval x = .map (some b):=e1
   rcases hR.blk id b _ hm hf with ⟨h0,_⟩|⟨_,_,bU,clock,a1,a2,a3,a4⟩|⟨_,h0,_⟩|⟨_,h0,_⟩|⟨_,h0,_⟩
   ·exact absurd h0 (by simp)
   ·obtain ⟨zX,nS⟩:=hR.Cg (w':=w) hm hf (some (E8 clock (bU.toList.map (·.born)) es ex)) rfl (fun _ _=>rfl) rfl rfl rfl rfl (fun k hk hl=>by
     cases hk
     exact .inr (.inr (.inr (.inl ⟨rfl,rfl,bU,clock,_,_,rfl,a1,a2,a3,SC,mX hl (AV.cO _) a4⟩))))
    obtain ⟨CQ,H6⟩:=zX.QW (CD id clock []) (.mapIter (some b) clock #[] clock) (fun hl =>
     .inr (.inr (.inr (.inr ⟨rfl,rfl,b,clock,#[],(MapKept.heap_alloc w _).1,.map (some b),_,rfl,rfl,⟨b,by
      unfold aU.add
      rw[if_neg (by rw[Y.af];have:=Y.ax hf;omega)]
      exact hm,rfl⟩,mW [clock],[],rfl,rfl,by simp[R,fR,mW,Value.cells],rfl⟩))))
    rw[Y.af] at CQ H6
    have hk:=hK clock (bU.toList.map (·.born)) (by rw[List.length_map];exact yu a4) a2
    refine aY (u:=.pointer (some ⟨w.heap.size,0,none⟩)) ?_ (hn _ _ _ _ _ hk ⟨rfl,w.heap.size,by simp[aU.add],rfl⟩ CQ (nS.trans H6))
    simp only[execOp,ho,e1,Sem.run_bind,run_range_map w t kt et b bU clock ht a1,Result.andThen_ok,Sem.run_pure]
   ·exact absurd h0 (by simp)
   ·exact absurd h0 (by simp)
   ·exact absurd h0 (by simp)
 ·
  rename_i x ho
  rw[Option.map_eq_some_iff] at hc
  obtain ⟨x',hx,hc⟩:=hc
  cases hc
  have hv:=aF hr hx
  generalize X.ev ts y=x1 at h hv
  match x1,h with
  |.ptr 0 it j 2,h =>
   obtain ⟨id,clock,seen,bs,es,ex,hf1,J1,hsh,yw,SD⟩:=h
   obtain ⟨bi,SF,e1⟩:=fK hv
   have e1:a.eval x = .pointer (some ⟨bi,0,none⟩):=e1
   obtain ⟨bm,Wa,a1⟩:=QY hR SF hf1
   obtain ⟨bU,m1,m2,m3,m4,m5⟩:=QX hR Wa J1
   rcases run_next_at (P:=P) w o.type bi bm clock clock seen.toArray bU clock a1 m1 m4 (Nat.le_refl _) with ⟨c1,c2⟩|⟨e,c1,w1,c2,c3⟩
   ·have hall:∀b∈bs,b∈seen:=by
     intro b hb
     rw[←m2] at hb
     obtain ⟨e,he,rfl⟩:=List.mem_map.1 hb
     have h0:leftOf bU seen.toArray=#[]:=Array.eq_empty_of_size_eq_zero c1
     unfold leftOf at h0
     rw[Array.filter_eq_empty_iff] at h0
     have:=h0 e (by simpa using he)
     simpa using this
    obtain ⟨zX,nS⟩:=hR.Cg (w':=w) Wa J1 (some ⟨0,es,ex,0⟩) rfl (fun _ _=>rfl) rfl rfl rfl rfl (fun k hk hl=>by
     cases hk
     exact .inr (.inl ⟨rfl,rfl,bU,clock,m1,m3,m4,mX hl (AV.cO _) m5⟩))
    refine aY (u:=.tuple #[.bool false]) ?_ (hn _ _ _ _ _ (yw hall) ⟨⟨_,rfl⟩,#[.bool false],rfl,.bool false,[],rfl,rfl,rfl,rfl⟩ zX nS)
    simp only[execOp,ho,e1,Sem.run_bind,c2,Result.andThen_ok,Sem.run_pure]
   ·unfold leftOf at c1
    simp only[Array.toList_filter,List.mem_filter] at c1
    obtain ⟨d1,d2⟩:=c1
    obtain ⟨i,hi,he⟩:=List.getElem_of_mem d1
    have hei:bU.toList[i]? = some e:=by rw[List.getElem?_eq_getElem hi,he]
    have hb:bs[i]? = some e.born:=by rw[←m2,List.getElem?_map,hei];rfl
    have hl:i<es.length:=by rw[←yu m5];exact hi
    obtain ⟨k,v,mg⟩:=hsh es[i] (List.getElem_mem hl)
    have mg:es[i]? = some (.aO [.sc k,v]):=by rw[List.getElem?_eq_getElem hl,mg]
    obtain ⟨e',g1,g2⟩:=HX m5 mg
    rw[hei] at g1
    cases g1
    have hns:e.born∉seen:=by simpa using d2
    have hK:=SD i e.born k v hb mg hns
    have hw1:w1.heap=w.heap∧Rel φ H w1∧Step φ H w φ H w1:=by
     rcases c2 with rfl|rfl
     ·exact ⟨rfl,hR,Step.refl _ _ _⟩
     ·exact ⟨rfl,pB hR,iR φ H w⟩
    obtain ⟨hw1,zX,nS⟩:=hw1
    have hlt:bi<w1.heap.size:=by rw[hw1];exact jI a1
    have hsame:(ChangeMaps.setBlock w1 bi (.mapIter (some bm) clock (seen.toArray.push e.born) clock)).heap[bi]? = some (.mapIter (some bm) clock (seen.toArray.push e.born) clock):=by
     unfold ChangeMaps.setBlock
     simp[hlt]
    have J0:∀b',b'≠bi→(ChangeMaps.setBlock w1 bi (.mapIter (some bm) clock (seen.toArray.push e.born) clock)).heap[b']? = w1.heap[b']?:=by
     intro b' hne
     unfold ChangeMaps.setBlock
     simp[Ne.symm hne]
    obtain ⟨CQ,H6⟩:=zX.Cg (w':=ChangeMaps.setBlock w1 bi (.mapIter (some bm) clock (seen.toArray.push e.born) clock)) SF hf1 (some (CD id clock (seen++[e.born]))) (by unfold ChangeMaps.setBlock;simp) J0
     (by unfold World.shape?;rw[hsame,hw1,a1]) rfl rfl rfl (fun k hk hl=>by
     cases hk
     exact .inr (.inr (.inr (.inr ⟨rfl,rfl,bm,clock,seen.toArray.push e.born,hsame,.map (some bm),_,rfl,rfl,⟨bm,Wa,rfl⟩,mW (clock::(seen.toArray.push e.born).toList),[],rfl,rfl,by simp[R,fR,mW,Value.cells],rfl⟩))))
    have hS:=nS.trans H6
    have hvr:=hS.vr g2
    obtain ⟨us,f1,f2⟩:=HT hvr
    cases f1
    refine aY (u:=.tuple #[.bool true,e.key,e.val]) ?_ (hn _ _ _ _ _ hK ⟨⟨_,rfl⟩,#[.bool true,e.key,e.val],rfl,.bool true,[e.key,e.val],rfl,rfl,rfl,f2⟩ CQ hS)
    simp only[execOp,ho,e1,Sem.run_bind,c3,Result.andThen_ok,Sem.run_pure]
 ·
  rename_i x ho
  rw[Option.map_eq_some_iff] at hc
  obtain ⟨x',hx,hc⟩:=hc
  cases hc
  have hv:=aF hr hx
  generalize X.ev ts y=x1 at h hv
  match x1,h with
  |.ptr 0 it j 2,h =>
   obtain ⟨id,clock,seen,bs,es,ex,i,b,k,v,hf1,J1,hb,mg,hK⟩:=h
   obtain ⟨bi,SF,e1⟩:=fK hv
   have e1:a.eval x = .pointer (some ⟨bi,0,none⟩):=e1
   obtain ⟨bm,Wa,a1⟩:=QY hR SF hf1
   obtain ⟨bU,m1,m2,m3,m4,m5⟩:=QX hR Wa J1
   obtain ⟨e,g1,g2⟩:=HX m5 mg
   have Fb:e.born=b:=by
    rw[←m2,List.getElem?_map,g1] at hb
    simpa using hb
   subst Fb
   have zW:(bU.toList.map (·.born)).Nodup:=m3.imp fun h=>by omega
   have hrun:=run_entry_at (P:=P) w bi bm clock seen.toArray bU clock e (by rw[a1];simp) m1 (List.mem_of_getElem? g1) zW
   refine aY (u:=.tuple #[e.key,e.val]) ?_ (hn _ _ _ _ _ hK g2 hR (Step.refl _ _ _))
   simp only[execOp,ho,e1,Sem.run_bind,hrun,Result.andThen_ok,Sem.run_pure]
 ·simp at hc
theorem aaX{o:Oper}{p:Op}{op:HO}(hp:o.op=p)(h:CF P p=some op):cQ P o op:=by
 unfold CF at h
 split at h
 ·split at h
  ·cases h;exact SA hp
  ·simp at h
 ·split at h
  case h_2=>simp at h
  rename_i q e x' i' h1 h2 h3
  rw[Option.map_eq_some_iff] at h
  obtain ⟨z,h4,rfl⟩:=h
  exact V5 hp h1 h2 h3 h4
 ·split at h
  case h_2=>simp at h
  cases h
  exact JY (.inl hp) (by assumption) (by assumption) (by assumption) (by assumption)
 ·split at h
  case h_2=>simp at h
  cases h
  exact aaV hp (by assumption) (by assumption)
 ·split at h
  case h_2=>simp at h
  cases h
  exact JY (.inr hp) (by assumption) (by assumption) (by assumption) (by assumption)
 ·split at h
  case h_2=>simp at h
  rename_i ha ej
  split at h
  case h_2=>simp at h
  cases h
  exact V8 hp ha ej (by assumption) (by assumption)
 ·split at h
  case h_2=>simp at h
  rename_i ha ej
  split at h
  case h_2=>simp at h
  cases h
  exact V9 hp ha ej (by assumption) (by assumption) (by assumption)
 ·simp at h
end
end Go.Proofs.YtnoplgongieehaaGreatDoor
