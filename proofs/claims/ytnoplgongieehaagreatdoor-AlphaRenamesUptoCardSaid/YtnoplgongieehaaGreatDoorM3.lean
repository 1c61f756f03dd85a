import Derived.Test.YtnoplgongieehaaGreatDoorM2
import Derived.ChangeOld
import Derived.Below
import Derived.Carry
import Derived.OpenShut
import Derived.Recover
import Derived.KernelRfl
import Derived.Test.YtnoplgongieehaaGreatDoorProg
import Derived.Lib.Bytealg
import Derived.Test.YtnoplgongieehaaGreatDoorM1
namespace Go.Proofs.YtnoplgongieehaaGreatDoor
open Go.RowKit
set_option linter.unusedVariables false
set_option linter.unusedSimpArgs false
def gN(ev:X→AV)(d:Nat):Option X→Nat
 |none=>d
 |some x=>match ev x with
  |.sc (.int _ n)=>n.toNat
  |_=>0
def oy(ev:X→AV):Option X→Prop
 |none=>True
 |some x=>match ev x with
  |.sc (.int _ n)=>0≤n
  |_=>False
def xe(ev:X→AV):List AV→List (Nat×Nat×X)→List AV
 |zs,[]=>zs
 |zs,(off,n,x)::r=>xe ev (zs.take off++(ev x).cells++zs.drop (off+n)) r
def qP(ev:X→AV):List AV→List (Nat×Nat×X)→Prop
 |_,[]=>True
 |zs,(off,n,x)::r=>((ev x).bT=false∧(ev x).az=n∧off+n≤zs.length)∧qP ev (zs.take off++(ev x).cells++zs.drop (off+n)) r
theorem Da{ev:X→AV}{K:List AV→Prop}:∀{ps:List (Nat×Nat×X)}{zs:List AV},og ev zs ps K↔qP ev zs ps∧K (xe ev zs ps)
 |[],zs=>by simp[og,qP,xe]
 |(o,n,x)::r,zs=>by simp only[og,qP,xe,Da (ps:=r),and_assoc]
theorem jR{ev:X→AV}{d:Nat}{K:Nat→Prop}{o:Option X}:l8 ev d o K↔oy ev o∧K (gN ev d o):=by
 cases o with
 |none=>simp[l8,oy,gN]
 |some x =>
  simp only[l8,oy,gN]
  cases ev x with
  |sc v=>cases v<;>simp
  |_=>simp
def WR(op:BinOp):AV→AV→AV
 |.sc u,.sc v=>match wD op u v with
  |some r=>.sc r
  |none=>.top
 |_,_=>.top
def Oc(op:BinOp):AV→AV→Prop
 |.sc u,.sc v=>(wD op u v).isSome=true
 |_,_=>False
def shF(op:BinOp):AV→AV→AV
 |.sc u,.sc v=>match NE op u v with
  |some r=>.sc r
  |none=>.top
 |_,_=>.top
def WT(op:BinOp):AV→AV→Prop
 |.sc u,.sc v=>(NE op u v).isSome=true
 |_,_=>False
def unF(op:UnOp):AV→AV
 |.sc u=>match JF op u with
  |some r=>.sc r
  |none=>.top
 |_=>.top
def WU(op:UnOp):AV→Prop
 |.sc u=>(JF op u).isSome=true
 |_=>False
def acS(pos:Bool):AV→AV→AV
 |.sc (.bool a),.sc (.bool b)=>.sc (.bool (if pos then a == b else !(a == b)))
 |_,_=>.top
def Od:AV→AV→Prop
 |.sc (.bool _),.sc (.bool _)=>True
 |_,_=>False
def acT(pos:Bool):AV→AV
 |.sc .nilIface=>.sc (.bool pos)
 |.eP _ _=>.sc (.bool !pos)
 |_=>.top
def WV:AV→Prop
 |.sc .nilIface=>True
 |.eP _ _=>True
 |_=>False
def WW(pos:Bool):AV→AV
 |.am _ [] _=>.ub
 |.am _ (_::_) _=>.sc (.bool !pos)
 |.aD _ _ _ _ _=>.sc (.bool !pos)
 |_=>.top
def Q7:AV→Prop
 |.am _ _ _=>True
 |.aD _ _ _ _ _=>True
 |_=>False
def WX:AV→AV→AV→AV
 |.sc (.bool true),a,_=>a
 |.sc (.bool false),_,b=>b
 |_,_,_=>.top
def Q8:AV→Prop
 |.sc (.bool _)=>True
 |_=>False
def WY(k:IntKind):AV→AV
 |.sc (.int _ n)=>.sc (.int k (k.wrap n))
 |_=>.top
def Q9:AV→AV
 |.am _ xs _=>.sc (.string (oZ xs))
 |_=>.top
def Ko:AV→Prop
 |.am k xs _=>k=1∧l9 xs=true
 |_=>False
def Ra:AV→Prop
 |.sc (.int _ _)=>True
 |_=>False
def Db:AV→Prop
 |.ptr k _ _ f=>0<k∨0<f
 |.lp ..=>True
 |.fn (.func _) _ _=>True
 |_=>False
def Rb(off:Nat):AV→AV
 |.ptr k id j f=>.ptr k id j (f+off)
 |.lp y f=>.lp y (f+off)
 |_=>.top
def Dc:AV→Prop
 |.ptr k _ _ _=>0<k
 |.lp ..=>True
 |_=>False
def Ks(off n:Nat)(ag:Bool):AV→Prop
 |.agg cs=>AV.jw (.agg cs) off n ag
 |_=>False
def Rc(k:Nat):AV→AV→AV
 |.am _ xs _,.sc (.int _ n)=>.lp (xs.getD n.toNat .top) 0
 |.aD _ id off _ _,.sc (.int _ n)=>.ptr k id (off+n.toNat) 0
 |_,_=>.top
def uO(k:Nat):AV→AV→Prop
 |.am k' xs _,.sc (.int _ n)=>0≤n∧n<(xs.length:Int)∧k'=k
 |.aD k' _ _ m _,.sc (.int _ n)=>0≤n∧n<(m:Int)∧k'=k∧0<k
 |_,_=>False
def Kt(k:Nat):AV→AV→AV
 |.ptr k' id j f,.sc (.int _ n)=>.ptr k' id j (f+n.toNat*k)
 |.lp y f,.sc (.int _ n)=>.lp y (f+n.toNat*k)
 |_,_=>.top
def Ah(ln:Nat):AV→AV→Prop
 |.ptr k _ _ _,.sc (.int _ n)=>0≤n∧n<(ln:Int)∧0<k
 |.lp _ _,.sc (.int _ n)=>0≤n∧n<(ln:Int)
 |_,_=>False
def WZ:AV→AV→AV
 |.sc (.string s),.sc (.int _ n)=>.sc (.int .u8 ((s.data.getD n.toNat 0).toNat:Int))
 |_,_=>.top
def Ci:AV→AV→Prop
 |.sc (.string s),.sc (.int _ n)=>0≤n∧n<(s.size:Int)
 |_,_=>False
def W0(n:Nat)(ag:Bool):AV→AV→AV
 |.agg cs,.sc (.int _ m)=>AV.sub (.agg cs) (m.toNat*n) n ag
 |_,_=>.top
def Ix(ln n:Nat)(ag:Bool):AV→AV→Prop
 |.agg cs,.sc (.int _ m)=>(0≤m∧m<(ln:Int))∧AV.jw (.agg cs) (m.toNat*n) n ag
 |_,_=>False
def Ku(k:Nat)(mx:Option Nat)(h l:Nat):AV→AV
 |.am _ xs room=>match mx with
  |some m=>.am k ((xs.take h).drop l) (some ((xs.take m).drop h))
  |none=>match room with
   |none=>.am k ((xs.take h).drop l) none
   |some ys=>.am k (((xs++ys).take h).drop l) (some ((xs++ys).drop h))
 |.aD _ id off _ c=>match c with
  |none=>if l<h then .aD k id (off+l) (h-l) none else .am k [] none
  |some m=>if l<m then .aD k id (off+l) (h-l) (some (m-l)) else .am k [] none
 |_=>.top
def Dd(k:Nat)(mx:Option Nat)(hs:Bool)(h l:Nat):AV→Prop
 |.am k' xs room=>(k'=k∨xs=[]∧room=some [])∧match mx with
  |some m=>hs=true∧l≤h∧h≤m∧m≤xs.length
  |none=>match room with
   |none=>l≤h∧h≤xs.length
   |some ys=>l≤h∧h≤xs.length+ys.length
 |.aD k' _ _ n c=>k'=k∧mx.isNone=true∧l≤h∧h≤c.getD n
 |_=>False
def pS:AV→Nat
 |.am _ xs _=>xs.length
 |.aD _ _ _ n _=>n
 |_=>0
def oz:AV→Prop
 |.am _ _ _=>True
 |.aD ..=>True
 |.sc (.slice none 0 0)=>True
 |_=>False
def Oe:AV→Prop
 |.sc (.string _)=>True
 |_=>False
def De:AV→ByteArray
 |.sc (.string s)=>s
 |_=>ByteArray.empty
def mmF(mx:Bool):AV→AV→AV
 |.sc (.int k a),.sc (.int _ b)=>.sc (.int k (if mx then (if b > a then b else a) else (if b<a then b else a)))
 |_,_=>.top
def W2:AV→AV→Prop
 |.sc (.int _ _),.sc (.int _ _)=>True
 |_,_=>False
def acU(i:Nat):AV→AV
 |.aO vs=>vs.getD i .top
 |_=>.top
def Og(i:Nat):AV→Prop
 |.aO vs=>i<vs.length
 |_=>False
def Oh(t:TypeId)(z:AV):AV→AV
 |.eP u v=>if u=t then .aO [v,.sc (.bool true)] else .aO [z,.sc (.bool false)]
 |.sc .nilIface=>.aO [z,.sc (.bool false)]
 |_=>.top
def Re:AV→Prop
 |.eP _ _=>True
 |.sc .nilIface=>True
 |_=>False
def Iy:AV→Prop
 |.sc .nilFunc=>True
 |.fn _ _ _=>True
 |_=>False
def Oi(pos:Bool):AV→AV
 |.sc .nilFunc=>.sc (.bool pos)
 |.fn _ _ _=>.sc (.bool !pos)
 |_=>.top
def Iz(t:TypeId):AV→Prop
 |.eP u _=>u=t
 |_=>False
def Oj:AV→AV
 |.eP _ v=>v
 |_=>.top
def PO.ok(ev:X→AV):PO→Prop
 |.mv _=>True
 |.pick c _ _=>Q8 (ev c)
 |.aN op x y=>Oc op (ev x) (ev y)
 |.E6 op x y=>WT op (ev x) (ev y)
 |.JH _ x y=>Od (ev x) (ev y)
 |.HS _ x=>WV (ev x)
 |.yd _ x=>Q7 (ev x)
 |.un op x=>WU op (ev x)
 |.conv _ x=>Ra (ev x)
 |.wY x=>Ko (ev x)
 |.bV x=>Db (ev x)
 |.an _ x=>Dc (ev x)
 |.field off n ag x=>Ks off n ag (ev x)
 |.gm k x i=>uO k (ev x) (ev i)
 |.sI ln _ x i=>Ah ln (ev x) (ev i)
 |.kN x i=>Ci (ev x) (ev i)
 |.A9 ln n ag x i=>Ix ln n ag (ev x) (ev i)
 |.qC k x lo hi mx=>oy ev lo∧oy ev hi∧oy ev mx∧Dd k (match mx with|none=>none|some m=>some (gN ev 0 (some m))) hi.isSome (gN ev (match mx with|none=>pS (ev x)|some _=>0) hi) (gN ev 0 lo) (ev x)
 |.rM x lo hi=>Oe (ev x)∧oy ev lo∧oy ev hi∧gN ev 0 lo≤gN ev (De (ev x)).size hi∧gN ev (De (ev x)).size hi≤(De (ev x)).size
 |.len x=>oz (ev x)
 |.nP x=>Oe (ev x)
 |.mm _ x y=>W2 (ev x) (ev y)
 |.ext x i=>Og i (ev x)
 |.oQ _ _ _=>True
 |.Ba _ _=>True
 |.Bb _ _ x=>Re (ev x)
 |.build zs ps=>qP ev zs ps
 |.ug _ x=>Iy (ev x)
 |.wF t x=>Iz t (ev x)
def PO.val(ev:X→AV):PO→AV
 |.mv x=>ev x
 |.pick c a b=>WX (ev c) (ev a) (ev b)
 |.aN op x y=>WR op (ev x) (ev y)
 |.E6 op x y=>shF op (ev x) (ev y)
 |.JH pos x y=>acS pos (ev x) (ev y)
 |.HS pos x=>acT pos (ev x)
 |.yd pos x=>WW pos (ev x)
 |.un op x=>unF op (ev x)
 |.conv k x=>WY k (ev x)
 |.wY x=>Q9 (ev x)
 |.bV x=>ev x
 |.an off x=>Rb off (ev x)
 |.field off n ag x=>AV.sub (ev x) off n ag
 |.gm k x i=>Rc k (ev x) (ev i)
 |.sI _ k x i=>Kt k (ev x) (ev i)
 |.kN x i=>WZ (ev x) (ev i)
 |.A9 _ n ag x i=>W0 n ag (ev x) (ev i)
 |.qC k x lo hi mx=>Ku k (match mx with|none=>none|some m=>some (gN ev 0 (some m))) (gN ev (match mx with|none=>pS (ev x)|some _=>0) hi) (gN ev 0 lo) (ev x)
 |.rM x lo hi=>.sc (.string ((De (ev x)).extract (gN ev 0 lo) (gN ev (De (ev x)).size hi)))
 |.len x=>.sc (.int .i64 (pS (ev x)))
 |.nP x=>.sc (.int .i64 (De (ev x)).size)
 |.mm mx x y=>mmF mx (ev x) (ev y)
 |.ext x i=>acU i (ev x)
 |.oQ f a b=>.fn f (a.map ev) (b.map ev)
 |.Ba t x=>.eP t (ev x)
 |.Bb t z x=>Oh t z (ev x)
 |.build zs ps=>.agg (xe ev zs ps)
 |.ug pos x=>Oi pos (ev x)
 |.wF _ x=>Oj (ev x)
theorem PO.jD{ev:X→AV}{K:AV→Prop}:∀{q:PO},q.ok ev→K (q.val ev)→PO.bu ev K q:=by
 intro q h hk
 cases q with
 |build zs ps=>exact Da.2 ⟨h,hk⟩
 |pick c a b =>
  simp only[PO.ok,PO.val,PO.bu] at *
  cases hc:ev c<;>rw[hc] at h hk<;>try exact h.elim
  rename_i v
  cases v<;>try exact h.elim
  rename_i t
  cases t
  ·exact ⟨fun h=>by simp at h,fun _=>hk⟩
  ·exact ⟨fun _=>hk,fun h=>by simp at h⟩
 |aN op x y =>
  simp only[PO.ok,PO.val,PO.bu] at *
  cases hx:ev x<;>cases hy:ev y<;>rw[hx,hy] at h hk<;>try exact h.elim
  simp only[Oc,WR] at h hk ⊢
  cases hb:wD op _ _ with
  |none=>rw[hb] at h;simp at h
  |some r=>rw[hb] at hk;exact ⟨r,rfl,hk⟩
 |E6 op x y =>
  simp only[PO.ok,PO.val,PO.bu] at *
  cases hx:ev x<;>cases hy:ev y<;>rw[hx,hy] at h hk<;>try exact h.elim
  simp only[WT,shF] at h hk ⊢
  cases hb:NE op _ _ with
  |none=>rw[hb] at h;simp at h
  |some r=>rw[hb] at hk;exact ⟨r,rfl,hk⟩
 |un op x =>
  simp only[PO.ok,PO.val,PO.bu] at *
  cases hx:ev x<;>rw[hx] at h hk<;>try exact h.elim
  simp only[WU,unF] at h hk ⊢
  cases hb:JF op _ with
  |none=>rw[hb] at h;simp at h
  |some r=>rw[hb] at hk;exact ⟨r,rfl,hk⟩
 |rM x lo hi =>
  simp only[PO.ok,PO.val,PO.bu] at *
  cases hx:ev x<;>rw[hx] at h hk<;>try exact h.1.elim
  rename_i v
  cases v<;>try exact h.1.elim
  obtain ⟨_,h1,h2,h3,h4⟩:=h
  exact jR.2 ⟨h2,jR.2 ⟨h1,⟨h3,h4⟩,hk⟩⟩
 |qC k x lo hi mx =>
  simp only[PO.ok,PO.val,PO.bu] at *
  obtain ⟨h1,h2,h3,h4⟩:=h
  cases hx:ev x<;>rw[hx] at h4 hk<;>try exact h4.elim
  ·rename_i k' xs room
   refine ⟨h4.1,?_⟩
   cases mx with
   |some m=>exact jR.2 ⟨h3,jR.2 ⟨h2,jR.2 ⟨h1,h4.2,hk⟩⟩⟩
   |none =>
    cases room with
    |none=>exact jR.2 ⟨h2,jR.2 ⟨h1,h4.2,hk⟩⟩
    |some ys=>exact jR.2 ⟨h2,jR.2 ⟨h1,h4.2,hk⟩⟩
  ·rename_i k' id off n c
   obtain ⟨g1,g2,g3,g4⟩:=h4
   cases mx with
   |some m=>simp at g2
   |none =>
    refine ⟨g1,rfl,jR.2 ⟨h2,jR.2 ⟨h1,⟨g3,g4⟩,?_⟩⟩⟩
    cases c with
    |none =>
     have fx:K (if gN ev 0 lo<gN ev n hi then .aD k id (off+gN ev 0 lo) (gN ev n hi-gN ev 0 lo) none else .am k [] none):=hk
     refine ⟨fun e=>?_,fun e=>?_⟩
     ·rw[if_pos e] at fx
      exact fx
     ·rw[if_neg (by omega)] at fx
      exact fx
    |some m =>
     have fx:K (if gN ev 0 lo<m then .aD k id (off+gN ev 0 lo) (gN ev n hi-gN ev 0 lo) (some (m-gN ev 0 lo)) else .am k [] none):=hk
     refine ⟨fun e=>?_,fun e=>?_⟩
     ·rw[if_pos e] at fx
      exact fx
     ·rw[if_neg (by omega)] at fx
      exact fx
 |Bb t z x =>
  simp only[PO.ok,PO.val,PO.bu] at *
  cases hx:ev x<;>rw[hx] at h hk<;>try exact h.elim
  ·rename_i v
   cases v<;>first|exact h.elim|exact hk
  ·simp only[Oh] at hk
   exact ⟨fun e=>by rw[if_pos e] at hk;exact hk,fun e=>by rw[if_neg e] at hk;exact hk⟩
 |mv x=>exact hk
 |oQ f a b=>exact hk
 |Ba t x=>exact hk
 |JH pos x y =>
  simp only[PO.ok,PO.val,PO.bu,Od] at *
  split at h
  ·rename_i e1 e2
   rw[e1,e2] at hk
   rw[e1,e2]
   exact hk
  ·exact h.elim
 |gm k x i =>
  simp only[PO.ok,PO.val,PO.bu,uO] at *
  split at h
  ·rename_i e1 e2
   rw[e1,e2] at hk
   rw[e1,e2]
   exact ⟨h,hk⟩
  ·rename_i e1 e2
   rw[e1,e2] at hk
   rw[e1,e2]
   exact ⟨h,hk⟩
  ·exact h.elim
 |sI ln k x i =>
  simp only[PO.ok,PO.val,PO.bu,Ah] at *
  split at h
  ·rename_i e1 e2
   rw[e1,e2] at hk
   rw[e1,e2]
   exact ⟨h,hk⟩
  ·rename_i e1 e2
   rw[e1,e2] at hk
   rw[e1,e2]
   exact ⟨h,hk⟩
  ·exact h.elim
 |kN x i =>
  simp only[PO.ok,PO.val,PO.bu,Ci] at *
  split at h
  ·rename_i e1 e2
   rw[e1,e2] at hk
   rw[e1,e2]
   exact ⟨h,hk⟩
  ·exact h.elim
 |A9 ln n ag x i =>
  simp only[PO.ok,PO.val,PO.bu,Ix] at *
  split at h
  ·rename_i e1 e2
   rw[e1,e2] at hk
   rw[e1,e2]
   exact ⟨h.1,h.2,by rw[e1] at *;exact hk⟩
  ·exact h.elim
 |mm mx x y =>
  simp only[PO.ok,PO.val,PO.bu,W2] at *
  split at h
  ·rename_i e1 e2
   rw[e1,e2] at hk
   rw[e1,e2]
   exact hk
  ·exact h.elim
 |HS pos x =>
  simp only[PO.ok,PO.val,PO.bu] at *
  cases hx:ev x<;>rw[hx] at h hk<;>try exact h.elim
  ·rename_i v;cases v<;>first|exact h.elim|exact hk
  ·exact hk
 |yd pos x =>
  simp only[PO.ok,PO.val,PO.bu] at *
  cases hx:ev x<;>rw[hx] at h hk<;>try exact h.elim
  ·rename_i k xs room;cases xs<;>exact hk
  ·exact hk
 |conv k x =>
  simp only[PO.ok,PO.val,PO.bu] at *
  cases hx:ev x<;>rw[hx] at h hk<;>try exact h.elim
  rename_i v;cases v<;>first|exact h.elim|exact hk
 |wY x =>
  simp only[PO.ok,PO.val,PO.bu] at *
  cases hx:ev x<;>rw[hx] at h hk<;>first|exact h.elim|exact ⟨h,hk⟩
 |bV x =>
  simp only[PO.ok,PO.val,PO.bu] at *
  cases hx:ev x<;>rw[hx] at h hk<;>first|exact h.elim|exact ⟨h,hk⟩|exact hk|skip
  rename_i f a b;cases f<;>first|exact h.elim|exact hk
 |an off x =>
  simp only[PO.ok,PO.val,PO.bu] at *
  cases hx:ev x<;>rw[hx] at h hk<;>first|exact h.elim|exact ⟨h,hk⟩|exact hk
 |field off n ag x =>
  simp only[PO.ok,PO.val,PO.bu] at *
  cases hx:ev x<;>rw[hx] at h hk<;>first|exact h.elim|exact ⟨h,hk⟩
 |len x =>
  simp only[PO.ok,PO.val,PO.bu] at *
  cases hx:ev x<;>rw[hx] at h hk<;>try first|exact h.elim|exact hk
  unfold oz at h
  split at h
  ·rename_i e0;cases e0
  ·rename_i e0;cases e0
  ·rename_i e0;cases e0;exact hk
  ·exact h.elim
 |nP x =>
  simp only[PO.ok,PO.val,PO.bu] at *
  cases hx:ev x<;>rw[hx] at h hk<;>try exact h.elim
  rename_i v;cases v<;>first|exact h.elim|exact hk
 |ext x i =>
  simp only[PO.ok,PO.val,PO.bu] at *
  cases hx:ev x<;>rw[hx] at h hk<;>first|exact h.elim|exact ⟨h,hk⟩
 |ug pos x =>
  simp only[PO.ok,PO.val,PO.bu] at *
  cases hx:ev x<;>rw[hx] at h hk<;>try exact h.elim
  ·rename_i v;cases v<;>first|exact h.elim|exact hk
  ·exact hk
 |wF t x =>
  simp only[PO.ok,PO.val,PO.bu] at *
  cases hx:ev x<;>rw[hx] at h hk<;>first|exact h.elim|exact ⟨h,hk⟩
def wH(H:Y)(n:Nat)(ag:Bool):AV→Prop
 |.ptr k id j f=>match Y.find H id with
  |some blk=>blk.k=k∧j<blk.es.length∧AV.jw (blk.es.getD j .top) f n ag∧0<k
  |none=>False
 |.lp x f=>AV.jw x f n ag
 |_=>False
def Fq(H:Y)(n:Nat)(ag:Bool):AV→AV
 |.ptr _ id j f=>match Y.find H id with
  |some blk=>AV.sub (blk.es.getD j .top) f n ag
  |none=>.top
 |.lp x f=>AV.sub x f n ag
 |_=>.top
def Bp(H:Y)(n:Nat):AV→AV→Prop
 |.ptr k id j f,x=>match Y.find H id with
  |some blk=>blk.k=k∧j<blk.es.length∧x.bT=false∧x.az=n∧f+n≤(blk.es.getD j .top).az∧((blk.es.getD j .top).isAgg|| !x.isAgg)=true∧0<k
  |none=>False
 |_,_=>False
def yL(H:Y):AV→AV→Y
 |.ptr k id j f,x=>match Y.find H id with
  |some blk=>Y.set H id (some { blk with es:=blk.es.set j (AV.lu (blk.es.getD j .top) f x) })
  |none=>H
 |_,_=>H
def rU(ev:X→AV):List AV→List (Nat×X)→List AV
 |es,[]=>es
 |es,(i,x)::r=>rU ev (es.set i (ev x)) r
def nq(ev:X→AV)(k:Nat):List AV→List (Nat×X)→Prop
 |_,[]=>True
 |es,(i,x)::r=>((ev x).bT=false∧(ev x).az=k∧i<es.length)∧nq ev k (es.set i (ev x)) r
theorem Ai{ev:X→AV}{k:Nat}{K:List AV→Prop}:∀{ps:List (Nat×X)}{es:List AV},pN ev k es ps K↔nq ev k es ps∧K (rU ev es ps)
 |[],es=>by simp[pN,nq,rU]
 |(i,x)::r,es=>by simp only[pN,nq,rU,Ai (ps:=r),and_assoc]
def wI(H:Y)(k:Nat):AV→Prop
 |.am k' ys _=>k'=k∨ys=[]
 |.aD k' id off n _=>match Y.find H id with
  |some blk=>k'=k∧blk.k=k∧off+n≤blk.es.length
  |none=>False
 |_=>False
def pc(H:Y):AV→List AV
 |.am _ ys _=>ys
 |.aD _ id off n _=>match Y.find H id with
  |some blk=>(blk.es.drop off).take n
  |none=>[]
 |_=>[]
def aM:AV→Int
 |.sc (.int _ n)=>n
 |_=>0
def qQ:AV→Prop
 |.sc (.int _ _)=>True
 |_=>False
def gQ(H:Y)(k ty:Nat)(ys:List AV):AV→Prop
 |.am k' xs (some [])=>(k'=k∨xs=[])∧xs.length+ys.length≤100000000
 |.aD k' id off n none=>match Y.find H id with
  |some blk=>(k'=k∧blk.k=k∧blk.ty=ty∧off=0∧n+ys.length≤100000000)∧blk.exact=false∧n=blk.es.length
  |none=>False
 |.aD k' id off n (some m)=>match Y.find H id with
  |some blk=>(k'=k∧blk.k=k∧blk.ty=ty∧off=0∧n+ys.length≤100000000)∧((blk.exact=true∧m=blk.es.length∧n≤m)∨(blk.exact=false∧n≤blk.es.length))
  |none=>False
 |_=>False
def lC(H:Y)(k:Nat)(ys:List AV):AV→AV
 |.am k' xs (some [])=>match ys with
  |[]=>.am k' xs (some [])
  |_::_=>.aD k H.length 0 (xs.length+ys.length) none
 |.aD _ id _ n none=>.aD k H.length 0 (n+ys.length) none
 |.aD _ id _ n (some m)=>if n+ys.length≤m then .aD k id 0 (n+ys.length) (some m) else .aD k H.length 0 (n+ys.length) none
 |_=>.top
def jy(H:Y)(k ty:Nat)(ys:List AV):AV→Y
 |.am _ xs (some [])=>match ys with
  |[]=>H
  |_::_=>some ⟨k,xs++ys,false,ty⟩::H
 |.aD _ id _ n none=>match Y.find H id with
  |some blk=>some ⟨k,blk.es++ys,false,ty⟩::Y.set H id none
  |none=>H
 |.aD _ id _ n (some m)=>match Y.find H id with
  |some blk=>if n+ys.length≤m then Y.set H id (some { blk with es:=blk.es.take n++ys++blk.es.drop (n+ys.length) }) else some ⟨k,blk.es.take n++ys,false,ty⟩::H
  |none=>H
 |_=>H
def HO.Fs(ev:X→AV)(H:Y):HO→Prop
 |.load n ag a=>wH H n ag (ev a)
 |.alloc _ _=>True
 |.box k _ x=>(ev x).bT=false∧(ev x).az=k
 |.ep k _ z ln ps=>nq ev k (List.replicate ln z) ps
 |.kO k _ z ln ps=>nq ev k (List.replicate ln z) ps
 |.store n a x=>Bp H n (ev a) (ev x)
 |.jN _ _ _ l c=>qQ (ev l)∧qQ (ev c)∧0≤aM (ev l)∧aM (ev l)≤aM (ev c)∧aM (ev c)≤100000000
 |.ez k ty s x=>wI H k (ev x)∧gQ H k ty (pc H (ev x)) (ev s)
 |.gx g xs=>g.ok H (xs.map ev)
 |_=>False
def HO.uQ(ev:X→AV)(H:Y):HO→AV
 |.load n ag a=>Fq H n ag (ev a)
 |.alloc z _=>.ptr z.az H.length 0 0
 |.box k _ _=>.ptr k H.length 0 0
 |.ep k _ z ln ps=>.am k (rU ev (List.replicate ln z) ps) (some [])
 |.kO k _ _ ln _=>.aD k H.length 0 ln (some ln)
 |.store _ _ _=>.top
 |.jN k _ _ l c=>.aD k H.length 0 (aM (ev l)).toNat (some (aM (ev c)).toNat)
 |.ez k _ s x=>lC H k (pc H (ev x)) (ev s)
 |.gx g xs=>g.val H (xs.map ev)
 |_=>.top
def HO.pT(ev:X→AV)(H:Y):HO→Y
 |.alloc z ty=>some ⟨z.az,[z],true,ty⟩::H
 |.box k ty x=>some ⟨k,[ev x],true,ty⟩::H
 |.kO k ty z ln ps=>some ⟨k,rU ev (List.replicate ln z) ps,true,ty⟩::H
 |.store _ a x=>yL H (ev a) (ev x)
 |.jN k ty z _ c=>some ⟨k,List.replicate (aM (ev c)).toNat z,true,ty⟩::H
 |.ez k ty s x=>jy H k ty (pc H (ev x)) (ev s)
 |.gx g xs=>g.heap H (xs.map ev)
 |_=>H
theorem uR{α:Type}{l:List α}{j:Nat}{d:α}(h:j<l.length):l[j]? = some (l.getD j d):=by simp[List.getD,h]
theorem HO.jD{P:Program}{ev:X→AV}{H:Y}{K Kp:AV→Y→Prop}:∀{q:HO},q.Fs ev H→K (q.uQ ev H) (q.pT ev H)→HO.bu P ev H K Kp q:=by
 intro q h hk
 cases q with
 |load n ag a =>
  simp only[HO.Fs,HO.uQ,HO.pT,HO.bu] at *
  cases he:ev a<;>rw[he] at h hk<;>try exact h.elim
  ·simp only[wH,Fq] at h hk
   cases hf:Y.find H _ with
   |none=>rw[hf] at h;exact h.elim
   |some blk=>rw[hf] at h hk;exact ⟨blk,_,hf,uR h.2.1,⟨h.1,h.2.2.1,h.2.2.2⟩,hk⟩
  ·exact ⟨h,hk⟩
 |alloc z ty=>exact hk
 |box k ty x=>exact ⟨h,hk⟩
 |ep k ty z ln ps=>exact Ai.2 ⟨h,hk⟩
 |kO k ty z ln ps=>exact Ai.2 ⟨h,hk⟩
 |store n a x =>
  simp only[HO.Fs,HO.uQ,HO.pT,HO.bu] at *
  cases he:ev a<;>rw[he] at h hk<;>try exact h.elim
  simp only[Bp,yL] at h hk
  cases hf:Y.find H _ with
  |none=>rw[hf] at h;exact h.elim
  |some blk =>
   rw[hf] at h hk
   obtain ⟨h1,h2,h3,h4,h5,h6,h7⟩:=h
   refine ⟨blk,_,hf,uR h2,⟨h1,h3,h4,h5,fun e=>?_,h7⟩,hk⟩
   rw[e] at h6
   simpa using h6
 |jN k ty z l c =>
  simp only[HO.Fs,HO.uQ,HO.pT,HO.bu] at *
  obtain ⟨h1,h2,h3⟩:=h
  cases he:ev l<;>rw[he] at h1<;>try exact h1.elim
  rename_i v
  cases v<;>try exact h1.elim
  cases hf:ev c<;>rw[hf] at h2<;>try exact h2.elim
  rename_i v2
  cases v2<;>try exact h2.elim
  rw[he,hf] at h3 hk
  exact ⟨h3,hk⟩
 |gx g xs=>exact ⟨h,hk⟩
 |ez k ty s x =>
  simp only[HO.Fs,HO.uQ,HO.pT,HO.bu] at *
  obtain ⟨h1,h2⟩:=h
  have hls:∀{K':List AV→Prop},K' (pc H (ev x))→JS H k (ev x) K':=by
   intro K' hk'
   cases hx:ev x<;>rw[hx] at h1 hk'<;>try exact h1.elim
   ·exact ⟨h1,hk'⟩
   ·simp only[wI,pc] at h1 hk'
    cases hf:Y.find H _ with
    |none=>rw[hf] at h1;exact h1.elim
    |some blk=>rw[hf] at h1 hk';exact ⟨blk,hf,h1,hk'⟩
  refine hls ?_
  cases hs:ev s<;>rw[hs] at h2 hk<;>try exact h2.elim
  ·rename_i k' xs room
   cases room with
   |none=>exact h2.elim
   |some zs =>
    cases zs with
    |cons _ _=>exact h2.elim
    |nil =>
     refine ⟨h2,fun e=>?_,fun e=>?_⟩
     ·rw[e] at hk;exact hk
     ·cases hy:pc H (ev x) with
      |nil=>exact absurd hy e
      |cons a b=>rw[hy] at hk;exact hk
  ·rename_i k' id off n c
   cases c with
   |none =>
    simp only[gQ,lC,jy] at h2 hk
    cases hf:Y.find H id with
    |none=>rw[hf] at h2;exact h2.elim
    |some blk=>rw[hf] at h2 hk;exact ⟨blk,hf,h2.1,h2.2,hk⟩
   |some m =>
    simp only[gQ,lC,jy] at h2 hk
    cases hf:Y.find H id with
    |none=>rw[hf] at h2;exact h2.elim
    |some blk =>
     rw[hf] at h2 hk
     refine ⟨blk,hf,h2.1,h2.2,fun e=>?_,fun e=>?_⟩
     ·simp only[if_pos e] at hk;exact hk
     ·have:¬n+(pc H (ev x)).length≤m:=by omega
      simp only[if_neg this] at hk;exact hk
 |_=>exact h.elim
def Kv(P:Program)(ev:X→AV)(H:Y)(C Cp:AV→Y→Prop):eX→Prop
 |.p q=>q.ok ev∧C (q.val ev) H
 |.h (.call f fw)=>DK P f (fw.map ev) H (fun e H'=>cH.post C Cp H' e)
 |.h (.cq f fw)=>match ev f with
  |.fn (.func g) a b=>cr P g=true∧DK P g (a++fw.map ev++b) H (fun e H'=>cH.post C Cp H' e)
  |_=>False
 |.h (.bP x)=>match ev x with
  |.eP t v=>Cp (.eP t v) H
  |_=>False
 |.h (.rP kd x)=>NT C H kd (ev x)
 |.h q=>q.Fs ev H∧C (q.uQ ev H) (q.pT ev H)
theorem pU {P : Program} {f : FuncId} (h : cr P f = true) : ∃ fn, P.funcs[f]? = some fn ∧ fn.body.isSome ∧ fn.name ≠ "runtime.NumGoroutine" := by
 unfold cr at h
 split at h
 case h_2=>simp at h
 rename_i fn hf
 simp only[Bool.and_eq_true,Bool.not_eq_true',beq_eq_false_iff_ne] at h
 exact ⟨fn,hf,h.1,h.2⟩
theorem W3{P:Program}{ev:X→AV}{H:Y}{C Cp:AV→Y→Prop}{op:eX}(h:Kv P ev H C Cp op):Wr P ev H C Cp op:=by
 cases op with
 |p q=>exact PO.jD (K:=fun v=>C v H) h.1 h.2
 |h q =>
  cases q with
  |call f fw=>exact h
  |cq f fw =>
   simp only[Kv,Wr,HO.J2] at h ⊢
   split at h
   ·rename_i he;simp only[he];exact ⟨pU h.1,h.2⟩
   ·exact h.elim
  |bP x=>exact h
  |rP kd x=>exact h
  |_=>exact HO.jD (P:=P) (Kp:=Cp) h.1 h.2
theorem lS{ts:List AV}{p q p' q':Prop}{g:Option (Nat×Bool)}(h1:p→p')(h2:q→q')(h:cI ts p q g):cI ts p' q' g:=Kg h1 h2 h
def dj(P:Program)(K:List AV→Y→Prop)(Kp:AV→List AV→Y→Prop):List cy→List AV→Y→Prop
 |[],ts,H=>K ts H
 |o::r,ts,H=>cI ts (Kv P (X.ev ts) H (fun v H'=>dj P K Kp r (cz ts o.dst v) H') (fun v H'=>Kp v ts H') o.op) (dj P K Kp r (cz ts o.dst (.aO [])) H) o.guard
theorem Gp{P:Program}{ev:X→AV}{H:Y}{C Cp C' Cp':AV→Y→Prop}{op:eX}(h1:∀v H,C v H→C' v H)(h2:∀v H,Cp v H→Cp' v H)(h:Kv P ev H C Cp op):Kv P ev H C' Cp' op:=by
 have xf:∀{e H'},cH.post C Cp H' e→cH.post C' Cp' H' e:=fun {e H'} h=>by
  cases e with
  |ret v=>exact h1 _ _ h
  |bP v=>exact h2 _ _ h
 cases op with
 |p q=>exact ⟨h.1,h1 _ _ h.2⟩
 |h q =>
  cases q with
  |call f fw=>exact h.mono fun e H' _ g=>xf g
  |cq f fw =>
   simp only[Kv] at h ⊢
   split at h
   ·exact ⟨h.1,h.2.mono fun e H' _ g=>xf g⟩
   ·exact h.elim
  |bP x =>
   simp only[Kv] at h ⊢
   split at h
   ·exact h2 _ _ h
   ·exact h.elim
  |rP kd x=>exact Sv h1 h
  |_=>exact ⟨h.1,h1 _ _ h.2⟩
theorem iY{P:Program}{K:List AV→Y→Prop}{Kp:AV→List AV→Y→Prop}:∀{l:List cy}{ts:List AV}{H:Y},dj P K Kp l ts H→iX P K Kp l ts H
 |[],_,_,h=>h
 |o::r,ts,H,h=>lS (fun h=>W3 (Gp (fun v H h=>iY h) (fun _ _ h=>h) h)) (fun h=>iY h) h
def BT(A:List (List Nat))(i:Nat)(hs:List (Nat×Y×Y)):AV→Prop
 |.ptr _ id _ _=>∀c∈hs,nj A c.1 i=true→id<c.2.1.length→Y.find c.2.2 id=Y.find c.2.1 id
 |_=>True
def W4(i:Nat)(ld:List (Nat×Nat)):AV→List (Nat×Nat)
 |.ptr _ id _ _=>(i,id)::ld
 |_=>ld
def sX(A:List (List Nat))(i:Nat)(ld:List (Nat×Nat))(H H':Y):Prop:=∀l∈ld,nj A l.1 i=true→Y.find H' l.2=Y.find H l.2
def S6(P:Program)(A:List (List Nat))(n i:Nat)(ev:X→AV)(H:Y)(ld:List (Nat×Nat))(hs:List (Nat×Y×Y))(C:AV→Y→List (Nat×Nat)→List (Nat×Y×Y)→Prop)(Kp:AV→Y→Prop):eX→Prop
 |.p q=>q.ok ev∧C (q.val ev) H ld hs
 |.h (.load m ag a)=>BT A i hs (ev a)∧wH H m ag (ev a)∧C (Fq H m ag (ev a)) H (W4 i ld (ev a)) hs
 |.h (.call f fw)=>∃e H',D P f (fw.map ev) H e H'∧cH.post (fun v H'=>sX A i ld H H'∧C v H' ld ((i,H,H')::hs)) (fun v H'=>ry A n i=true∧Kp v H') H' e
 |.h (.cq f fw)=>match ev f with
  |.fn (.func g) a b=>cr P g=true∧∃e H',D P g (a++fw.map ev++b) H e H'∧cH.post (fun v H'=>sX A i ld H H'∧C v H' ld ((i,H,H')::hs)) (fun v H'=>ry A n i=true∧Kp v H') H' e
  |_=>False
 |.h (.bP x)=>False
 |.h (.store m a x)=>Bp H m (ev a) (ev x)∧sX A i ld H (yL H (ev a) (ev x))∧C .top (yL H (ev a) (ev x)) ld ((i,H,yL H (ev a) (ev x))::hs)
 |.h (.ez k ty s x)=>(wI H k (ev x)∧gQ H k ty (pc H (ev x)) (ev s))∧sX A i ld H (jy H k ty (pc H (ev x)) (ev s))∧C (lC H k (pc H (ev x)) (ev s)) (jy H k ty (pc H (ev x)) (ev s)) ld ((i,H,jy H k ty (pc H (ev x)) (ev s))::hs)
 |.h (.gx g xs)=>g.ok H (xs.map ev)∧sX A i ld H (g.heap H (xs.map ev))∧C (g.val H (xs.map ev)) (g.heap H (xs.map ev)) ld ((i,H,g.heap H (xs.map ev))::hs)
 |.h q=>q.Fs ev H∧C (q.uQ ev H) (q.pT ev H) (HO.N3 i H ld q) hs
def cY(P:Program)(A:List (List Nat))(n:Nat)(K:List AV→Y→Prop)(Kp:AV→Y→Prop):Nat→List cy→List AV→Y→List (Nat×Nat)→List (Nat×Y×Y)→Prop
 |_,[],ts,H,_,_=>K ts H
 |i,o::r,ts,H,ld,hs=>cI ts (S6 P A n i (X.ev ts) H ld hs (fun v H' z8 hs'=>cY P A n K Kp (i+1) r (cz ts o.dst v) H' z8 hs') Kp o.op) (cY P A n K Kp (i+1) r (cz ts o.dst (.aO [])) H ld hs) o.guard
theorem Ol{P:Program}{A:List (List Nat)}{n i:Nat}{ev:X→AV}{H:Y}{ld:List (Nat×Nat)}{hs:List (Nat×Y×Y)}{C C':AV→Y→List (Nat×Nat)→List (Nat×Y×Y)→Prop}{Kp:AV→Y→Prop}{op:eX}
  (hC:∀v H ld hs,C v H ld hs→C' v H ld hs)(h:S6 P A n i ev H ld hs C Kp op):Ij P A n i ev H ld hs C' Kp op:=by
 cases op with
 |p q=>exact PO.jD (K:=fun v=>C' v H ld hs) h.1 (hC _ _ _ _ h.2)
 |h q =>
  cases q with
  |load m ag a =>
   obtain ⟨h1,h2,h3⟩:=h
   simp only[Ij]
   split
   ·rename_i k id j f he
    rw[he] at h1 h2 h3
    refine ⟨h1,HO.jD (q:=.load m ag a) ?_ ?_⟩
    ·simp only[HO.Fs];rw[he];exact h2
    ·simp only[HO.uQ,HO.pT];rw[he];exact hC _ _ _ _ h3
   ·rename_i hne
    have hn:W4 i ld (ev a)=ld:=by
     cases he:ev a<;>first|rfl|(exact absurd he (hne _ _ _ _))
    rw[hn] at h3
    exact HO.jD (q:=.load m ag a) h2 (hC _ _ _ _ h3)
  |call f fw =>
   obtain ⟨e,H',h1,h2⟩:=h
   cases e with
   |ret v=>exact ⟨.ret v,H',h1,h2.1,hC _ _ _ _ h2.2⟩
   |bP v=>exact ⟨.bP v,H',h1,h2⟩
  |cq f fw =>
   have h':=h
   simp only[S6] at h'
   show HO.bu P ev H _ _ (.cq f fw)
   simp only[HO.bu]
   split at h'
   ·rename_i he
    simp only[he]
    obtain ⟨h0,e,H',h1,h2⟩:=h'
    refine ⟨pU h0,e,H',h1,?_⟩
    cases e with
    |ret v=>exact ⟨h2.1,hC _ _ _ _ h2.2⟩
    |bP v=>exact h2
   ·exact h'.elim
  |bP x=>exact h.elim
  |store m a x=>exact HO.jD (P:=P) (K:=fun v H'=>(∀l∈ld,nj A l.1 i=true→Y.find H' l.2=Y.find H l.2)∧C' v H' ld ((i,H,H')::hs)) (Kp:=fun v H'=>ry A n i=true∧Kp v H') (q:=.store m a x) h.1 ⟨h.2.1,hC _ _ _ _ h.2.2⟩
  |ez k ty s x=>exact HO.jD (P:=P) (K:=fun v H'=>(∀l∈ld,nj A l.1 i=true→Y.find H' l.2=Y.find H l.2)∧C' v H' ld ((i,H,H')::hs)) (Kp:=fun v H'=>ry A n i=true∧Kp v H') (q:=.ez k ty s x) h.1 ⟨h.2.1,hC _ _ _ _ h.2.2⟩
  |gx g xs=>exact HO.jD (P:=P) (K:=fun v H'=>(∀l∈ld,nj A l.1 i=true→Y.find H' l.2=Y.find H l.2)∧C' v H' ld ((i,H,H')::hs)) (Kp:=fun v H'=>ry A n i=true∧Kp v H') (q:=.gx g xs) h.1 ⟨h.2.1,hC _ _ _ _ h.2.2⟩
  |alloc z ty=>exact HO.jD (P:=P) (K:=fun v H'=>C' v H' ((i,H.length)::ld) hs) (Kp:=fun _ _=>False) h.1 (hC _ _ _ _ h.2)
  |box k ty x=>exact HO.jD (P:=P) (K:=fun v H'=>C' v H' ((i,H.length)::ld) hs) (Kp:=fun _ _=>False) h.1 (hC _ _ _ _ h.2)
  |kO k ty z ln ps=>exact HO.jD (P:=P) (K:=fun v H'=>C' v H' ((i,H.length)::ld) hs) (Kp:=fun _ _=>False) h.1 (hC _ _ _ _ h.2)
  |jN k ty z l c=>exact HO.jD (P:=P) (K:=fun v H'=>C' v H' ((i,H.length)::ld) hs) (Kp:=fun _ _=>False) h.1 (hC _ _ _ _ h.2)
  |_=>exact HO.jD (P:=P) (K:=fun v H'=>C' v H' ld hs) (Kp:=fun _ _=>False) h.1 (hC _ _ _ _ h.2)
theorem uT{P:Program}{A:List (List Nat)}{n:Nat}{K:List AV→Y→Prop}{Kp:AV→Y→Prop}:∀{l:List cy}{i:Nat}{ts:List AV}{H:Y}{ld:List (Nat×Nat)}{hs:List (Nat×Y×Y)},cY P A n K Kp i l ts H ld hs→pP P A n K Kp i l ts H ld hs
 |[],_,_,_,_,_,h=>h
 |o::r,i,ts,H,ld,hs,h=>lS (fun h=>Ol (fun v H ld hs h=>uT h) h) (fun h=>uT h) h
def ES(P:Program):IC→Post→List AV→Y→Prop
 |.skip,K,ts,H=>K .normal ts H
 |.ops l,K,ts,H=>dj P (K .normal) (fun v ts' H'=>K (.bP v) ts' H') l ts H
 |.di l A,K,ts,H=>cY P A l.length (K .normal) (fun v H'=>K (.bP v) (ko l ts) H') 0 l ts H [] []
 |.seq a b,K,ts,H=>ES P a (kX (ES P b K) K) ts H
 |.cond c a b,K,ts,H=>match c.ev ts with
  |.sc (.bool t)=>(t=true→ES P a K ts H)∧(t=false→ES P b K ts H)
  |.ub=>ES P a K ts H∧ES P b K ts H
  |_=>False
 |.block id c,K,ts,H=>ES P c (mq id K) ts H
 |.loop c,K,ts,H=>∃(I:List AV→Y→Prop)(μ:List AV→Y→Nat),I ts H∧∀ts H,I ts H→ES P c (kX (fun ts' H'=>I ts' H'∧μ ts' H'<μ ts H) K) ts H
 |.exit id,K,ts,H=>K (.exit id) ts H
 |.ret,K,ts,H=>K .ret ts H
 |.yld l1 g y args d l2,K,ts,H=>dj P (fun ig H1=>cI ig (Q4 P (fun v H2=>dj P (K .normal) (fun v ts' H'=>K (.bP v) ts' H') l2 (cz ig d v) H2) (fun v H2=>K (.bP v) ig H2) (args.map (X.ev ig)) H1 (y.ev ig)) (dj P (K .normal) (fun v ts' H'=>K (.bP v) ts' H') l2 (cz ig d (.aO [])) H1) g) (fun v ts' H'=>K (.bP v) ts' H') l1 ts H
 |.rng g ps wz body,K,ts,H=>Km P ps wz body K ts H (g.ev ts)
theorem Df{P:Program}{K K' Kp Dg:AV→Y→Prop}(h1:∀v H,K v H→K' v H)(h2:∀v H,Kp v H→Dg v H){args:List AV}{H:Y}{v:AV}(h:Q4 P K Kp args H v):Q4 P K' Dg args H v:=by
 cases v<;>try exact h.elim
 obtain ⟨h0,e,H',h3,h4⟩:=h
 refine ⟨h0,e,H',h3,?_⟩
 cases e with
 |ret u=>exact h1 _ _ h4
 |bP u=>exact h2 _ _ h4
theorem Om{K K':Post}(hk:∀x ts H,K x ts H→K' x ts H){ts:List AV}{H:Y}{c:Option Code}(h:Q5 K ts H c):Q5 K' ts H c:=by
 unfold Q5 at h ⊢
 split at h<;>first|exact hk _ _ _ h|exact h.elim
theorem Oo{P:Program}{ps:Array Tmp}{wz body:Code}{K K':Post}(hk:∀x ts H,K x ts H→K' x ts H){ts:List AV}{H:Y}{v:AV}(h:Km P ps wz body K ts H v):Km P ps wz body K' ts H v:=by
 unfold Km at h ⊢
 split at h
 ·refine ⟨h.1,fun fn db=>?_⟩
  obtain ⟨v,H',r,ts',g1,g2,g3,g4⟩:=h.2 fn db
  exact ⟨v,H',r,ts',g1,g2,g3,Om hk g4⟩
 ·exact h.elim
theorem gR{P:Program}{K K':List AV→Y→Prop}{Kp Dg:AV→List AV→Y→Prop}(h1:∀ts H,K ts H→K' ts H)(h2:∀v ts H,Kp v ts H→Dg v ts H):∀{l:List cy}{ts:List AV}{H:Y},dj P K Kp l ts H→dj P K' Dg l ts H
 |[],_,_,h=>h1 _ _ h
 |o::r,ts,H,h=>lS (fun h=>Gp (fun v H h=>gR h1 h2 h) (fun v H h=>h2 _ _ _ h) h) (fun h=>gR h1 h2 h) h
theorem S7{P:Program}{A:List (List Nat)}{n i:Nat}{ev:X→AV}{H:Y}{ld:List (Nat×Nat)}{hs:List (Nat×Y×Y)}{C C':AV→Y→List (Nat×Nat)→List (Nat×Y×Y)→Prop}{Kp Dg:AV→Y→Prop}{op:eX}
  (hC:∀v H ld hs,C v H ld hs→C' v H ld hs)(hK:∀v H,Kp v H→Dg v H)(h:S6 P A n i ev H ld hs C Kp op):S6 P A n i ev H ld hs C' Dg op:=by
 cases op with
 |p q=>exact ⟨h.1,hC _ _ _ _ h.2⟩
 |h q =>
  cases q with
  |load m ag a=>exact ⟨h.1,h.2.1,hC _ _ _ _ h.2.2⟩
  |call f fw =>
   obtain ⟨e,H',h1,h2⟩:=h
   cases e with
   |ret v=>exact ⟨.ret v,H',h1,h2.1,hC _ _ _ _ h2.2⟩
   |bP v=>exact ⟨.bP v,H',h1,h2.1,hK _ _ h2.2⟩
  |cq f fw =>
   simp only[S6] at h ⊢
   split at h
   ·obtain ⟨h0,e,H',h1,h2⟩:=h
    refine ⟨h0,e,H',h1,?_⟩
    cases e with
    |ret v=>exact ⟨h2.1,hC _ _ _ _ h2.2⟩
    |bP v=>exact ⟨h2.1,hK _ _ h2.2⟩
   ·exact h.elim
  |bP x=>exact h.elim
  |store m a x=>exact ⟨h.1,h.2.1,hC _ _ _ _ h.2.2⟩
  |ez k ty s x=>exact ⟨h.1,h.2.1,hC _ _ _ _ h.2.2⟩
  |gx g xs=>exact ⟨h.1,h.2.1,hC _ _ _ _ h.2.2⟩
  |_=>exact ⟨h.1,hC _ _ _ _ h.2⟩
theorem uU{P:Program}{A:List (List Nat)}{n:Nat}{K K':List AV→Y→Prop}{Kp Dg:AV→Y→Prop}(h1:∀ts H,K ts H→K' ts H)(h2:∀v H,Kp v H→Dg v H):∀{l:List cy}{i:Nat}{ts:List AV}{H:Y}{ld:List (Nat×Nat)}{hs:List (Nat×Y×Y)},cY P A n K Kp i l ts H ld hs→cY P A n K' Dg i l ts H ld hs
 |[],_,_,_,_,_,h=>h1 _ _ h
 |o::r,i,ts,H,ld,hs,h=>lS (fun h=>S7 (fun v H ld hs h=>uU h1 h2 h) h2 h) (fun h=>uU h1 h2 h) h
theorem Dh{P:Program}:∀{c:IC}{K K':Post},(∀x ts H,K x ts H→K' x ts H)→∀{ts:List AV}{H:Y},ES P c K ts H→ES P c K' ts H:=by
 intro c
 induction c with
 |skip=>intro K K' hk ts H h;exact hk _ _ _ h
 |ops l=>intro K K' hk ts H h;exact gR (fun _ _ h=>hk _ _ _ h) (fun _ _ _ h=>hk _ _ _ h) h
 |di l A=>intro K K' hk ts H h;exact uU (fun _ _ h=>hk _ _ _ h) (fun _ _ h=>hk _ _ _ h) h
 |seq a b yM Aj =>
  intro K K' hk ts H h
  refine yM (fun x ts H h=>?_) h
  cases x<;>first|exact Aj hk h|exact hk _ _ _ h
 |cond c a b yM Aj =>
  intro K K' hk ts H h
  simp only[ES] at h ⊢
  split at h
  ·exact ⟨fun e=>yM hk (h.1 e),fun e=>Aj hk (h.2 e)⟩
  ·exact ⟨yM hk h.1,Aj hk h.2⟩
  ·exact h.elim
 |block id c ih =>
  intro K K' hk ts H h
  refine ih (fun x ts H h=>?_) h
  cases x<;>first|exact hk _ _ _ h|skip
  simp only[mq] at h ⊢
  split at h
  ·rename_i e;rw[if_pos e];exact hk _ _ _ h
  ·rename_i e;rw[if_neg e];exact hk _ _ _ h
 |loop c ih =>
  intro K K' hk ts H h
  obtain ⟨I,μ,h1,h2⟩:=h
  refine ⟨I,μ,h1,fun ts H hI=>ih (fun x ts' H' h=>?_) (h2 ts H hI)⟩
  cases x<;>first|exact h|exact hk _ _ _ h
 |exit id=>intro K K' hk ts H h;exact hk _ _ _ h
 |ret=>intro K K' hk ts H h;exact hk _ _ _ h
 |yld l1 g y args d l2=>intro K K' hk ts H h;exact gR (fun _ _ h=>lS (fun h=>Df (fun _ _ h=>gR (fun _ _ h=>hk _ _ _ h) (fun _ _ _ h=>hk _ _ _ h) h) (fun _ _ h=>hk _ _ _ h) h) (fun h=>gR (fun _ _ h=>hk _ _ _ h) (fun _ _ _ h=>hk _ _ _ h) h) h) (fun _ _ _ h=>hk _ _ _ h) h
 |rng g ps wz body=>intro K K' hk ts H h;exact Oo hk h
theorem Kw{P:Program}:∀{c:IC}{K:Post}{ts:List AV}{H:Y},ES P c K ts H→E P c K ts H:=by
 intro c
 induction c with
 |skip=>intro K ts H h;exact h
 |ops l=>intro K ts H h;exact iY h
 |di l A=>intro K ts H h;exact uT h
 |seq a b yM Aj =>
  intro K ts H h
  refine yM (Dh (fun x ts H h=>?_) h)
  cases x<;>first|exact Aj h|exact h
 |cond c a b yM Aj =>
  intro K ts H h
  simp only[ES,E] at h ⊢
  split at h
  ·rename_i he;simp only[he];exact ⟨fun e=>yM (h.1 e),fun e=>Aj (h.2 e)⟩
  ·rename_i he;simp only[he];exact ⟨yM h.1,Aj h.2⟩
  ·exact h.elim
 |block id c ih=>intro K ts H h;exact ih h
 |loop c ih =>
  intro K ts H h
  obtain ⟨I,μ,h1,h2⟩:=h
  exact ⟨I,μ,h1,fun ts H hI=>ih (h2 ts H hI)⟩
 |exit id=>intro K ts H h;exact h
 |ret=>intro K ts H h;exact h
 |yld l1 g y args d l2=>intro K ts H h;exact iY (gR (fun _ _ h=>lS (fun h=>Df (fun _ _ h=>iY h) (fun _ _ h=>h) h) (fun h=>iY h) h) (fun _ _ _ h=>h) h)
 |rng g ps wz body=>intro K ts H h;exact h
def IA(want:Bool)(yes no:Prop):AV→Prop
 |.sc (.bool b)=>(b=want→yes)∧(b≠want→no)
 |.aO _=>no
 |_=>False
theorem Gq{ts:List AV}{yes no:Prop}{g:Nat}{want:Bool}:cI ts yes no (some (g,want))=IA want yes no (ts.getD g .top):=by
 simp only[cI]
 generalize ts.getD g .top=v
 cases v with
 |sc v=>cases v<;>rfl
 |_=>rfl
def xg(P:Program)(K:List AV→Y→Prop)(Kp:AV→List AV→Y→Prop)(d:Option Nat)(f:FuncId)(args:List AV)(r:List cy)(ts:List AV)(H:Y):Prop :=
 DK P f args H (fun e H'=>cH.post (fun v H'=>dj P K Kp r (cz ts d v) H') (fun v H'=>Kp v ts H') H' e)
theorem ae{P:Program}{K:List AV→Y→Prop}{Kp:AV→List AV→Y→Prop}{d:Option Nat}{f:FuncId}{args:List AV}{r:List cy}{ts:List AV}{H H':Y}{v:AV}(h:D P f args H (.ret v) H')(hk:dj P K Kp r (cz ts d v) H'):xg P K Kp d f args r ts H:=h.dk.mono fun e H1 _ ⟨h1,h2⟩=>by subst h1 h2;exact hk
theorem pV{P:Program}{K:List AV→Y→Prop}{Kp:AV→List AV→Y→Prop}{d:Option Nat}{f:FuncId}{args:List AV}{r:List cy}{ts:List AV}{H H':Y}{v:AV}(h:D P f args H (.bP v) H')(hk:Kp v ts H'):xg P K Kp d f args r ts H:=h.dk.mono fun e H1 _ ⟨h1,h2⟩=>by subst h1 h2;exact hk
theorem jt{P:Program}{K:List AV→Y→Prop}{Kp:AV→List AV→Y→Prop}{d:Option Nat}{f:FuncId}{args:List AV}{r:List cy}{ts:List AV}{H:Y}{Kr:cH→Y→Prop}(h:DK P f args H Kr)(hk:∀e H',H.length≤H'.length→Kr e H'→cH.post (fun v H'=>dj P K Kp r (cz ts d v) H') (fun v H'=>Kp v ts H') H' e):xg P K Kp d f args r ts H:=h.mono hk
theorem gp{P:Program}{K:List AV→Y→Prop}{Kp:AV→List AV→Y→Prop}{d:Option Nat}{f:FuncId}{args:List AV}{r:List cy}{ts:List AV}{H:Y}{Q:AV→Y→Prop}(h:DK P f args H (fun e H'=>∃v,e = .ret v∧Q v H'))(hk:∀v H',H.length≤H'.length→Q v H'→dj P K Kp r (cz ts d v) H'):xg P K Kp d f args r ts H:=h.mono fun e H' hl ⟨v,he,hq⟩=>by subst he;exact hk v H' hl hq
def Oq(P:Program)(K:List AV→Y→Prop)(Kp:AV→List AV→Y→Prop)(d:Option Nat)(f:AV)(args:List AV)(r:List cy)(ts:List AV)(H:Y):Prop :=
 match f with
 |.fn (.func g) a b=>cr P g=true∧xg P K Kp d g (a++args++b) r ts H
 |_=>False
def wJ(P:Program)(K:List AV→Y→Prop)(Kp:AV→List AV→Y→Prop)(d:Option Nat)(op:eX)(want:Bool)(r:List cy)(ts:List AV)(H:Y)(v:AV):Prop :=
 match v with
 |.sc (.bool b)=>(b=want→dj P K Kp (⟨d,none,op⟩::r) ts H)∧(b≠want→dj P K Kp r (cz ts d (.aO [])) H)
 |.aO _=>dj P K Kp r (cz ts d (.aO [])) H
 |_=>False
section
variable {P:Program}{K:List AV→Y→Prop}{Kp:AV→List AV→Y→Prop}{d:Option Nat}{r:List cy}{ts:List AV}{H:Y}
theorem S8:dj P K Kp [] ts H=K ts H:=rfl
theorem aa7{q:PO}:dj P K Kp (⟨d,none,.p q⟩::r) ts H=(q.ok (X.ev ts)∧dj P K Kp r (cz ts d (q.val (X.ev ts))) H):=rfl
theorem Ot{n:Nat}{ag:Bool}{a:X}:dj P K Kp (⟨d,none,.h (.load n ag a)⟩::r) ts H=(wH H n ag (a.ev ts)∧dj P K Kp r (cz ts d (Fq H n ag (a.ev ts))) H):=rfl
theorem Kx{z:AV}{ty:TypeId}:dj P K Kp (⟨d,none,.h (.alloc z ty)⟩::r) ts H=dj P K Kp r (cz ts d (.ptr z.az H.length 0 0)) (some ⟨z.az,[z],true,ty⟩::H):=by
 show (True∧_)=_;rw[true_and];rfl
theorem S9{k:Nat}{ty:TypeId}{x:X}:dj P K Kp (⟨d,none,.h (.box k ty x)⟩::r) ts H=(((x.ev ts).bT=false∧(x.ev ts).az=k)∧dj P K Kp r (cz ts d (.ptr k H.length 0 0)) (some ⟨k,[x.ev ts],true,ty⟩::H)):=rfl
theorem Ta{k:Nat}{ty:TypeId}{z:AV}{ln:Nat}{ps:List (Nat×X)}:dj P K Kp (⟨d,none,.h (.ep k ty z ln ps)⟩::r) ts H=(nq (X.ev ts) k (List.replicate ln z) ps∧dj P K Kp r (cz ts d (.am k (rU (X.ev ts) (List.replicate ln z) ps) (some []))) H):=rfl
theorem Ou{k:Nat}{ty:TypeId}{z:AV}{ln:Nat}{ps:List (Nat×X)}:dj P K Kp (⟨d,none,.h (.kO k ty z ln ps)⟩::r) ts H=(nq (X.ev ts) k (List.replicate ln z) ps∧dj P K Kp r (cz ts d (.aD k H.length 0 ln (some ln))) (some ⟨k,rU (X.ev ts) (List.replicate ln z) ps,true,ty⟩::H)):=rfl
theorem Ky{n:Nat}{a x:X}:dj P K Kp (⟨d,none,.h (.store n a x)⟩::r) ts H=(Bp H n (a.ev ts) (x.ev ts)∧dj P K Kp r (cz ts d .top) (yL H (a.ev ts) (x.ev ts))):=rfl
theorem Ov{k:Nat}{ty:TypeId}{z:AV}{l c:X}:dj P K Kp (⟨d,none,.h (.jN k ty z l c)⟩::r) ts H=((qQ (l.ev ts)∧qQ (c.ev ts)∧0≤aM (l.ev ts)∧aM (l.ev ts)≤aM (c.ev ts)∧aM (c.ev ts)≤100000000)∧dj P K Kp r (cz ts d (.aD k H.length 0 (aM (l.ev ts)).toNat (some (aM (c.ev ts)).toNat))) (some ⟨k,List.replicate (aM (c.ev ts)).toNat z,true,ty⟩::H)):=rfl
theorem W5{g:GX}{xs:List X}:dj P K Kp (⟨d,none,.h (.gx g xs)⟩::r) ts H=(g.ok H (xs.map (X.ev ts))∧dj P K Kp r (cz ts d (g.val H (xs.map (X.ev ts)))) (g.heap H (xs.map (X.ev ts)))):=rfl
theorem Tb{kd:NS}{x:X}:dj P K Kp (⟨d,none,.h (.rP kd x)⟩::r) ts H=NT (fun v H'=>dj P K Kp r (cz ts d v) H') H kd (x.ev ts):=rfl
theorem Tc{k:Nat}{ty:TypeId}{s x:X}:dj P K Kp (⟨d,none,.h (.ez k ty s x)⟩::r) ts H=((wI H k (x.ev ts)∧gQ H k ty (pc H (x.ev ts)) (s.ev ts))∧dj P K Kp r (cz ts d (lC H k (pc H (x.ev ts)) (s.ev ts))) (jy H k ty (pc H (x.ev ts)) (s.ev ts))):=rfl
theorem Ow{f:FuncId}{fw:List X}:dj P K Kp (⟨d,none,.h (.call f fw)⟩::r) ts H=xg P K Kp d f (fw.map (X.ev ts)) r ts H:=rfl
theorem Kz{f:X}{fw:List X}:dj P K Kp (⟨d,none,.h (.cq f fw)⟩::r) ts H=Oq P K Kp d (f.ev ts) (fw.map (X.ev ts)) r ts H:=by
 show (match f.ev ts with
  |.fn (.func g) a b=>cr P g=true∧DK P g (a++fw.map (X.ev ts)++b) H (fun e H'=>cH.post _ _ H' e)
  | _=>False)=_
 unfold Oq
 cases f.ev ts<;>rfl
theorem KA{g:FuncId}{a b fw:List AV}:Oq P K Kp d (.fn (.func g) a b) fw r ts H=(cr P g=true∧xg P K Kp d g (a++fw++b) r ts H):=rfl
theorem Td{g:Nat}{want:Bool}{op:eX}:dj P K Kp (⟨d,some (g,want),op⟩::r) ts H=wJ P K Kp d op want r ts H (ts.getD g .top):=by
 have hg:∀{yes no:Prop}{v:AV},IA want yes no v=(match v with
  |.sc (.bool b)=>(b=want→yes)∧(b≠want→no)
  |.aO _=>no
  | _=>False):=fun {_ _} {v}=>by cases v<;>rfl
 exact Gq.trans hg
theorem W6{op:eX}:wJ P K Kp d op true r ts H (.sc (.bool true))=dj P K Kp (⟨d,none,op⟩::r) ts H:=by simp[wJ]
theorem W7{op:eX}:wJ P K Kp d op false r ts H (.sc (.bool false))=dj P K Kp (⟨d,none,op⟩::r) ts H:=by simp[wJ]
theorem W8{op:eX}:wJ P K Kp d op true r ts H (.sc (.bool false))=dj P K Kp r (cz ts d (.aO [])) H:=by simp[wJ]
theorem W9{op:eX}:wJ P K Kp d op false r ts H (.sc (.bool true))=dj P K Kp r (cz ts d (.aO [])) H:=by simp[wJ]
theorem Te{op:eX}{want:Bool}{vs:List AV}:wJ P K Kp d op want r ts H (.aO vs)=dj P K Kp r (cz ts d (.aO [])) H:=rfl
end
def Di(P:Program)(A:List (List Nat))(n:Nat)(K:List AV→Y→Prop)(Kp:AV→Y→Prop)(i:Nat)(d:Option Nat)(f:FuncId)(args:List AV)(r:List cy)(ts:List AV)(H:Y)(ld:List (Nat×Nat))(hs:List (Nat×Y×Y)):Prop :=
 ∃e H',D P f args H e H'∧cH.post (fun v H'=>sX A i ld H H'∧cY P A n K Kp (i+1) r (cz ts d v) H' ld ((i,H,H')::hs)) (fun v H'=>ry A n i=true∧Kp v H') H' e
def Ox(P:Program)(A:List (List Nat))(n:Nat)(K:List AV→Y→Prop)(Kp:AV→Y→Prop)(i:Nat)(d:Option Nat)(f:AV)(args:List AV)(r:List cy)(ts:List AV)(H:Y)(ld:List (Nat×Nat))(hs:List (Nat×Y×Y)):Prop :=
 match f with
 |.fn (.func g) a b=>cr P g=true∧Di P A n K Kp i d g (a++args++b) r ts H ld hs
 |_=>False
def wK(P:Program)(A:List (List Nat))(n:Nat)(K:List AV→Y→Prop)(Kp:AV→Y→Prop)(i:Nat)(d:Option Nat)(op:eX)(want:Bool)(r:List cy)(ts:List AV)(H:Y)(ld:List (Nat×Nat))(hs:List (Nat×Y×Y))(v:AV):Prop :=
 match v with
 |.sc (.bool b)=>(b=want→cY P A n K Kp i (⟨d,none,op⟩::r) ts H ld hs)∧(b≠want→cY P A n K Kp (i+1) r (cz ts d (.aO [])) H ld hs)
 |.aO _=>cY P A n K Kp (i+1) r (cz ts d (.aO [])) H ld hs
 |_=>False
section
variable {P:Program}{A:List (List Nat)}{n i:Nat}{K:List AV→Y→Prop}{Kp:AV→Y→Prop}{d:Option Nat}{r:List cy}{ts:List AV}{H:Y}{ld:List (Nat×Nat)}{hs:List (Nat×Y×Y)}
theorem sY{f:FuncId}{args:List AV}{H':Y}{v:AV}(h:D P f args H (.ret v) H')(hc:sX A i ld H H')(hk:cY P A n K Kp (i+1) r (cz ts d v) H' ld ((i,H,H')::hs)):Di P A n K Kp i d f args r ts H ld hs:=⟨_,_,h,hc,hk⟩
theorem Tf:sX A i ld H H=True:=by simp[sX]
theorem aL{f:FuncId}{args:List AV}{v:AV}(h:D P f args H (.ret v) H)(hk:cY P A n K Kp (i+1) r (cz ts d v) H ld ((i,H,H)::hs)):Di P A n K Kp i d f args r ts H ld hs:=⟨_,_,h,by simp[sX],hk⟩
theorem Oy:cY P A n K Kp i [] ts H ld hs=K ts H:=rfl
theorem Xa{q:PO}:cY P A n K Kp i (⟨d,none,.p q⟩::r) ts H ld hs=(q.ok (X.ev ts)∧cY P A n K Kp (i+1) r (cz ts d (q.val (X.ev ts))) H ld hs):=rfl
theorem KB{m:Nat}{ag:Bool}{a:X}:cY P A n K Kp i (⟨d,none,.h (.load m ag a)⟩::r) ts H ld hs=(BT A i hs (a.ev ts)∧wH H m ag (a.ev ts)∧cY P A n K Kp (i+1) r (cz ts d (Fq H m ag (a.ev ts))) H (W4 i ld (a.ev ts)) hs):=rfl
theorem IB{z:AV}{ty:TypeId}:cY P A n K Kp i (⟨d,none,.h (.alloc z ty)⟩::r) ts H ld hs=cY P A n K Kp (i+1) r (cz ts d (.ptr z.az H.length 0 0)) (some ⟨z.az,[z],true,ty⟩::H) ((i,H.length)::ld) hs:=by
 show (True∧_)=_;rw[true_and];rfl
theorem Oz{k:Nat}{ty:TypeId}{x:X}:cY P A n K Kp i (⟨d,none,.h (.box k ty x)⟩::r) ts H ld hs=(((x.ev ts).bT=false∧(x.ev ts).az=k)∧cY P A n K Kp (i+1) r (cz ts d (.ptr k H.length 0 0)) (some ⟨k,[x.ev ts],true,ty⟩::H) ((i,H.length)::ld) hs):=rfl
theorem OA{k:Nat}{ty:TypeId}{z:AV}{ln:Nat}{ps:List (Nat×X)}:cY P A n K Kp i (⟨d,none,.h (.ep k ty z ln ps)⟩::r) ts H ld hs=(nq (X.ev ts) k (List.replicate ln z) ps∧cY P A n K Kp (i+1) r (cz ts d (.am k (rU (X.ev ts) (List.replicate ln z) ps) (some []))) H ld hs):=rfl
theorem KC{k:Nat}{ty:TypeId}{z:AV}{ln:Nat}{ps:List (Nat×X)}:cY P A n K Kp i (⟨d,none,.h (.kO k ty z ln ps)⟩::r) ts H ld hs=(nq (X.ev ts) k (List.replicate ln z) ps∧cY P A n K Kp (i+1) r (cz ts d (.aD k H.length 0 ln (some ln))) (some ⟨k,rU (X.ev ts) (List.replicate ln z) ps,true,ty⟩::H) ((i,H.length)::ld) hs):=rfl
theorem IE{m:Nat}{a x:X}:cY P A n K Kp i (⟨d,none,.h (.store m a x)⟩::r) ts H ld hs=(Bp H m (a.ev ts) (x.ev ts)∧sX A i ld H (yL H (a.ev ts) (x.ev ts))∧cY P A n K Kp (i+1) r (cz ts d .top) (yL H (a.ev ts) (x.ev ts)) ld ((i,H,yL H (a.ev ts) (x.ev ts))::hs)):=rfl
theorem KD{k:Nat}{ty:TypeId}{z:AV}{l c:X}:cY P A n K Kp i (⟨d,none,.h (.jN k ty z l c)⟩::r) ts H ld hs=((qQ (l.ev ts)∧qQ (c.ev ts)∧0≤aM (l.ev ts)∧aM (l.ev ts)≤aM (c.ev ts)∧aM (c.ev ts)≤100000000)∧cY P A n K Kp (i+1) r (cz ts d (.aD k H.length 0 (aM (l.ev ts)).toNat (some (aM (c.ev ts)).toNat))) (some ⟨k,List.replicate (aM (c.ev ts)).toNat z,true,ty⟩::H) ((i,H.length)::ld) hs):=rfl
theorem Tg{g:GX}{xs:List X}:cY P A n K Kp i (⟨d,none,.h (.gx g xs)⟩::r) ts H ld hs=(g.ok H (xs.map (X.ev ts))∧sX A i ld H (g.heap H (xs.map (X.ev ts)))∧cY P A n K Kp (i+1) r (cz ts d (g.val H (xs.map (X.ev ts)))) (g.heap H (xs.map (X.ev ts))) ld ((i,H,g.heap H (xs.map (X.ev ts)))::hs)):=rfl
theorem OB{k:Nat}{ty:TypeId}{s x:X}:cY P A n K Kp i (⟨d,none,.h (.ez k ty s x)⟩::r) ts H ld hs=((wI H k (x.ev ts)∧gQ H k ty (pc H (x.ev ts)) (s.ev ts))∧sX A i ld H (jy H k ty (pc H (x.ev ts)) (s.ev ts))∧cY P A n K Kp (i+1) r (cz ts d (lC H k (pc H (x.ev ts)) (s.ev ts))) (jy H k ty (pc H (x.ev ts)) (s.ev ts)) ld ((i,H,jy H k ty (pc H (x.ev ts)) (s.ev ts))::hs)):=rfl
theorem KE{f:FuncId}{fw:List X}:cY P A n K Kp i (⟨d,none,.h (.call f fw)⟩::r) ts H ld hs=Di P A n K Kp i d f (fw.map (X.ev ts)) r ts H ld hs:=rfl
theorem IG{f:X}{fw:List X}:cY P A n K Kp i (⟨d,none,.h (.cq f fw)⟩::r) ts H ld hs=Ox P A n K Kp i d (f.ev ts) (fw.map (X.ev ts)) r ts H ld hs:=by
 show (match f.ev ts with
  |.fn (.func g) a b=>cr P g=true∧∃e H',D P g (a++fw.map (X.ev ts)++b) H e H'∧cH.post _ _ H' e
  | _=>False)=_
 unfold Ox
 cases f.ev ts<;>rfl
theorem KF{g:FuncId}{a b fw:List AV}:Ox P A n K Kp i d (.fn (.func g) a b) fw r ts H ld hs=(cr P g=true∧Di P A n K Kp i d g (a++fw++b) r ts H ld hs):=rfl
theorem OC{g:Nat}{want:Bool}{op:eX}:cY P A n K Kp i (⟨d,some (g,want),op⟩::r) ts H ld hs=wK P A n K Kp i d op want r ts H ld hs (ts.getD g .top):=by
 have hg:∀{yes no:Prop}{v:AV},IA want yes no v=(match v with
  |.sc (.bool b)=>(b=want→yes)∧(b≠want→no)
  |.aO _=>no
  | _=>False):=fun {_ _} {v}=>by cases v<;>rfl
 exact Gq.trans hg
theorem Xb{op:eX}:wK P A n K Kp i d op true r ts H ld hs (.sc (.bool true))=cY P A n K Kp i (⟨d,none,op⟩::r) ts H ld hs:=by simp[wK]
theorem Xc{op:eX}:wK P A n K Kp i d op false r ts H ld hs (.sc (.bool false))=cY P A n K Kp i (⟨d,none,op⟩::r) ts H ld hs:=by simp[wK]
theorem Xd{op:eX}:wK P A n K Kp i d op true r ts H ld hs (.sc (.bool false))=cY P A n K Kp (i+1) r (cz ts d (.aO [])) H ld hs:=by simp[wK]
theorem Xe{op:eX}:wK P A n K Kp i d op false r ts H ld hs (.sc (.bool true))=cY P A n K Kp (i+1) r (cz ts d (.aO [])) H ld hs:=by simp[wK]
theorem Th{op:eX}{want:Bool}{vs:List AV}:wK P A n K Kp i d op want r ts H ld hs (.aO vs)=cY P A n K Kp (i+1) r (cz ts d (.aO [])) H ld hs:=rfl
end
def Ak(P:Program)(a b:IC)(K:Post)(ts:List AV)(H:Y)(v:AV):Prop :=
 match v with
 |.sc (.bool t)=>(t=true→ES P a K ts H)∧(t=false→ES P b K ts H)
 |.ub=>ES P a K ts H∧ES P b K ts H
 |_=>False
section
variable {P:Program}{K:Post}{ts:List AV}{H:Y}
theorem Xf:ES P .skip K ts H=K .normal ts H:=rfl
theorem aa8{l:List cy}:ES P (.ops l) K ts H=dj P (K .normal) (fun v ts' H'=>K (.bP v) ts' H') l ts H:=rfl
theorem Xg{l:List cy}{A:List (List Nat)}:ES P (.di l A) K ts H=cY P A l.length (K .normal) (fun v H'=>K (.bP v) (ko l ts) H') 0 l ts H [] []:=rfl
theorem Rf{a b:IC}:ES P (.seq a b) K ts H=ES P a (kX (ES P b K) K) ts H:=rfl
theorem KG{c:X}{a b:IC}:ES P (.cond c a b) K ts H=Ak P a b K ts H (c.ev ts):=by
 simp only[ES]
 generalize c.ev ts=v
 cases v with
 |sc v=>cases v<;>rfl
 |_=>rfl
theorem Gr{id:Nat}{c:IC}:ES P (.block id c) K ts H=ES P c (mq id K) ts H:=rfl
theorem Xh{id:Nat}:ES P (.exit id) K ts H=K (.exit id) ts H:=rfl
theorem aa9:ES P .ret K ts H=K .ret ts H:=rfl
theorem KH{a b:IC}:Ak P a b K ts H (.sc (.bool true))=ES P a K ts H:=by simp[Ak]
theorem KI{a b:IC}:Ak P a b K ts H (.sc (.bool false))=ES P b K ts H:=by simp[Ak]
theorem dz{a b:IC}{p:Prop} [Decidable p](h1:p→ES P a K ts H)(h2:¬p→ES P b K ts H):Ak P a b K ts H (.sc (.bool (decide p))):=⟨fun e=>h1 (of_decide_eq_true e),fun e=>h2 (of_decide_eq_false e)⟩
theorem Xi{next:List AV→Y→Prop}:kX next K .normal ts H=next ts H:=rfl
theorem Xj{next:List AV→Y→Prop}{i:Nat}:kX next K (.exit i) ts H=K (.exit i) ts H:=rfl
theorem Xk{next:List AV→Y→Prop}:kX next K .ret ts H=K .ret ts H:=rfl
theorem Xl{next:List AV→Y→Prop}{v:AV}:kX next K (.bP v) ts H=K (.bP v) ts H:=rfl
theorem Ti{id:Nat}:mq id K .normal ts H=K .normal ts H:=rfl
theorem Gs{id i:Nat}:mq id K (.exit i) ts H=if i=id then K .normal ts H else K (.exit i) ts H:=rfl
theorem Tj{id:Nat}:mq id K .ret ts H=K .ret ts H:=rfl
theorem Tk{id:Nat}{v:AV}:mq id K (.bP v) ts H=K (.bP v) ts H:=rfl
theorem Dj{c:IC}(I:List AV→Y→Prop)(μ:List AV→Y→Nat)(h0:I ts H)(h:∀ts H,I ts H→ES P c (kX (fun ts' H'=>I ts' H'∧μ ts' H'<μ ts H) K) ts H):ES P (.loop c) K ts H:=⟨I,μ,h0,h⟩
end
def iZ:List RV→List AV→Y→Prop
 |[],_,_=>True
 |.t _::r,ts,H=>iZ r ts H
 | .c a n ag::r,ts,H=>(match ts.getD a .top with
  |.ptr k id j f=>wH H n ag (.ptr k id j f)
  | _=>False)∧iZ r ts H
def kQ:List RV→List AV→Y→List AV
 |[],_,_=>[]
 |.t n::r,ts,H=>ts.getD n .top::kQ r ts H
 |.c a n ag::r,ts,H=>Fq H n ag (ts.getD a .top)::kQ r ts H
theorem uV:∀{rs:List RV}{ts:List AV}{H:Y}{K:List AV→Prop},iZ rs ts H→K (kQ rs ts H)→uN rs ts H K
 |[],_,_,_,_,hk=>hk
 |.t n::r,ts,H,K,h,hk=>uV (rs:=r) h hk
 |.c a n ag::r,ts,H,K,h,hk=>by
  obtain ⟨h1,h2⟩:=h
  simp only[kQ] at hk
  simp only[uN]
  cases he:ts.getD a .top<;>rw[he] at h1 hk<;>try exact h1.elim
  simp only[wH,Fq] at h1 hk
  cases hf:Y.find H _ with
  |none=>rw[hf] at h1;exact h1.elim
  |some blk =>
   rw[hf] at h1 hk
   exact ⟨blk,_,hf,uR h1.2.1,⟨h1.1,h1.2.2⟩,uV h2 hk⟩
def sZ(rs:List RV)(Kr:cH→Y→Prop):Post
 |.normal,ts,H=>iZ rs ts H∧Kr (.ret (oneOf (kQ rs ts H))) H
 |.ret,ts,H=>iZ rs ts H∧Kr (.ret (oneOf (kQ rs ts H))) H
 |.bP v,ts,H=>Kr (.bP v) H
 |.exit _,_,_=>False
theorem mu{rs:List RV}{Kr:cH→Y→Prop}:∀x ts H,sZ rs Kr x ts H→Af rs Kr x ts H
 |.normal,_,_,h=>uV h.1 h.2
 |.ret,_,_,h=>uV h.1 h.2
 |.bP _,_,_,h=>h
 |.exit _,_,_,h=>h
section
variable {rs:List RV}{Kr:cH→Y→Prop}{ts:List AV}{H:Y}
theorem Xm:sZ rs Kr .normal ts H=(iZ rs ts H∧Kr (.ret (oneOf (kQ rs ts H))) H):=rfl
theorem Xn:sZ rs Kr .ret ts H=(iZ rs ts H∧Kr (.ret (oneOf (kQ rs ts H))) H):=rfl
theorem Xo{v:AV}:sZ rs Kr (.bP v) ts H=Kr (.bP v) H:=rfl
end
theorem aA{P:Program}{ic:IC}{rs:List RV}{Kr:cH→Y→Prop}{ts:List AV}{H:Y}(h:ES P ic (sZ rs Kr) ts H):E P ic (Af rs Kr) ts H:=Kw (Dh mu h)
theorem wrap_i64{n:Int}(h1 : -9223372036854775808≤n)(h2:n≤9223372036854775807):IntKind.i64.wrap n=n:=by
 unfold IntKind.wrap
 simp[IntKind.signed,IntKind.bits]
 omega
def gS:aU:=fun _=>none
abbrev O0:Nat→Prop:=Own gS []
theorem tP{b:Nat}:¬Own gS [] b:=by rintro ⟨id,blk,h,_⟩;simp[gS] at h
theorem Rg{w:World}(hg:BM gS [] w):Rel gS [] w:=⟨hg,fun id b h=>by simp[gS] at h,fun i j b h=>by simp[gS] at h,fun id b k h=>by simp[gS] at h⟩
section
variable {φ:aU}{O:Nat→Prop}{w:World}
theorem uW{l:List AV}{g g':Nat→Option Value}(h:∀i v,g i=some v→g' i=some v)(hr:Rs φ O w l g):Rs φ O w l g' :=
 jq (ok:=fun _=>True) Later.refl l g g' (AV.cO l) h hr
theorem aba{l m:List AV}:∀{g:Nat→Option Value},Rs φ O w l g→Rs φ O w m (fun i=>g (l.length+i))→Rs φ O w (l++m) g:=by
 induction l with
 |nil=>intro g _ h;simpa using h
 |cons x r ih =>
  intro g h1 h2
  refine ⟨h1.1,h1.2.1,h1.2.2.1,ih h1.2.2.2 ?_⟩
  refine uW (fun i v hv=>?_) h2
  rw[←hv]
  show g _=g _
  congr 1
  simp only[List.length_cons]
  omega
theorem yN{x:AV}{g:Nat→Option Value}(ha:x.isAgg=false){u:Value}(hu:g 0=some u)(h1:u.oneCell'=true)(hr:R φ O w x g):Rs φ O w x.cells g:=by
 have:x.cells=[x]:=by cases x<;>first|rfl|(simp[AV.isAgg] at ha)
 rw[this]
 exact ⟨ha,hr,⟨u,hu,h1⟩,trivial⟩
theorem Dl{b k:Nat}:∀{l:List AV}{off:Nat},(∀i x,l[i]? = some x→x.az=k∧Rs φ O w x.cells (cX w b (off+i*k)))→Rl φ O w b k l off
 |[],_,_=>trivial
 |x::r,off,h=>by
  obtain ⟨h1,h2⟩:=h 0 x rfl
  have h3:=yf (r:=[]) (by rw[List.append_nil];exact h2)
  simp only[Nat.zero_mul,Nat.add_zero] at h3
  refine ⟨h1,h3.2,h3.1,Dl fun i y hy=>?_⟩
  have:=h (i+1) y (by simpa using hy)
  rw[Nat.add_mul,Nat.one_mul,Nat.add_comm (i*k) k,←Nat.add_assoc] at this
  exact this
end
inductive pW{α β:Type}(p:α→β→Prop):List α→List β→Prop where
 | nil:pW p [] []
 | cons {a:α}{b:β}{r:List α}{s:List β}:p a b→pW p r s→pW p (a::r) (b::s)
theorem pW.length{α β:Type}{p:α→β→Prop}{l:List α}{m:List β}(h:pW p l m):l.length=m.length:=by
 induction h with
 |nil=>rfl
 |cons _ _ ih=>simp[ih]
theorem pW.Rh{α β:Type}{p:α→β→Prop}:∀{l:List α}{m:List β},l.length=m.length→(∀(i:Nat)(a:α)(b:β),l[i]? = some a→m[i]? = some b→p a b)→pW p l m
 |[],[],_,_=>.nil
 |[],_::_,h,_=>by simp at h
 |_::_,[],h,_=>by simp at h
 |a::r,b::s,h,hp=>.cons (hp 0 a b rfl rfl) (pW.Rh (by simpa using h) fun i x y hx hy=>hp (i+1) x y (by simpa using hx) (by simpa using hy))
theorem pW.mono{α β:Type}{p q:α→β→Prop}(hq:∀a b,p a b→q a b){l:List α}{m:List β}(h:pW p l m):pW q l m:=by
 induction h with
 |nil=>exact .nil
 |cons h1 _ ih=>exact .cons (hq _ _ h1) ih
theorem KJ{α:Type}{p:Nat→α→Prop}:∀(n:Nat),(∀i,i<n→∃a,p i a)→∃l:List α,l.length=n∧∀i a,l[i]? = some a→p i a
 |0,_=>⟨[],rfl,fun i a h=>by simp at h⟩
 |n+1,h=>by
  obtain ⟨l,h1,h2⟩:=KJ n fun i hi=>h i (by omega)
  obtain ⟨a,ha⟩:=h n (by omega)
  refine ⟨l++[a],by simp[h1],fun i x hx=>?_⟩
  by_cases e:i<l.length
  ·rw[List.getElem?_append_left e] at hx
   exact h2 i x hx
  ·rw[List.getElem?_append_right (by omega)] at hx
   have:i-l.length=0:=by
    have:=(List.getElem?_eq_some_iff.1 hx).1
    simp at this
    omega
   rw[this] at hx
   simp at hx
   subst hx
   have:i=n:=by omega
   rw[this]
   exact ha
section
variable {Hh:Type}{enc:TypeId×Value→Hh}{P:Program}{w:World}{n:Nat}{t:TypeId}
def jh(enc:TypeId×Value→Hh)(P:Program)(w:World)(n:Nat)(t:TypeId){α:Type}(en:α→AV)(good:α→DataW Hh→Prop):Prop :=
 ∀cs d ps,DataW.trod enc P w 0 (fun _=>true) true n t cs=some (d,ps)→∃a,cs.length=(en a).az∧Rs gS O0 w (en a).cells (fun i=>cs[i]?)∧good a d
def uX(enc:TypeId×Value→Hh)(P:Program)(w:World)(n:Nat)(off:Nat)(fs:List Field){α:Type}(en:α→List AV)(good:α→List (DataW Hh)→Prop):Prop :=
 ∀(cs:List Value)(xs:List (DataW Hh×List MemPlace)),xs.length=fs.length→(∀(i:Nat)(f:Field),fs[i]? = some f→DataW.trod enc P w 0 (fun _=>true) true n f.type ((cs.drop f.offset).take (P.cellsOf f.type))=xs[i]?)→
  ∃a,Rs gS O0 w (en a) (fun i=>cs[off+i]?)∧good a (xs.map (·.1))
theorem jh.zero{α:Type}{en:α→AV}{good:α→DataW Hh→Prop}:jh enc P w 0 t en good:=fun cs d ps h=>by simp[DataW.trod] at h
theorem jh.map{α β:Type}{en:α→AV}{good:α→DataW Hh→Prop}(h:jh enc P w n t en good)(f:α→β){en':β→AV}{Xp:β→DataW Hh→Prop}(he:∀a d,good a d→en' (f a)=en a∧Xp (f a) d):jh enc P w n t en' Xp:=by
 intro cs d ps hd
 obtain ⟨a,h1,h2,h3⟩:=h cs d ps hd
 obtain ⟨h4,h5⟩:=he a d h3
 exact ⟨f a,by rw[h4];exact h1,by rw[h4];exact h2,h5⟩
theorem jh.int{k:IntKind}(ht:P.underlying t=some (.int k)):jh enc P w n t (fun i:Int=>.sc (.int k i)) (fun i d=>d = .lit (.int k i)∧(Lit.int k i).wf=true):=by
 intro cs d ps h
 obtain ⟨a,rfl,h2,h3⟩:=DataW.trod_int ht h
 cases h2
 exact ⟨a,rfl,yN rfl (u:=.int k a) rfl rfl rfl,rfl,h3⟩
theorem jh.bool(ht:P.underlying t=some .bool):jh enc P w n t (fun i:Bool=>.sc (.bool i)) (fun i d=>d = .lit (.bool i)):=by
 intro cs d ps h
 obtain ⟨a,rfl,h2⟩:=DataW.trod_bool ht h
 cases h2
 exact ⟨a,rfl,yN rfl (u:=.bool a) rfl rfl rfl,rfl⟩
theorem jh.str(ht:P.underlying t=some .string):jh enc P w n t (fun s:ByteArray=>.sc (.string s)) (fun s d=>d = .lit (.string s.data.toList)):=by
 intro cs d ps h
 obtain ⟨a,rfl,h2,_⟩:=DataW.trod_string ht h
 cases h2
 exact ⟨a,rfl,yN rfl (u:=.string a) rfl rfl rfl,rfl⟩
theorem uX.nil{off:Nat}:uX enc P w n off [] (fun _:Unit=>[]) (fun _ l=>l=[]):=fun cs xs hl _=>⟨(),trivial,by
 have:xs=[]:=List.length_eq_zero_iff.1 hl
 rw[this];rfl⟩
theorem uX.cons{off k:Nat}{f:Field}{fs:List Field}{α β:Type}{e1:α→AV}{g1:α→DataW Hh→Prop}{e2:β→List AV}{g2:β→List (DataW Hh)→Prop}(ho:f.offset=off)(hk:P.cellsOf f.type=k)(hn:∀a,(e1 a).az=k)
  (h1:jh enc P w n f.type e1 g1)(h2:uX enc P w n (off+k) fs e2 g2):uX enc P w n off (f::fs) (fun p:α×β=>(e1 p.1).cells++e2 p.2) (fun p l=>∃d r,l=d::r∧g1 p.1 d∧g2 p.2 r):=by
 intro cs xs hl hf
 cases xs with
 |nil=>simp at hl
 |cons x xs =>
  have hx:=hf 0 f rfl
  rw[hk,ho] at hx
  obtain ⟨a,a1,a2,a3⟩:=h1 _ x.1 x.2 hx
  obtain ⟨b,b1,b2⟩:=h2 cs xs (by simpa using hl) fun i g hg=>by
   have:=hf (i+1) g (by simpa using hg)
   simpa using this
  refine ⟨(a,b),aba (uW (fun i v hv=>?_) a2) ?_,x.1,_,rfl,a3,b2⟩
  ·rw[List.getElem?_take] at hv
   split at hv
   ·rw[List.getElem?_drop] at hv;exact hv
   ·simp at hv
  ·have e:(e1 a).cells.length=k:=by rw[←AV.eW,hn]
   rw[e]
   refine uW (fun i v hv=>?_) b1
   rw[←hv]
   show cs[off+(k+i)]? = cs[off+k+i]?
   rw[Nat.add_assoc]
theorem jh.struct{fs:Array Field}{α:Type}{en:α→List AV}{good:α→List (DataW Hh)→Prop}(ht:P.underlying t=some (.struct fs))(hl:∀a,(en a).length=P.cellsOf t)(h:uX enc P w n 0 fs.toList en good) :
  jh enc P w (n+1) t (fun a=>.agg (en a)) (fun a d=>∃l,d = .agg l∧good a l):=by
 intro cs d ps hd
 obtain ⟨xs,m,hm,hx,hc,hs,hf⟩:=DataW.trod_struct ht hd
 have hmn:m=n:=by omega
 subst hmn
 obtain ⟨a,a1,a2⟩:=h cs xs (by simpa using hs) fun i f hi=>hf i f (by simpa using hi)
 cases hx
 refine ⟨a,?_,?_,_,rfl,a2⟩
 ·show cs.length=(en a).length
  rw[hl,hc]
 ·refine uW (fun i v hv=>?_) a1
  simpa using hv
theorem jh.slice{e:TypeId}{k:Nat}{α:Type}{en:α→AV}{good:α→DataW Hh→Prop}(ht:P.underlying t=some (.slice e))(hk:P.cellsOf e=k)(h0:0<k)(hn:∀a,(en a).az=k)(h:jh enc P w n e en good) :
  jh enc P w (n+1) t (fun l:List α=>.am k (l.map en) none) (fun l d=>(d = .nil∧l=[])∨∃ds r,d = .slice ds r∧pW good l ds):=by
 intro cs d ps hd
 rcases DataW.trod_slice ht hd with ⟨rfl,h2⟩|⟨a,len,cap,elems,rest,m,hm,rfl,hx,_,hlc,hcm,hel,agL,_,_⟩
 ·cases h2
  exact ⟨[],rfl,yN rfl (u:=.slice none 0 0) rfl rfl ⟨none,0,rfl,Nat.le_refl _,by decide,fun _=>rfl,fun h=>by simp at h,trivial⟩,.inl ⟨rfl,rfl⟩⟩
 ·have hmn:m=n:=by omega
  subst hmn
  have hk':∀i,i<len→∃x:α,∃y cs',elems[i]? = some y∧w.cells? 0 (a.add (i*k)) k=some cs'∧cs'.length=(en x).az∧Rs gS O0 w (en x).cells (fun j=>cs'[j]?)∧good x y.1:=by
   intro i hi
   have:=agL i hi
   rw[hk] at this
   have he:∃y,elems[i]? = some y:=⟨elems[i]'(by omega),by simp[hel,hi]⟩
   obtain ⟨y,hy⟩:=he
   rw[hy] at this
   obtain ⟨cs',c1,c2⟩:=Option.bind_eq_some_iff.1 this
   obtain ⟨x,x1,x2,x3⟩:=h cs' y.1 y.2 c2
   exact ⟨x,y,cs',hy,c1,x1,x2,x3⟩
  obtain ⟨l,l1,l2⟩:=KJ len hk'
  cases hx
  refine ⟨l,rfl,yN rfl (u:=.slice (some a) len cap) rfl rfl ⟨some a,cap,by simp[l1],by simpa [l1] using hlc,hcm,fun h=>by simp at h,fun hp=>?_,trivial⟩,.inr ⟨_,_,rfl,pW.Rh (by simp[l1,hel]) fun i x y hx hy=>?_⟩⟩
  ·have hp':0<len:=by simpa [l1] using hp
   obtain ⟨x0,y0,cs0,_,c0,c1,_⟩:=hk' 0 hp'
   obtain ⟨b,off,spot⟩:=a
   obtain ⟨_,_,g2⟩:=World.cells?_some c0
   have hs:spot=none:=by
    have hc:w.cell? ((⟨b,off,spot⟩:Addr).add (0*k))=cs0[0]?:=by
     have:=g2 0 h0
     simpa [Addr.add] using this
    rw[hn] at c1
    rw[List.getElem?_eq_getElem (by omega:0<cs0.length)] at hc
    have:=World.cell?_spot hc
    simp only[Addr.add] at this
    split at this<;>simp_all
   subst hs
   refine ⟨b,off,rfl,tP,?_,Dl fun i x hx=>?_⟩
   ·have:=World.cells?_block c0 h0
    simpa [Addr.add] using this
   ·rw[List.getElem?_map] at hx
    obtain ⟨z,hz,rfl⟩:=Option.map_eq_some_iff.1 hx
    obtain ⟨y,cs',z1,z2,z3,z4,z5⟩:=l2 i z hz
    obtain ⟨_,q1,q2⟩:=World.cells?_some z2
    refine ⟨hn z,uW (fun j v hv=>?_) z4⟩
    have hj:j<k:=by
     have:=(List.getElem?_eq_some_iff.1 hv).1
     rw[z3,hn] at this
     exact this
    have:=q2 j hj
    rw[addr_add,addr_add] at this
    unfold cX
    rw[this]
    exact hv
  ·obtain ⟨y',cs',z1,z2,z3,z4,z5⟩:=l2 i x hx
   rw[List.getElem?_map,z1] at hy
   cases hy
   exact z5
theorem KK{α:Type}{en:α→AV}{good:α→DataW Hh→Prop}(hr:∀n,jh enc P w n t en good){v:Value}{d:DataW Hh}{ps:List MemPlace}(h:DataW.Trod enc P w 0 (fun _=>true) true t v d ps)(ha:∀a,(en a).isAgg=false)(ht:∀a,(en a).bT=false)(hv:v.oneCell'=true) :
  ∃a,VR gS O0 w (en a) v∧good a d:=by
 obtain ⟨m,hm⟩:=h
 obtain ⟨a,h1,h2,h3⟩:=hr m _ _ _ hm
 refine ⟨a,⟨?_,?_⟩,h3⟩
 ·have e1:=ha a
  have e2:=ht a
  cases he:en a<;>rw[he] at e1 e2<;>first|exact hv|(simp[AV.isAgg] at e1;done)|(simp[AV.bT] at e2;done)
 ·have:=(yf (r:=[]) (by rw[List.append_nil];exact h2)).1
  have e:(fun i=>v.cells.toList[i]?)=fR v:=by funext i;simp[fR]
  rwa [e] at this
theorem Xq{α:Type}{en:α→List AV}{good:α→DataW Hh→Prop}(hr:∀n,jh enc P w n t (fun a=>.agg (en a)) good){cs:Array Value}{d:DataW Hh}{ps:List MemPlace}(h:DataW.Trod enc P w 0 (fun _=>true) true t (.agg cs) d ps) :
  ∃a,VR gS O0 w (.agg (en a)) (.agg cs)∧good a d:=by
 obtain ⟨m,hm⟩:=h
 obtain ⟨a,h1,h2,h3⟩:=hr m _ _ _ hm
 refine ⟨a,⟨⟨cs,rfl,by simpa [Value.cells,AV.az] using h1⟩,?_⟩,h3⟩
 have:=(yf (x:=.agg (en a)) (r:=[]) (by rw[List.append_nil];exact h2)).1
 have e:(fun i=>(Value.agg cs).cells.toList[i]?)=fR (.agg cs):=by funext i;simp[fR]
 rwa [e] at this
end
theorem uY{Hh:Type}{enc:TypeId×Value→Hh}{P:Program}{W W':World}(hl:laidOutB P=true)(hb:Below W.heap.size W W'):∀{ts:List TypeId}{vs:List Value}{ds:List (DataW Hh)}{ps:List MemPlace},(ts.all fun t=>P.readableRec t && decide (t<P.types.size))=true→
  DataW.TrodAll enc P W 0 (fun _=>true) true ts vs ds ps→DataW.TrodAll enc P W' 0 (fun b=>decide (b<W.heap.size)) true ts vs ds ps
 |[],vs,ds,ps,_,h=>by
  cases vs<;>cases ds<;>first|exact h|(simp[DataW.TrodAll] at h)
 |t::ts,vs,ds,ps,hr,h=>by
  obtain ⟨v,vs',d,ds',p,q,rfl,rfl,rfl,h1,h2⟩:=Go.ChangeShapes.trodAll_cons h
  simp only[List.all_cons,Bool.and_eq_true,decide_eq_true_eq] at hr
  have lt1:∀x∈p,x.block<W.heap.size:=by obtain ⟨m,hm⟩:=h1;exact DataW.trod_lt m _ _ _ hm
  exact ⟨p,q,Below.trod hl hr.1.1 hr.1.2 h1 hb lt1,uY hl hb hr.2 h2,rfl⟩
theorem pX{w w':World}{φ:aU}(h:Step gS [] w φ [] w'):Below w.heap.size w w':=⟨h.os,h.tape,h.output,h.size,fun k hk=>h.same k hk tP⟩
theorem KL{P:Program}{f:FuncId}{args:List AV}{b:Bool}(h:D P f args [] (.ret (.sc (.bool b))) []){w:World}{vs:Array Value}(ha:Rt gS O0 w args vs.toList)(hg:BM gS [] w:=by exact fun p hp=>absurd hp (by simp[Vn])):Calls P f vs w fun e w'=>e = .returned (.bool b)∧Below w.heap.size w w' :=
 (h.2 gS w vs (Rg hg) ha).mono fun e w' ⟨φ',h1,h2,h3⟩=>by
  cases e with
  |returned v=>exact ⟨by rw[cw h1],pX h3⟩
  |panicked c=>exact h1.elim
  |outgrown=>exact h1.elim
theorem Tl{Hh:Type}{enc:TypeId×Value→Hh}{P:Program}{f:FuncId}{fn:Func}{W:World}{args:Array Value}{ds gs:List (DataW Hh)}{before:List MemPlace}{avs:List AV}{tb:TypeId}{s:ChangeSpec}(hl:laidOutB P=true)
  (hp:(fn.params.toList.all fun t=>P.readableRec t && decide (t<P.types.size))=true)(hres:fn.resultTypes=#[tb])(htb:P.underlying tb=some .bool)
  (hvars:s.vars=[])(hfn:s.fn Hh (ds++gs)={ results:=[.lit (.bool true)],args:=ds })
  (hW:DataW.Whole enc P fn.params.toList s.vars false W args.toList ds gs before)(ha:Rt gS O0 W avs args.toList)(h:D P f avs [] (.ret (.sc (.bool true))) [])(hg:BM gS [] W:=by exact fun p hp=>absurd hp (by simp[Vn])) :
  Calls P f args W fun e W'=>∃v,e = .returned v∧s.post enc P fn false true false false W args v W':=by
 refine (KL h ha hg).mono fun e W' ⟨he,bel⟩=>?_
 subst he
 have hW':=hW
 obtain ⟨p,q,hA,hV,rfl,hfz,hnd⟩:=hW
 rw[hvars] at hV
 obtain ⟨rfl,rfl⟩:=Go.ChangeShapes.trodVars_none hV
 refine ⟨_,rfl,ds,[],_,[],p,[],hW',?_,?_,?_,bel.frame _,fun h=>by cases h⟩
 ·rw[hfn,hres]
  exact Go.ChangeShapes.trodAll_mk1 (shut_bool htb _)
 ·rw[hfn]
  exact uY hl bel hp hA
 ·rw[hvars,hfn]
  rfl
def rV:List Oper→Option Nat
 |[]=>none
 |[o]=>match o.op,o.dst,o.guard with
  |.defer { callee:=.value (.tmp t),args,.. },none,none=>if args.isEmpty then some t else none
  |_,_,_=>none
 |_::r=>rV r
def II(P:Program)(bx:List Nat):Code→Option (List cy×Nat)
 |.region id ops false=>match rV ops.toList with
  |some t=>(eg P (bx.contains id) ops ops.toList.dropLast).map (·,t)
  |none=>none
 |_=>none
def uZ(P:Program)(bx:List Nat):Code→Option (IC×Nat×IC)
 |.seq a b=>match II P bx a with
  |some (l,t)=>(dU P bx b).map fun ib=>(.ops l,t,ib)
  |none=>match dU P bx a,uZ P bx b with
   |some ia,some (pre,t,ib)=>some (.seq ia pre,t,ib)
   |_,_=>none
 |_=>none
theorem wL:∀{l:List Oper}{t:Nat},rV l=some t→∃(m:List Oper)(o:Oper)(args:Array Operand)(ats:Array TypeId),l=m++[o]∧o.op = .defer { callee:=.value (.tmp t),args:=args,argTypes:=ats }∧args.isEmpty=true∧o.dst=none∧o.guard=none
 |[],t,h=>by simp[rV] at h
 |[o],t,h=>by
  simp only[rV] at h
  split at h
  ·rename_i t' args ats e1 e2 e3
   split at h
   ·rename_i he
    cases h
    exact ⟨[],o,args,ats,rfl,e1,he,e2,e3⟩
   ·simp at h
  ·simp at h
 |x::y::r,t,h=>by
  simp only[rV] at h
  obtain ⟨m,o,args,ats,h1,h2⟩:=wL (l:=y::r) h
  exact ⟨x::m,o,args,ats,by rw[h1];rfl,h2⟩
section
variable {P:Program}
theorem pd{b:Bool}{ops:Array Oper}{Q:Exit→Act→World→Prop}{K:List AV→Y→Prop}{Kp:AV→List AV→Y→Prop}{tail:List Nat}:∀(n i:Nat)(l:List cy)(ts:List AV)(H:Y)(φ:aU)(w:World)(a:Act),
  i+n≤ops.size→eg P b ops ((ops.toList.drop i).take n)=some l→Rel φ H w→FR φ (Own φ H) w ts a→iX P K Kp l ts H→
  (∀ts' a' φ' H' w',K ts' H'→FR φ' (Own φ' H') w' ts' a'→Rel φ' H' w'→Step φ H w φ' H' w'→a'.defers=a.defers→wpOps P ops Q tail a' w')→ni Q Kp φ H w a.defers→wpOps P ops Q (List.range' i n++tail) a w
 |0,i,l,ts,H,φ,w,a,hi,hc,hR,hF,h,hk,hp=>by
  simp[eg] at hc
  subst hc
  exact hk _ _ _ _ _ h hF hR (Step.refl _ _ _) rfl
 |n+1,i,l,ts,H,φ,w,a,hi,hc,hR,hF,h,hk,hp=>by
  have hlt:i<ops.toList.length:=by simp;omega
  rw[List.drop_eq_getElem_cons hlt,List.take_succ_cons] at hc
  unfold eg at hc
  split at hc
  case h_2=>simp at hc
  rename_i x s hx hs
  cases hc
  have N2:ops[i]? = some (ops.toList[i]):=by simp at hlt;simp[hlt]
  obtain ⟨hd,hg⟩:=w8 hx
  simp only[iX] at h
  have C1:∀φ' H' w',Step φ H w φ' H' w'→∀a':Act,a'.defers=a.defers→(∀w9 a2 dJ H2 w2,K w9 H2→FR dJ (Own dJ H2) w2 w9 a2→Rel dJ H2 w2→Step φ' H' w' dJ H2 w2→a2.defers=a'.defers→wpOps P ops Q tail a2 w2)∧ni Q Kp φ' H' w' a'.defers:=by
   intro φ' H' w' hst a' ha
   exact ⟨fun w9 a2 dJ H2 w2 k1 k2 k3 k4 k5=>hk w9 a2 dJ H2 w2 k1 k2 k3 (hst.trans k4) (by rw[k5,ha]),fun v u w9 a2 dJ H2 w2 k1 k2 k3 k4 k5 k6=>hp v u w9 a2 dJ H2 w2 k1 k2 k3 k4 (hst.trans k5) (by rw[k6,ha])⟩
  rw[show List.range' i (n+1)++tail=i::(List.range' (i+1) n++tail) from rfl]
  simp only[wpOps,N2]
  rcases jr hg hF h with ⟨hw,hy⟩|⟨hw,hno⟩
  ·rw[if_pos hw]
   left
   refine Ii hx hR hF hy (fun v u φ' H' w' k1 k2 k3 k4=>?_) (fun v u φ' H' w' k1 k2 k3 k4=>?_)
   ·have z7:=(FR.step k4 hF).put (ops.toList[i]).dst k2
    rw[hd] at k1
    have:=C1 φ' H' w' k4 (a.put (ops.toList[i]).dst u) (put_defers _ _ _)
    exact pd n (i+1) s _ H' φ' w' _ (by omega) hs k3 z7 k1 this.1 this.2
   ·exact hp v u ts a φ' H' w' k1 k2 (FR.step k4 hF) k3 k4 rfl
  ·rw[if_neg (by rw[hw];simp)]
   have z7:=hF.put (ops.toList[i]).dst (pC (φ:=φ) (O:=Own φ H) (w:=w))
   rw[hd] at hno
   have:=C1 φ H w (Step.refl _ _ _) (a.put (ops.toList[i]).dst undef) (put_defers _ _ _)
   exact pd n (i+1) s _ H φ w _ (by omega) hs hR z7 hno this.1 this.2
def Xr(φ:aU)(O:Nat→Prop)(w:World)(g:FuncId)(cK:List AV)(ds:List Deferred):Prop:=∃ws:Array Value,ds=[{ target:=.fn (.func g) ws,args:=#[] }]∧Rt φ O w cK ws.toList
def KM(g:FuncId)(K:List AV→List AV→Y→Prop)(t:Nat):List AV→Y→Prop:=fun ts H=>match ts.getD t .top with
 |.fn (.func f) [] cK=>f=g∧K cK ts H
 |_=>False
theorem Ft{bx:List Nat}{c:Code}{l:List cy}{t:Nat}(hc:II P bx c=some (l,t)){g:FuncId}{Q:Exit→Act→World→Prop}{K:List AV→List AV→Y→Prop}{Kp:AV→List AV→Y→Prop}{φ:aU}{H:Y}{w:World}{ts:List AV}{a:Act}
  (hR:Rel φ H w)(hF:FR φ (Own φ H) w ts a)(hd:a.defers=[])(h:iX P (KM g K t) Kp l ts H)(hk:∀cK ts' a' φ' H' w',K cK ts' H'→FR φ' (Own φ' H') w' ts' a'→Rel φ' H' w'→Step φ H w φ' H' w'→Xr φ' (Own φ' H') w' g cK a'.defers→Q .normal a' w')(hp:ni Q Kp φ H w a.defers):c.wp P Q a w:=by
 unfold II at hc
 split at hc
 case h_2=>simp at hc
 rename_i id ops
 split at hc
 case h_2=>simp at hc
 rename_i t' hdo
 simp only[Option.map_eq_some_iff] at hc
 obtain ⟨l',hl,he⟩:=hc
 cases he
 obtain ⟨m,o,args,ats,hm,ho,hargs,yH,hgd⟩:=wL hdo
 have hsz:ops.size=m.length+1:=by rw[←Array.length_toList,hm];simp
 rw[hm,List.dropLast_concat] at hl
 refine wp_region ?_
 have IJ:List.range ops.size=List.range' 0 m.length++[m.length]:=by rw[hsz,List.range_succ,List.range_eq_range']
 rw[IJ]
 refine pd m.length 0 l ts H φ w a (by omega) (by rw[hm];simpa using hl) hR hF h (fun ts' a' φ' H' w' k1 k2 k3 k4 k5=>?_) hp
 have N2:ops[m.length]? = some o:=by
  rw[←Array.getElem?_toList,hm]
  simp
 simp only[wpOps,N2]
 have hw:Region.wanted o (yielded ops a'.tmps)=true:=by unfold Region.wanted;rw[hgd]
 rw[if_pos hw]
 left
 have hv:=k2.2 t
 unfold KM at k1
 split at k1
 case h_2=>exact k1.elim
 rename_i f cK hf
 rw[hf] at hv
 obtain ⟨us,ws,hu,h1,h2⟩:=Cx hv
 have yO:us=#[]:=by
  have:us.toList=[]:=h1
  cases us;simp_all
 subst yO
 unfold Oper.wp
 have abb:args=#[]:=by
  cases args with
  |mk l=>cases l<;>first|rfl|(simp at hargs)
 have hrun:(execOp a'.eval o).run P w' = .ok (.defer { target:=.fn (.func f) ws,args:=#[] }) w':=by
  have he:a'.eval (.tmp t) = .func (.func f) #[] ws:=hu
  simp[execOp,ho,resolve,he,Deferred.ofValue,abb]
 rw[hrun]
 show Q .normal ({ a' with defers:=_::a'.defers }.put o.dst undef) w'
 rw[yH]
 refine hk cK ts' _ φ' H' w' k1.2 ?_ k3 k4 ⟨ws,?_,h2⟩
 ·exact k2
 ·show _::a'.defers=_
  rw[k5,hd,k1.1]
def acV(P:Program)(g t:Nat)(ic:IC)(Kd:List AV→Post)(K:Post):Post
 |.normal,ts,H=>KM g (fun cK ts H=>E P ic (Kd cK) ts H) t ts H
 |x,ts,H=>K x ts H
def CKD(g:FuncId)(Kd:List AV→Post)(φ:aU)(H:Y)(w:World):Exit→Act→World→Prop:=fun e a' w' =>
 ∃cK x ts' H' φ',XR φ' (Own φ' H') w' x e∧Kd cK x ts' H'∧FR φ' (Own φ' H') w' ts' a'∧Rel φ' H' w'∧Step φ H w φ' H' w'∧Xr φ' (Own φ' H') w' g cK a'.defers
theorem Xr.step{φ φ':aU}{H H':Y}{w w':World}(hs:Step φ H w φ' H' w'){g:FuncId}{cK:List AV}{ds:List Deferred}(h:Xr φ (Own φ H) w g cK ds):Xr φ' (Own φ' H') w' g cK ds:=by
 obtain ⟨ws,h1,h2⟩:=h
 exact ⟨ws,h1,mV hs.toLater _ _ (AV.cO _) h2⟩
theorem Tm{φ:aU}{O:Nat→Prop}{w:World}{x:AX}{e:Exit}(h:XR φ O w x e):(x = .normal∧e = .normal)∨(x≠.normal∧e≠.normal):=by
 cases x<;>cases e<;>first|exact h.elim|exact .inl ⟨rfl,rfl⟩|exact .inr ⟨by simp,by simp⟩
theorem Xs{e:Exit}{next:Act→World→Prop}{Q:Exit→Act→World→Prop}{a:Act}{w:World}(h:e≠.normal)(hq:Q e a w):Exit.then next Q e a w:=by
 cases e<;>first|exact (h rfl).elim|exact hq
theorem OD{bx:List Nat}{g:FuncId}{Kd:List AV→Post}{K:Post}:∀(c:Code)(pre:IC)(t:Nat)(ic:IC),uZ P bx c=some (pre,t,ic)→∀(φ:aU)(H:Y)(w:World)(ts:List AV)(a:Act),Rel φ H w→FR φ (Own φ H) w ts a→a.defers=[]→E P pre (acV P g t ic Kd K) ts H→
  c.wp P (fun e a' w'=>CKD g Kd φ H w e a' w'∨(e≠.normal∧CK K φ H w [] e a' w')) a w:=by
 intro c
 induction c with
 |seq x y WQ S4 =>
  intro pre t ic hc φ H w ts a hR hF hd h
  simp only[uZ] at hc
  split at hc
  ·rename_i l t' agM
   simp only[Option.map_eq_some_iff] at hc
   obtain ⟨ib,hb,he⟩:=hc
   cases he
   refine wp_seq (Ft (g:=g) (K:=fun cK ts H=>E P ic (Kd cK) ts H) (Kp:=fun v ts' H'=>K (.bP v) ts' H') agM hR hF hd h (fun cK ts' a' φ' H' w' k1 k2 k3 k4 k5=>?_) (fun v u ts' a' φ' H' w' k1 k2 k3 k4 k5 k6=>.inr ⟨by simp,.bP v,ts',H',φ',k2,k1,k3,k4,k5,by rw[k6,hd]⟩))
   show y.wp P _ a' w'
   refine wp_mono (uM y ic hb _ φ' H' w' ts' a' k3 k2 k1) ?_
   rintro e a2 w2 ⟨x2,w9,H2,dJ,m1,m2,m3,m4,m5,m6⟩
   exact .inl ⟨cK,x2,w9,H2,dJ,m1,m2,m3,m4,k4.trans m5,by rw[m6];exact k5.step m5⟩
  ·split at hc
   case h_2=>simp at hc
   rename_i ia agN t' ib h1 h2
   cases hc
   refine wp_seq (wp_mono (uM x ia h1 _ φ H w ts a hR hF h) ?_)
   rintro e a' w' ⟨x',ts',H',φ',k1,k2,k3,k4,k5,k6⟩
   rcases Tm k1 with ⟨rfl,rfl⟩|⟨n1,n2⟩
   ·show y.wp P _ a' w'
    refine wp_mono (S4 agN t ic h2 φ' H' w' ts' a' k4 k3 (by rw[k6,hd]) k2) ?_
    rintro e2 a2 w2 (⟨cK,x2,w9,H2,dJ,m1,m2,m3,m4,m5,m6⟩|⟨n,m⟩)
    ·exact .inl ⟨cK,x2,w9,H2,dJ,m1,m2,m3,m4,k5.trans m5,m6⟩
    ·exact .inr ⟨n,m.step k5⟩
   ·refine Xs n2 (.inr ⟨n2,x',ts',H',φ',k1,?_,k3,k4,k5,by rw[k6,hd]⟩)
    cases x'<;>first|exact (n1 rfl).elim|exact k2
 |_=>intro pre t ic hc;simp[uZ] at hc
theorem Al{φ:aU}{H:Y}{w:World}{args:List AV}{vs:Array Value}{n:Nat}(ha:Rt φ (Own φ H) w args vs.toList):FR φ (Own φ H) w (args++List.replicate (n-args.length) (.aO [])) { tmps:=vs++Array.replicate (n-vs.size) undef,defers:=[] }:=by
 have hlen:=Cd ha
 have hsz:vs.size=args.length:=by simpa using hlen
 refine ⟨by simp[hsz],fun i=>?_⟩
 by_cases h1:i<args.length
 ·obtain ⟨u,g1,g2⟩:=Cc ha (i:=i) (x:=args[i]) (by simp[h1])
  have e1:(args++List.replicate (n-args.length) (AV.aO [])).getD i .top=args[i]:=by simp[List.getD,List.getElem?_append_left h1,h1]
  have e2:(vs++Array.replicate (n-vs.size) undef).getD i undef=u:=by
   rw[Array.getElem?_toList] at g1
   rw[Array.getD_eq_getD_getElem?,Array.getElem?_append_left (by omega),g1]
   rfl
  rw[e1,e2]
  exact g2
 ·by_cases h2:i<args.length+(n-args.length)
  ·have e1:(args++List.replicate (n-args.length) (AV.aO [])).getD i .top = .aO []:=by
    simp only[List.getD]
    rw[List.getElem?_append_right (by omega),List.getElem?_replicate,if_pos (by omega)]
    rfl
   have e2:(vs++Array.replicate (n-vs.size) undef).getD i undef=undef:=by
    rw[Array.getD_eq_getD_getElem?,Array.getElem?_append_right (by omega),Array.getElem?_replicate]
    split<;>rfl
   rw[e1,e2]
   exact pC
  ·have e1:(args++List.replicate (n-args.length) (AV.aO [])).getD i .top = .top:=by
    simp only[List.getD]
    rw[List.getElem?_eq_none (by simp;omega)]
    rfl
   rw[e1]
   exact nI _
inductive OE where
 | ret
 | bP (v:AV)(met:Bool)
def s7(φ:aU)(O:Nat→Prop)(w:World):OE→FrameMode→Prop
 |.ret,.returning=>True
 |.bP x r,.panicking c=>∃v older,c={ v:=v,recovered:=r }::older∧(∀p∈older,p.goexit=false)∧VR φ O w x v
 |_,_=>False
def IK:List Oper→Option Nat
 |o::_=>match o.op,o.dst,o.guard with
  |.call { callee:=.builtin .recover,args,.. },some d,none=>if args.isEmpty then some d else none
  |_,_,_=>none
 |[]=>none
def yP(P:Program)(bx:List Nat):Code→Option (Nat×List cy×IC)
 |.seq (.region id ops false) b=>match IK ops.toList,eg P (bx.contains id) ops (ops.toList.drop 1),dU P bx b with
  |some d,some l,some ib=>some (d,l,ib)
  |_,_,_=>none
 |_=>none
def Dm(Kr:Y→Prop)(Kq:AV→Y→Prop):Post
 |.normal,_,H=>Kr H
 |.ret,_,H=>Kr H
 |.bP v,_,H=>Kq v H
 |_,_,_=>False
theorem KN{l:List Oper}{d:Nat}(h:IK l=some d):∃(o:Oper)(r:List Oper)(ats:Array TypeId),l=o::r∧o.op = .call { callee:=.builtin .recover,args:=#[],argTypes:=ats }∧o.dst=some d∧o.guard=none:=by
 cases l with
 |nil=>simp[IK] at h
 |cons o r =>
  simp only[IK] at h
  split at h
  ·rename_i args ats d' e1 e2 e3
   split at h
   ·rename_i he
    cases h
    have:args=#[]:=by
     cases args with
     |mk l=>cases l<;>first|rfl|(simp at he)
    subst this
    exact ⟨o,r,ats,rfl,e1,e2,e3⟩
   ·simp at h
  ·simp at h
theorem OG{o:Oper}{a:Act}{next next':Act→World→Prop}{Q:Exit→Act→World→Prop}(hn:∀a w,next a w→next' a w){r:Result Next}(h:o.upon P a next Q r):o.upon P a next' Q r:=by
 unfold Oper.upon at h ⊢
 split at h
 ·exact hn _ _ h
 ·exact hn _ _ h
 ·exact hn _ _ h
 ·refine h.mono fun e w' he=>?_
  cases e<;>first|exact hn _ _ he|exact he
 ·exact h.mono fun v w' he=>hn _ _ he
 ·exact h
 ·exact h.elim
theorem OH{ops:Array Oper}{Q:Exit→Act→List Frame→World→Prop}{cs:List Frame}(hq:¬LetsOut (fun e a w=>Q e a cs w)):∀{l:List Nat}{a:Act}{w:World},wpOps P ops (fun e a w=>Q e a cs w) l a w→wpOpsS P ops Q l a cs w:=by
 intro l
 induction l with
 |nil=>intro a w h;exact h
 |cons i r ih =>
  intro a w h
  simp only[wpOps] at h
  simp only[wpOpsS]
  split at h
  ·rename_i e;simp only[e];exact ih h
  ·rename_i o e
   simp only[e]
   split at h
   ·rename_i hw
    rw[if_pos hw]
    rcases h with h|h
    ·unfold Oper.wp at h
     split
     ·rename_i w' hr
      rw[hr] at h
      exact h.elim
     ·exact OG (fun a w h=>ih h) h
    ·exact (hq h.2).elim
   ·rename_i hw
    rw[if_neg hw]
    exact ih h
theorem OI{bx:List Nat}{g:FuncId}{fn:Func}{c:Code}{d:Nat}{l:List cy}{ib:IC}(hf:P.funcs[g]? = some fn)(hb:fn.body=some c)(hc:yP P bx c=some (d,l,ib))(hres:fn.results=#[]){cK:List AV}{φ:aU}{H:Y}{w:World}{ws:Array Value}(hR:Rel φ H w)(ha:Rt φ (Own φ H) w cK ws.toList)
  {M M':OE}{u:FrameMode}{x:AV}(hu:s7 φ (Own φ H) w M u)(hm:(M = .ret∧M' = .ret∧x = .sc .nilIface)∨(M = .bP x false∧M' = .bP x true)){Kr:Y→Prop}{Kq:AV→Y→Prop}
  (h:iX P (fun ts H=>E P ib (Dm Kr Kq) ts H) (fun v _ H=>Kq v H) l ((cK++List.replicate (fn.ntmps-cK.length) (AV.aO [])).set d x) H) :
  CallsD P g ws u w fun e u' w'=>∃H' φ',(((∃v,e = .returned v)∧Kr H')∨∃y c,e = .panicked c∧tW φ' (Own φ' H') w' y c∧Kq y H')∧s7 φ' (Own φ' H') w' M' u'∧Rel φ' H' w'∧Step φ H w φ' H' w':=by
 refine callsD_of_wpS hf hb fun c₀ cs hcm=>?_
 unfold yP at hc
 split at hc
 case h_2=>simp at hc
 rename_i id ops b
 split at hc
 case h_2=>simp at hc
 rename_i d' l' ib' h1 h2 h3
 cases hc
 obtain ⟨o,r,ats,Xt,hop,yH,hgd⟩:=KN h1
 have hsz:ops.size=r.length+1:=by rw[←Array.length_toList,Xt];simp
 refine wpS_seq (wpS_region ?_)
 have IJ:List.range ops.size=0::List.range' 1 r.length:=by rw[hsz,List.range_eq_range'];rfl
 rw[IJ]
 have N2:ops[0]? = some o:=by rw[←Array.getElem?_toList,Xt];rfl
 have hw:∀a:Act,Region.wanted o (yielded ops a.tmps)=true:=fun a=>by unfold Region.wanted;rw[hgd]
 have gT:FR φ (Own φ H) w (cK++List.replicate (fn.ntmps-cK.length) (AV.aO [])) { tmps:=ws++Array.replicate (fn.ntmps-ws.size) undef,defers:=[] }:=Al ha
 have hrun:∀a:Act,(execOp a.eval o).run P w = .ok .recover w:=fun a=>by
  simp only[execOp,hop]
  rfl
 simp only[wpOpsS,N2,hw,if_true,hrun]
 have key:∃v u',VR φ (Own φ H) w x v∧s7 φ (Own φ H) w M' u'∧(match recoverD (c₀::cs) with|some (v',cs')=>v'=v∧cs'={ c₀ with mode:=u' }::cs|none=>v = .nilIface∧u'=u):=by
  rcases hm with ⟨rfl,rfl,rfl⟩|⟨rfl,rfl⟩
  ·refine ⟨.nilIface,u,⟨rfl,rfl⟩,hu,?_⟩
   cases u<;>first|exact hu.elim|skip
   simp[recoverD,hcm]
  ·cases u<;>first|exact hu.elim|skip
   obtain ⟨v,older,rfl,uo,hv⟩:=hu
   refine ⟨v,.panicking ({ v:=v,recovered:=true }::older),hv,⟨v,older,rfl,uo,hv⟩,?_⟩
   simp[recoverD,hcm]
 obtain ⟨v,u',hv,hM',Gt⟩:=key
 have aeE:({ c₀ with mode:=u }:Frame)=c₀:=by subst hcm;rfl
 have Am:∀cs',cs'={ c₀ with mode:=u' }::cs→wpOpsS P ops (Exit.thenS (b.wpS P (bodyPostS P fn c₀ cs fun e u' w'=>∃H' φ',(((∃v,e = .returned v)∧Kr H')∨∃y c,e = .panicked c∧tW φ' (Own φ' H') w' y c∧Kq y H')∧s7 φ' (Own φ' H') w' M' u'∧Rel φ' H' w'∧Step φ H w φ' H' w')) (bodyPostS P fn c₀ cs fun e u' w'=>∃H' φ',(((∃v,e = .returned v)∧Kr H')∨∃y c,e = .panicked c∧tW φ' (Own φ' H') w' y c∧Kq y H')∧s7 φ' (Own φ' H') w' M' u'∧Rel φ' H' w'∧Step φ H w φ' H' w'))
   (List.range' 1 r.length) (Act.put { tmps:=ws++Array.replicate (fn.ntmps-ws.size) undef,defers:=[] } o.dst v) cs' w:=by
  rintro cs' rfl
  refine OH ?_ ?_
  ·rintro ⟨a,w',u2,H',φ',(⟨⟨v,hv⟩,_⟩|⟨y,c,hv,_⟩),_⟩
   ·simp at hv
   ·simp at hv
  ·have kY:FR φ (Own φ H) w ((cK++List.replicate (fn.ntmps-cK.length) (AV.aO [])).set d x) (Act.put { tmps:=ws++Array.replicate (fn.ntmps-ws.size) undef,defers:=[] } o.dst v):=by
    have:=gT.put o.dst hv
    rwa [yH] at this ⊢
   have hl:ops.toList.drop 1=r:=by rw[Xt];rfl
   have Xu:=pd (P:=P) (ops:=ops) (tail:=[]) (K:=fun ts H=>E P ib (Dm Kr Kq) ts H) (Kp:=fun v _ H=>Kq v H) r.length 1 l _ H φ w _ (by omega) (by rw[hl,List.take_length];rw[hl] at h2;exact h2) hR kY h
    (Q:=fun e a w2=>Exit.thenS (b.wpS P (bodyPostS P fn c₀ cs fun e u' w'=>∃H' φ',(((∃v,e = .returned v)∧Kr H')∨∃y c,e = .panicked c∧tW φ' (Own φ' H') w' y c∧Kq y H')∧s7 φ' (Own φ' H') w' M' u'∧Rel φ' H' w'∧Step φ H w φ' H' w')) (bodyPostS P fn c₀ cs fun e u' w'=>∃H' φ',(((∃v,e = .returned v)∧Kr H')∨∃y c,e = .panicked c∧tW φ' (Own φ' H') w' y c∧Kq y H')∧s7 φ' (Own φ' H') w' M' u'∧Rel φ' H' w'∧Step φ H w φ' H' w') e a ({ c₀ with mode:=u' }::cs) w2)
   rw[List.append_nil] at Xu
   have pY:∀{dJ:aU}{H2:Y}{w2:World},Step φ H w dJ H2 w2→s7 dJ (Own dJ H2) w2 M' u':=by
    intro dJ H2 w2 hst
    cases M'<;>cases u'<;>first|exact hM'.elim|exact trivial|skip
    obtain ⟨v,older,e1,e3,e2⟩:=hM'
    exact ⟨v,older,e1,e3,hst.vr e2⟩
   refine Xu (fun ts' a' φ' H' w' k1 k2 k3 k4 k5=>?_) (fun v c ts' a' φ' H' w' k1 k2 k3 k4 k5 k6=>⟨by rw[k6];exact put_defers _ _ _,u',rfl,H',φ',.inr ⟨v,c,rfl,k2,k1⟩,pY k5,k4,k5⟩)
   show b.wpS P _ a' _ w'
   refine wpS_of_wp (wp_mono (uM b ib h3 _ φ' H' w' ts' a' k3 k2 k1) ?_)
   rintro e a2 w2 ⟨x2,w9,H2,dJ,m1,m2,m3,m4,m5,m6⟩
   have hd:a2.defers=[]:=by
    rw[m6,k5]
    exact put_defers _ _ _
   have hst:=k4.trans m5
   have hr:(results fn a2.tmps).run P w2 = .ok (.tuple #[]) w2:=by
    unfold results
    rw[hres]
    simp
   cases x2 with
   |normal =>
    cases e<;>try exact m1.elim
    exact ⟨hd,u',rfl,_,hr,H2,dJ,.inl ⟨⟨_,rfl⟩,m2⟩,pY hst,m4,hst⟩
   |ret =>
    cases e<;>try exact m1.elim
    exact ⟨hd,u',rfl,_,hr,H2,dJ,.inl ⟨⟨_,rfl⟩,m2⟩,pY hst,m4,hst⟩
   |exit i=>exact m2.elim
   |bP v =>
    cases e<;>try exact m1.elim
    exact ⟨hd,u',rfl,H2,dJ,.inr ⟨v,_,rfl,m1,m2⟩,pY hst,m4,hst⟩
 cases hrd:recoverD (c₀::cs) with
 |none =>
  rw[hrd] at Gt
  obtain ⟨rfl,rfl⟩:=Gt
  rw[if_pos (hw { tmps:=ws++Array.replicate (fn.ntmps-ws.size) undef,defers:=[] })]
  exact Am _ (by rw[aeE])
 |some p =>
  obtain ⟨v',cs'⟩:=p
  rw[hrd] at Gt
  obtain ⟨rfl,rfl⟩:=Gt
  rw[if_pos (hw { tmps:=ws++Array.replicate (fn.ntmps-ws.size) undef,defers:=[] })]
  exact Am _ rfl
theorem KO{K K':List AV→Y→Prop}{Kp:AV→List AV→Y→Prop}(h:∀ts H,K ts H→K' ts H){l:List cy}{ts:List AV}{H:Y}(hr:dj P K Kp l ts H):dj P K' Kp l ts H:=gR h (fun _ _ _ h=>h) hr
def Bq(P:Program)(d:Nat)(l:List cy)(ib:IC)(n:Nat)(cK:List AV)(x:AV)(Kr:Y→Prop)(Kq:AV→Y→Prop)(H:Y):Prop :=
 dj P (fun ts H=>ES P ib (Dm Kr Kq) ts H) (fun v _ H=>Kq v H) l ((cK++List.replicate (n-cK.length) (AV.aO [])).set d x) H
def An(P:Program)(d:Nat)(l:List cy)(ib:IC)(n:Nat)(rs:List RV)(Kr:cH→Y→Prop)(cK:List AV):Post
 |.normal,ts,H=>Bq P d l ib n cK (.sc .nilIface) (fun H'=>iZ rs ts H'∧Kr (.ret (oneOf (kQ rs ts H'))) H') (fun v H'=>Kr (.bP v) H') H
 |.ret,ts,H=>Bq P d l ib n cK (.sc .nilIface) (fun H'=>iZ rs ts H'∧Kr (.ret (oneOf (kQ rs ts H'))) H') (fun v H'=>Kr (.bP v) H') H
 |.bP v,ts,H=>Bq P d l ib n cK v (fun H'=>iZ rs ts H'∧Kr (.ret (oneOf (kQ rs ts H'))) H') (fun v H'=>Kr (.bP v) H') H
 |.exit _,_,_=>False
def Gu(P:Program)(ic:IC)(Kd:List AV→Post)(g:Nat)(ts:List AV)(H:Y)(v:AV):Prop:=match v with
 |.fn (.func f) [] cK=>f=g∧ES P ic (Kd cK) ts H
 |_=>False
theorem Xv{ic:IC}{Kd:List AV→Post}{g:Nat}{ts:List AV}{H:Y}{cK:List AV}:Gu P ic Kd g ts H (.fn (.func g) [] cK)=ES P ic (Kd cK) ts H:=by simp[Gu]
def Gv(P:Program)(g t:Nat)(ic:IC)(Kd:List AV→Post)(K:Post):Post
 |.normal,ts,H=>Gu P ic Kd g ts H (ts.getD t .top)
 |x,ts,H=>K x ts H
section
variable {g t:Nat}{ic:IC}{Kd:List AV→Post}{K:Post}{ts:List AV}{H:Y}
theorem abc:Gv P g t ic Kd K .normal ts H=Gu P ic Kd g ts H (ts.getD t .top):=rfl
theorem abd{i:Nat}:Gv P g t ic Kd K (.exit i) ts H=K (.exit i) ts H:=rfl
theorem abe:Gv P g t ic Kd K .ret ts H=K .ret ts H:=rfl
theorem abf{v:AV}:Gv P g t ic Kd K (.bP v) ts H=K (.bP v) ts H:=rfl
end
section
variable {d n:Nat}{l:List cy}{ib:IC}{rs:List RV}{Kr:cH→Y→Prop}{cK ts:List AV}{H:Y}{x:AV}{Kh:Y→Prop}{Kq:AV→Y→Prop}
theorem Xw:An P d l ib n rs Kr cK .normal ts H=Bq P d l ib n cK (.sc .nilIface) (fun H'=>iZ rs ts H'∧Kr (.ret (oneOf (kQ rs ts H'))) H') (fun v H'=>Kr (.bP v) H') H:=rfl
theorem Xx:An P d l ib n rs Kr cK .ret ts H=Bq P d l ib n cK (.sc .nilIface) (fun H'=>iZ rs ts H'∧Kr (.ret (oneOf (kQ rs ts H'))) H') (fun v H'=>Kr (.bP v) H') H:=rfl
theorem Xy{v:AV}:An P d l ib n rs Kr cK (.bP v) ts H=Bq P d l ib n cK v (fun H'=>iZ rs ts H'∧Kr (.ret (oneOf (kQ rs ts H'))) H') (fun v H'=>Kr (.bP v) H') H:=rfl
theorem Tn:Bq P d l ib n cK x Kh Kq H=dj P (fun ts H=>ES P ib (Dm Kh Kq) ts H) (fun v _ H=>Kq v H) l ((cK++List.replicate (n-cK.length) (AV.aO [])).set d x) H:=rfl
theorem abg:Dm Kh Kq .normal ts H=Kh H:=rfl
theorem abh:Dm Kh Kq .ret ts H=Kh H:=rfl
theorem abi{v:AV}:Dm Kh Kq (.bP v) ts H=Kq v H:=rfl
end
theorem KP{g:FuncId}(h:cr P g=true)(ws:Array Value)(w:World):(invoke (.fn (.func g) ws) #[]).run P w = .ok (.enter g ws) w:=by
 obtain ⟨fn,h1,h2,h3⟩:=pU h
 show (callFunc g (#[]++ws)).run P w=_
 rw[Array.empty_append]
 exact lz h1 h2 h3 ws w
theorem IL{f:FuncId}{fn:Func}{c:Code}{pre:IC}{t:Nat}{ic:IC}{rs:List RV}{bx Xz:List Nat}(hf:P.funcs[f]? = some fn)(hb:fn.body=some c)(hc:uZ P bx c=some (pre,t,ic))(hr:ox P fn.results.toList=some rs)
  {g:FuncId}{gn:Func}{gc:Code}{d:Nat}{l:List cy}{ib:IC}(hg:P.funcs[g]? = some gn)(hgb:gn.body=some gc)(hgc:yP P Xz gc=some (d,l,ib))(KQ:gn.results=#[])(Dn:cr P g=true){args:List AV}{H:Y}{Kr:cH→Y→Prop}
  (h:ES P pre (Gv P g t ic (An P d l ib gn.ntmps rs Kr) (sZ rs Kr)) (args++List.replicate (fn.ntmps-args.length) (.aO [])) H):DK P f args H Kr:=by
 intro φ w vs hR ha
 have hF:FR φ (Own φ H) w (args++List.replicate (fn.ntmps-args.length) (.aO [])) { tmps:=vs++Array.replicate (fn.ntmps-vs.size) undef,defers:=[] }:=Al ha
 have hE:E P pre (acV P g t ic (An P d l ib gn.ntmps rs Kr) (Af rs Kr)) (args++List.replicate (fn.ntmps-args.length) (.aO [])) H:=by
  refine Kw (Dh (fun x ts H hx=>?_) h)
  cases x with
  |normal =>
   show KM g _ t ts H
   have hx':Gu P ic _ g ts H (ts.getD t .top):=hx
   unfold Gu at hx'
   unfold KM
   split at hx'
   ·rename_i he
    simp only[he]
    exact ⟨hx'.1,Kw hx'.2⟩
   ·exact hx'.elim
  |exit i=>exact mu (rs:=rs) (Kr:=Kr) (.exit i) ts H hx
  |ret=>exact mu (rs:=rs) (Kr:=Kr) .ret ts H hx
  |bP v=>exact mu (rs:=rs) (Kr:=Kr) (.bP v) ts H hx
 refine calls_of_wp_defers hf hb (wp_mono (OD (K:=Af rs Kr) c pre t ic hc φ H w _ _ hR hF rfl hE) ?_)
 rintro e a' w' (⟨cK,x,ts',H',φ',k1,k2,k3,k4,k5,k6⟩|⟨hn,x,ts',H',φ',k1,k2,k3,k4,k5,k6⟩)
 ·obtain ⟨ws,hds,hws⟩:=k6
  have main:∀{M M':OE}{u:FrameMode}{x:AV},u≠.run→s7 φ' (Own φ' H') w' M u→((M = .ret∧M' = .ret∧x = .sc .nilIface)∨(M = .bP x false∧M' = .bP x true))→Bq P d l ib gn.ntmps cK x (fun H'=>iZ rs ts' H'∧Kr (.ret (oneOf (kQ rs ts' H'))) H') (fun v H'=>Kr (.bP v) H') H'→
    Leaves P fn a'.tmps (fun en w'=>∃e H' φ',Bg φ' (Own φ' H') w' e en∧Kr e H'∧Rel φ' H' w'∧Step φ H w φ' H' w') a'.defers u w':=by
   intro M M' u x hu hm hM Gt
   rw[hds]
   refine leaves_cons hu (KP Dn ws w') ?_
   refine (OI hg hgb hgc KQ k4 hws hm hM (Kr:=fun H'=>iZ rs ts' H'∧Kr (.ret (oneOf (kQ rs ts' H'))) H') (Kq:=fun v H'=>Kr (.bP v) H') (iY (KO (fun ts H h=>Kw h) Gt))).mono fun e u' w2 ⟨H2,dJ,hend,pY,CQ,H6⟩=>?_
   rcases hend with ⟨⟨v,hv⟩,hk⟩|⟨y,c,hv,hch,hk⟩
   ·subst hv
    show Leaves P fn a'.tmps _ [] (settle u') w2
    have gK:settle u' = .returning:=by
     rcases hM with ⟨_,rfl,_⟩|⟨_,rfl⟩
     ·cases u'<;>first|exact pY.elim|rfl
     ·cases u'<;>first|exact pY.elim|skip
      obtain ⟨v',older,rfl,uo,_⟩:=pY
      have hdw:∀l:List PanicEntry,(∀p∈l,p.goexit=false)→l.dropWhile (fun p=>!p.goexit)=[]:=by
       intro l hl
       induction l with
       |nil=>rfl
       |cons p r ih =>
        rw[List.dropWhile_cons,hl p (by simp)]
        simpa using ih fun q hq=>hl q (by simp[hq])
      simp only[settle,hdw older uo]
    rw[gK]
    have jH:FR dJ (Own dJ H2) w2 ts' a':=FR.step H6 k3
    obtain ⟨y,v2,g1,g2,g3⟩:=pb CQ jH hr (K:=fun y=>Kr (.ret y) H2) (uV hk.1 hk.2)
    exact ⟨v2,g3,.ret y,H2,dJ,g2,g1,CQ,k5.trans H6⟩
   ·subst hv
    show Leaves P fn a'.tmps _ [] (raised u' c) w2
    obtain ⟨v',Ri,sV,acW,hv'⟩:=hch
    rcases hM with ⟨_,rfl,_⟩|⟨_,rfl⟩
    ·cases u'<;>first|exact pY.elim|skip
     exact ⟨.bP y,H2,dJ,⟨v',Ri,sV,acW,hv'⟩,hk,CQ,k5.trans H6⟩
    ·cases u'<;>first|exact pY.elim|skip
     obtain ⟨v1,older,rfl,uo,_⟩:=pY
     subst sV
     refine ⟨.bP y,H2,dJ,⟨v',Ri++({ v:=v1,recovered:=true }::older),by simp[raised],fun p hp=>?_,hv'⟩,hk,CQ,k5.trans H6⟩
     rcases List.mem_append.1 hp with hp|hp
     ·exact acW p hp
     ·rcases List.mem_cons.1 hp with rfl|hp
      ·rfl
      ·exact uo p hp
  cases x with
  |normal =>
   cases e<;>try exact k1.elim
   exact main (M:=.ret) (M':=.ret) (by simp) trivial (.inl ⟨rfl,rfl,rfl⟩) k2
  |ret =>
   cases e<;>try exact k1.elim
   exact main (M:=.ret) (M':=.ret) (by simp) trivial (.inl ⟨rfl,rfl,rfl⟩) k2
  |exit i=>exact k2.elim
  |bP v =>
   cases e<;>try exact k1.elim
   obtain ⟨u,older,rfl,uo,hu⟩:=k1
   exact main (M:=.bP v false) (M':=.bP v true) (by simp) ⟨u,older,rfl,uo,hu⟩ (.inr ⟨rfl,rfl⟩) k2
 ·cases x with
  |normal =>
   cases e<;>try exact k1.elim
   exact (hn rfl).elim
  |ret =>
   cases e<;>try exact k1.elim
   obtain ⟨y,v,g1,g2,g3⟩:=pb k4 k3 hr (K:=fun x=>Kr (.ret x) H') k2
   show Leaves P fn a'.tmps _ a'.defers _ w'
   rw[k6]
   exact ⟨v,g3,.ret y,H',φ',g2,g1,k4,k5⟩
  |exit i=>exact k2.elim
  |bP v =>
   cases e<;>try exact k1.elim
   show Leaves P fn a'.tmps _ a'.defers _ w'
   rw[k6]
   exact ⟨.bP v,H',φ',k1,k2,k4,k5⟩
end
def cP(n0:Nat)(src:List Nat)(id:Nat):Option Nat:=if id<n0 then some id else (src.idxOf? id).map (n0+·)
mutual
inductive Gz(H1:Y)(n0:Nat)(src:List Nat):AV→AV→Prop where
 |same {x:AV}:x.ids (fun id=>cP n0 src id=some id)→Gz H1 n0 src x x
 | Gw {k id id' off n:Nat}{c c':Option Nat}:cP n0 src id=some id'→(c'=c∨c'=none)→Gz H1 n0 src (.aD k id off n c) (.aD k id' off n c')
 | agO {k id id' j f:Nat}:cP n0 src id=some id'→Gz H1 n0 src (.ptr k id j f) (.ptr k id' j f)
 | aD {k id off n:Nat}{c:Option Nat}{blk:aP}{ys:List AV}:cP n0 src id=none→Y.find H1 id=some blk→blk.k=k→off+n≤blk.es.length→dt H1 n0 src ((blk.es.drop off).take n) ys→Gz H1 n0 src (.aD k id off n c) (.am k ys none)
 | am {k:Nat}{xs ys:List AV}{room:Option (List AV)}:dt H1 n0 src xs ys→Gz H1 n0 src (.am k xs room) (.am k ys none)
 | agP {k:Nat}{xs ys:List AV}:dt H1 n0 src xs ys→Gz H1 n0 src (.am k xs (some [])) (.am k ys (some []))
 | nil {k:Nat}{room:Option (List AV)}{k':Nat}:Gz H1 n0 src (.am k' [] room) (.am k [] none)
 | XA {k k':Nat}:Gz H1 n0 src (.am k' [] (some [])) (.am k [] (some []))
 | agg {xs ys:List AV}:dt H1 n0 src xs ys→Gz H1 n0 src (.agg xs) (.agg ys)
 | aO {xs ys:List AV}:dt H1 n0 src xs ys→Gz H1 n0 src (.aO xs) (.aO ys)
 | eP {t:TypeId}{x y:AV}:Gz H1 n0 src x y→Gz H1 n0 src (.eP t x) (.eP t y)
 | fn {f:Fn}{a b a' b':List AV}:dt H1 n0 src a a'→dt H1 n0 src b b'→Gz H1 n0 src (.fn f a b) (.fn f a' b')
inductive dt(H1:Y)(n0:Nat)(src:List Nat):List AV→List AV→Prop where
 | nil:dt H1 n0 src [] []
 | cons {x y:AV}{r s:List AV}:Gz H1 n0 src x y→dt H1 n0 src r s→dt H1 n0 src (x::r) (y::s)
end
section
variable {H1:Y}{n0:Nat}{src:List Nat}
theorem dt.len:∀{xs ys:List AV},dt H1 n0 src xs ys→ys.length=xs.length
 |_,_,.nil=>rfl
 |_,_,.cons _ h=>by simp[h.len]
theorem Gz.isAgg{x y:AV}(h:Gz H1 n0 src x y):y.isAgg=x.isAgg∧y.az=x.az:=by
 cases h with
 |agg h=>exact ⟨rfl,h.len⟩
 |_=>exact ⟨rfl,rfl⟩
theorem Gz.kV{x y:AV}(h:Gz H1 n0 src x y){u:Value}(hk:kV x u):kV y u:=by
 cases h with
 |agg h=>obtain ⟨us,h1,h2⟩:=hk;exact ⟨us,h1,by rw[h2,h.len]⟩
 |_=>exact hk
theorem s8{id:Nat}(h:id<n0):cP n0 src id=some id:=by unfold cP;rw[if_pos h]
end
def ji(bK:aU)(n0:Nat)(src:List Nat):aU:=fun i=>if i<n0 then bK i else (src[i-n0]?).bind bK
structure IM(bK:aU)(H1:Y)(n0:Nat)(src:List Nat)(H2:Y):Prop where
 nodup:src.Nodup
 aeF:∀s∈src,n0≤s
 len:H2.length=n0+src.length
 live:∀id k,Y.find H2 id=some k→(id<n0∧∃k1,Y.find H1 id=some k1)∨∃s,src[id-n0]? = some s∧n0≤id∧∃k1,Y.find H1 s=some k1
section
variable {bK:aU}{H1:Y}{n0:Nat}{src:List Nat}{H2:Y}
theorem KR{s:Nat}{i:Nat}{l:List Nat}(h:l.idxOf? s=some i):l[i]? = some s:=by
 induction l generalizing i with
 |nil=>simp at h
 |cons x r ih =>
  rw[List.idxOf?_cons] at h
  split at h
  ·rename_i e
   cases h
   simp at e
   simp[e]
  ·rw[Option.map_eq_some_iff] at h
   obtain ⟨j,h1,rfl⟩:=h
   simpa using ih h1
theorem u0{s:Nat}{i:Nat}{l:List Nat}(hn:l.Nodup)(h:l[i]? = some s):l.idxOf? s=some i:=by
 induction l generalizing i with
 |nil=>simp at h
 |cons x r ih =>
  rw[List.idxOf?_cons]
  cases i with
  |zero=>simp at h;simp[h]
  |succ i =>
   simp at h
   have hx:¬(x == s)=true:=by
    intro e
    have e':x=s:=by simpa using e
    have:=(List.nodup_cons.1 hn).1
    exact this (e'▸List.mem_of_getElem? h)
   rw[if_neg hx,ih (List.nodup_cons.1 hn).2 h]
   rfl
theorem Ao{id id':Nat}(h:cP n0 src id=some id'):ji bK n0 src id'=bK id:=by
 unfold cP at h
 unfold ji
 split at h
 ·cases h;rw[if_pos (by assumption)]
 ·rw[Option.map_eq_some_iff] at h
  obtain ⟨i,h1,rfl⟩:=h
  rw[if_neg (by omega),show n0+i-n0=i from by omega,KR h1]
  rfl
theorem KS(hc:IM bK H1 n0 src H2){b:Nat}(h:Own (ji bK n0 src) H2 b):∃id,bK id=some b∧(∃k1,Y.find H1 id=some k1)∧cP n0 src id≠none:=by
 obtain ⟨id,k,h1,h2⟩:=h
 unfold ji at h1
 rcases hc.live id k h2 with ⟨g1,g2⟩|⟨s,g1,g2,g3⟩
 ·rw[if_pos g1] at h1
  exact ⟨id,h1,g2,by rw[s8 g1];simp⟩
 ·rw[if_neg (by omega),g1] at h1
  refine ⟨s,h1,g3,?_⟩
  unfold cP
  rw[if_neg (by have:=hc.aeF s (List.mem_of_getElem? g1);omega),u0 hc.nodup g1]
  simp
theorem rX(hc:IM bK H1 n0 src H2){b:Nat}(h:Own (ji bK n0 src) H2 b):Own bK H1 b:=by
 obtain ⟨id,h1,⟨k1,h2⟩,_⟩:=KS hc h
 exact ⟨id,k1,h1,h2⟩
theorem Dp(hc:IM bK H1 n0 src H2){w1:World}:Later (fun id=>cP n0 src id=some id) bK (ji bK n0 src) (Own bK H1) (Own (ji bK n0 src) H2) w1 w1 :=
 ⟨fun id b hid hm=>by rw[Ao hid];exact hm,Nat.le_refl _,fun b hb ho fN=>ho (rX hc fN),fun _ _ _=>rfl,fun _ _=>rfl⟩
mutual
theorem Gz.R{w1:World}(hR:Rel bK H1 w1)(hc:IM bK H1 n0 src H2):∀{x y:AV},Gz H1 n0 src x y→∀{g:Nat→Option Value},R bK (Own bK H1) w1 x g→R (ji bK n0 src) (Own (ji bK n0 src) H2) w1 y g
 |_,_,.same hi,g,h=>lh (Dp hc) _ _ _ hi (fun _ _ h=>h) h
 |_,_,.Gw hi hJ,g,h=>by
  obtain ⟨b,c',cur,e,fr,v1,v2,v3,v4,v5,v6,v7⟩:=h
  refine ⟨b,c',cur,e,fr,by rw[Ao hi];exact v1,v2,v3,v4,fun m hm=>?_,v6,v7⟩
  rcases hJ with rfl|rfl
  ·exact v5 m hm
  ·simp at hm
 |_,_,.agO hi,g,h=>by
  obtain ⟨b,h1,h2⟩:=h
  exact ⟨b,by rw[Ao hi];exact h1,h2⟩
 |_,_,.aD (k:=k) (id:=id) (off:=off) (n:=n) (c:=c) (blk:=blk) (ys:=ys) h1 h2 h3 h4 h5,g,h=>by
  obtain ⟨b,c',cur,e,fr,v1,v2,v3,v4,v5,v6,v7⟩:=h
  have mb:((blk.es.drop off).take n).length=n:=by simp;omega
  have pO:ys.length=n:=by rw[h5.len,mb]
  refine ⟨_,c',by rw[pO];exact v2,by omega,v4,fun h=>by simp at h,fun hp=>⟨b,off*k,rfl,?_,jI v6,?_⟩,trivial⟩
  ·intro ho
   obtain ⟨id',g1,⟨k1,g2⟩,g3⟩:=KS hc ho
   have:=hR.inj id' id b g1 v1 (by rw[g2];rfl) (by rw[h2];rfl)
   rw[this] at g3
   exact g3 h1
  ·obtain ⟨_,uC,cap,a1,a2,a3,a4,a5,a6⟩:=(hR.blk id b blk v1 h2).jK v6
   have h7:=jL (n:=n) (lq (f:=off) a6)
   rw[h3,Nat.zero_add] at h7
   exact dt.Rl hR hc h5 h7
 |_,_,.am (k:=k) (xs:=xs) (ys:=ys) hl,g,h=>by
  obtain ⟨a,c,h1,h2,h3,h4,h5,h6⟩:=h
  have pO:=hl.len
  refine ⟨a,c,by rw[pO];exact h1,by omega,h3,h4,fun hp=>?_,trivial⟩
  obtain ⟨b,off,e1,e2,e3,e4⟩:=h5 (by omega)
  exact ⟨b,off,e1,fun ho=>e2 (rX hc ho),e3,dt.Rl hR hc hl e4⟩
 |_,_,.agP (k:=k) (xs:=xs) (ys:=ys) hl,g,h=>by
  obtain ⟨a,c,h1,h2,h3,h4,h5,h6⟩:=h
  have pO:=hl.len
  refine ⟨a,c,by rw[pO];exact h1,by omega,h3,h4,fun hp=>?_,by rw[pO];exact h6.1,fun hp=>by simp at hp⟩
  obtain ⟨b,off,e1,e2,e3,e4⟩:=h5 (by omega)
  exact ⟨b,off,e1,fun ho=>e2 (rX hc ho),e3,dt.Rl hR hc hl e4⟩
 |_,_,.nil,g,h=>by
  obtain ⟨a,c,h1,h2,h3,h4,h5,h6⟩:=h
  exact ⟨a,c,h1,h2,h3,h4,fun hp=>by simp at hp,trivial⟩
 |_,_,.XA,g,h=>by
  obtain ⟨a,c,h1,h2,h3,h4,h5,h6⟩:=h
  exact ⟨a,c,h1,h2,h3,h4,fun hp=>by simp at hp,h6.1,fun hp=>by simp at hp⟩
 |_,_,.agg hl,g,h=>dt.Rs hR hc hl h
 |_,_,.aO hl,g,h=>by
  obtain ⟨us,h1,h2⟩:=h
  exact ⟨us,h1,dt.Rt hR hc hl h2⟩
 |_,_,.eP hx,g,h=>by
  obtain ⟨u,h1,h2,h3⟩:=h
  exact ⟨u,h1,hx.kV h2,Gz.R hR hc hx h3⟩
 |_,_,.fn ha hb,g,h=>by
  obtain ⟨us,ws,h1,h2,h3⟩:=h
  exact ⟨us,ws,h1,dt.Rt hR hc ha h2,dt.Rt hR hc hb h3⟩
theorem dt.Rl{w1:World}(hR:Rel bK H1 w1)(hc:IM bK H1 n0 src H2):∀{xs ys:List AV},dt H1 n0 src xs ys→∀{b k off:Nat},Rl bK (Own bK H1) w1 b k xs off→Rl (ji bK n0 src) (Own (ji bK n0 src) H2) w1 b k ys off
 |_,_,.nil,b,k,off,_=>trivial
 |_,_,.cons hx hr,b,k,off,h=>⟨by rw[hx.isAgg.2];exact h.1,by rw[hx.isAgg.1];exact h.2.1,Gz.R hR hc hx h.2.2.1,dt.Rl hR hc hr h.2.2.2⟩
theorem dt.Rs{w1:World}(hR:Rel bK H1 w1)(hc:IM bK H1 n0 src H2):∀{xs ys:List AV},dt H1 n0 src xs ys→∀{g:Nat→Option Value},Rs bK (Own bK H1) w1 xs g→Rs (ji bK n0 src) (Own (ji bK n0 src) H2) w1 ys g
 |_,_,.nil,g,_=>trivial
 |_,_,.cons hx hr,g,h=>⟨by rw[hx.isAgg.1];exact h.1,Gz.R hR hc hx h.2.1,h.2.2.1,dt.Rs hR hc hr h.2.2.2⟩
theorem dt.Rt{w1:World}(hR:Rel bK H1 w1)(hc:IM bK H1 n0 src H2):∀{xs ys:List AV},dt H1 n0 src xs ys→∀{us:List Value},Rt bK (Own bK H1) w1 xs us→Rt (ji bK n0 src) (Own (ji bK n0 src) H2) w1 ys us
 |_,_,.nil,us,h=>h
 |_,_,.cons hx hr,us,h=>by
  obtain ⟨v,s,h1,h2,h3,h4⟩:=h
  exact ⟨v,s,h1,hx.kV h2,Gz.R hR hc hx h3,dt.Rt hR hc hr h4⟩
end
end
theorem dt.RE{bK:aU}{H1 H2:Y}{n0:Nat}{src:List Nat}{w1:World}(hR:Rel bK H1 w1)(hc:IM bK H1 n0 src H2):∀{xs ys:List AV},dt H1 n0 src xs ys→∀{es:List MapEntry},RE bK (Own bK H1) w1 xs es→RE (ji bK n0 src) (Own (ji bK n0 src) H2) w1 ys es
 |_,_,.nil,_,h=>h
 |_,_,.cons hx hr,_,h=>by
  obtain ⟨e,s,h1,h2,h3⟩:=h
  exact ⟨e,s,h1,⟨hx.kV h2.1,Gz.R hR hc hx h2.2⟩,dt.RE hR hc hr h3⟩
def Gx(H1:Y)(n0:Nat)(src:List Nat)(k1 k:aP):Prop:=k.k=k1.k∧k.ty=k1.ty∧(k.exact=true→k1.exact=true)∧dt H1 n0 src k1.es k.es
def agQ(H1:Y)(n0:Nat)(src:List Nat):cH→cH→Prop
 |.ret x,.ret y=>Gz H1 n0 src x y
 |.bP x,.bP y=>Gz H1 n0 src x y
 |_,_=>False
theorem kw{H H1 H2:Y}(src:List Nat){e1 e:cH}(hl:H2.length=H.length+src.length)(hn:src.Nodup)(ha:∀s∈src,H.length≤s)
  (hold:∀id k,id<H.length→Y.find H2 id=some k→(Y.find H id=some k∧Y.find H1 id=some k)∨∃k1,Y.find H1 id=some k1∧Gx H1 H.length src k1 k)
  (ui:∀i s k,src[i]? = some s→Y.find H2 (H.length+i)=some k→∃k1,Y.find H1 s=some k1∧Gx H1 H.length src k1 k)
  (hz:agQ H1 H.length src e1 e):eB H e1 H1 e H2:=by
 intro φ w bK w1 en Iw he hR hS
 have hc:IM bK H1 H.length src H2:=by
  refine ⟨hn,ha,hl,fun id k hk=>?_⟩
  by_cases hid:id<H.length
  ·left
   rcases hold id k hid hk with ⟨_,h2⟩|⟨k1,h2,_⟩
   ·exact ⟨hid,k,h2⟩
   ·exact ⟨hid,k1,h2⟩
  ·right
   have hlt:=Y.ax hk
   have hi:id-H.length<src.length:=by omega
   have hs:src[id-H.length]? = some src[id-H.length]:=by simp[hi]
   obtain ⟨k1,h1,_⟩:=ui _ _ k hs (by rw[show H.length+(id-H.length)=id from by omega];exact hk)
   exact ⟨_,hs,by omega,k1,h1⟩
 have XB:∀id b,ji bK H.length src id=some b→(id<H.length∧bK id=some b)∨∃s,src[id-H.length]? = some s∧H.length≤id∧bK s=some b:=by
  intro id b h
  unfold ji at h
  split at h
  ·exact .inl ⟨by assumption,h⟩
  ·rw[Option.bind_eq_some_iff] at h
   obtain ⟨s,h1,h2⟩:=h
   exact .inr ⟨s,h1,by omega,h2⟩
 have Rj:∀id k b,Y.find H2 id=some k→ji bK H.length src id=some b→∃s,bK s=some b∧(Y.find H1 s).isSome∧cP H.length src s=some id:=by
  intro id k b h1 h2
  rcases XB id b h2 with ⟨g1,g2⟩|⟨s,g1,g2,g3⟩
  ·refine ⟨id,g2,?_,s8 g1⟩
   rcases hc.live id k h1 with ⟨_,k1,g⟩|⟨s,_,g,_⟩
   ·rw[g];rfl
   ·omega
  ·refine ⟨s,g3,?_,?_⟩
   ·rcases hc.live id k h1 with ⟨g,_⟩|⟨s',g4,_,k1,g5⟩
    ·omega
    ·rw[g1] at g4;cases g4;rw[g5];rfl
   ·unfold cP
    rw[if_neg (by have:=ha s (List.mem_of_getElem? g1);omega),u0 hn g1]
    simp only[Option.map_some]
    congr 1
    omega
 refine ⟨ji bK H.length src,?_,⟨hR.jC.less fun b ho=>rX hc ho,fun id b h=>?_,fun i j b hi hj jx mM=>?_,fun id b k h1 h2=>?_⟩,⟨⟨fun id b _ h=>?_,hS.size,fun b hb ho fN=>hS.own b hb ho (rX hc fN),hS.same,hS.shape⟩,hS.os,hS.tape,hS.output,by omega,fun id hid=>?_⟩⟩
 ·cases e1 with
  |ret x =>
   cases e with
   |bP y=>exact hz.elim
   |ret y =>
    cases en with
    |returned v=>exact ⟨Gz.kV hz he.1,Gz.R hR hc hz he.2⟩
    |_=>exact he.elim
  |bP x =>
   cases e with
   |ret y=>exact hz.elim
   |bP y =>
    cases en with
    |panicked c=>obtain ⟨v,older,rfl,ho,hv⟩:=he;exact ⟨v,older,rfl,ho,Gz.kV hz hv.1,Gz.R hR hc hz hv.2⟩
    |_=>exact he.elim
 ·rcases XB id b h with ⟨g1,g2⟩|⟨s,g1,g2,g3⟩
  ·exact ⟨by omega,(hR.dom id b g2).2⟩
  ·have:=(List.getElem?_eq_some_iff.1 g1).1
   exact ⟨by omega,(hR.dom s b g3).2⟩
 ·obtain ⟨k1,e1⟩:=Option.isSome_iff_exists.1 jx
  obtain ⟨k2,e2⟩:=Option.isSome_iff_exists.1 mM
  obtain ⟨s1,a1,a2,a3⟩:=Rj i k1 b e1 hi
  obtain ⟨s2,b1,b2,b3⟩:=Rj j k2 b e2 hj
  have:=hR.inj s1 s2 b a1 b1 a2 b2
  rw[this,b3] at a3
  exact (Option.some.inj a3).symm
 ·have hblk:∀{s:Nat}{k1:aP},bK s=some b→Y.find H1 s=some k1→Gx H1 H.length src k1 k→jJ (ji bK H.length src) (Own (ji bK H.length src) H2) w1 k b:=by
   intro s k1 g1 g2 ⟨z1,z2,z3,z4⟩
   rcases hR.blk s b k1 g1 g2 with ⟨h0,c1,c2,a1,a2,a3,a4,a5,a6⟩|⟨h0,ht,bU,clock,a1,a2,a3,a4⟩|⟨h0,ht,r,ts,tm,e,a1,a2⟩|⟨h0,ht,bU,clock,x,r,e,a1,a2,a3,a4,a5⟩|⟨h0,ht,bm,clock,seen,a1,a2⟩
   ·refine .inl ⟨by rw[z1];exact h0,c1,c2,by rw[z2];exact a1,by rw[z1];exact a2,by rw[z4.len];exact a3,fun h=>by rw[z4.len];exact a4 (z3 h),a5,?_⟩
    rw[z1]
    exact dt.Rl hR hc z4 a6
   ·exact .inr (.inl ⟨by rw[z1];exact h0,by rw[z2];exact ht,bU,clock,a1,a2,a3,dt.RE hR hc z4 a4⟩)
   ·rw[e] at z4
    generalize mg:k.es=es at z4
    cases z4 with
    |cons zx zr =>
     cases zx with
     |same hi=>exact .inr (.inr (.inl ⟨by rw[z1];exact h0,by rw[z2];exact ht,r,_,tm,mg,a1,dt.Rt hR hc zr a2⟩))
   ·rw[e] at z4
    generalize mg:k.es=es at z4
    cases z4 with
    |cons zx zr=>exact .inr (.inr (.inr (.inl ⟨by rw[z1];exact h0,by rw[z2];exact ht,bU,clock,_,_,mg,a1,a2,a3,⟨Gz.kV zx a4.1,Gz.R hR hc zx a4.2⟩,dt.RE hR hc zr a5⟩)))
   ·exact .inr (.inr (.inr (.inr ⟨by rw[z1];exact h0,by rw[z2];exact ht,bm,clock,seen,a1,dt.Rt hR hc z4 a2⟩)))
  rcases XB id b h1 with ⟨g1,g2⟩|⟨s,g1,g2,g3⟩
  ·rcases hold id k g1 h2 with ⟨h3,h4⟩|⟨k1,h3,h4⟩
   ·have h5:φ id=some b:=by rw[←hS.old id g1];exact g2
    have uK:=AV.eU (q:=fun i=>cP H.length src i=some i) (fun i ⟨b',hb'⟩=>s8 (Iw.dom i b' hb').1) _ (Iw.blk id b k h5 h3).ids
    exact (hR.blk id b k g2 h4).later (Dp hc) rfl uK
   ·exact hblk g2 h3 h4
  ·obtain ⟨k1,h3,h4⟩:=ui (id-H.length) s k g1 (by rw[show H.length+(id-H.length)=id from by omega];exact h2)
   exact hblk g3 h3 h4
 ·have h4:=(Iw.dom id b h).1
  unfold ji
  rw[if_pos h4,hS.old id h4]
  exact h
 ·unfold ji
  rw[if_pos hid]
  exact hS.old id hid
mutual
inductive Le:AV→AV→Prop where
 | refl {x:AV}:Le x x
 | am {k:Nat}{xs ys:List AV}{room:Option (List AV)}:pe xs ys→Le (.am k xs room) (.am k ys none)
 | nil {k k':Nat}{room:Option (List AV)}:Le (.am k [] room) (.am k' [] none)
 | agg {xs ys:List AV}:pe xs ys→Le (.agg xs) (.agg ys)
 | aD {k id off n:Nat}{c:Option Nat}:Le (.aD k id off n c) (.aD k id off n none)
inductive pe:List AV→List AV→Prop where
 | nil:pe [] []
 | cons {x y:AV}{r s:List AV}:Le x y→pe r s→pe (x::r) (y::s)
end
theorem pe.refl:∀{l:List AV},pe l l
 |[]=>.nil
 |_::_=>.cons .refl pe.refl
theorem pe.len:∀{xs ys:List AV},pe xs ys→ys.length=xs.length
 |_,_,.nil=>rfl
 |_,_,.cons _ h=>by simp[h.len]
theorem Le.isAgg{x y:AV}(h:Le x y):y.isAgg=x.isAgg∧y.az=x.az:=by
 cases h with
 |agg h=>exact ⟨rfl,h.len⟩
 |_=>exact ⟨rfl,rfl⟩
theorem Le.kV{x y:AV}(h:Le x y){u:Value}(hk:kV x u):kV y u:=by
 cases h with
 |agg h=>obtain ⟨us,h1,h2⟩:=hk;exact ⟨us,h1,by rw[h2,h.len]⟩
 |_=>exact hk
section
variable {φ:aU}{O:Nat→Prop}{w:World}
mutual
theorem Le.R:∀{x y:AV},Le x y→∀{g:Nat→Option Value},R φ O w x g→R φ O w y g
 |_,_,.refl,g,h=>h
 |_,_,.am hl,g,h=>by
  obtain ⟨a,c,h1,h2,h3,h4,h5,h6⟩:=h
  have pO:=hl.len
  refine ⟨a,c,by rw[pO];exact h1,by omega,h3,h4,fun hp=>?_,trivial⟩
  obtain ⟨b,off,e1,e2,e3,e4⟩:=h5 (by omega)
  exact ⟨b,off,e1,e2,e3,pe.Rl hl e4⟩
 |_,_,.nil,g,h=>by
  obtain ⟨a,c,h1,h2,h3,h4,h5,h6⟩:=h
  exact ⟨a,c,h1,h2,h3,h4,fun hp=>by simp at hp,trivial⟩
 |_,_,.agg hl,g,h=>pe.Rs hl h
 |_,_,.aD,g,h=>by
  obtain ⟨b,c',cur,e,fr,v1,v2,v3,v4,v5,v6,v7⟩:=h
  exact ⟨b,c',cur,e,fr,v1,v2,v3,v4,fun m hm=>by simp at hm,v6,v7⟩
theorem pe.Rl:∀{xs ys:List AV},pe xs ys→∀{b k off:Nat},Rl φ O w b k xs off→Rl φ O w b k ys off
 |_,_,.nil,b,k,off,_=>trivial
 |_,_,.cons hx hr,b,k,off,h=>⟨by rw[hx.isAgg.2];exact h.1,by rw[hx.isAgg.1];exact h.2.1,Le.R hx h.2.2.1,pe.Rl hr h.2.2.2⟩
theorem pe.Rs:∀{xs ys:List AV},pe xs ys→∀{g:Nat→Option Value},Rs φ O w xs g→Rs φ O w ys g
 |_,_,.nil,g,_=>trivial
 |_,_,.cons hx hr,g,h=>⟨by rw[hx.isAgg.1];exact h.1,Le.R hx h.2.1,h.2.2.1,pe.Rs hr h.2.2.2⟩
theorem pe.Rt:∀{xs ys:List AV},pe xs ys→∀{us:List Value},Rt φ O w xs us→Rt φ O w ys us
 |_,_,.nil,us,h=>h
 |_,_,.cons hx hr,us,h=>by
  obtain ⟨v,s,h1,h2,h3,h4⟩:=h
  exact ⟨v,s,h1,hx.kV h2,Le.R hx h3,pe.Rt hr h4⟩
end
end
theorem acX{P:Program}{f:FuncId}{args args':List AV}{H H':Y}{e:cH}(hl:pe args args')(h:D P f args' H e H'):D P f args H e H' :=
 ⟨h.1,fun φ w vs hR ha=>h.2 φ w vs hR (hl.Rt ha)⟩
inductive qR(id:Nat)(blk:aP):List AV→List AV→Prop where
 | nil:qR id blk [] []
 | keep {x:AV}{r s:List AV}:qR id blk r s→qR id blk (x::r) (x::s)
 | aD {k off n:Nat}{c:Option Nat}{r s:List AV}:blk.k=k→off+n≤blk.es.length→qR id blk r s→qR id blk (.aD k id off n c::r) (.am k ((blk.es.drop off).take n) none::s)
theorem Br{φ:aU}{H:Y}{id:Nat}{w:World}:Later (fun _=>True) φ φ (Own φ H) (Own φ (Y.set H id none)) w w :=
 ⟨fun _ _ _ h=>h,Nat.le_refl _,fun b _ ho fN=>ho (FW fN),fun _ _ _=>rfl,fun _ _=>rfl⟩
theorem qR.Rt{φ:aU}{H:Y}{w:World}(hR:Rel φ H w){id:Nat}{blk:aP}(hf:Y.find H id=some blk):∀{xs ys:List AV},qR id blk xs ys→∀{us:List Value},Rt φ (Own φ H) w xs us→Rt φ (Own φ (Y.set H id none)) w ys us
 |_,_,.nil,us,h=>h
 |_,_,.keep hr,us,h=>by
  obtain ⟨v,s,h1,h2,h3,h4⟩:=h
  exact ⟨v,s,h1,h2,lh Br _ _ _ (AV.lQ _) (fun _ _ h=>h) h3,qR.Rt hR hf hr h4⟩
 |_,_,.aD (k:=k) (off:=off) (n:=n) hk hn hr,us,h=>by
  obtain ⟨v,s,h1,h2,h3,h4⟩:=h
  refine ⟨v,s,h1,h2,?_,qR.Rt hR hf hr h4⟩
  obtain ⟨b,c',cur,e,fr,v1,v2,v3,v4,v5,v6,v7⟩:=h3
  have mb:((blk.es.drop off).take n).length=n:=by simp;omega
  refine ⟨_,c',by rw[mb];exact v2,by omega,v4,fun h=>by simp at h,fun hp=>⟨b,off*k,rfl,?_,jI v6,?_⟩,trivial⟩
  ·rintro ⟨i,k2,g1,g2⟩
   obtain ⟨g3,g4⟩:=iW g2
   exact g3 (hR.inj i id b g1 v1 (by rw[g4];rfl) (by rw[hf];rfl))
  ·obtain ⟨_,uC,cap,a1,a2,a3,a4,a5,a6⟩:=(hR.blk id b blk v1 hf).jK v6
   have h7:=jL (n:=n) (lq (f:=off) a6)
   rw[hk,Nat.zero_add] at h7
   exact rK Br b rfl _ _ _ (AV.cO _) h7
theorem aeG{P:Program}{f:FuncId}{args args':List AV}{H H':Y}{e:cH}{id:Nat}{blk:aP}(hf:Y.find H id=some blk)(hz:qR id blk args args')(h:D P f args' (Y.set H id none) e H'):D P f args H e H' :=
 ⟨by have:=h.1;rwa [Y.af] at this,fun φ w vs hR ha=>by
  obtain ⟨r1,r2⟩:=hR.kill id
  exact (h.2 φ w vs r1 (hz.Rt hR hf ha)).mono fun en w' ⟨φ',h1,h2,h3⟩=>⟨φ',h1,h2,r2.trans h3⟩⟩
theorem aJ{H:Y}{b:Option aP}{i:Nat}(h:i=H.length):Y.find (b::H) i=b:=by subst h;exact Y.iw
theorem ai{H:Y}{b:Option aP}{i:Nat}(h:i<H.length):Y.find (b::H) i=Y.find H i:=Y.bA h
theorem IP{H:Y}{i j:Nat}{x:Option aP}(h:i=j)(hl:i<H.length):Y.find (Y.set H i x) j=x:=by subst h;exact Y.aC hl
theorem vZ{H:Y}{i:Nat}{b x:Option aP}(h:i<H.length):Y.set (b::H) i x=b::Y.set H i x:=by
 show (if i=H.length then _ else _)=_
 rw[if_neg (by omega)]
theorem yQ{H:Y}{i:Nat}{b x:Option aP}(h:i=H.length):Y.set (b::H) i x=x::H:=by
 show (if i=H.length then _ else _)=_
 rw[if_pos h]
theorem BU{H:Y}{i j:Nat}{x:Option aP}(h:j≠i):Y.find (Y.set H i x) j=Y.find H j:=Y.aj h
theorem D.agR{P:Program}{f:FuncId}{args:List AV}{H H1 H2:Y}{e1 e:cH}(h:D P f args H e1 H1)(hl:H.length≤H2.length)(hw:eB H e1 H1 e H2):D P f args H e H2 :=
 ⟨hl,fun φ w vs hR ha=>(h.2 φ w vs hR ha).mono fun en w' ⟨φ',h1,h2,h3⟩=>hw φ w φ' w' en hR h1 h2 h3⟩
def aW(k:Nat)(xs:List AV)(id:Nat):AV:=match xs with
 |[]=>.am 0 [] (some [])
 |_::_=>.aD k id 0 xs.length none
def bS(k:Nat)(ty:TypeId)(xs:List AV):Option aP:=match xs with
 |[]=>none
 |_::_=>some ⟨k,xs,false,ty⟩
def jS(xs:List AV)(id:Nat)(H:Y):Y:=match xs with
 |[]=>H
 |_::_=>Y.set H id none
section
variable {k id i:Nat}{ty:TypeId}{xs:List AV}{H:Y}
theorem jj(h:xs≠[]):aW k xs id = .aD k id 0 xs.length none:=by cases xs<;>first|exact (h rfl).elim|rfl
theorem bj(h:xs≠[]):bS k ty xs=some ⟨k,xs,false,ty⟩:=by cases xs<;>first|exact (h rfl).elim|rfl
theorem Tp(h:xs≠[]):jS xs id H=Y.set H id none:=by cases xs<;>first|exact (h rfl).elim|rfl
theorem bz:(jS xs id H).length=H.length:=by cases xs<;>simp[jS,Y.af]
theorem jT(h:i≠id):Y.find (jS xs id H) i=Y.find H i:=by
 cases xs with
 |nil=>rfl
 |cons x r=>exact Y.aj h
theorem KT{b:Option aP}(h:id<H.length):jS xs id (b::H)=b::jS xs id H:=by
 cases xs with
 |nil=>rfl
 |cons x r=>exact vZ h
theorem pZ{b:aP}(h:bS k ty xs=some b):xs≠[]∧b=⟨k,xs,false,ty⟩:=by
 cases xs with
 |nil=>simp[bS] at h
 |cons x r=>simp[bS] at h;exact ⟨by simp,h.symm⟩
theorem nr:(aW k xs id).bT=false:=by cases xs<;>rfl
theorem s9:(aW k xs id).az=1:=by cases xs<;>rfl
theorem u7:(aW k xs id).isAgg=false:=by cases xs<;>rfl
theorem nU:(aW k xs id).cells=[aW k xs id]:=by cases xs<;>rfl
theorem Dq:pS (aW k xs id)=xs.length:=by cases xs<;>rfl
theorem Bs:oz (aW k xs id)=True:=by cases xs<;>rfl
end
theorem Dr{H1:Y}{n0:Nat}{src:List Nat}{k id id':Nat}{xs:List AV}(h:xs≠[]→cP n0 src id=some id'):Gz H1 n0 src (aW k xs id) (aW k xs id'):=by
 cases xs with
 |nil=>exact .same ⟨trivial,trivial⟩
 |cons x r=>exact .Gw (h (by simp)) (.inl rfl)
theorem qa{H1:Y}{n0:Nat}{src:List Nat}{k id:Nat}{ty:TypeId}{xs ys:List AV}(h:xs≠[]→cP n0 src id=none)(hf:xs≠[]→Y.find H1 id=bS k ty xs)(hz:dt H1 n0 src xs ys):Gz H1 n0 src (aW k xs id) (.am k ys none):=by
 cases xs with
 |nil =>
  cases hz
  exact .nil
 |cons x r =>
  refine .aD (h (by simp)) (hf (by simp)) rfl (by simp) ?_
  simpa using hz
theorem xh{n0 s:Nat}(h:n0≤s):cP n0 [s] s=some n0:=by
 unfold cP
 rw[if_neg (by omega)]
 simp
theorem qR.refl{id:Nat}{blk:aP}:∀{l:List AV},qR id blk l l
 |[]=>.nil
 |_::_=>.keep qR.refl
theorem XC{H:Y}{k:Nat}{ty:TypeId}{xs ys:List AV}{id:Nat}(hf:xs≠[]→Y.find H id=bS k ty xs)(hl:xs.length+ys.length≤100000000):gQ H k ty ys (aW k xs id)∧(ys≠[]∨xs≠[]→lC H k ys (aW k xs id)=aW k (xs++ys) H.length∧jy H k ty ys (aW k xs id)=bS k ty (xs++ys)::jS xs id H)∧
  (ys=[]→xs=[]→lC H k ys (aW k xs id) = .am 0 [] (some [])∧jy H k ty ys (aW k xs id)=H):=by
 cases xs with
 |nil =>
  cases ys with
  |nil=>refine ⟨?_,fun h=>by simp at h,fun _ _=>⟨rfl,rfl⟩⟩;simp[gQ,aW]
  |cons y s=>
   refine ⟨?_,fun _=>⟨?_,?_⟩,fun h=>by simp at h⟩
   ·simp[gQ,aW] at hl ⊢;exact hl
   ·simp[lC,aW]
   ·simp[jy,aW,bS,jS]
 |cons x r =>
  have h1:Y.find H id=some ⟨k,x::r,false,ty⟩:=hf (by simp)
  refine ⟨?_,fun _=>⟨?_,?_⟩,fun _ h=>by simp at h⟩
  ·simp only[gQ,aW,h1]
   simp at hl ⊢
   exact hl
  ·simp only[lC,aW,h1]
   simp
   omega
  ·simp only[jy,aW,h1]
   simp[bS,jS]
theorem aZ{P:Program}{c:IC}{K:Post}{ts:List AV}{H:Y}(I:List AV→Y→Prop)(μ:List AV→Y→Nat)(h0:I ts H)(h:∀ts H,I ts H→∀L:List AV→Y→Prop,(∀ts' H',I ts' H'→μ ts' H'<μ ts H→L ts' H')→ES P c (kX L K) ts H):ES P (.loop c) K ts H :=
 Dj I μ h0 fun ts H hI=>h ts H hI _ fun _ _ h1 h2=>⟨h1,h2⟩
mutual
inductive View(H:Y):AV→AV→Prop where
 | sc {v:Value}:View H (.sc v) (.sc v)
 | ub:View H .ub .ub
 | am {k:Nat}{xs ys:List AV}{room:Option (List AV)}:cJ H xs ys→View H (.am k xs room) (.am k ys none)
 | nil {k k':Nat}{room:Option (List AV)}:View H (.am k [] room) (.am k' [] none)
 | aD {k id off n:Nat}{c:Option Nat}{blk:aP}{ys:List AV}:Y.find H id=some blk→blk.k=k→off+n≤blk.es.length→cJ H ((blk.es.drop off).take n) ys→View H (.aD k id off n c) (.am k ys none)
 | ptr {k id j f:Nat}{blk:aP}{e y:AV}:Y.find H id=some blk→blk.es[j]? = some e→blk.k=k→0<k→View H e y→View H (.ptr k id j f) (.lp y f)
 | lp {x y:AV}{f:Nat}:View H x y→View H (.lp x f) (.lp y f)
 | agg {xs ys:List AV}:cJ H xs ys→View H (.agg xs) (.agg ys)
 | aO {xs ys:List AV}:cJ H xs ys→View H (.aO xs) (.aO ys)
 | eP {t:TypeId}{x y:AV}:View H x y→View H (.eP t x) (.eP t y)
 | fn {f:Fn}{a b a' b':List AV}:cJ H a a'→cJ H b b'→View H (.fn f a b) (.fn f a' b')
inductive cJ(H:Y):List AV→List AV→Prop where
 | nil:cJ H [] []
 | cons {x y:AV}{r s:List AV}:View H x y→cJ H r s→cJ H (x::r) (y::s)
end
section
variable {H:Y}
theorem cJ.len:∀{xs ys:List AV},cJ H xs ys→ys.length=xs.length
 |_,_,.nil=>rfl
 |_,_,.cons _ h=>by simp[h.len]
theorem View.isAgg{x y:AV}(h:View H x y):y.isAgg=x.isAgg∧y.az=x.az:=by
 cases h with
 |agg h=>exact ⟨rfl,h.len⟩
 |_=>exact ⟨rfl,rfl⟩
theorem View.kV{x y:AV}(h:View H x y){u:Value}(hk:kV x u):kV y u:=by
 cases h with
 |agg h=>obtain ⟨us,h1,h2⟩:=hk;exact ⟨us,h1,by rw[h2,h.len]⟩
 |_=>exact hk
theorem View.agS{x y:AV}(h:View H x y):y.isAgg=true→x.isAgg=true:=by
 cases h<;>simp[AV.isAgg]
end
section
variable {φ:aU}{H:Y}{w:World}
mutual
theorem View.R(hR:Rel φ H w):∀{x y:AV},View H x y→∀{g:Nat→Option Value},R φ (Own φ H) w x g→R gS O0 w y g
 |_,_,.sc,g,h=>h
 |_,_,.ub,g,h=>h
 |_,_,.am hl,g,h=>by
  obtain ⟨a,c,h1,h2,h3,h4,h5,h6⟩:=h
  have pO:=hl.len
  refine ⟨a,c,by rw[pO];exact h1,by omega,h3,h4,fun hp=>?_,trivial⟩
  obtain ⟨b,off,e1,e2,e3,e4⟩:=h5 (by omega)
  exact ⟨b,off,e1,tP,e3,cJ.Rl hR hl e4⟩
 |_,_,.nil,g,h=>by
  obtain ⟨a,c,h1,h2,h3,h4,h5,h6⟩:=h
  exact ⟨a,c,h1,h2,h3,h4,fun hp=>by simp at hp,trivial⟩
 |_,_,.aD (k:=k) (id:=id) (off:=off) (n:=n) (blk:=blk) h1 h2 h3 h4,g,h=>by
  obtain ⟨b,c',cur,e,fr,v1,v2,v3,v4,v5,v6,v7⟩:=h
  have mb:((blk.es.drop off).take n).length=n:=by simp;omega
  have pO:=h4.len
  rw[mb] at pO
  refine ⟨_,c',by rw[pO];exact v2,by omega,v4,fun h=>by simp at h,fun hp=>⟨b,off*k,rfl,tP,jI v6,?_⟩,trivial⟩
  obtain ⟨_,uC,cap,a1,a2,a3,a4,a5,a6⟩:=(hR.blk id b blk v1 h1).jK v6
  have h7:=jL (n:=n) (lq (f:=off) a6)
  rw[h2,Nat.zero_add] at h7
  exact cJ.Rl hR h4 h7
 |_,_,.ptr (k:=k) (id:=id) (j:=j) (f:=f) (blk:=blk) (e:=e) h1 h2 h3 cE hv,g,h=>by
  obtain ⟨b,g1,g2⟩:=h
  obtain ⟨uC,cap,a1,a2,a3,a4,a5,a6⟩:=(hR.blk id b blk g1 h1).cells (by rw[h3];exact cE)
  rw[fJ cE] at g2
  obtain ⟨n1,n2,n3⟩:=ye a6 h2
  rw[h3,Nat.zero_add] at n2 n3
  refine ⟨b,j*k,by rw[g2],tP,jI a1,fun hx=>?_,View.R hR hv n3⟩
  have hxa:e.isAgg=false:=by
   cases hq:e.isAgg with
   |false=>rfl
   |true =>
    have:=hv.isAgg.1
    rw[hx,hq] at this
    simp at this
  exact n2 hxa
 |_,_,.lp hv,g,h=>by
  obtain ⟨b,off,h1,ho,hb,h3,h2⟩:=h
  refine ⟨b,off,h1,tP,hb,fun hx=>h3 ?_,View.R hR hv h2⟩
  rename_i x y f
  cases hq:x.isAgg with
  |false=>rfl
  |true =>
   have:=hv.isAgg.1
   rw[hx,hq] at this
   simp at this
 |_,_,.agg hl,g,h=>cJ.Rs hR hl h
 |_,_,.aO hl,g,h=>by
  obtain ⟨us,h1,h2⟩:=h
  exact ⟨us,h1,cJ.Rt hR hl h2⟩
 |_,_,.eP hx,g,h=>by
  obtain ⟨u,h1,h2,h3⟩:=h
  exact ⟨u,h1,hx.kV h2,View.R hR hx h3⟩
 |_,_,.fn ha hb,g,h=>by
  obtain ⟨us,ws,h1,h2,h3⟩:=h
  exact ⟨us,ws,h1,cJ.Rt hR ha h2,cJ.Rt hR hb h3⟩
theorem cJ.Rl(hR:Rel φ H w):∀{xs ys:List AV},cJ H xs ys→∀{b k off:Nat},Rl φ (Own φ H) w b k xs off→Rl gS O0 w b k ys off
 |_,_,.nil,b,k,off,_=>trivial
 |_,_,.cons (x:=x) (y:=y) hx hr,b,k,off,h=>by
  have he:=hx.isAgg
  exact ⟨by rw[he.2];exact h.1,by rw[he.1];exact h.2.1,View.R hR hx h.2.2.1,cJ.Rl hR hr h.2.2.2⟩
theorem cJ.Rs(hR:Rel φ H w):∀{xs ys:List AV},cJ H xs ys→∀{g:Nat→Option Value},Rs φ (Own φ H) w xs g→Rs gS O0 w ys g
 |_,_,.nil,g,_=>trivial
 |_,_,.cons (x:=x) (y:=y) hx hr,g,h=>by
  refine ⟨?_,View.R hR hx h.2.1,h.2.2.1,cJ.Rs hR hr h.2.2.2⟩
  cases hq:y.isAgg with
  |false=>rfl
  |true=>have:=hx.agS hq;rw[h.1] at this;simp at this
theorem cJ.Rt(hR:Rel φ H w):∀{xs ys:List AV},cJ H xs ys→∀{us:List Value},Rt φ (Own φ H) w xs us→Rt gS O0 w ys us
 |_,_,.nil,us,h=>h
 |_,_,.cons hx hr,us,h=>by
  obtain ⟨v,s,h1,h2,h3,h4⟩:=h
  exact ⟨v,s,h1,hx.kV h2,View.R hR hx h3,cJ.Rt hR hr h4⟩
end
end
inductive Plain:AV→Prop where
 | sc {v:Value}:Plain (.sc v)
 | ub:Plain .ub
 | nil {k:Nat}{room:Option (List AV)}:(room=none∨room=some [])→Plain (.am k [] room)
 | agT:Plain (.aO [])
 | aO {x:AV}{r:List AV}:Plain x→Plain (.aO r)→Plain (.aO (x::r))
theorem Plain.R{x:AV}(h:Plain x):∀{φ φ':aU}{O O':Nat→Prop}{w w':World}{g:Nat→Option Value},R φ O w x g→R φ' O' w' x g:=by
 induction h with
 |sc=>intro φ φ' O O' w w' g h;exact h
 |ub=>intro φ φ' O O' w w' g h;exact h
 |nil hr =>
  intro φ φ' O O' w w' g h
  obtain ⟨a,c,h1,h2,h3,h4,h5,h6⟩:=h
  refine ⟨a,c,h1,h2,h3,h4,fun hp=>by simp at hp,?_⟩
  rcases hr with rfl|rfl
  ·trivial
  ·exact ⟨h6.1,fun hp=>by simp at hp⟩
 |agT =>
  intro φ φ' O O' w w' g h
  obtain ⟨us,h1,h2⟩:=h
  exact ⟨us,h1,h2⟩
 |aO _ _ ih1 ih2 =>
  intro φ φ' O O' w w' g h
  obtain ⟨us,h1,v,s,h2,h3,h4,h5⟩:=h
  obtain ⟨us',e1,e2⟩:=ih2 (φ:=φ) (φ':=φ') (O:=O) (O':=O') (w:=w) (w':=w') (g:=fun _=>some (.tuple s.toArray)) ⟨s.toArray,rfl,h5⟩
  have:us'=s.toArray:=by simpa using e1.symm
  subst this
  exact ⟨us,h1,v,s,h2,h3,ih1 h4,e2⟩
theorem tc{P:Program}{f:FuncId}{args args':List AV}{v:AV}{H:Y}(hv:cJ H args args')(hp:Plain v)(h:D P f args' [] (.ret v) []):D P f args H (.ret v) H:=by
 refine ⟨Nat.le_refl _,fun φ w vs hR ha=>(h.2 gS w vs (Rg (hR.jC.less fun b ho=>(tP ho).elim)) (hv.Rt hR ha)).mono fun en w' ⟨φ',h1,h2,h3⟩=>?_⟩
 have hb:=pX h3
 refine ⟨φ,?_,hR.grow hb.size hb.block,grow_step hb.os hb.tape hb.output hb.size hb.block⟩
 cases en with
 |returned u=>exact ⟨h1.1,hp.R h1.2⟩
 |_=>exact h1.elim
theorem cJ.own{H:Y}{k id:Nat}{ty:TypeId}{xs ys:List AV}(hf:xs≠[]→Y.find H id=bS k ty xs)(hl:cJ H xs ys):View H (aW k xs id) (.am k ys none):=by
 cases xs with
 |nil=>cases hl;exact .nil
 |cons x r =>
  refine .aD (hf (by simp)) rfl (by simp) ?_
  simpa using hl
theorem cJ.Tq{H:Y}{α:Type}{f:α→Value}:∀{l:List α},cJ H (l.map fun a=>.sc (f a)) (l.map fun a=>.sc (f a))
 |[]=>.nil
 |_::_=>.cons .sc cJ.Tq
open Go Go.RowKit
set_option linter.defProp false
def kI(n:Int):X:=.k (.sc (.int .i64 n))
def kT:X:=.k (.sc (.bool true))
def kF:X:=.k (.sc (.bool false))
def bG:AV:=.am 0 [] (some [])
def xI(n:Int):PO:=.mv (kI n)
def xA(k s i:Nat):PO:=.gm k (.t s) (.t i)
def xL(s:Nat):PO:=.len (.t s)
def xB(op:BinOp)(a b:Nat):PO:=.aN op (.t a) (.t b)
def xN(a:Nat):PO:=.un .not (.t a)
def yD(k a:Nat):HO:=.load k false (.t a)
def yA(k a:Nat):HO:=.load k true (.t a)
def yC(f a b:Nat):HO:=.call f [.t a,.t b]
def iM(n a:Nat):cy:=⟨some n,none,.p (.mv (.t a))⟩
def iP(n:Nat)(p:PO):cy:=⟨some n,none,.p p⟩
def iH(n:Nat)(h:HO):cy:=⟨some n,none,.h h⟩
def iS(k a x:Nat):cy:=⟨none,none,.h (.store k (.t a) (.t x))⟩
def gM(n g:Nat)(b:Bool)(a:Nat):cy:=⟨some n,some (g,b),.p (.mv (.t a))⟩
def gP(n g:Nat)(b:Bool)(p:PO):cy:=⟨some n,some (g,b),.p p⟩
def gH(n g:Nat)(b:Bool)(h:HO):cy:=⟨some n,some (g,b),.h h⟩
theorem aeH:∀n,kI n = .k (.sc (.int .i64 n)):=fun _=>rfl
theorem aeI:kT = .k (.sc (.bool true)):=rfl
theorem aeJ:kF = .k (.sc (.bool false)):=rfl
theorem abj:bG = .am 0 [] (some []):=rfl
theorem aeK:∀n,xI n = .mv (.k (.sc (.int .i64 n))):=fun _=>rfl
theorem aeL:∀k s i,xA k s i = .gm k (.t s) (.t i):=by intros;rfl
theorem aeM:∀s,xL s = .len (.t s):=fun _=>rfl
theorem aeN:∀op a b,xB op a b = .aN op (.t a) (.t b):=by intros;rfl
theorem aeO:∀a,xN a = .un .not (.t a):=fun _=>rfl
theorem aeP:∀k a,yD k a = .load k false (.t a):=fun _ _=>rfl
theorem aeQ:∀k a,yA k a = .load k true (.t a):=fun _ _=>rfl
theorem aeR:∀f a b,yC f a b = .call f [.t a,.t b]:=by intros;rfl
theorem aeS:∀n a,iM n a=⟨some n,none,.p (.mv (.t a))⟩:=fun _ _=>rfl
theorem aeT:∀n p,iP n p=⟨some n,none,.p p⟩:=fun _ _=>rfl
theorem aeU:∀n h,iH n h=⟨some n,none,.h h⟩:=fun _ _=>rfl
theorem aeV:∀k a x,iS k a x=⟨none,none,.h (.store k (.t a) (.t x))⟩:=by intros;rfl
theorem aeW:∀n g b a,gM n g b a=⟨some n,some (g,b),.p (.mv (.t a))⟩:=by intros;rfl
theorem aeX:∀n g b p,gP n g b p=⟨some n,some (g,b),.p p⟩:=by intros;rfl
theorem aeY:∀n g b h,gH n g b h=⟨some n,some (g,b),.h h⟩:=by intros;rfl
def ux:=And.intro aeH<|And.intro aeI<|And.intro aeJ<|And.intro abj<|And.intro aeK<|And.intro aeL<|And.intro aeM<|And.intro aeN<|And.intro aeO<|And.intro aeP<|And.intro aeQ<|And.intro aeR<|And.intro aeS<|And.intro aeT<|And.intro aeU<|And.intro aeV<|And.intro aeW<|And.intro aeX aeY
def Dk(P:Program)(f:FuncId)(c:IC)(rs:List RV)(n:Nat):Prop :=
 ∀{args:List AV}{H:Y}{Kr:cH→Y→Prop},E P c (Af rs Kr) (args++List.replicate (n-args.length) (.aO [])) H→DK P f args H Kr
theorem aV{P:Program}{f:FuncId}{fn:Func}{ic:IC}{rs:List RV}(hf:P.funcs[f]? = some fn)(hb:fn.body=some (fn.body.getD .skip):=by kernel_rfl)(hc:dU P [] (fn.body.getD .skip)=some ic:=by kernel_rfl)(hr:ox P fn.results.toList=some rs:=by kernel_rfl):Dk P f ic rs fn.ntmps :=
 fun h=>qO (bx:=[]) hf hb hc hr h
set_option maxHeartbeats 0
set_option maxRecDepth 1000000
inductive Over(H:Y):Y→Prop where
 | refl:Over H H
 | cons {b:Option aP}{G:Y}:Over H G→Over H (b::G)
theorem Over.split{H G:Y}(h:Over H G):∃A,G=A++H:=by
 induction h with
 |refl=>exact ⟨[],rfl⟩
 |@cons b G _ ih=>obtain ⟨A,rfl⟩:=ih;exact ⟨b::A,rfl⟩
theorem dD{H G:Y}{x y:AV}(h:Over H G)(hz:Fz G H.length x y):eB H (.ret x) G (.ret y) H:=by
 obtain ⟨A,rfl⟩:=h.split
 exact Ob hz
theorem bL{H G:Y}{v:Value}(h:Over H G):eB H (.ret (.sc v)) G (.ret (.sc v)) H:=dD h (.same trivial)
inductive Fu where
 | o
 | s (f:Fu)
def Fu.num:Fu→Nat
 |.o=>0
 |.s f=>f.num+1
theorem Z{P:Program}{a b:IC}{K:Post}{ts:List AV}{H:Y}(h:∀L:List AV→Y→Prop,(∀ts H,ES P b K ts H→L ts H)→ES P a (kX L K) ts H):ES P (.seq a b) K ts H:=h _ (fun _ _ h=>h)
theorem nc2:((2:Nat):Int)=2:=rfl
theorem nc3:((3:Nat):Int)=3:=rfl
theorem nc4:((4:Nat):Int)=4:=rfl
theorem nc5:((5:Nat):Int)=5:=rfl
theorem nc6:((6:Nat):Int)=6:=rfl
theorem nc7:((7:Nat):Int)=7:=rfl
theorem nc8:((8:Nat):Int)=8:=rfl
theorem nc9:((9:Nat):Int)=9:=rfl
theorem agU:((10:Nat):Int)=10:=rfl
theorem agV:((11:Nat):Int)=11:=rfl
theorem agW:((12:Nat):Int)=12:=rfl
theorem XD{A:List (List Nat)}{i:Nat}{v:AV}:BT A i [] v=True:=by
 cases v<;>simp[BT]
theorem Ts{A:List (List Nat)}{i j:Nat}{H:Y}{hs:List (Nat×Y×Y)}{v:AV}:BT A i ((j,H,H)::hs) v=BT A i hs v:=by
 cases v<;>simp[BT]
theorem Tt{A:List (List Nat)}{i j:Nat}{H G:Y}{hs:List (Nat×Y×Y)}{k id a f:Nat}:BT A i ((j,H,G)::hs) (.ptr k id a f)=((nj A j i=true→id<H.length→Y.find G id=Y.find H id)∧BT A i hs (.ptr k id a f)):=by
 simp[BT]
theorem abk{A:List (List Nat)}{i:Nat}{hs:List (Nat×Y×Y)}{x:AV}{f:Nat}:BT A i hs (.lp x f)=True:=rfl
theorem XE{A:List (List Nat)}{i:Nat}{H G:Y}:sX A i [] H G=True:=by simp[sX]
theorem Tu{A:List (List Nat)}{i j id:Nat}{ld:List (Nat×Nat)}{H G:Y}:sX A i ((j,id)::ld) H G=((nj A j i=true→Y.find G id=Y.find H id)∧sX A i ld H G):=by
 simp[sX]
theorem KU{n:Int}{r:List AV}:l9 (.sc (.int .u8 n)::r)=l9 r:=by simp[l9,pG]
theorem IQ:l9 []=true:=rfl
def strs(l:List ByteArray):List AV:=l.map fun s=>.sc (.string s)
theorem dM(l:List ByteArray):(strs l).length=l.length:=by simp[strs]
theorem Tv:strs []=[]:=rfl
def nV(xs:List ByteArray)(k:Nat):ByteArray:=xs.getD k ByteArray.empty
theorem Ap{l:List ByteArray}{k:Nat}(h:k<l.length):(strs l).getD k .top = .sc (.string (nV l k)):=by
 simp[strs,nV,List.getD,h]
theorem str_inj{s t:ByteArray}(h:s.toList=t.toList):s=t:=by
 rw[ByteArray.toList_eq,ByteArray.toList_eq] at h
 cases s with
 |mk s=>cases t with
  |mk t =>
   have e:s=t:=Array.toList_inj.1 h
   subst e
   rfl
theorem u9(s t:ByteArray):(s.toList == t.toList)=decide (s=t):=by
 by_cases h:s=t
 ·subst h;simp
 ·rw[decide_eq_false h,beq_eq_false_iff_ne]
  exact fun e=>h (str_inj e)
theorem XF(a b:Int):(a == b)=decide (a=b):=by
 by_cases h:a=b<;>simp[h]
theorem XG{p:Prop} [Decidable p]:(!decide p)=decide (¬p):=by
 by_cases h:p<;>simp[h]
def Fr:List (Option AV)→List AV→Prop
 |[],[]=>True
 |some v::p,x::r=>x=v∧Fr p r
 |none::p,_::r=>Fr p r
 |_,_=>False
def mk:List (Option AV)→(Nat→AV)→List AV
 |[],_=>[]
 |some v::p,js=>v::mk p (fun i=>js (i+1))
 |none::p,js=>js 0::mk p (fun i=>js (i+1))
abbrev fg(l:List (Option AV)):List (Option AV):=none::none::none::none::l
abbrev iv(l:List (Option AV)):List (Option AV):=fg (fg l)
abbrev dL(l:List (Option AV)):List (Option AV):=iv (iv l)
abbrev bf(l:List (Option AV)):List (Option AV):=dL (dL l)
theorem Fr.opened:∀{p:List (Option AV)}{ts:List AV},Fr p ts→∃js,ts=mk p js
 |[],[],_=>⟨fun _=>.top,rfl⟩
 |some v::p,x::r,h=>by
  obtain ⟨js,e⟩:=Fr.opened h.2
  refine ⟨fun i=>js (i-1),?_⟩
  simp only[mk,h.1,Nat.add_sub_cancel]
  rw[e]
 |none::p,x::r,h=>by
  obtain ⟨js,e⟩:=Fr.opened (p:=p) (ts:=r) h
  refine ⟨fun i=>if i=0 then x else js (i-1),?_⟩
  simp only[mk,if_true,Nat.add_sub_cancel,Nat.add_eq_zero_iff,Nat.one_ne_zero,and_false,if_false]
  rw[e]
 |[],_::_,h=>h.elim
 |some _::_,[],h=>h.elim
 |none::_,[],h=>h.elim
theorem ak{a b:Prop}(x1:a)(x2:b):a∧b:=⟨x1,x2⟩
theorem gq{a b c:Prop}(x1:a)(x2:b)(x3:c):a∧b∧c:=⟨x1,x2,x3⟩
theorem ei{a b c d:Prop}(x1:a)(x2:b)(x3:c)(x4:d):a∧b∧c∧d:=⟨x1,x2,x3,x4⟩
theorem kZ{a b c d e:Prop}(x1:a)(x2:b)(x3:c)(x4:d)(x5:e):a∧b∧c∧d∧e:=⟨x1,x2,x3,x4,x5⟩
theorem yR{a b c d e f:Prop}(x1:a)(x2:b)(x3:c)(x4:d)(x5:e)(x6:f):a∧b∧c∧d∧e∧f:=⟨x1,x2,x3,x4,x5,x6⟩
theorem mN{a b c d e f i:Prop}(x1:a)(x2:b)(x3:c)(x4:d)(x5:e)(x6:f)(x7:i):a∧b∧c∧d∧e∧f∧i:=⟨x1,x2,x3,x4,x5,x6,x7⟩
theorem Ds{a b c d e f i j:Prop}(x1:a)(x2:b)(x3:c)(x4:d)(x5:e)(x6:f)(x7:i)(x8:j):a∧b∧c∧d∧e∧f∧i∧j:=⟨x1,x2,x3,x4,x5,x6,x7,x8⟩
theorem Fv{a b c d e f i j k:Prop}(x1:a)(x2:b)(x3:c)(x4:d)(x5:e)(x6:f)(x7:i)(x8:j)(x9:k):a∧b∧c∧d∧e∧f∧i∧j∧k:=⟨x1,x2,x3,x4,x5,x6,x7,x8,x9⟩
theorem XH{a b c d e f i j k l:Prop}(x1:a)(x2:b)(x3:c)(x4:d)(x5:e)(x6:f)(x7:i)(x8:j)(x9:k)(Aq:l):a∧b∧c∧d∧e∧f∧i∧j∧k∧l:=⟨x1,x2,x3,x4,x5,x6,x7,x8,x9,Aq⟩
theorem yS{a b c d e f i j k l m:Prop}(x1:a)(x2:b)(x3:c)(x4:d)(x5:e)(x6:f)(x7:i)(x8:j)(x9:k)(Aq:l)(Dt:m):a∧b∧c∧d∧e∧f∧i∧j∧k∧l∧m:=⟨x1,x2,x3,x4,x5,x6,x7,x8,x9,Aq,Dt⟩
theorem yT{a b c d e f i j k l m n:Prop}(x1:a)(x2:b)(x3:c)(x4:d)(x5:e)(x6:f)(x7:i)(x8:j)(x9:k)(Aq:l)(Dt:m)(IR:n):a∧b∧c∧d∧e∧f∧i∧j∧k∧l∧m∧n:=⟨x1,x2,x3,x4,x5,x6,x7,x8,x9,Aq,Dt,IR⟩
theorem Rk{a b c d e f i j k l m n o:Prop}(x1:a)(x2:b)(x3:c)(x4:d)(x5:e)(x6:f)(x7:i)(x8:j)(x9:k)(Aq:l)(Dt:m)(IR:n)(OJ:o):a∧b∧c∧d∧e∧f∧i∧j∧k∧l∧m∧n∧o:=⟨x1,x2,x3,x4,x5,x6,x7,x8,x9,Aq,Dt,IR,OJ⟩
theorem agX{a b c d e f i j k l m n o r:Prop}(x1:a)(x2:b)(x3:c)(x4:d)(x5:e)(x6:f)(x7:i)(x8:j)(x9:k)(Aq:l)(Dt:m)(IR:n)(OJ:o)(XI:r):a∧b∧c∧d∧e∧f∧i∧j∧k∧l∧m∧n∧o∧r:=⟨x1,x2,x3,x4,x5,x6,x7,x8,x9,Aq,Dt,IR,OJ,XI⟩
theorem XJ{a b c d e f i j k l m n o r s:Prop}(x1:a)(x2:b)(x3:c)(x4:d)(x5:e)(x6:f)(x7:i)(x8:j)(x9:k)(Aq:l)(Dt:m)(IR:n)(OJ:o)(XI:r)(x15:s):a∧b∧c∧d∧e∧f∧i∧j∧k∧l∧m∧n∧o∧r∧s:=⟨x1,x2,x3,x4,x5,x6,x7,x8,x9,Aq,Dt,IR,OJ,XI,x15⟩
theorem agY{a b c d e f i j k l m n o r s t:Prop}(x1:a)(x2:b)(x3:c)(x4:d)(x5:e)(x6:f)(x7:i)(x8:j)(x9:k)(Aq:l)(Dt:m)(IR:n)(OJ:o)(XI:r)(x15:s)(x16:t):a∧b∧c∧d∧e∧f∧i∧j∧k∧l∧m∧n∧o∧r∧s∧t:=⟨x1,x2,x3,x4,x5,x6,x7,x8,x9,Aq,Dt,IR,OJ,XI,x15,x16⟩
theorem Tw:∀v_,AV.bT (AV.sc v_)=false:=fun _=>rfl
theorem Tx:∀v_,AV.isAgg (AV.sc v_)=false:=fun _=>rfl
theorem OL:∀v_,AV.az (AV.sc v_)=1:=fun _=>rfl
theorem Ty:∀v_,AV.cells (AV.sc v_)=[(AV.sc v_)]:=fun _=>rfl
theorem abl:∀v_ f0 x0,AV.lu (AV.sc v_) f0 x0=x0:=by intros;rfl
theorem OM:∀k_ kx r_,AV.bT (AV.am k_ kx r_)=false:=by intros;rfl
theorem OO:∀k_ kx r_,AV.isAgg (AV.am k_ kx r_)=false:=by intros;rfl
theorem KV:∀k_ kx r_,AV.az (AV.am k_ kx r_)=1:=by intros;rfl
theorem OP:∀k_ kx r_,AV.cells (AV.am k_ kx r_)=[(AV.am k_ kx r_)]:=by intros;rfl
theorem XK:∀k_ kx r_ f0 x0,AV.lu (AV.am k_ kx r_) f0 x0=x0:=by intros;rfl
theorem OQ:∀k_ i_ o_ n_ c_,AV.bT (AV.aD k_ i_ o_ n_ c_)=false:=by intros;rfl
theorem OS:∀k_ i_ o_ n_ c_,AV.isAgg (AV.aD k_ i_ o_ n_ c_)=false:=by intros;rfl
theorem KW:∀k_ i_ o_ n_ c_,AV.az (AV.aD k_ i_ o_ n_ c_)=1:=by intros;rfl
theorem OU:∀k_ i_ o_ n_ c_,AV.cells (AV.aD k_ i_ o_ n_ c_)=[(AV.aD k_ i_ o_ n_ c_)]:=by intros;rfl
theorem XL:∀k_ i_ o_ n_ c_ f0 x0,AV.lu (AV.aD k_ i_ o_ n_ c_) f0 x0=x0:=by intros;rfl
theorem OV:∀k_ i_ j_ f_,AV.bT (AV.ptr k_ i_ j_ f_)=false:=by intros;rfl
theorem OX:∀k_ i_ j_ f_,AV.isAgg (AV.ptr k_ i_ j_ f_)=false:=by intros;rfl
theorem KX:∀k_ i_ j_ f_,AV.az (AV.ptr k_ i_ j_ f_)=1:=by intros;rfl
theorem OY:∀k_ i_ j_ f_,AV.cells (AV.ptr k_ i_ j_ f_)=[(AV.ptr k_ i_ j_ f_)]:=by intros;rfl
theorem XM:∀k_ i_ j_ f_ f0 x0,AV.lu (AV.ptr k_ i_ j_ f_) f0 x0=x0:=by intros;rfl
theorem Tz:∀x_ f_,AV.bT (AV.lp x_ f_)=false:=fun _ _=>rfl
theorem TA:∀x_ f_,AV.isAgg (AV.lp x_ f_)=false:=fun _ _=>rfl
theorem OZ:∀x_ f_,AV.az (AV.lp x_ f_)=1:=fun _ _=>rfl
theorem TB:∀x_ f_,AV.cells (AV.lp x_ f_)=[(AV.lp x_ f_)]:=fun _ _=>rfl
theorem abm:∀x_ f_ f0 x0,AV.lu (AV.lp x_ f_) f0 x0=x0:=by intros;rfl
theorem O1:∀Ar,AV.bT (AV.agg Ar)=false:=fun _=>rfl
theorem O3:∀Ar,AV.isAgg (AV.agg Ar)=true:=fun _=>rfl
theorem KY:∀Ar,AV.az (AV.agg Ar)=Ar.length:=fun _=>rfl
theorem O4:∀Ar,AV.cells (AV.agg Ar)=Ar:=fun _=>rfl
theorem XN:∀Ar f0 x0,AV.lu (AV.agg Ar) f0 x0=AV.agg (Ar.take f0++x0.cells++Ar.drop (f0+x0.az)):=by intros;rfl
theorem O5:∀Fw,AV.bT (AV.aO Fw)=true:=fun _=>rfl
theorem O6:∀Fw,AV.isAgg (AV.aO Fw)=false:=fun _=>rfl
theorem KZ:∀Fw,AV.az (AV.aO Fw)=1:=fun _=>rfl
theorem O7:∀Fw,AV.cells (AV.aO Fw)=[(AV.aO Fw)]:=fun _=>rfl
theorem XO:∀Fw f0 x0,AV.lu (AV.aO Fw) f0 x0=x0:=by intros;rfl
theorem TC:∀f_ a_ b_,AV.bT (AV.fn f_ a_ b_)=false:=by intros;rfl
theorem TD:∀f_ a_ b_,AV.isAgg (AV.fn f_ a_ b_)=false:=by intros;rfl
theorem O8:∀f_ a_ b_,AV.az (AV.fn f_ a_ b_)=1:=by intros;rfl
theorem TE:∀f_ a_ b_,AV.cells (AV.fn f_ a_ b_)=[(AV.fn f_ a_ b_)]:=by intros;rfl
theorem abn:∀f_ a_ b_ f0 x0,AV.lu (AV.fn f_ a_ b_) f0 x0=x0:=by intros;rfl
theorem O9:∀t_ x_,AV.bT (AV.eP t_ x_)=false:=fun _ _=>rfl
theorem Pa:∀t_ x_,AV.isAgg (AV.eP t_ x_)=false:=fun _ _=>rfl
theorem K0:∀t_ x_,AV.az (AV.eP t_ x_)=1:=fun _ _=>rfl
theorem Pb:∀t_ x_,AV.cells (AV.eP t_ x_)=[(AV.eP t_ x_)]:=fun _ _=>rfl
theorem XP:∀t_ x_ f0 x0,AV.lu (AV.eP t_ x_) f0 x0=x0:=by intros;rfl
theorem TF:AV.bT (AV.ub)=false:=rfl
theorem TG:AV.isAgg (AV.ub)=false:=rfl
theorem Pc:AV.az (AV.ub)=1:=rfl
theorem TH:AV.cells (AV.ub)=[(AV.ub)]:=rfl
theorem abo:∀f0 x0,AV.lu (AV.ub) f0 x0=x0:=fun  _ _=>rfl
theorem Pd:AV.bT (AV.top)=true:=rfl
theorem Pe:AV.isAgg (AV.top)=false:=rfl
theorem K1:AV.az (AV.top)=1:=rfl
theorem Pf:AV.cells (AV.top)=[(AV.top)]:=rfl
theorem XQ:∀f0 x0,AV.lu (AV.top) f0 x0=x0:=fun  _ _=>rfl
theorem TI:∀k_ kx i_ f0 x0,AV.lu (aW k_ kx i_) f0 x0=x0:=fun k_ kx i_ f0 x0=>by cases kx<;>rfl
theorem TJ:∀k_ kx r_,pS (.am k_ kx r_)=kx.length:=by intros;rfl
theorem TK:∀k_ i_ o_ n_ c_,pS (.aD k_ i_ o_ n_ c_)=n_:=by intros;rfl
theorem Pg:∀k_ kx r_,oz (.am k_ kx r_)=True:=by intros;rfl
theorem Ph:∀k_ i_ o_ n_ c_,oz (.aD k_ i_ o_ n_ c_)=True:=by intros;rfl
theorem Pj:oz (.sc (.slice none 0 0))=True:=rfl
theorem TL:pS (.sc (.slice none 0 0))=0:=rfl
theorem TM:∀H_ k_ dK jz r_,wI H_ k_ (.am dK jz r_)=(dK=k_∨jz=[]):=by intros;rfl
theorem TN:∀H_ k_ dK pf vb n_ c_,wI H_ k_ (.aD dK pf vb n_ c_)=match Y.find H_ pf with
 |some blk=>dK=k_∧blk.k=k_∧vb+n_≤blk.es.length
 |none=>False:=fun _ _ _ _ _ _ _=>rfl
theorem XS:∀H_ dK jz r_,pc H_ (.am dK jz r_)=jz:=by intros;rfl
theorem XT:∀H_ dK pf vb n_ c_,pc H_ (.aD dK pf vb n_ c_)=match Y.find H_ pf with
 |some blk=>(blk.es.drop vb).take n_
 |none=>[]:=fun _ _ _ _ _ _=>rfl
theorem TQ:∀H_ k_ tZ jz dK kx,gQ H_ k_ tZ jz (.am dK kx (some []))=((dK=k_∨kx=[])∧kx.length+jz.length≤100000000):=by intros;rfl
theorem XU:∀H_ k_ tZ jz dK pf vb n_,gQ H_ k_ tZ jz (.aD dK pf vb n_ none)=match Y.find H_ pf with
 |some blk=>(dK=k_∧blk.k=k_∧blk.ty=tZ∧vb=0∧n_+jz.length≤100000000)∧blk.exact=false∧n_=blk.es.length
 |none=>False:=fun _ _ _ _ _ _ _ _=>rfl
theorem XV:∀H_ k_ tZ jz dK pf vb n_ m_,gQ H_ k_ tZ jz (.aD dK pf vb n_ (some m_))=match Y.find H_ pf with
 |some blk=>(dK=k_∧blk.k=k_∧blk.ty=tZ∧vb=0∧n_+jz.length≤100000000)∧((blk.exact=true∧m_=blk.es.length∧n_≤m_)∨(blk.exact=false∧n_≤blk.es.length))
 |none=>False:=fun _ _ _ _ _ _ _ _ _=>rfl
theorem TR:∀H_ k_ dK kx,lC H_ k_ [] (.am dK kx (some [])) = .am dK kx (some []):=by intros;rfl
theorem Gy:∀H_ k_ y_ jz dK kx,lC H_ k_ (y_::jz) (.am dK kx (some [])) = .aD k_ H_.length 0 (kx.length+(y_::jz).length) none:=by intros;rfl
theorem abp:∀H_ k_ jz dK pf o_ n_,lC H_ k_ jz (.aD dK pf o_ n_ none) = .aD k_ H_.length 0 (n_+jz.length) none:=by intros;rfl
theorem abq:∀H_ k_ jz dK pf o_ n_ m_,lC H_ k_ jz (.aD dK pf o_ n_ (some m_))=if n_+jz.length≤m_ then .aD k_ pf 0 (n_+jz.length) (some m_) else .aD k_ H_.length 0 (n_+jz.length) none:=by intros;rfl
theorem TS:∀H_ k_ tZ dK kx,jy H_ k_ tZ [] (.am dK kx (some []))=H_:=by intros;rfl
theorem GA:∀H_ k_ tZ y_ jz dK kx,jy H_ k_ tZ (y_::jz) (.am dK kx (some []))=some ⟨k_,kx++(y_::jz),false,tZ⟩::H_:=by intros;rfl
theorem abr:∀H_ k_ tZ jz dK pf o_ n_,jy H_ k_ tZ jz (.aD dK pf o_ n_ none)=match Y.find H_ pf with
 |some blk=>some ⟨k_,blk.es++jz,false,tZ⟩::Y.set H_ pf none
 |none=>H_:=fun _ _ _ _ _ _ _ _=>rfl
theorem abt:∀H_ k_ tZ jz dK pf o_ n_ m_,jy H_ k_ tZ jz (.aD dK pf o_ n_ (some m_))=match Y.find H_ pf with
 |some blk=>if n_+jz.length≤m_ then Y.set H_ pf (some { blk with es:=blk.es.take n_++jz++blk.es.drop (n_+jz.length) }) else some ⟨k_,blk.es.take n_++jz,false,tZ⟩::H_
 |none=>H_:=fun _ _ _ _ _ _ _ _ _=>rfl
theorem abu:∀H_ k_ i_ o_ n_ c_,GX.ok H_ .cap [.aD k_ i_ o_ n_ (some c_)]=True:=by intros;rfl
theorem abv:∀H_ k_ x_ y_,GX.ok H_ .cap [.am k_ x_ (some y_)]=True:=by intros;rfl
theorem aeZ:∀H_ k_ d_ s_,GX.ok H_ (.copy k_) [d_,s_]=FX H_ k_ s_ d_:=by intros;rfl
theorem agZ:∀H_ s_,GX.ok H_ .NK [.sc (.string s_)]=(s_.size≤100000000):=fun _ _=>rfl
theorem abw:∀H_ k_ i_ o_ n_ c_,GX.val H_ .cap [.aD k_ i_ o_ n_ (some c_)] = .sc (.int .i64 (c_:Nat)):=by intros;rfl
theorem abx:∀H_ k_ x_ y_,GX.val H_ .cap [.am k_ x_ (some y_)] = .sc (.int .i64 ((x_.length+y_.length:Nat):Int)):=by intros;rfl
theorem ae0:∀H_ k_ d_ s_,GX.val H_ (.copy k_) [d_,s_] = .sc (.int .i64 ((min (lR s_) (lR d_):Nat):Int)):=by intros;rfl
theorem ag0:∀H_ s_,GX.val H_ .NK [.sc (.string s_)] = .am 1 (bO s_) none:=fun _ _=>rfl
theorem hcap:∀H_ l_,GX.heap H_ .cap l_=H_:=fun _ _=>rfl
theorem ae1:∀H_ k_ d_ s_,GX.heap H_ (.copy k_) [d_,s_]=NN H_ s_ d_:=by intros;rfl
theorem ag1:∀H_ l_,GX.heap H_ .NK l_=H_:=fun _ _=>rfl
theorem aby:∀H_ k_ s_ dK i_ o_ n_ c_,FX H_ k_ s_ (.aD dK i_ o_ n_ c_)=match Y.find H_ i_ with
 |some blk=>dK=k_∧blk.k=k_∧o_≤blk.es.length∧(blk.exact=false∨o_+min (lR s_) n_≤blk.es.length)∧Bk H_ k_ (min (lR s_) n_) s_
 |none=>False:=fun _ _ _ _ _ _ _ _=>rfl
theorem abz:∀H_ k_ s_ dK r_,FX H_ k_ s_ (.am dK [] r_)=Bk H_ k_ 0 s_:=by intros;rfl
theorem ae2:∀H_ s_ dK i_ o_ n_ c_,NN H_ s_ (.aD dK i_ o_ n_ c_)=match Y.find H_ i_ with
 |some blk=>Y.set H_ i_ (some { blk with es:=blk.es.take o_++Su H_ (min (lR s_) n_) s_++blk.es.drop (o_+min (lR s_) n_) })
 |none=>H_:=fun _ _ _ _ _ _ _=>rfl
theorem ae3:∀H_ s_ dK r_,NN H_ s_ (.am dK [] r_)=H_:=by intros;rfl
theorem abA:∀H_ k_ m_ dK x_ r_,Bk H_ k_ m_ (.am dK x_ r_)=((dK=k_∨m_=0)∧m_≤x_.length):=by intros;rfl
theorem abB:∀H_ k_ m_ dK i_ o_ n_ c_,Bk H_ k_ m_ (.aD dK i_ o_ n_ c_)=match Y.find H_ i_ with
 |some blk=>dK=k_∧blk.k=k_∧m_≤n_∧o_+m_≤blk.es.length
 |none=>False:=fun _ _ _ _ _ _ _ _=>rfl
theorem ae4:∀H_ m_ dK x_ r_,Su H_ m_ (.am dK x_ r_)=x_.take m_:=by intros;rfl
theorem ae5:∀H_ m_ dK i_ o_ n_ c_,Su H_ m_ (.aD dK i_ o_ n_ c_)=match Y.find H_ i_ with
 |some blk=>(blk.es.drop o_).take m_
 |none=>[]:=fun _ _ _ _ _ _ _=>rfl
theorem abC:∀k_ x_ r_,lR (.am k_ x_ r_)=x_.length:=by intros;rfl
theorem abD:∀k_ i_ o_ n_ c_,lR (.aD k_ i_ o_ n_ c_)=n_:=by intros;rfl
theorem ag2:∀H_ p_ a_ b_ c_ d_,GX.ok H_ (.rN p_ [none,none]) [.agg [.sc (.string a_),.sc (.string b_)],.agg [.sc (.string c_),.sc (.string d_)]]=True:=by intros;rfl
theorem ae6:∀H_ k_ a_ b_ c_ d_,GX.val H_ (.rN true k_) [.agg [.sc (.string a_),.sc (.string b_)],.agg [.sc (.string c_),.sc (.string d_)]] = .sc (.bool (decide (a_=c_∧b_=d_))):=fun _ _ a b c d=>by
 simp[GX.val,ur,beq_toListBytes,u9,Bool.decide_and]
theorem ae7:∀H_ k_ a_ b_ c_ d_,GX.val H_ (.rN false k_) [.agg [.sc (.string a_),.sc (.string b_)],.agg [.sc (.string c_),.sc (.string d_)]] = .sc (.bool (decide (¬(a_=c_∧b_=d_)))):=fun _ _ a b c d=>by
 simp[GX.val,ur,beq_toListBytes,u9]
theorem ag3:∀H_ p_ k_ l_,GX.heap H_ (.rN p_ k_) l_=H_:=by intros;rfl
theorem ae8:∀H_ k_ t_ z_ dK i_ o_ n_ c_ q_ m_,GX.ok H_ (.qI k_ t_ z_) [.aD dK i_ o_ n_ (some c_),.sc (.int q_ m_)]=match Y.find H_ i_ with
 |some blk=>(dK=k_∧blk.k=k_∧o_=0∧n_≤blk.es.length)∧0<m_∧(c_:Int)<n_+m_∧(n_:Int)+m_≤100000000
 |none=>False:=fun _ _ _ _ _ _ _ _ _ _ _=>rfl
theorem ae9:∀H_ k_ t_ z_ dK i_ o_ n_ c_ q_ m_,GX.val H_ (.qI k_ t_ z_) [.aD dK i_ o_ n_ c_,.sc (.int q_ m_)] = .aD k_ H_.length 0 (n_+m_.toNat) none:=by intros;rfl
theorem afa:∀H_ k_ t_ z_ dK i_ o_ n_ c_ q_ m_,GX.heap H_ (.qI k_ t_ z_) [.aD dK i_ o_ n_ c_,.sc (.int q_ m_)]=match Y.find H_ i_ with
 |some blk=>some ⟨k_,blk.es.take n_++List.replicate m_.toNat z_,false,t_⟩::H_
 |none=>H_:=fun _ _ _ _ _ _ _ _ _ _ _=>rfl
theorem afb:∀H_ s_ c_,GX.ok H_ .CA [.sc (.string s_),.sc (.int .u8 c_)]=True:=by intros;rfl
theorem afc:∀H_ s_ k_ c_,GX.val H_ .CA [.sc (.string s_),.sc (.int k_ c_)] = .sc (.int .i64 (firstIdx s_ c_.toNat.toUInt8)):=by intros;rfl
theorem afd:∀H_ l_,GX.heap H_ .CA l_=H_:=fun _ _=>rfl
theorem ag4:∀H_ k_ x_ y_ r_ dK i_ o_ n_ c_,GX.ok H_ .NL [.am k_ (x_::y_) r_,.aD dK i_ o_ n_ c_]=match Y.find H_ i_ with
 |some _=>0<k_
 |none=>False:=fun _ _ _ _ _ _ _ _ _ _=>rfl
theorem ag5:∀H_ l_,GX.val H_ .NL l_ = .sc (.bool false):=fun _ _=>rfl
theorem ag6:∀H_ l_,GX.heap H_ .NL l_=H_:=fun _ _=>rfl
theorem gmk:∀H_,GX.ok H_ .ol []=True:=fun _=>rfl
theorem gmg:∀H_ q_ z_ o_ i_ j_ k_,GX.ok H_ (.pL q_ z_ o_) [.ptr 0 i_ j_ 0,.sc k_]=(jf q_ k_=true∧ut H_ i_ (fM q_)):=by intros;rfl
theorem gmp:∀H_ q_ i_ j_ k_ v_,GX.ok H_ (.gi q_) [.ptr 0 i_ j_ 0,.sc k_,v_]=(jf q_ k_=true∧ut H_ i_ (fM q_)):=by intros;rfl
theorem gml:∀H_ i_ j_,GX.ok H_ .Bi [.ptr 0 i_ j_ 0]=ut H_ i_ (fun _=>True):=by intros;rfl
theorem gmd:∀H_ q_ i_ j_ k_,GX.ok H_ (.yl q_) [.ptr 0 i_ j_ 0,.sc k_]=(jf q_ k_=true∧ut H_ i_ (fM q_)):=by intros;rfl
theorem vmk:∀H_,GX.val H_ .ol [] = .ptr 0 H_.length 0 0:=fun _=>rfl
theorem ag7:∀H_ q_ z_ a_ i_ j_ f_ k_,GX.val H_ (.pL q_ z_ true) [.ptr a_ i_ j_ f_,.sc k_] = .aO [nR k_ z_ (nc H_ i_),.sc (.bool (decide (fy k_ (nc H_ i_)<(nc H_ i_).length)))]:=by intros;rfl
theorem ag8:∀H_ q_ z_ a_ i_ j_ f_ k_,GX.val H_ (.pL q_ z_ false) [.ptr a_ i_ j_ f_,.sc k_]=nR k_ z_ (nc H_ i_):=by intros;rfl
theorem vmp:∀H_ q_ l_,GX.val H_ (.gi q_) l_ = .top:=by intros;rfl
theorem vml:∀H_ a_ i_ j_ f_,GX.val H_ .Bi [.ptr a_ i_ j_ f_] = .sc (.int .i64 ((nc H_ i_).length:Nat)):=by intros;rfl
theorem vmd:∀H_ q_ l_,GX.val H_ (.yl q_) l_ = .aO []:=by intros;rfl
theorem ag9:∀H_ l_,GX.heap H_ .ol l_=some ⟨0,[],true,0⟩::H_:=fun _ _=>rfl
theorem aha:∀H_ q_ z_ o_ l_,GX.heap H_ (.pL q_ z_ o_) l_=H_:=by intros;rfl
theorem ahb:∀H_ q_ a_ i_ j_ f_ k_ v_,GX.heap H_ (.gi q_) [.ptr a_ i_ j_ f_,.sc k_,v_]=uu H_ i_ (qK k_ v_ (nc H_ i_)):=by intros;rfl
theorem ahc:∀H_ l_,GX.heap H_ .Bi l_=H_:=fun _ _=>rfl
theorem ahd:∀H_ q_ a_ i_ j_ f_ k_,GX.heap H_ (.yl q_) [.ptr a_ i_ j_ f_,.sc k_]=uu H_ i_ (JQ k_ (nc H_ i_)):=by intros;rfl
theorem abE:∀H_ i_ p_,ut H_ i_ p_=match Y.find H_ i_ with
 |some blk=>(blk.k=0∧blk.ty=0)∧p_ blk.es
 |none=>False:=fun _ _ _=>rfl
theorem abF:∀H_ i_,nc H_ i_=match Y.find H_ i_ with
 |some blk=>blk.es
 |none=>[]:=fun _ _=>rfl
theorem XW:∀H_ i_ e_,uu H_ i_ e_=match Y.find H_ i_ with
 |some blk=>Y.set H_ i_ (some { blk with es:=e_ })
 |none=>H_:=fun _ _ _=>rfl
theorem afe:∀s_,jf none (.string s_)=true:=fun _=>rfl
theorem aff:∀k_ n_,jf (some k_) (.int k_ n_)=true:=fun k_ _=>by cases k_<;>rfl
theorem K3:∀q_,fM q_ []=True:=fun q_=>by simp[fM]
theorem IU:∀q_ k_ v_ r_,fM q_ (.aO [.sc k_,v_]::r_)=(jf q_ k_=true∧fM q_ r_):=fun q_ k_ v_ r_=>by simp[fM,CB]
theorem XX:∀a_ b_,oo (.string a_) (.string b_)=decide (a_=b_):=fun _ _=>rfl
theorem XY:∀k_ q_ a_ b_,oo (.int k_ a_) (.int q_ b_)=decide (a_=b_):=by intros;rfl
theorem abG:∀H_ k_ i_ o_ n_ c_ s_,GX.ok H_ .rj [.aD k_ i_ o_ n_ c_,.sc (.string s_)]=match Y.find H_ i_ with
 |some blk=>k_=1∧blk.k=1∧o_+n_≤blk.es.length∧s_.size≤n_
 |none=>False:=fun _ _ _ _ _ _ _=>rfl
theorem abH:∀H_ d_ s_,GX.val H_ .rj [d_,.sc (.string s_)] = .sc (.int .i64 (s_.size:Nat)):=by intros;rfl
theorem abI:∀H_ k_ i_ o_ n_ c_ s_,GX.heap H_ .rj [.aD k_ i_ o_ n_ c_,.sc (.string s_)]=match Y.find H_ i_ with
 |some blk=>Y.set H_ i_ (some { blk with es:=blk.es.take o_++bO s_++blk.es.drop (o_+s_.size) })
 |none=>H_:=fun _ _ _ _ _ _ _=>rfl
theorem afg:∀H_ t_ d_ s_,GX.ok H_ (.rO t_) [d_,.sc (.string s_)]=FY H_ t_ s_ d_:=by intros;rfl
theorem afh:∀H_ t_ d_ s_,GX.val H_ (.rO t_) [d_,.sc (.string s_)]=NP H_ s_ d_:=by intros;rfl
theorem afi:∀H_ t_ d_ s_,GX.heap H_ (.rO t_) [d_,.sc (.string s_)]=JR H_ t_ s_ d_:=by intros;rfl
theorem abJ:∀H_ t_ s_,FY H_ t_ s_ (.sc (.slice none 0 0))=(s_.size≤100000000):=by intros;rfl
theorem abK:∀H_ t_ s_ k_ i_ o_ n_ c_,FY H_ t_ s_ (.aD k_ i_ o_ n_ c_)=match Y.find H_ i_ with
  | some blk=>(k_=1∧blk.k=1∧blk.ty=t_∧o_=0∧n_+s_.size≤100000000)∧(match c_ with
   |none=>blk.exact=false∧n_=blk.es.length
   | some m=>(blk.exact=true∧m=blk.es.length∧n_≤m)∨(blk.exact=false∧n_≤blk.es.length))
  |none=>False:=fun _ _ _ _ _ _ _ _=>rfl
theorem afj:∀H_ s_ v_,NP H_ s_ (.sc v_)=if s_.size=0 then .sc v_ else .aD 1 H_.length 0 s_.size none:=by intros;rfl
theorem abL:∀H_ s_ k_ i_ o_ n_,NP H_ s_ (.aD k_ i_ o_ n_ none) = .aD 1 H_.length 0 (n_+s_.size) none:=by intros;rfl
theorem abM:∀H_ s_ k_ i_ o_ n_ m_,NP H_ s_ (.aD k_ i_ o_ n_ (some m_))=if n_+s_.size≤m_ then .aD 1 i_ 0 (n_+s_.size) (some m_) else .aD 1 H_.length 0 (n_+s_.size) none:=by intros;rfl
theorem afk:∀H_ t_ s_ v_,JR H_ t_ s_ (.sc v_)=if s_.size=0 then H_ else some ⟨1,bO s_,false,t_⟩::H_:=by intros;rfl
theorem abN:∀H_ t_ s_ k_ i_ o_ n_,JR H_ t_ s_ (.aD k_ i_ o_ n_ none)=match Y.find H_ i_ with
 |some blk=>some ⟨1,blk.es++bO s_,false,t_⟩::Y.set H_ i_ none
 |none=>H_:=fun _ _ _ _ _ _ _=>rfl
theorem afl:∀H_ t_ p_ n_,GX.ok H_ (.wG t_) [p_,.sc (.int .i64 n_)]=FZ H_ t_ n_ p_:=by intros;rfl
theorem afm:∀H_ t_ p_ k_ n_,GX.val H_ (.wG t_) [p_,.sc (.int k_ n_)] = .sc (.string (NQ H_ n_ p_)):=by intros;rfl
theorem afn:∀H_ t_ p_ n_,GX.heap H_ (.wG t_) [p_,n_]=VT H_ p_:=by intros;rfl
theorem abO:∀H_ t_ n_,FZ H_ t_ n_ (.sc (.pointer none))=(n_=0):=by intros;rfl
theorem abP:∀H_ t_ n_ k_ i_ j_ f_,FZ H_ t_ n_ (.ptr k_ i_ j_ f_)=match Y.find H_ i_ with
 |some blk=>(k_=1∧blk.k=1∧blk.ty=t_∧j_=0∧f_=0∧0<n_∧n_.toNat≤blk.es.length)∧∃s,blk.es.take n_.toNat=bO s
 |none=>False:=fun _ _ _ _ _ _ _=>rfl
theorem afo:∀H_ n_ v_,NQ H_ n_ (.sc v_)=⟨#[]⟩:=by intros;rfl
theorem afp:∀H_ n_ k_ i_ j_ f_,NQ H_ n_ (.ptr k_ i_ j_ f_)=match Y.find H_ i_ with
 |some blk=>oZ (blk.es.take n_.toNat)
 |none=>⟨#[]⟩:=fun _ _ _ _ _ _=>rfl
theorem afq:∀H_ v_,VT H_ (.sc v_)=H_:=fun _ _=>rfl
theorem afr:∀H_ k_ i_ j_ f_,VT H_ (.ptr k_ i_ j_ f_)=Y.set H_ i_ none:=by intros;rfl
theorem ahe:∀H_ k_ i_ o_ n_ c_,GX.ok H_ .pM [.aD k_ i_ o_ n_ c_]=(0<k_∧0<n_):=by intros;rfl
theorem ahf:∀H_,GX.ok H_ .pM [.sc (.slice none 0 0)]=True:=fun _=>rfl
theorem ahg:∀H_ k_ i_ o_ n_ c_,GX.val H_ .pM [.aD k_ i_ o_ n_ c_] = .ptr k_ i_ o_ 0:=by intros;rfl
theorem ahh:∀H_ v_,GX.val H_ .pM [.sc v_] = .sc (.pointer none):=fun _ _=>rfl
theorem wA:∀H_ l_,GX.heap H_ .pM l_=H_:=fun _ _=>rfl
theorem afs:∀H_ p_ x_,GX.ok H_ (.qJ p_) [x_]=CC x_:=by intros;rfl
theorem abQ:∀H_ x_,GX.val H_ (.qJ true) [x_] = .sc (.bool (mc x_)):=fun _ _=>rfl
theorem abR:∀H_ x_,GX.val H_ (.qJ false) [x_] = .sc (.bool (!mc x_)):=fun _ _=>rfl
theorem aft:∀H_ p_ l_,GX.heap H_ (.qJ p_) l_=H_:=by intros;rfl
theorem XZ:∀k_ i_ j_ f_,CC (.ptr k_ i_ j_ f_)=(0<k_):=by intros;rfl
theorem X0:CC (.sc (.pointer none))=True:=rfl
theorem TT:∀k_ i_ j_ f_,mc (.ptr k_ i_ j_ f_)=false:=by intros;rfl
theorem TU:mc (.sc (.pointer none))=true:=rfl
theorem ahi:∀H_ p_ k_ i_ j_ f_ dK i2_ j2_ f2_,GX.ok H_ (.JP p_) [.ptr k_ i_ j_ f_,.ptr dK i2_ j2_ f2_]=((k_=dK∧i_=i2_∧j_=j2_∧f_=f2_)∧0<k_):=by intros;rfl
theorem ahj:∀H_ p_ l_,GX.val H_ (.JP p_) l_ = .sc (.bool p_):=by intros;rfl
theorem ahk:∀H_ p_ l_,GX.heap H_ (.JP p_) l_=H_:=by intros;rfl
theorem ahl:∀H_ k_ i_ j_ f_,GX.ok H_ .NM [.ptr k_ i_ j_ f_]=match Y.find H_ i_ with
 |some blk=>blk.k=k_∧0<k_∧j_<blk.es.length∧f_<k_
 |none=>False:=fun _ _ _ _ _=>rfl
theorem ahm:∀H_ x_,GX.val H_ .NM [x_]=x_:=fun _ _=>rfl
theorem ahn:∀H_ l_,GX.heap H_ .NM l_=H_:=fun _ _=>rfl
theorem abS:∀H_ t_ k_ i_ j_ f_,GX.ok H_ (.wZ t_) [.ptr k_ i_ j_ f_]=match Y.find H_ i_ with
 |some blk=>(k_=2∧blk.k=2∧j_=0∧f_=0∧blk.exact=true∧blk.es.length=1)∧t_.contains blk.ty=true
 |none=>False:=fun _ _ _ _ _ _=>rfl
theorem abT:∀H_ t_ x_,GX.val H_ (.wZ t_) [x_]=x_:=by intros;rfl
theorem abU:∀H_ t_ l_,GX.heap H_ (.wZ t_) l_=H_:=by intros;rfl
theorem abV:∀H_ x_,GX.ok H_ .uq [x_]=True:=fun _ _=>rfl
theorem abW:∀H_ x_,GX.val H_ .uq [x_]=x_:=fun _ _=>rfl
theorem abX:∀H_ l_,GX.heap H_ .uq l_=H_:=fun _ _=>rfl
theorem afu:∀H_ s_ c_,GX.ok H_ .Bj [.sc (.string s_),.sc (.int .u8 c_)]=True:=by intros;rfl
theorem afv:∀H_ s_ k_ c_,GX.val H_ .Bj [.sc (.string s_),.sc (.int k_ c_)] = .sc (.int .i64 (Lib.countByte s_.data.toList c_.toNat.toUInt8:Nat)):=by intros;rfl
theorem afw:∀H_ l_,GX.heap H_ .Bj l_=H_:=fun _ _=>rfl
theorem afx:∀H_ k_ t_ z_ dK q_ m_,GX.ok H_ (.qI k_ t_ z_) [.am dK [] (some []),.sc (.int q_ m_)]=(0<m_∧m_≤100000000):=by intros;rfl
theorem afy:∀H_ k_ t_ z_ dK x_ r_ q_ m_,GX.val H_ (.qI k_ t_ z_) [.am dK x_ r_,.sc (.int q_ m_)] = .aD k_ H_.length 0 m_.toNat none:=by intros;rfl
theorem afz:∀H_ k_ t_ z_ dK x_ r_ m_,GX.heap H_ (.qI k_ t_ z_) [.am dK x_ r_,m_]=some ⟨k_,[],false,t_⟩::H_:=by intros;rfl
def vu:=ak Pj<|ak TL<|ak @afx<|ak @afy<|ak @afz<|ak @abG<|ak @abH<|ak @abI<|ak @afg<|ak @afh<|ak @afi<|ak @abJ<|ak @abK<|ak @afj<|ak @abL<|ak @abM<|ak @afk<|ak @abN<|ak @afl<|ak @afm<|ak @afn<|ak @abO<|ak @abP<|ak @afo<|ak @afp<|ak @afq<|ak @afr<|ak @ahe<|ak @ahf<|ak @ahg<|ak @ahh<|ak @wA<|ak @afs<|ak @abQ<|ak @abR<|ak @aft<|ak @XZ<|ak @X0<|ak @TT<|ak @TU<|ak @ahi<|ak @ahj<|ak @ahk<|ak @ahl<|ak @ahm<|ak @ahn<|ak @abS<|ak @abT<|ak @abU<|ak @abV<|ak @abW<|ak @abX<|ak @afu<|ak @afv<|@afw
theorem hmc:∀H_ t_ k_ i_ j_ f_,GX.heap H_ .vU [.eP t_ (.ptr k_ i_ j_ f_)]=some ⟨0,nc H_ i_,true,0⟩::H_:=by intros;rfl
theorem hnm:∀H_ p_ l_,GX.heap H_ (.Bh p_) l_=H_:=by intros;rfl
def vg:=ak @gmk<|ak @gmg<|ak @gmp<|ak @gml<|ak @gmd<|ak @vmk<|ak @ag7<|ak @ag8<|ak @vmp<|ak @vml<|ak @vmd<|ak @ag9<|ak @aha<|ak @ahb<|ak @ahc<|ak @ahd<|ak @abE<|ak @abF<|ak @XW<|ak @afe<|ak @aff<|ak @K3<|ak @IU<|ak @XX<|ak @XY<|ak @afb<|ak @afc<|ak @afd<|ak @ag4<|ak @ag5<|ak @ag6<|ak @ag2<|ak @ae6<|ak @ae7<|ak @ag3<|ak @ae8<|ak @ae9<|ak @afa<|ak @W5<|ak @Tg<|ak @abu<|ak @abv<|ak @aeZ<|ak @agZ<|ak @abw<|ak @abx<|ak @ae0<|ak @ag0<|ak @hcap<|ak @ae1<|ak @ag1<|ak @aby<|ak @abz<|ak @ae2<|ak @ae3<|ak @abA<|ak @abB<|ak @ae4<|ak @ae5<|ak @abC<|@abD
theorem onf:∀Du p_ x_,PO.ok Du (.ug p_ x_)=Iy (Du x_):=by intros;rfl
theorem vnf:∀Du p_ x_,PO.val Du (.ug p_ x_)=Oi p_ (Du x_):=by intros;rfl
theorem otp:∀Du t_ x_,PO.ok Du (.wF t_ x_)=Iz t_ (Du x_):=by intros;rfl
theorem vtp:∀Du t_ x_,PO.val Du (.wF t_ x_)=Oj (Du x_):=by intros;rfl
def vf:=ak @onf<|ak @vnf<|ak @otp<|ak @vtp<|ak @Iy.eq_def<|ak @Oi.eq_def<|ak @Iz.eq_def<|@Oj.eq_def
def vk:=ak @ite_true.{1}<|ak @ite_false.{1}<|ak @eq_self.{1}<|ak @forall_const.{1}<|@implies_true.{1}
def vl:=ak @Y.af<|ak @bz<|ak @List.length_cons.{0}<|@List.length_nil.{0}
def va:=ak @S8<|ak @aa7<|ak @Ot<|ak @Kx<|ak @S9<|ak @Ta<|ak @Ou<|ak @Ky<|ak @Ov<|ak @Tc<|ak @Tb<|ak @Ow<|ak @Kz<|ak @KA<|ak @Td<|ak @W6<|ak @W7<|ak @W8<|ak @W9<|ak @Te<|ak @Oy<|ak @Xa<|ak @KB<|ak @IB<|ak @Oz<|ak @OA<|ak @KC<|ak @IE<|ak @KD<|ak @OB<|ak @KE<|ak @IG<|ak @KF<|ak @OC<|ak @Xb<|ak @Xc<|ak @Xd<|ak @Xe<|ak @Th<|ak @Tf<|ak @Xf<|ak @aa8<|ak @Xg<|ak @Rf<|ak @KG<|ak @Gr<|ak @Xh<|ak @aa9<|ak @KH<|ak @KI<|ak @Xi<|ak @Xj<|ak @Xk<|ak @Xl<|ak @Ti<|ak @Gs<|ak @Tj<|ak @Tk<|ak @Xm<|ak @Xn<|ak @Xo<|ak @Xv<|ak @abc<|ak @abd<|ak @abe<|ak @abf<|ak @Xw<|ak @Xx<|ak @Xy<|ak @Tn<|ak @abg<|ak @abh<|ak @abi<|ak @iZ.eq_1<|ak @iZ.eq_2<|ak @iZ.eq_3<|ak @kQ.eq_1<|ak @kQ.eq_2<|ak @kQ.eq_3<|ak @oneOf.eq_def<|ak @PO.ok.eq_1<|ak @PO.ok.eq_2<|ak @PO.ok.eq_3<|ak @PO.ok.eq_4<|ak @PO.ok.eq_5<|ak @PO.ok.eq_6<|ak @PO.ok.eq_7<|ak @PO.ok.eq_8<|ak @PO.ok.eq_9<|ak @PO.ok.eq_10<|ak @PO.ok.eq_11<|ak @PO.ok.eq_12<|ak @PO.ok.eq_13<|ak @PO.ok.eq_14<|ak @PO.ok.eq_15<|ak @PO.ok.eq_16<|ak @PO.ok.eq_17<|ak @PO.ok.eq_18<|ak @PO.ok.eq_19<|ak @PO.ok.eq_20<|ak @PO.ok.eq_21<|ak @PO.ok.eq_22<|ak @PO.ok.eq_23<|ak @PO.ok.eq_24<|ak @PO.ok.eq_25<|ak @PO.ok.eq_26<|ak @PO.ok.eq_27<|ak @PO.ok.eq_28<|ak @PO.val.eq_1<|ak @PO.val.eq_2<|ak @PO.val.eq_3<|ak @PO.val.eq_4<|ak @PO.val.eq_5<|ak @PO.val.eq_6<|ak @PO.val.eq_7<|ak @PO.val.eq_8<|ak @PO.val.eq_9<|ak @PO.val.eq_10<|ak @PO.val.eq_11<|ak @PO.val.eq_12<|ak @PO.val.eq_13<|ak @PO.val.eq_14<|ak @PO.val.eq_15<|ak @PO.val.eq_16<|ak @PO.val.eq_17<|ak @PO.val.eq_18<|ak @PO.val.eq_19<|ak @PO.val.eq_20<|ak @PO.val.eq_21<|ak @PO.val.eq_22<|ak @PO.val.eq_23<|ak @PO.val.eq_24<|ak @PO.val.eq_25<|ak @PO.val.eq_26<|ak @PO.val.eq_27<|ak @PO.val.eq_28<|ak @Oc.eq_def<|ak @WR.eq_def<|ak @WT.eq_def<|ak @shF.eq_def<|ak @WU.eq_def<|ak @unF.eq_def<|ak @Od.eq_def<|ak @acS.eq_def<|ak @WV.eq_def<|ak @acT.eq_def<|ak @Q7.eq_def<|ak @WW.eq_def<|ak @Q8.eq_def<|ak @WX.eq_def<|ak @Ra.eq_def<|ak @Ko.eq_def<|ak @Q9.eq_def<|ak @KU<|ak @IQ<|ak @WY.eq_def<|ak @Db.eq_def<|ak @Dc.eq_def<|ak @Rb.eq_def<|ak @Ks.eq_def<|ak @uO.eq_def<|ak @Rc.eq_def<|ak @Ah.eq_def<|ak @Kt.eq_def<|ak @Ci.eq_def<|ak @WZ.eq_def<|ak @Ix.eq_def<|ak @W0.eq_def<|ak @oy.eq_1<|ak @oy.eq_2<|ak @gN.eq_1<|ak @gN.eq_2<|ak @Dd.eq_def<|ak @Ku.eq_def<|ak @Oe.eq_def<|ak @De.eq_def<|ak @W2.eq_def<|ak @mmF.eq_def<|ak @Og.eq_def<|ak @acU.eq_def<|ak @Re.eq_def<|ak @Oh.eq_def<|ak @qP.eq_1<|ak @qP.eq_2<|ak @xe.eq_1<|ak @xe.eq_2<|ak @wD.eq_def<|ak @NE.eq_def<|ak @JF.eq_def<|ak @wH.eq_def<|ak @Fq.eq_def<|ak @Bp.eq_def<|ak @yL.eq_def<|ak @nq.eq_1<|ak @nq.eq_2<|ak @rU.eq_1<|ak @rU.eq_2<|ak @qQ.eq_def<|ak @aM.eq_def<|ak @W4.eq_def<|ak @X.ev.eq_1<|ak @X.ev.eq_2<|ak @cz.eq_1<|ak @cz.eq_2<|ak @AV.sub.eq_def<|ak @AV.jw.eq_def<|ak @List.getD_cons_succ.{0}<|ak @List.getD_cons_zero.{0}<|ak @List.set_cons_succ.{0}<|ak @List.set_cons_zero.{0}<|ak @List.length_cons.{0}<|ak @List.length_nil.{0}<|ak @List.replicate.eq_1.{0}<|ak @List.replicate.eq_2.{0}<|ak @List.cons_append.{0}<|ak @List.nil_append.{0}<|ak @List.append_nil.{0}<|ak @List.append_assoc.{0}<|ak @List.map_cons.{0,0}<|ak @List.map_nil.{0,0}<|ak @List.drop_succ_cons.{0}<|ak @List.drop_zero.{0}<|ak @List.take_succ_cons.{0}<|ak @List.take_zero.{0}<|ak @List.drop_nil.{0}<|ak @List.take_nil.{0}<|ak @List.getD_nil.{0}<|ak @Nat.zero_add<|ak @Nat.add_zero<|ak @Nat.add_left_cancel_iff<|ak @Nat.add_right_cancel_iff<|ak @Nat.left_eq_add<|ak @Nat.add_eq_left<|ak @Nat.add_eq_zero_iff<|ak @Nat.succ_ne_self<|ak @Option.isSome_some.{0}<|ak @Option.isSome_none.{0}<|ak @Option.getD_some.{0}<|ak @Option.getD_none.{0}<|ak @Option.map_some.{0,0}<|ak @Option.map_none.{0,0}<|ak @Bool.not_true<|ak @Bool.not_false<|ak @Bool.or_true<|ak @Bool.true_or<|ak @Bool.or_false<|ak @Bool.false_or<|ak @Bool.not_eq_true<|ak @true_and<|ak @and_true<|ak @false_and<|ak @and_false<|ak @true_or<|ak @or_true<|ak @or_false<|ak @false_or<|ak @and_self<|ak @Bool.false_eq_true<|ak @not_true<|ak @not_false_iff<|ak @decide_true<|ak @decide_false<|ak @beq_self_eq_true.{0}<|ak @nc2<|ak @nc3<|ak @nc4<|ak @nc5<|ak @nc6<|ak @nc7<|ak @nc8<|ak @nc9<|ak @agU<|ak @agV<|ak @agW<|ak @Int.natCast_zero<|ak @Int.natCast_one<|ak @XD<|ak @Ts<|ak @Tt<|ak @abk<|ak @XE<|ak @Tu<|ak @nj.eq_def<|ak @l5.eq_def<|ak @false_implies<|ak @Bool.not_eq_eq_eq_not<|ak @List.contains_cons.{0}<|ak @List.contains_nil.{0}<|ak @Bool.and_self<|ak @Bool.true_and<|ak @Bool.and_true<|ak @Bool.false_and<|ak @Bool.and_false<|ak @true_implies<|ak @Nat.add_assoc<|ak @u9<|ak @Int.toNat_natCast<|ak @dM<|ak @Tv<|ak @XF<|ak @XG<|ak @bne.eq_def.{0}<|@wrap_i64
def vs:=ak ux<|ak @TJ<|ak @TK<|ak @Pg<|ak @Ph<|ak @TM<|ak @TN<|ak @XS<|ak @XT<|ak @TQ<|ak @XU<|ak @XV<|ak @TR<|ak @Gy<|ak @abp<|ak @abq<|ak @TS<|ak @GA<|ak @abr<|ak @abt<|ak @Tw<|ak @Tx<|ak @OL<|ak @Ty<|ak @abl<|ak @OM<|ak @OO<|ak @KV<|ak @OP<|ak @XK<|ak @OQ<|ak @OS<|ak @KW<|ak @OU<|ak @XL<|ak @OV<|ak @OX<|ak @KX<|ak @OY<|ak @XM<|ak @Tz<|ak @TA<|ak @OZ<|ak @TB<|ak @abm<|ak @O1<|ak @O3<|ak @KY<|ak @O4<|ak @XN<|ak @O5<|ak @O6<|ak @KZ<|ak @O7<|ak @XO<|ak @TC<|ak @TD<|ak @O8<|ak @TE<|ak @abn<|ak @O9<|ak @Pa<|ak @K0<|ak @Pb<|ak @XP<|ak @TF<|ak @TG<|ak @Pc<|ak @TH<|ak @abo<|ak @Pd<|ak @Pe<|ak @K1<|ak @Pf<|@XQ
def vh:=ak @Y.find.eq_1<|ak @Y.find.eq_2<|ak @Y.set.eq_1<|@Y.set.eq_2
def vw:=ak @aJ<|ak @ai<|ak @IP<|ak @BU<|ak @vZ<|ak @yQ<|ak @Y.af<|ak @jT<|ak @KT<|ak @bz<|ak @nr<|ak @s9<|ak @u7<|ak @nU<|ak @TI<|ak @Dq<|@Bs
theorem fh{P Q:Prop}(q:Q)(h:P=Q:=by simp -implicitDefEqProofs (maxSteps:=99999999) (disch:=first|omega|(simp only[vl];first|done|omega)) only[va,vg,vs,vw,vk,simprocAttr]<;>rfl):P:=h.symm▸q
theorem eQ{a P Q:Prop}(x:a)(q:Q)(h:a→P=Q:=by intro x;simp -implicitDefEqProofs (maxSteps:=99999999) (disch:=first|omega|(simp only[vl];first|done|omega)) only[x,va,vg,vs,vw,vk,simprocAttr]<;>rfl):P:=(h x).symm▸q
theorem aw{P Q:Prop}(q:Q)(h:P=Q:=by simp -implicitDefEqProofs (maxSteps:=99999999) (disch:=first|omega|(simp only[vl];first|done|omega)) only[vu,va,vg,vs,vw,vk,simprocAttr]<;>rfl):P:=h.symm▸q
theorem aI{a P Q:Prop}(x:a)(q:Q)(h:a→P=Q:=by intro x;simp -implicitDefEqProofs (maxSteps:=99999999) (disch:=first|omega|(simp only[vl];first|done|omega)) only[x,vu,va,vg,vs,vw,vk,simprocAttr]<;>rfl):P:=(h x).symm▸q
theorem zD0{P Q:Prop}(q:Q)(h:P=Q:=by simp -implicitDefEqProofs (maxSteps:=99999999) (disch:=omega) only[va,vg,vs,vh,vk,simprocAttr]<;>rfl):P:=h.symm▸q
theorem yU{a P Q:Prop}(x:a)(q:Q)(h:a→P=Q:=by intro x;simp -implicitDefEqProofs (maxSteps:=99999999) (disch:=omega) only[x,va,vg,vs,vh,vk,simprocAttr]<;>rfl):P:=(h x).symm▸q
theorem zE0{P Q:Prop}(q:Q)(h:P=Q:=by simp -implicitDefEqProofs (maxSteps:=99999999) (disch:=omega) only[vu,va,vg,vs,vh,vk,simprocAttr]<;>rfl):P:=h.symm▸q
theorem yV{P Q:Prop}(q:Q)(h:P=Q:=by simp -implicitDefEqProofs (maxSteps:=99999999) (disch:=first|omega|(simp only[vl];first|done|omega)) only[mk,va,vg,vs,vw,vk,simprocAttr]<;>rfl):P:=h.symm▸q
theorem df{a P Q:Prop}(x:a)(q:Q)(h:a→P=Q:=by intro x;simp -implicitDefEqProofs (maxSteps:=99999999) (disch:=first|omega|(simp only[vl];first|done|omega)) only[x,mk,va,vg,vs,vw,vk,simprocAttr]<;>rfl):P:=(h x).symm▸q
theorem zG0{P Q:Prop}(q:Q)(h:P=Q:=by simp -implicitDefEqProofs (maxSteps:=99999999) (disch:=first|omega|(simp only[vl];first|done|omega)) only[mk,vu,va,vg,vs,vw,vk,simprocAttr]<;>rfl):P:=h.symm▸q
theorem fB{a P Q:Prop}(x:a)(q:Q)(h:a→P=Q:=by intro x;simp -implicitDefEqProofs (maxSteps:=99999999) (disch:=first|omega|(simp only[vl];first|done|omega)) only[x,mk,vu,va,vg,vs,vw,vk,simprocAttr]<;>rfl):P:=(h x).symm▸q
theorem zI0{P Q:Prop}(q:Q)(h:P=Q:=by simp -implicitDefEqProofs (maxSteps:=99999999) (disch:=omega) only[mk,va,vg,vs,vh,vk,simprocAttr]<;>rfl):P:=h.symm▸q
theorem zI1{a P Q:Prop}(x:a)(q:Q)(h:a→P=Q:=by intro x;simp -implicitDefEqProofs (maxSteps:=99999999) (disch:=omega) only[x,mk,va,vg,vs,vh,vk,simprocAttr]<;>rfl):P:=(h x).symm▸q
def nl(s:ByteArray):Int:=Lib.indexByte s.data.toList 10
def abY(s:ByteArray):Bool:=decide (s≠ByteArray.empty) && (decide (nl s<0)|| decide ((s.size:Int)-1≤nl s))
def good(xs:List ByteArray)(k:Nat):Bool:=abY (nV xs k) && (!decide (nl (nV xs k)<0)|| decide (k+1=xs.length))
def aja(xs:List ByteArray):Prop:=xs.length≤100000000∧∀s∈xs,s.size≤100000000
structure Hk where
 at_:Int
 old:List ByteArray
 new:List ByteArray
abbrev hkr(h:Hk)(ro rn:Option (List AV)):AV:=.agg [.sc (.int .i64 h.at_),.am 1 (strs h.old) ro,.am 1 (strs h.new) rn]
abbrev hk(h:Hk):AV:=hkr h none none
section
variable {α:Type}
def mI(q:IntKind)(f:α→AV)(M:List (Int×α)):List AV:=M.map fun p=>.aO [.sc (.int q p.1),f p.2]
theorem xj(q:IntKind)(f:α→AV)(M:List (Int×α)):(mI q f M).length=M.length:=by simp[mI]
theorem afA(q:IntKind)(f:α→AV)(M:List (Int×α)):fM (some q) (mI q f M):=fun x hx=>by
 obtain ⟨p,_,rfl⟩:=List.mem_map.1 hx
 simp[CB,jf]
theorem abZ(q:IntKind)(f:α→AV)(M:List (Int×α)):fM (some q) (mI q f M)=True:=by simp[afA]
def Dv(k:Int):List (Int×α)→Nat
 |[]=>0
 |p::r=>if k=p.1 then 0 else Dv k r+1
def kR(k:Int):List (Int×α)→Option α
 |[]=>none
 |p::r=>if k=p.1 then some p.2 else kR k r
def xk(k:Int)(a:α):List (Int×α)→List (Int×α)
 |[]=>[(k,a)]
 |p::r=>if k=p.1 then (k,a)::r else p::xk k a r
theorem yW{q:IntKind}{f:α→AV}{k:Int}:∀{M:List (Int×α)},fy (.int q k) (mI q f M)=Dv k M
 |[]=>rfl
 |p::r=>by
  show (if sK _ _=true then 0 else fy _ (mI q f r)+1)=_
  rw[yW (M:=r)]
  simp[sK,oo,Dv]
theorem K4{k:Int}:∀{M:List (Int×α)},(decide (Dv k M<M.length))=(kR k M).isSome
 |[]=>rfl
 |p::r=>by
  have ih:=K4 (k:=k) (M:=r)
  unfold Dv kR
  by_cases h:k=p.1
  ·simp[h]
  ·simp only[if_neg h,List.length_cons,Nat.add_lt_add_iff_right,ih]
theorem K7{q:IntKind}{f:α→AV}{k:Int}{z:AV}:∀{M:List (Int×α)},nR (.int q k) z (mI q f M)=((kR k M).map f).getD z
 |[]=>rfl
 |p::r=>by
  have ih:=K7 (q:=q) (f:=f) (k:=k) (z:=z) (M:=r)
  unfold nR at ih ⊢
  rw[yW,xj] at ih ⊢
  unfold Dv kR
  by_cases h:k=p.1
  ·simp[h,mI,VS]
  ·simp only[if_neg h,List.length_cons,Nat.add_lt_add_iff_right] at ih ⊢
   rw[←ih]
   rfl
theorem Dw{q:IntKind}{f:α→AV}{k:Int}{a:α}:∀{M:List (Int×α)},qK (.int q k) (f a) (mI q f M)=mI q f (xk k a M)
 |[]=>rfl
 |p::r=>by
  have ih:=Dw (q:=q) (f:=f) (k:=k) (a:=a) (M:=r)
  unfold qK at ih ⊢
  rw[yW,xj] at ih ⊢
  unfold Dv xk
  by_cases h:k=p.1
  ·simp[h,mI]
  ·simp only[if_neg h,List.length_cons,Nat.add_lt_add_iff_right]
   split
   ·rename_i hlt
    rw[if_pos hlt] at ih
    show _::(mI q f r).set _ _=_::mI q f _
    rw[←ih]
   ·rename_i hlt
    rw[if_neg hlt] at ih
    show _::(mI q f r++_)=_::mI q f _
    rw[←ih]
theorem GB{k:Int}:∀{M:List (Int×α)},k∈M.map (·.1)↔(kR k M).isSome=true
 |[]=>by simp[kR]
 |p::r=>by
  have ih:=GB (k:=k) (M:=r)
  unfold kR
  by_cases h:k=p.1
  ·simp[h]
  ·simp only[List.map_cons,List.mem_cons,h,false_or,if_neg,not_false_iff,ih]
end
def X3:IC:=(.seq (.ops [iH 1 (.box 4 25 (.t 0)),iP 2 (xI 0)]) (.seq (.ops [iH 3 (.alloc (.sc (.int .i64 0)) 3),⟨none,none,(.h (.store 1 (.t 3) (kI 0)))⟩]) (.seq (.ops [iP 4 (.oQ (.func 171) [] [(.t 3)]),iH 5 (yA 4 1),⟨(some 6),none,(.h (.ep 4 25 (.agg [(.sc (.int .u8 0)),(.sc (.string ⟨#[]⟩)),(.sc (.int .i64 0)),bG]) 1 [(0,(.t 5))]))⟩,iH 7 (yC 115 4 6)]) (.seq (.ops [iH 8 (yD 1 3),iM 2 8]) .ret))))
theorem afB:Dk Tryz.prog 112 X3 [(.t 2)] 9:=aV Tryz.func112
def acY:IC:=(.seq (.ops [iP 6 (.mv kF)]) (.seq (.ops [iM 10 0,iH 11 (.call 69 [(.t 10)]),iM 9 11,iP 12 (.ext (.t 9) 0),iP 13 (.ext (.t 9) 1),iH 7 (.alloc (.agg [bG,(.sc (.bool false))]) 116),iS 2 7 12,iM 8 13]) (.seq (.block 0 (.seq (.ops [iM 15 2,iP 16 (.aN .lss (.t 15) (kI 0)),iM 14 16]) (.cond (.t 14) (.seq (.ops [iP 6 (.mv kF)]) .ret) (.seq (.ops [iP 18 (.an 1 (.t 7)),iH 19 (yD 1 18),iM 17 19]) (.cond (.t 17) (.seq (.ops [iM 20 1,iP 21 (.an 0 (.t 7)),iH 22 (yD 1 21),iP 23 (.gm 1 (.t 22) (kI 0)),iH 24 (yD 1 23),iH 25 (yC 127 20 24),iM 6 25]) .ret) .skip))))) (.seq (.ops [iM 26 2,iP 27 (.an 0 (.t 7)),iH 28 (yD 1 27),iP 29 (xL 28),iP 30 (xB .lss 26 29),iM 31 30,gM 32 31 true 1,gP 33 31 true (.an 0 (.t 7)),gH 34 31 true (yD 1 33),gM 35 31 true 2,gP 36 31 true (xA 1 34 35),gH 37 31 true (yD 1 36),gH 38 31 true (yC 127 32 37),iP 39 (.pick (.t 31) (.t 38) kF),iM 6 39]) .ret))))
theorem aho:Dk Tryz.prog 71 acY [(.t 6)] 40:=aV Tryz.func71
def acZ:IC:=(.seq (.ops [iH 1 (.box 4 25 (.t 0)),iP 2 (.mv kF)]) (.seq (.ops [iH 3 (.alloc (.sc .nilFunc) 113)]) (.seq (.ops [iP 4 (.oQ (.func 68) [] [(.t 3)]),iS 1 3 4]) (.seq (.ops [iH 5 (yD 1 3),iH 6 (yA 4 1),iH 7 (.cq (.t 5) [(.t 6),(kI 1)]),iM 2 7]) .ret))))
theorem ahp:Dk Tryz.prog 40 acZ [(.t 2)] 8:=aV Tryz.func40
def X4:IC:=(.seq (.ops [iM 6 1,iP 7 (xL 6),iP 8 (xI 0)]) (.block 0 (.loop (.seq (.ops [iP 9 (xB .lss 8 7)]) (.seq (.cond (.t 9) .skip (.exit 0)) (.seq (.block 1 (.seq (.ops [iP 10 (xA 4 6 8),iH 11 (yA 4 10),⟨(some 5),none,(.h (.alloc (.agg [(.sc (.int .u8 0)),(.sc (.string ⟨#[]⟩)),(.sc (.int .i64 0)),bG]) 25))⟩,iS 4 5 11]) (.seq (.ops [iM 12 0,iH 13 (yA 4 5),iH 14 (.cq (.t 12) [(.t 13)])]) (.ops [iM 15 0,iP 16 (.an 3 (.t 5)),iH 17 (yD 1 16),iH 18 (yC 115 15 17)])))) (.ops [iP 19 (.aN .add (.t 8) (kI 1)),iM 8 19])))))))
theorem afC:Dk Tryz.prog 115 X4 [] 20:=aV Tryz.func115
def X5:IC:=(.seq (.ops [iH 2 (.box 4 25 (.t 0))]) (.ops [iH 3 (yD 1 1),iP 4 (.aN .add (.t 3) (kI 1)),iS 1 1 4]))
theorem afD:Dk Tryz.prog 171 X5 [] 5:=aV Tryz.func171
def X6:IC:=(.seq (.ops [iP 2 (.mv kF)]) (.seq (.ops [iH 3 (.ep 1 22 (.sc (.int .u8 0)) 5 [(0,(.k (.sc (.int .u8 2)))),(1,(.k (.sc (.int .u8 4)))),(2,(.k (.sc (.int .u8 6)))),(3,(.k (.sc (.int .u8 22)))),(4,(.k (.sc (.int .u8 25))))]),iM 4 0,iH 5 (yC 121 3 4),iM 2 5]) .ret))
theorem afE:Dk Tryz.prog 117 X6 [(.t 2)] 6:=aV Tryz.func117
def X7:IC:=(.seq (.ops [iP 4 (.mv kF)]) (.seq (.seq (.ops [iM 5 1]) (.block 0 (.seq (.ops [iP 7 (.aN .eql (.t 5) (.k (.sc (.int .u8 200)))),iM 6 7]) (.cond (.t 6) (.seq (.ops [iM 8 0,iP 9 (.aN .geq (.t 8) (.k (.sc (.int .u8 20)))),iM 10 9,gM 11 10 true 0,gP 12 10 true (.aN .leq (.t 11) (.k (.sc (.int .u8 29)))),iP 13 (.pick (.t 10) (.t 12) kF),iM 4 13]) .ret) (.seq (.ops [iP 15 (.aN .eql (.t 5) (.k (.sc (.int .u8 201)))),iM 14 15]) (.cond (.t 14) (.seq (.ops [iM 16 0,iP 17 (.aN .geq (.t 16) (.k (.sc (.int .u8 6)))),iM 18 17,gM 19 18 true 0,gP 20 18 true (.aN .leq (.t 19) (.k (.sc (.int .u8 12)))),iP 21 (.pick (.t 18) (.t 20) kF),iM 22 21,gM 23 22 false 0,gP 24 22 false (.aN .eql (.t 23) (.k (.sc (.int .u8 5)))),iP 25 (.pick (.t 22) kT (.t 24)),iM 4 25]) .ret) (.seq (.ops [iP 27 (.aN .eql (.t 5) (.k (.sc (.int .u8 202)))),iM 26 27]) (.cond (.t 26) (.seq (.ops [iM 28 0,iP 29 (.aN .eql (.t 28) (.k (.sc (.int .u8 22)))),iM 30 29,gM 31 30 false 0,gP 32 30 false (.aN .eql (.t 31) (.k (.sc (.int .u8 26)))),iP 33 (.pick (.t 30) kT (.t 32)),iM 4 33]) .ret) .skip)))))))) (.seq (.ops [iM 34 0,iM 35 1,iP 36 (xB .eql 34 35),iM 4 36]) .ret)))
theorem afF:Dk Tryz.prog 127 X7 [(.t 4)] 37:=aV Tryz.func127
def ac0:IC:=(.seq (.ops [iH 3 (.box 4 25 (.t 0)),iP 5 (.mv kF)]) (.seq (.ops [iP 11 (.an 0 (.t 3)),iH 12 (yD 1 11),iH 13 (.call 69 [(.t 12)]),iM 10 13,iP 14 (.ext (.t 10) 0),iP 15 (.ext (.t 10) 1),iH 6 (.alloc (.agg [bG,(.sc (.bool false))]) 116),iS 2 6 14,iM 7 15]) (.seq (.seq (.ops [iM 16 7,iP 17 (xN 16),iM 18 17,gM 19 18 false 1,gP 20 18 false (.aN .gtr (.t 19) (kI 40)),iP 21 (.pick (.t 18) kT (.t 20)),iM 22 21,gH 23 22 false (yA 4 3),gH 24 22 false (.call 70 [(.t 23)]),gP 25 22 false (xN 24),iP 26 (.pick (.t 22) kT (.t 25)),iM 27 26,gP 28 27 false (.an 1 (.t 6)),gH 29 27 false (yD 1 28),gP 30 27 false (xN 29),gM 31 27 false 30,gP 32 31 true (.an 3 (.t 3)),gH 33 31 true (yD 1 32),gP 34 31 true (xL 33),gP 35 31 true (.an 0 (.t 6)),gH 36 31 true (yD 1 35),gP 37 31 true (xL 36),gP 38 31 true (xB .neq 34 37),gP 39 27 false (.pick (.t 31) (.t 38) kF),iP 40 (.pick (.t 27) kT (.t 39))]) (.cond (.t 40) (.seq (.ops [iP 5 (.mv kF)]) .ret) .skip)) (.seq (.seq (.ops [iP 41 (.an 3 (.t 3)),iH 42 (yD 1 41),iP 43 (xL 42),iP 44 (xI 0)]) (.block 0 (.loop (.seq (.ops [iP 45 (xB .lss 44 43)]) (.seq (.cond (.t 45) .skip (.exit 0)) (.seq (.block 1 (.seq (.ops [iM 46 44,iP 47 (xA 4 42 44),iH 48 (yA 4 47),⟨(some 9),none,(.h (.alloc (.agg [(.sc (.int .u8 0)),(.sc (.string ⟨#[]⟩)),(.sc (.int .i64 0)),bG]) 25))⟩,iM 8 46,iS 4 9 48]) (.seq (.ops [iP 49 (.an 0 (.t 3)),iH 50 (yD 1 49),iP 51 (.an 0 (.t 9)),iH 52 (yD 1 51),iM 53 8,iH 54 (.call 71 [(.t 50),(.t 52),(.t 53)]),iP 55 (xN 54),iM 56 55,gH 57 56 false (yD 1 2),gH 58 56 false (yA 4 9),gM 59 56 false 1,gP 60 56 false (.aN .add (.t 59) (kI 1)),gH 61 56 false (.cq (.t 57) [(.t 58),(.t 60)]),gP 62 56 false (xN 61),iP 63 (.pick (.t 56) kT (.t 62))]) (.cond (.t 63) (.seq (.ops [iP 5 (.mv kF)]) .ret) .skip)))) (.ops [iP 64 (.aN .add (.t 44) (kI 1)),iM 44 64]))))))) (.seq (.ops [iP 65 (.an 0 (.t 3)),iH 66 (yD 1 65),iP 67 (.aN .neq (.t 66) (.k (.sc (.int .u8 7)))),iM 68 67,gP 69 68 false (.an 3 (.t 3)),gH 70 68 false (yD 1 69),gP 71 68 false (.gm 4 (.t 70) (kI 0)),gP 72 68 false (.an 0 (.t 71)),gH 73 68 false (yD 1 72),gP 74 68 false (.aN .eql (.t 73) (.k (.sc (.int .u8 22)))),iP 75 (.pick (.t 68) kT (.t 74)),iM 76 75,gP 77 76 false (.an 3 (.t 3)),gH 78 76 false (yD 1 77),gP 79 76 false (.gm 4 (.t 78) (kI 0)),gP 80 76 false (.an 3 (.t 79)),gH 81 76 false (yD 1 80),gP 82 76 false (.gm 4 (.t 81) (kI 0)),gP 83 76 false (.an 0 (.t 82)),gH 84 76 false (yD 1 83),gP 85 76 false (.aN .eql (.t 84) (.k (.sc (.int .u8 22)))),iP 86 (.pick (.t 76) kT (.t 85)),iM 5 86]) .ret)))))
theorem ahq:Dk Tryz.prog 68 ac0 [(.t 5)] 87:=aV Tryz.func68
def ac1:IC:=(.seq (.ops [iH 1 (.box 4 25 (.t 0)),iP 2 (.mv kF)]) (.seq (.ops [iP 4 (.oQ (.func 125) [] [(.t 1)]),iM 3 4]) (.seq (.block 0 (.seq (.ops [iP 6 (.an 0 (.t 1)),iH 7 (yD 1 6),iP 8 (.aN .eql (.t 7) (.k (.sc (.int .u8 20)))),iM 5 8]) (.cond (.t 5) (.seq (.ops [iP 9 (.an 1 (.t 1)),iH 10 (yD 1 9),⟨(some 11),none,(.p (.aN .eql (.t 10) (.k (.sc (.string ⟨#[]⟩)))))⟩,iM 12 11,gP 13 12 true (.an 2 (.t 1)),gH 14 12 true (yD 1 13),gP 15 12 true (.aN .geq (.t 14) (kI 0)),iP 16 (.pick (.t 12) (.t 15) kF),iM 2 16]) .ret) (.seq (.ops [iP 18 (.an 0 (.t 1)),iH 19 (yD 1 18),iP 20 (.aN .eql (.t 19) (.k (.sc (.int .u8 21)))),iM 17 20]) (.cond (.t 17) (.seq (.ops [iP 21 (.an 1 (.t 1)),iH 22 (yD 1 21),⟨(some 23),none,(.p (.aN .eql (.t 22) (.k (.sc (.string ⟨#[]⟩)))))⟩,iM 24 23,gP 25 24 true (.an 2 (.t 1)),gH 26 24 true (yD 1 25),gP 27 24 true (.E6 .shr (.t 26) (.k (.sc (.int .u64 1)))),gP 28 24 true (.aN .eql (.t 27) (kI 0)),iP 29 (.pick (.t 24) (.t 28) kF),iM 2 29]) .ret) (.seq (.ops [iP 31 (.an 2 (.t 1)),iH 32 (yD 1 31),iP 33 (.aN .neq (.t 32) (kI 0)),iM 30 33]) (.cond (.t 30) (.seq (.ops [iP 2 (.mv kF)]) .ret) (.seq (.ops [iP 35 (.an 0 (.t 1)),iH 36 (yD 1 35),iH 37 (.call 117 [(.t 36)]),iM 34 37]) (.cond (.t 34) (.seq (.ops [iP 38 (.an 1 (.t 1)),iH 39 (yD 1 38),iH 40 (.call 43 [(.t 39)]),iM 2 40]) .ret) (.seq (.ops [iP 42 (.an 0 (.t 1)),iH 43 (yD 1 42),iP 44 (.aN .eql (.t 43) (.k (.sc (.int .u8 23)))),iM 41 44]) (.cond (.t 41) (.seq (.ops [iM 45 3,⟨(some 46),none,(.h (.cq (.t 45) [(.k (.sc (.string ⟨#[45,32,33]⟩)))]))⟩,iM 2 46]) .ret) (.seq (.ops [iP 48 (.an 0 (.t 1)),iH 49 (yD 1 48),iP 50 (.aN .eql (.t 49) (.k (.sc (.int .u8 24)))),iM 47 50]) (.cond (.t 47) (.seq (.ops [iM 51 3,⟨(some 52),none,(.h (.cq (.t 51) [(.k (.sc (.string ⟨#[124,124,32,38,38,32,61,61,32,33,61,32,60,32,60,61,32,62,32,62,61,32,43,32,45,32,42,32,47,32,37]⟩)))]))⟩,iM 2 52]) .ret) .skip))))))))))))) (.seq (.ops [iP 53 (.an 1 (.t 1)),iH 54 (yD 1 53),⟨(some 55),none,(.p (.aN .eql (.t 54) (.k (.sc (.string ⟨#[]⟩)))))⟩,iM 2 55]) .ret))))
theorem ahr:Dk Tryz.prog 70 ac1 [(.t 2)] 56:=aV Tryz.func70
def X8:IC:=(.seq (.ops [iP 3 (.mv kF)]) (.seq (.di [iP 4 (.an 1 (.t 1)),iH 5 (yD 1 4),⟨(some 6),none,(.p (.aN .neq (.t 5) (.k (.sc (.string ⟨#[]⟩)))))⟩,iM 7 6,gM 8 7 true 0,gH 9 7 true (.call 126 [(.t 8)]),gP 10 7 true (.an 1 (.t 1)),gH 11 7 true (yD 1 10),gH 12 7 true (yC 59 9 11),iP 13 (.pick (.t 7) (.t 12) kF),iM 3 13] [[],[0],[1,0],[2,1,0],[3,2,1,0],[4,3,2,1,0],[3,2,1,0],[6,3,2,1,0],[5,4,3,2,1,0,7,6],[3,2,1,0,8,5,4,7,6],[9,3,2,1,0,8,5,4,7,6]]) .ret))
theorem afG:Dk Tryz.prog 125 X8 [(.t 3)] 14:=aV Tryz.func125
def X9:IC:=(.seq (.ops [iH 2 (.alloc (.agg [bG,(.sc (.bool false))]) 116)]) (.seq (.ops [iM 3 0,iP 4 (.build [bG,(.sc (.bool false))] [(0,1,(.t 3))]),iS 2 2 4]) .ret))
theorem afH:Dk Tryz.prog 123 X9 [(.c 2 2 true)] 5:=aV Tryz.func123
def Ya:IC:=(.seq (.ops [iH 2 (.alloc (.agg [bG,(.sc (.bool false))]) 116)]) (.seq (.ops [iM 3 0,iH 4 (.ep 1 22 (.sc (.int .u8 0)) 1 [(0,(.t 3))]),iP 5 (.build [bG,(.sc (.bool false))] [(0,1,(.t 4)),(1,1,kT)]),iS 2 2 5]) .ret))
theorem afI:Dk Tryz.prog 124 Ya [(.c 2 2 true)] 6:=aV Tryz.func124
def Yb:IC:=(.seq (.ops [iP 6 (.mv kF)]) (.seq (.seq (.ops [iM 10 0,iP 11 (xL 10),iM 12 1,iP 13 (xL 12),iP 14 (xB .neq 11 13)]) (.cond (.t 14) (.seq (.ops [iP 6 (.mv kF)]) .ret) .skip)) (.seq (.seq (.ops [iM 15 0,iP 16 (xL 15),iP 17 (xI 0)]) (.block 0 (.loop (.seq (.ops [iP 18 (xB .lss 17 16)]) (.seq (.cond (.t 18) .skip (.exit 0)) (.seq (.block 1 (.seq (.ops [iM 19 17,iP 20 (xA 4 15 17),iH 21 (yA 4 20),⟨(some 8),none,(.h (.alloc (.agg [(.sc (.int .u8 0)),(.sc (.string ⟨#[]⟩)),(.sc (.int .i64 0)),bG]) 25))⟩,iM 7 19,iS 4 8 21]) (.seq (.ops [iM 22 1,iM 23 7,iP 24 (xA 4 22 23),iH 25 (yA 4 24),⟨(some 9),none,(.h (.alloc (.agg [(.sc (.int .u8 0)),(.sc (.string ⟨#[]⟩)),(.sc (.int .i64 0)),bG]) 25))⟩,iS 4 9 25]) (.seq (.ops [iM 26 2,iH 27 (yA 4 8),iH 28 (yA 4 9),iH 29 (.cq (.t 26) [(.t 27),(.t 28)]),iP 30 (xN 29)]) (.cond (.t 30) (.seq (.ops [iP 6 (.mv kF)]) .ret) .skip))))) (.ops [iP 31 (.aN .add (.t 17) (kI 1)),iM 17 31]))))))) (.seq (.ops [iP 6 (.mv kT)]) .ret))))
theorem afJ:Dk Tryz.prog 122 Yb [(.t 6)] 32:=aV Tryz.func122
def Yc:IC:=(.seq (.ops [iP 4 (.mv kF)]) (.seq (.ops [iM 5 0,iM 6 1,iH 7 (yC 178 5 6),iP 8 (.aN .geq (.t 7) (kI 0)),iM 4 8]) .ret))
theorem afK:Dk Tryz.prog 121 Yc [(.t 4)] 9:=aV Tryz.func121
def Yd:IC:=(.seq (.ops [iP 4 (xI 0)]) (.seq (.seq (.ops [iM 6 0,iP 7 (xL 6),iP 8 (xI 0)]) (.block 0 (.loop (.seq (.ops [iP 9 (xB .lss 8 7)]) (.seq (.cond (.t 9) .skip (.exit 0)) (.seq (.block 1 (.seq (.ops [iM 10 8,iM 5 10]) (.seq (.ops [iM 11 1,iM 12 0,iM 13 5,iP 14 (xA 1 12 13),iH 15 (yD 1 14),iP 16 (xB .eql 11 15)]) (.cond (.t 16) (.seq (.ops [iM 17 5,iM 4 17]) .ret) .skip)))) (.ops [iP 18 (.aN .add (.t 8) (kI 1)),iM 8 18]))))))) (.seq (.ops [iP 4 (xI (-1))]) .ret)))
theorem afL:Dk Tryz.prog 178 Yd [(.t 4)] 19:=aV Tryz.func178
def ac2:IC:=(.seq (.ops [iH 2 (.alloc (.agg [bG,(.sc (.bool false))]) 116),iP 3 (.mv kF)]) (.seq (.ops [iP 4 (.mv (.k (.fn (.func 123) [] [])))]) (.seq (.ops [iP 5 (.mv (.k (.fn (.func 124) [] [])))]) (.seq (.ops [iH 9 (.gx .ol []),iM 10 5,iH 11 (.cq (.t 10) [(.k (.sc (.int .u8 2)))]),⟨none,none,(.h (.gx (.gi (some .u8)) [(.t 9),(.k (.sc (.int .u8 1))),(.t 11)]))⟩,iM 12 4,iH 13 (.ep 1 22 (.sc (.int .u8 0)) 2 [(0,(.k (.sc (.int .u8 3)))),(1,(.k (.sc (.int .u8 5))))]),iH 14 (.cq (.t 12) [(.t 13)]),⟨none,none,(.h (.gx (.gi (some .u8)) [(.t 9),(.k (.sc (.int .u8 2))),(.t 14)]))⟩,iM 15 5,iH 16 (.cq (.t 15) [(.k (.sc (.int .u8 4)))]),⟨none,none,(.h (.gx (.gi (some .u8)) [(.t 9),(.k (.sc (.int .u8 3))),(.t 16)]))⟩,iM 17 4,iH 18 (.cq (.t 17) [(.k bG)]),⟨none,none,(.h (.gx (.gi (some .u8)) [(.t 9),(.k (.sc (.int .u8 4))),(.t 18)]))⟩,iM 19 5,iH 20 (.cq (.t 19) [(.k (.sc (.int .u8 201)))]),⟨none,none,(.h (.gx (.gi (some .u8)) [(.t 9),(.k (.sc (.int .u8 5))),(.t 20)]))⟩,iM 21 4,iH 22 (.ep 1 22 (.sc (.int .u8 0)) 1 [(0,(.k (.sc (.int .u8 200))))]),iH 23 (.cq (.t 21) [(.t 22)]),⟨none,none,(.h (.gx (.gi (some .u8)) [(.t 9),(.k (.sc (.int .u8 6))),(.t 23)]))⟩,iM 24 4,iH 25 (.ep 1 22 (.sc (.int .u8 0)) 2 [(0,(.k (.sc (.int .u8 202)))),(1,(.k (.sc (.int .u8 200))))]),iH 26 (.cq (.t 24) [(.t 25)]),⟨none,none,(.h (.gx (.gi (some .u8)) [(.t 9),(.k (.sc (.int .u8 7))),(.t 26)]))⟩,iM 27 4,iH 28 (.ep 1 22 (.sc (.int .u8 0)) 3 [(0,(.k (.sc (.int .u8 200)))),(1,(.k (.sc (.int .u8 5)))),(2,(.k (.sc (.int .u8 5))))]),iH 29 (.cq (.t 27) [(.t 28)]),⟨none,none,(.h (.gx (.gi (some .u8)) [(.t 9),(.k (.sc (.int .u8 8))),(.t 29)]))⟩,iM 30 4,iH 31 (.ep 1 22 (.sc (.int .u8 0)) 2 [(0,(.k (.sc (.int .u8 200)))),(1,(.k (.sc (.int .u8 5))))]),iH 32 (.cq (.t 30) [(.t 31)]),⟨none,none,(.h (.gx (.gi (some .u8)) [(.t 9),(.k (.sc (.int .u8 9))),(.t 32)]))⟩,iM 33 4,iH 34 (.ep 1 22 (.sc (.int .u8 0)) 1 [(0,(.k (.sc (.int .u8 200))))]),iH 35 (.cq (.t 33) [(.t 34)]),⟨none,none,(.h (.gx (.gi (some .u8)) [(.t 9),(.k (.sc (.int .u8 10))),(.t 35)]))⟩,iM 36 4,iH 37 (.ep 1 22 (.sc (.int .u8 0)) 1 [(0,(.k (.sc (.int .u8 200))))]),iH 38 (.cq (.t 36) [(.t 37)]),⟨none,none,(.h (.gx (.gi (some .u8)) [(.t 9),(.k (.sc (.int .u8 11))),(.t 38)]))⟩,iM 39 4,iH 40 (.ep 1 22 (.sc (.int .u8 0)) 1 [(0,(.k (.sc (.int .u8 25))))]),iH 41 (.cq (.t 39) [(.t 40)]),⟨none,none,(.h (.gx (.gi (some .u8)) [(.t 9),(.k (.sc (.int .u8 12))),(.t 41)]))⟩,iM 42 4,iH 43 (.cq (.t 42) [(.k bG)]),⟨none,none,(.h (.gx (.gi (some .u8)) [(.t 9),(.k (.sc (.int .u8 20))),(.t 43)]))⟩,iM 44 4,iH 45 (.cq (.t 44) [(.k bG)]),⟨none,none,(.h (.gx (.gi (some .u8)) [(.t 9),(.k (.sc (.int .u8 21))),(.t 45)]))⟩,iM 46 4,iH 47 (.cq (.t 46) [(.k bG)]),⟨none,none,(.h (.gx (.gi (some .u8)) [(.t 9),(.k (.sc (.int .u8 22))),(.t 47)]))⟩,iM 48 4,iH 49 (.ep 1 22 (.sc (.int .u8 0)) 1 [(0,(.k (.sc (.int .u8 200))))]),iH 50 (.cq (.t 48) [(.t 49)]),⟨none,none,(.h (.gx (.gi (some .u8)) [(.t 9),(.k (.sc (.int .u8 23))),(.t 50)]))⟩,iM 51 4,iH 52 (.ep 1 22 (.sc (.int .u8 0)) 2 [(0,(.k (.sc (.int .u8 200)))),(1,(.k (.sc (.int .u8 200))))]),iH 53 (.cq (.t 51) [(.t 52)]),⟨none,none,(.h (.gx (.gi (some .u8)) [(.t 9),(.k (.sc (.int .u8 24))),(.t 53)]))⟩,iM 54 5,iH 55 (.cq (.t 54) [(.k (.sc (.int .u8 200)))]),⟨none,none,(.h (.gx (.gi (some .u8)) [(.t 9),(.k (.sc (.int .u8 25))),(.t 55)]))⟩,iM 56 4,iH 57 (.ep 1 22 (.sc (.int .u8 0)) 2 [(0,(.k (.sc (.int .u8 200)))),(1,(.k (.sc (.int .u8 200))))]),iH 58 (.cq (.t 56) [(.t 57)]),⟨none,none,(.h (.gx (.gi (some .u8)) [(.t 9),(.k (.sc (.int .u8 26))),(.t 58)]))⟩,iM 59 4,iH 60 (.ep 1 22 (.sc (.int .u8 0)) 2 [(0,(.k (.sc (.int .u8 200)))),(1,(.k (.sc (.int .u8 200))))]),iH 61 (.cq (.t 59) [(.t 60)]),⟨none,none,(.h (.gx (.gi (some .u8)) [(.t 9),(.k (.sc (.int .u8 27))),(.t 61)]))⟩,iM 62 4,iH 63 (.ep 1 22 (.sc (.int .u8 0)) 1 [(0,(.k (.sc (.int .u8 200))))]),iH 64 (.cq (.t 62) [(.t 63)]),⟨none,none,(.h (.gx (.gi (some .u8)) [(.t 9),(.k (.sc (.int .u8 28))),(.t 64)]))⟩,iM 65 4,iH 66 (.cq (.t 65) [(.k bG)]),⟨none,none,(.h (.gx (.gi (some .u8)) [(.t 9),(.k (.sc (.int .u8 29))),(.t 66)]))⟩,iM 67 9,iM 68 0,iH 69 (.gx (.pL (some .u8) (.agg [bG,(.sc (.bool false))]) true) [(.t 67),(.t 68)]),iM 8 69,iP 70 (.ext (.t 8) 0),iP 71 (.ext (.t 8) 1),iH 6 (.alloc (.agg [bG,(.sc (.bool false))]) 116),iS 2 6 70,iM 7 71]) (.seq (.ops [iH 72 (yA 2 6),iM 73 7,iS 2 2 72,iM 3 73]) .ret)))))
theorem ahs:Dk Tryz.prog 69 ac2 [(.c 2 2 true),(.t 3)] 74:=aV Tryz.func69
def ac3:IC:=(.seq (.ops [iP 4 (.mv kF)]) (.seq (.ops [iM 5 0,iM 6 1,iH 7 (yC 114 5 6),iP 8 (.aN .geq (.t 7) (kI 0)),iM 4 8]) .ret))
theorem aht:Dk Tryz.prog 59 ac3 [(.t 4)] 9:=aV Tryz.func59
def Ye:IC:=(.seq (.ops [iP 4 (xI 0)]) (.seq (.seq (.ops [iM 6 0,iP 7 (xL 6),iP 8 (xI 0)]) (.block 0 (.loop (.seq (.ops [iP 9 (xB .lss 8 7)]) (.seq (.cond (.t 9) .skip (.exit 0)) (.seq (.block 1 (.seq (.ops [iM 10 8,iM 5 10]) (.seq (.ops [iM 11 1,iM 12 0,iM 13 5,iP 14 (xA 1 12 13),iH 15 (yD 1 14),iP 16 (xB .eql 11 15)]) (.cond (.t 16) (.seq (.ops [iM 17 5,iM 4 17]) .ret) .skip)))) (.ops [iP 18 (.aN .add (.t 8) (kI 1)),iM 8 18]))))))) (.seq (.ops [iP 4 (xI (-1))]) .ret)))
theorem afM:Dk Tryz.prog 114 Ye [(.t 4)] 19:=aV Tryz.func114
def Yf:IC:=(.seq (.ops [⟨(some 2),none,(.p (.mv (.k (.sc (.string ⟨#[]⟩)))))⟩]) (.seq (.ops [iM 3 0,iH 4 (.call 175 [(.t 3)]),iM 2 4]) .ret))
theorem afN:Dk Tryz.prog 118 Yf [(.t 2)] 5:=aV Tryz.func118
def Yg:IC:=(.seq (.ops [⟨(some 2),none,(.p (.mv (.k (.sc (.string ⟨#[]⟩)))))⟩]) (.seq (.seq (.ops [iM 4 0,iP 5 (.nP (.t 4)),iP 6 (.aN .eql (.t 5) (kI 0))]) (.cond (.t 6) (.seq (.ops [⟨(some 2),none,(.p (.mv (.k (.sc (.string ⟨#[]⟩)))))⟩]) .ret) .skip)) (.seq (.ops [iM 7 0,iP 8 (.nP (.t 7)),iH 9 (.jN 1 5 (.sc (.int .u8 0)) (.t 8) (.t 8)),iM 3 9]) (.seq (.ops [iM 10 3,iM 11 0,iH 12 (.gx .rj [(.t 10),(.t 11)])]) (.seq (.ops [iM 13 3,iP 14 (.gm 1 (.t 13) (kI 0)),iM 15 3,iP 16 (xL 15),iH 17 (.gx (.wG 5) [(.t 14),(.t 16)]),iM 2 17]) .ret)))))
theorem afO:Dk Tryz.prog 175 Yg [(.t 2)] 18:=aV Tryz.func175
def ac4:IC:=(.seq (.ops [iP 2 (.mv kF)]) (.seq (.seq (.ops [iM 4 0,⟨(some 5),none,(.p (.aN .eql (.t 4) (.k (.sc (.string ⟨#[]⟩)))))⟩,iM 6 5,gM 7 6 false 0,gP 8 6 false (.nP (.t 7)),gP 9 6 false (.aN .gtr (.t 8) (kI 24)),iP 10 (.pick (.t 6) kT (.t 9)),iM 11 10,gM 12 11 false 0,gP 13 11 false (.kN (.t 12) (kI 0)),gH 14 11 false (.call 72 [(.t 13)]),gP 15 11 false (xN 14),iP 16 (.pick (.t 11) kT (.t 15)),iM 17 16,gH 18 17 false (.call 73 []),gM 19 17 false 0,gH 20 17 false (yC 59 18 19),iP 21 (.pick (.t 17) kT (.t 20))]) (.cond (.t 21) (.seq (.ops [iP 2 (.mv kF)]) .ret) .skip)) (.seq (.seq (.ops [iM 22 0,iP 23 (.nP (.t 22)),iP 24 (xI 0)]) (.block 0 (.loop (.seq (.ops [iP 25 (xB .lss 24 23)]) (.seq (.cond (.t 25) .skip (.exit 0)) (.seq (.block 1 (.seq (.ops [iM 26 24,iM 3 26]) (.seq (.ops [iM 27 0,iM 28 3,iP 29 (.kN (.t 27) (.t 28)),iH 30 (.call 74 [(.t 29)]),iP 31 (xN 30)]) (.cond (.t 31) (.seq (.ops [iP 2 (.mv kF)]) .ret) .skip)))) (.ops [iP 32 (.aN .add (.t 24) (kI 1)),iM 24 32]))))))) (.seq (.ops [iP 2 (.mv kT)]) .ret))))
theorem ahu:Dk Tryz.prog 43 ac4 [(.t 2)] 33:=aV Tryz.func43
def ac5:IC:=(.seq (.ops [iP 2 (.mv kF)]) (.seq (.ops [iM 3 0,iP 4 (.aN .or (.t 3) (.k (.sc (.int .u8 32)))),iP 5 (.aN .geq (.t 4) (.k (.sc (.int .u8 97)))),iM 6 5,gM 7 6 true 0,gP 8 6 true (.aN .or (.t 7) (.k (.sc (.int .u8 32)))),gP 9 6 true (.aN .leq (.t 8) (.k (.sc (.int .u8 122)))),iP 10 (.pick (.t 6) (.t 9) kF),iM 11 10,gM 12 11 false 0,gP 13 11 false (.aN .eql (.t 12) (.k (.sc (.int .u8 95)))),iP 14 (.pick (.t 11) kT (.t 13)),iM 2 14]) .ret))
theorem ahv:Dk Tryz.prog 72 ac5 [(.t 2)] 15:=aV Tryz.func72
def ac6:IC:=(.seq (.ops [iP 0 (.mv (.k bG))]) (.seq (.ops [⟨(some 1),none,(.h (.call 126 [(.k (.sc (.string ⟨#[102,117,110,99,32,118,97,114,32,105,102,32,101,108,115,101,32,119,104,105,108,101,32,114,101,116,117,114,110,32,112,114,105,110,116,32,116,114,117,101,32,102,97,108,115,101,32,108,101,110,32,114,101,97,100]⟩)))]))⟩,iM 0 1]) .ret))
theorem ahw:Dk Tryz.prog 73 ac6 [(.t 0)] 2:=aV Tryz.func73
def ac7:IC:=(.seq (.ops [iP 2 (.mv kF)]) (.seq (.ops [iM 3 0,iH 4 (.call 72 [(.t 3)]),iM 5 4,gM 6 5 false 0,gP 7 5 false (.aN .geq (.t 6) (.k (.sc (.int .u8 48)))),gM 8 5 false 7,gM 9 8 true 0,gP 10 8 true (.aN .leq (.t 9) (.k (.sc (.int .u8 57)))),gP 11 5 false (.pick (.t 8) (.t 10) kF),iP 12 (.pick (.t 5) kT (.t 11)),iM 2 12]) .ret))
theorem ahx:Dk Tryz.prog 74 ac7 [(.t 2)] 13:=aV Tryz.func74
def Yh:IC:=(.seq (.ops [iP 6 (.mv kF)]) (.seq (.ops [iM 8 0,iH 9 (.call 131 [(.t 8)]),iM 7 9]) (.seq (.seq (.ops [iM 10 2,iP 11 (.aN .lss (.t 10) (kI 0)),iM 12 11,gM 13 12 false 7,gP 14 12 false (.aN .geq (.t 13) (kI 0)),gM 15 12 false 14,gM 16 15 true 2,gM 17 15 true 7,gP 18 15 true (xB .geq 16 17),gP 19 12 false (.pick (.t 15) (.t 18) kF),iP 20 (.pick (.t 12) kT (.t 19))]) (.cond (.t 20) (.seq (.ops [iP 6 (.mv kF)]) .ret) .skip)) (.seq (.seq (.ops [iM 21 0]) (.block 0 (.seq (.ops [iP 23 (.aN .eql (.t 21) (.k (.sc (.int .u8 1)))),iM 22 23]) (.cond (.t 22) (.seq (.ops [iM 24 1,iP 25 (.aN .eql (.t 24) (.k (.sc (.int .u8 2)))),iM 6 25]) .ret) (.seq (.ops [iP 27 (.aN .eql (.t 21) (.k (.sc (.int .u8 2)))),iM 26 27]) (.cond (.t 26) (.seq (.ops [iM 28 2,iP 29 (.aN .eql (.t 28) (kI 0)),iM 30 29,gM 31 30 true 1,gP 32 30 true (.aN .eql (.t 31) (.k (.sc (.int .u8 3)))),iP 33 (.pick (.t 30) (.t 32) kF),iM 34 33,gM 35 34 false 2,gP 36 34 false (.aN .eql (.t 35) (kI 1)),gM 37 34 false 36,gM 38 37 true 1,gP 39 37 true (.aN .eql (.t 38) (.k (.sc (.int .u8 5)))),gP 40 34 false (.pick (.t 37) (.t 39) kF),iP 41 (.pick (.t 34) kT (.t 40)),iM 6 41]) .ret) (.seq (.ops [iP 43 (.aN .eql (.t 21) (.k (.sc (.int .u8 3)))),iM 42 43]) (.cond (.t 42) (.seq (.ops [iM 44 1,iP 45 (.aN .eql (.t 44) (.k (.sc (.int .u8 4)))),iM 6 45]) .ret) (.seq (.ops [iP 47 (.aN .eql (.t 21) (.k (.sc (.int .u8 5)))),iM 46 47]) (.cond (.t 46) (.seq (.ops [iM 48 1,iH 49 (.call 183 [(.t 48)]),iM 6 49]) .ret) (.seq (.ops [iP 51 (.aN .eql (.t 21) (.k (.sc (.int .u8 7)))),iM 50 51]) (.cond (.t 50) (.seq (.ops [iM 52 2,iP 53 (.aN .eql (.t 52) (kI 0)),iM 54 53,gM 55 54 true 1,gP 56 54 true (.aN .eql (.t 55) (.k (.sc (.int .u8 22)))),gM 57 54 true 56,gM 58 57 false 1,gP 59 57 false (.aN .eql (.t 58) (.k (.sc (.int .u8 26)))),gP 60 54 true (.pick (.t 57) kT (.t 59)),iP 61 (.pick (.t 54) (.t 60) kF),iM 62 61,gM 63 62 false 2,gP 64 62 false (.aN .eql (.t 63) (kI 1)),gM 65 62 false 64,gM 66 65 true 1,gH 67 65 true (.call 130 [(.t 66)]),gP 68 62 false (.pick (.t 65) (.t 67) kF),iP 69 (.pick (.t 62) kT (.t 68)),iM 6 69]) .ret) (.seq (.seq (.ops [iP 71 (.aN .eql (.t 21) (.k (.sc (.int .u8 8)))),iM 70 71]) (.cond (.t 70) .skip (.ops [iP 72 (.aN .eql (.t 21) (.k (.sc (.int .u8 9)))),iM 70 72]))) (.cond (.t 70) (.seq (.ops [iM 73 2,iP 74 (.aN .eql (.t 73) (kI 0)),iM 75 74,gM 76 75 true 1,gH 77 75 true (.call 130 [(.t 76)]),iP 78 (.pick (.t 75) (.t 77) kF),iM 79 78,gM 80 79 false 2,gP 81 79 false (.aN .gtr (.t 80) (kI 0)),gM 82 79 false 81,gM 83 82 true 1,gP 84 82 true (.aN .eql (.t 83) (.k (.sc (.int .u8 5)))),gP 85 79 false (.pick (.t 82) (.t 84) kF),iP 86 (.pick (.t 79) kT (.t 85)),iM 6 86]) .ret) (.seq (.ops [iP 88 (.aN .eql (.t 21) (.k (.sc (.int .u8 12)))),iM 87 88]) (.cond (.t 87) (.seq (.ops [iM 89 1,iP 90 (.aN .eql (.t 89) (.k (.sc (.int .u8 25)))),iM 6 90]) .ret) .skip)))))))))))))))) (.seq (.ops [iM 91 1,iH 92 (.call 130 [(.t 91)]),iM 6 92]) .ret)))))
theorem afP:Dk Tryz.prog 133 Yh [(.t 6)] 93:=aV Tryz.func133
def ac8:IC:=(.seq (.ops [iH 1 (.box 4 25 (.t 0)),iP 2 (.mv kF)]) (.seq (.ops [iH 3 (yA 4 1),iH 4 (.call 77 [(.t 3),(kI 40)]),iM 2 4]) .ret))
theorem ahy:Dk Tryz.prog 46 ac8 [(.t 2)] 5:=aV Tryz.func46
def Yi:IC:=(.seq (.ops [iP 2 (xI 0)]) (.seq (.seq (.ops [iM 3 0]) (.block 0 (.seq (.seq (.ops [iP 5 (.aN .eql (.t 3) (.k (.sc (.int .u8 1)))),iM 4 5]) (.cond (.t 4) .skip (.seq (.ops [iP 6 (.aN .eql (.t 3) (.k (.sc (.int .u8 3)))),iM 4 6]) (.cond (.t 4) .skip (.seq (.ops [iP 7 (.aN .eql (.t 3) (.k (.sc (.int .u8 5)))),iM 4 7]) (.cond (.t 4) .skip (.ops [iP 8 (.aN .eql (.t 3) (.k (.sc (.int .u8 25)))),iM 4 8]))))))) (.cond (.t 4) (.seq (.ops [iP 2 (xI (-1))]) .ret) (.seq (.seq (.ops [iP 10 (.aN .eql (.t 3) (.k (.sc (.int .u8 2)))),iM 9 10]) (.cond (.t 9) .skip (.seq (.ops [iP 11 (.aN .eql (.t 3) (.k (.sc (.int .u8 7)))),iM 9 11]) (.cond (.t 9) .skip (.seq (.ops [iP 12 (.aN .eql (.t 3) (.k (.sc (.int .u8 9)))),iM 9 12]) (.cond (.t 9) .skip (.seq (.ops [iP 13 (.aN .eql (.t 3) (.k (.sc (.int .u8 24)))),iM 9 13]) (.cond (.t 9) .skip (.seq (.ops [iP 14 (.aN .eql (.t 3) (.k (.sc (.int .u8 26)))),iM 9 14]) (.cond (.t 9) .skip (.ops [iP 15 (.aN .eql (.t 3) (.k (.sc (.int .u8 27)))),iM 9 15]))))))))))) (.cond (.t 9) (.seq (.ops [iP 2 (xI 2)]) .ret) (.seq (.ops [iP 17 (.aN .eql (.t 3) (.k (.sc (.int .u8 8)))),iM 16 17]) (.cond (.t 16) (.seq (.ops [iP 2 (xI 3)]) .ret) (.seq (.seq (.ops [iP 19 (.aN .eql (.t 3) (.k (.sc (.int .u8 6)))),iM 18 19]) (.cond (.t 18) .skip (.seq (.ops [iP 20 (.aN .eql (.t 3) (.k (.sc (.int .u8 10)))),iM 18 20]) (.cond (.t 18) .skip (.seq (.ops [iP 21 (.aN .eql (.t 3) (.k (.sc (.int .u8 11)))),iM 18 21]) (.cond (.t 18) .skip (.seq (.ops [iP 22 (.aN .eql (.t 3) (.k (.sc (.int .u8 23)))),iM 18 22]) (.cond (.t 18) .skip (.seq (.ops [iP 23 (.aN .eql (.t 3) (.k (.sc (.int .u8 28)))),iM 18 23]) (.cond (.t 18) .skip (.ops [iP 24 (.aN .eql (.t 3) (.k (.sc (.int .u8 12)))),iM 18 24]))))))))))) (.cond (.t 18) (.seq (.ops [iP 2 (xI 1)]) .ret) .skip)))))))))) (.seq (.ops [iP 2 (xI 0)]) .ret)))
theorem afQ:Dk Tryz.prog 131 Yi [(.t 2)] 25:=aV Tryz.func131
def Yj:IC:=(.seq (.ops [iP 2 (.mv kF)]) (.seq (.ops [iM 3 0,iP 4 (.aN .geq (.t 3) (.k (.sc (.int .u8 6)))),iM 5 4,gM 6 5 true 0,gP 7 5 true (.aN .leq (.t 6) (.k (.sc (.int .u8 12)))),iP 8 (.pick (.t 5) (.t 7) kF),iM 9 8,gM 10 9 false 0,gP 11 9 false (.aN .eql (.t 10) (.k (.sc (.int .u8 5)))),iP 12 (.pick (.t 9) kT (.t 11)),iM 2 12]) .ret))
theorem afR:Dk Tryz.prog 183 Yj [(.t 2)] 13:=aV Tryz.func183
def Yk:IC:=(.seq (.ops [iP 2 (.mv kF)]) (.seq (.ops [iM 3 0,iP 4 (.aN .geq (.t 3) (.k (.sc (.int .u8 20)))),iM 5 4,gM 6 5 true 0,gP 7 5 true (.aN .leq (.t 6) (.k (.sc (.int .u8 29)))),iP 8 (.pick (.t 5) (.t 7) kF),iM 2 8]) .ret))
theorem afS:Dk Tryz.prog 130 Yk [(.t 2)] 9:=aV Tryz.func130
def ac9:IC:=(.seq (.ops [iH 2 (.box 4 25 (.t 0)),iP 4 (.mv kF)]) (.seq (.ops [iP 9 (.an 0 (.t 2)),iH 10 (yD 1 9),iP 11 (.aN .geq (.t 10) (.k (.sc (.int .u8 1)))),iM 12 11,gP 13 12 true (.an 0 (.t 2)),gH 14 12 true (yD 1 13),gP 15 12 true (.aN .leq (.t 14) (.k (.sc (.int .u8 12)))),iP 16 (.pick (.t 12) (.t 15) kF),iM 17 16,gP 18 17 false (.an 0 (.t 2)),gH 19 17 false (yD 1 18),gH 20 17 false (.call 130 [(.t 19)]),iP 21 (.pick (.t 17) kT (.t 20)),iM 5 21]) (.seq (.ops [iP 22 (.an 2 (.t 2)),iH 23 (yD 1 22),iP 24 (.aN .eql (.t 23) (kI 0)),iM 25 24,gP 26 25 false (.an 0 (.t 2)),gH 27 25 false (yD 1 26),gP 28 25 false (.aN .eql (.t 27) (.k (.sc (.int .u8 20)))),gM 29 25 false 28,gP 30 29 true (.an 2 (.t 2)),gH 31 29 true (yD 1 30),gP 32 29 true (.aN .gtr (.t 31) (kI 0)),gP 33 25 false (.pick (.t 29) (.t 32) kF),iP 34 (.pick (.t 25) kT (.t 33)),iM 35 34,gP 36 35 false (.an 0 (.t 2)),gH 37 35 false (yD 1 36),gP 38 35 false (.aN .eql (.t 37) (.k (.sc (.int .u8 21)))),gM 39 35 false 38,gP 40 39 true (.an 2 (.t 2)),gH 41 39 true (yD 1 40),gP 42 39 true (.aN .eql (.t 41) (kI 1)),gP 43 35 false (.pick (.t 39) (.t 42) kF),iP 44 (.pick (.t 35) kT (.t 43)),iM 6 44]) (.seq (.ops [iP 45 (.an 0 (.t 2)),iH 46 (yD 1 45),iH 47 (.call 131 [(.t 46)]),iM 7 47]) (.seq (.seq (.ops [iM 48 1,iP 49 (.aN .lss (.t 48) (kI 1)),iM 50 49,gM 51 50 false 5,gP 52 50 false (xN 51),iP 53 (.pick (.t 50) kT (.t 52)),iM 54 53,gM 55 54 false 6,gP 56 54 false (xN 55),iP 57 (.pick (.t 54) kT (.t 56)),iM 58 57,gH 59 58 false (yA 4 2),gH 60 58 false (.call 132 [(.t 59)]),gP 61 58 false (xN 60),iP 62 (.pick (.t 58) kT (.t 61)),iM 63 62,gM 64 63 false 7,gP 65 63 false (.aN .geq (.t 64) (kI 0)),gM 66 63 false 65,gP 67 66 true (.an 3 (.t 2)),gH 68 66 true (yD 1 67),gP 69 66 true (xL 68),gM 70 66 true 7,gP 71 66 true (xB .neq 69 70),gP 72 63 false (.pick (.t 66) (.t 71) kF),iP 73 (.pick (.t 63) kT (.t 72))]) (.cond (.t 73) (.seq (.ops [iP 4 (.mv kF)]) .ret) .skip)) (.seq (.seq (.ops [iP 8 (xI 0)]) (.block 0 (.loop (.seq (.seq (.ops [iM 74 8,iP 75 (.an 3 (.t 2)),iH 76 (yD 1 75),iP 77 (xL 76),iP 78 (xB .lss 74 77)]) (.cond (.t 78) .skip (.exit 0))) (.seq (.block 1 (.seq (.di [iP 81 (.an 0 (.t 2)),iH 82 (yD 1 81),iP 83 (.an 3 (.t 2)),iH 84 (yD 1 83),iM 85 8,iP 86 (xA 4 84 85),iP 87 (.an 0 (.t 86)),iH 88 (yD 1 87),iM 89 8,iH 90 (.call 133 [(.t 82),(.t 88),(.t 89)]),iP 91 (xN 90),iM 92 91,gP 93 92 false (.an 3 (.t 2)),gH 94 92 false (yD 1 93),gM 95 92 false 8,gP 96 92 false (xA 4 94 95),gH 97 92 false (yA 4 96),gM 98 92 false 1,gP 99 92 false (.aN .sub (.t 98) (kI 1)),gH 100 92 false (yC 77 97 99),gP 101 92 false (xN 100),iP 102 (.pick (.t 92) kT (.t 101))] [[],[0],[],[2],[],[3,2,4],[5,3,2,4],[6,5,3,2,4],[],[1,0,7,6,5,3,2,4,8],[9,1,0,7,6,5,3,2,4,8],[10,9,1,0,7,6,5,3,2,4,8],[11,10,9,1,0,7,6,5,3,2,4,8],[12,11,10,9,1,0,7,6,5,3,2,4,8],[11,10,9,1,0,7,6,5,3,2,4,8],[13,12,11,10,9,1,0,7,6,5,3,2,4,8,14],[15,13,12,11,10,9,1,0,7,6,5,3,2,4,8,14],[11,10,9,1,0,7,6,5,3,2,4,8],[17,11,10,9,1,0,7,6,5,3,2,4,8],[16,15,13,12,11,10,9,1,0,7,6,5,3,2,4,8,14,18,17],[19,16,15,13,12,11,10,9,1,0,7,6,5,3,2,4,8,14,18,17],[11,10,9,1,0,7,6,5,3,2,4,8,20,19,16,15,13,12,14,18,17]]) (.cond (.t 102) (.seq (.ops [iP 4 (.mv kF)]) .ret) .skip))) (.ops [iM 79 8,iP 80 (.aN .add (.t 79) (kI 1)),iM 8 80])))))) (.seq (.ops [iP 103 (.an 0 (.t 2)),iH 104 (yD 1 103),iP 105 (.aN .neq (.t 104) (.k (.sc (.int .u8 7)))),iM 106 105,gP 107 106 false (.an 3 (.t 2)),gH 108 106 false (yD 1 107),gP 109 106 false (.gm 4 (.t 108) (kI 0)),gP 110 106 false (.an 0 (.t 109)),gH 111 106 false (yD 1 110),gP 112 106 false (.aN .neq (.t 111) (.k (.sc (.int .u8 26)))),iP 113 (.pick (.t 106) kT (.t 112)),iM 114 113,gP 115 114 false (.an 3 (.t 2)),gH 116 114 false (yD 1 115),gP 117 114 false (.gm 4 (.t 116) (kI 0)),gP 118 114 false (.an 3 (.t 117)),gH 119 114 false (yD 1 118),gP 120 114 false (.gm 4 (.t 119) (kI 0)),gP 121 114 false (.an 0 (.t 120)),gH 122 114 false (yD 1 121),gP 123 114 false (.aN .eql (.t 122) (.k (.sc (.int .u8 22)))),iP 124 (.pick (.t 114) kT (.t 123)),iM 4 124]) .ret)))))))
theorem ahz:Dk Tryz.prog 77 ac9 [(.t 4)] 125:=aV Tryz.func77
def Yl:IC:=(.seq (.ops [iH 1 (.box 4 25 (.t 0)),iP 2 (.mv kF)]) (.seq (.seq (.ops [iP 5 (.an 0 (.t 1)),iH 6 (yD 1 5),iH 7 (.call 182 [(.t 6)])]) (.cond (.t 7) (.seq (.ops [iP 8 (.an 1 (.t 1)),iH 9 (yD 1 8),iH 10 (.call 47 [(.t 9)]),iM 2 10]) .ret) .skip)) (.seq (.seq (.ops [iP 11 (.an 0 (.t 1)),iH 12 (yD 1 11),iP 13 (.aN .eql (.t 12) (.k (.sc (.int .u8 23))))]) (.cond (.t 13) (.seq (.ops [iP 14 (.an 1 (.t 1)),iH 15 (yD 1 14),⟨(some 16),none,(.p (.aN .eql (.t 15) (.k (.sc (.string ⟨#[45]⟩)))))⟩,iM 17 16,gP 18 17 false (.an 1 (.t 1)),gH 19 17 false (yD 1 18),⟨(some 20),(some (17,false)),(.p (.aN .eql (.t 19) (.k (.sc (.string ⟨#[33]⟩)))))⟩,iP 21 (.pick (.t 17) kT (.t 20)),iM 2 21]) .ret) .skip)) (.seq (.seq (.ops [iP 22 (.an 0 (.t 1)),iH 23 (yD 1 22),iP 24 (.aN .neq (.t 23) (.k (.sc (.int .u8 24))))]) (.cond (.t 24) (.seq (.ops [iP 25 (.an 1 (.t 1)),iH 26 (yD 1 25),⟨(some 27),none,(.p (.aN .eql (.t 26) (.k (.sc (.string ⟨#[]⟩)))))⟩,iM 2 27]) .ret) .skip)) (.seq (.ops [⟨(some 28),none,(.h (.ep 1 9 (.sc (.string ⟨#[]⟩)) 13 [(0,(.k (.sc (.string ⟨#[124,124]⟩)))),(1,(.k (.sc (.string ⟨#[38,38]⟩)))),(2,(.k (.sc (.string ⟨#[61,61]⟩)))),(3,(.k (.sc (.string ⟨#[33,61]⟩)))),(4,(.k (.sc (.string ⟨#[60]⟩)))),(5,(.k (.sc (.string ⟨#[60,61]⟩)))),(6,(.k (.sc (.string ⟨#[62]⟩)))),(7,(.k (.sc (.string ⟨#[62,61]⟩)))),(8,(.k (.sc (.string ⟨#[43]⟩)))),(9,(.k (.sc (.string ⟨#[45]⟩)))),(10,(.k (.sc (.string ⟨#[42]⟩)))),(11,(.k (.sc (.string ⟨#[47]⟩)))),(12,(.k (.sc (.string ⟨#[37]⟩))))]))⟩,iM 3 28]) (.seq (.seq (.ops [iP 4 (xI 0)]) (.block 0 (.loop (.seq (.seq (.ops [iM 29 4,iM 30 3,iP 31 (xL 30),iP 32 (xB .lss 29 31)]) (.cond (.t 32) .skip (.exit 0))) (.seq (.block 1 (.seq (.di [iP 35 (.an 1 (.t 1)),iH 36 (yD 1 35),iM 37 3,iM 38 4,iP 39 (xA 1 37 38),iH 40 (yD 1 39),iP 41 (xB .eql 36 40)] [[],[0],[],[],[2,3],[4,2,3],[1,0,5,4,2,3]]) (.cond (.t 41) (.seq (.ops [iP 2 (.mv kT)]) .ret) .skip))) (.ops [iM 33 4,iP 34 (.aN .add (.t 33) (kI 1)),iM 4 34])))))) (.seq (.ops [iP 2 (.mv kF)]) .ret)))))))
theorem afT:Dk Tryz.prog 132 Yl [(.t 2)] 42:=aV Tryz.func132
def Ym:IC:=(.seq (.ops [iP 2 (.mv kF)]) (.seq (.ops [iM 3 0,iP 4 (.aN .eql (.t 3) (.k (.sc (.int .u8 2)))),iM 5 4,gM 6 5 false 0,gP 7 5 false (.aN .eql (.t 6) (.k (.sc (.int .u8 4)))),iP 8 (.pick (.t 5) kT (.t 7)),iM 9 8,gM 10 9 false 0,gP 11 9 false (.aN .eql (.t 10) (.k (.sc (.int .u8 6)))),iP 12 (.pick (.t 9) kT (.t 11)),iM 13 12,gM 14 13 false 0,gP 15 13 false (.aN .eql (.t 14) (.k (.sc (.int .u8 22)))),iP 16 (.pick (.t 13) kT (.t 15)),iM 17 16,gM 18 17 false 0,gP 19 17 false (.aN .eql (.t 18) (.k (.sc (.int .u8 25)))),iP 20 (.pick (.t 17) kT (.t 19)),iM 2 20]) .ret))
theorem afU:Dk Tryz.prog 182 Ym [(.t 2)] 21:=aV Tryz.func182
def ada:IC:=(.seq (.ops [iP 2 (.mv kF)]) (.seq (.seq (.ops [iM 4 0,⟨(some 5),none,(.p (.aN .eql (.t 4) (.k (.sc (.string ⟨#[]⟩)))))⟩,iM 6 5,gM 7 6 false 0,gP 8 6 false (.nP (.t 7)),gP 9 6 false (.aN .gtr (.t 8) (kI 24)),iP 10 (.pick (.t 6) kT (.t 9)),iM 11 10,gM 12 11 false 0,gP 13 11 false (.kN (.t 12) (kI 0)),gH 14 11 false (.call 78 [(.t 13)]),gP 15 11 false (xN 14),iP 16 (.pick (.t 11) kT (.t 15)),iM 17 16,gM 18 17 false 0,gH 19 17 false (.call 80 []),gH 20 17 false (yC 79 18 19),iP 21 (.pick (.t 17) kT (.t 20))]) (.cond (.t 21) (.seq (.ops [iP 2 (.mv kF)]) .ret) .skip)) (.seq (.seq (.ops [iP 3 (xI 0)]) (.block 0 (.loop (.seq (.seq (.ops [iM 22 3,iM 23 0,iP 24 (.nP (.t 23)),iP 25 (xB .lss 22 24)]) (.cond (.t 25) .skip (.exit 0))) (.seq (.block 1 (.seq (.ops [iM 28 0,iM 29 3,iP 30 (.kN (.t 28) (.t 29)),iH 31 (.call 78 [(.t 30)]),iP 32 (xN 31),iM 33 32,gM 34 33 true 0,gM 35 33 true 3,gP 36 33 true (.kN (.t 34) (.t 35)),gH 37 33 true (.call 81 [(.t 36)]),gP 38 33 true (xN 37),iP 39 (.pick (.t 33) (.t 38) kF)]) (.cond (.t 39) (.seq (.ops [iP 2 (.mv kF)]) .ret) .skip))) (.ops [iM 26 3,iP 27 (.aN .add (.t 26) (kI 1)),iM 3 27])))))) (.seq (.ops [iP 2 (.mv kT)]) .ret))))
theorem ahA:Dk Tryz.prog 47 ada [(.t 2)] 40:=aV Tryz.func47
def adb:IC:=(.seq (.ops [iP 2 (.mv kF)]) (.seq (.ops [iM 3 0,iP 4 (.aN .geq (.t 3) (.k (.sc (.int .u8 97)))),iM 5 4,gM 6 5 true 0,gP 7 5 true (.aN .leq (.t 6) (.k (.sc (.int .u8 122)))),iP 8 (.pick (.t 5) (.t 7) kF),iM 9 8,gM 10 9 false 0,gP 11 9 false (.aN .geq (.t 10) (.k (.sc (.int .u8 65)))),gM 12 9 false 11,gM 13 12 true 0,gP 14 12 true (.aN .leq (.t 13) (.k (.sc (.int .u8 90)))),gP 15 9 false (.pick (.t 12) (.t 14) kF),iP 16 (.pick (.t 9) kT (.t 15)),iM 17 16,gM 18 17 false 0,gP 19 17 false (.aN .eql (.t 18) (.k (.sc (.int .u8 95)))),iP 20 (.pick (.t 17) kT (.t 19)),iM 2 20]) .ret))
theorem ahB:Dk Tryz.prog 78 adb [(.t 2)] 21:=aV Tryz.func78
def ade:IC:=(.seq (.ops [iP 4 (.mv kF)]) (.seq (.seq (.ops [iP 5 (xI 0)]) (.block 0 (.loop (.seq (.seq (.ops [iM 6 5,iM 7 1,iP 8 (xL 7),iP 9 (xB .lss 6 8)]) (.cond (.t 9) .skip (.exit 0))) (.seq (.block 1 (.seq (.ops [iM 12 1,iM 13 5,iP 14 (xA 1 12 13),iH 15 (yD 1 14),iM 16 0,iP 17 (xB .eql 15 16)]) (.cond (.t 17) (.seq (.ops [iP 4 (.mv kT)]) .ret) .skip))) (.ops [iM 10 5,iP 11 (.aN .add (.t 10) (kI 1)),iM 5 11])))))) (.seq (.ops [iP 4 (.mv kF)]) .ret)))
theorem ahC:Dk Tryz.prog 79 ade [(.t 4)] 18:=aV Tryz.func79
def adf:IC:=(.seq (.ops [iP 0 (.mv (.k bG))]) (.seq (.ops [⟨(some 1),none,(.h (.ep 1 9 (.sc (.string ⟨#[]⟩)) 11 [(0,(.k (.sc (.string ⟨#[102,117,110,99]⟩)))),(1,(.k (.sc (.string ⟨#[118,97,114]⟩)))),(2,(.k (.sc (.string ⟨#[105,102]⟩)))),(3,(.k (.sc (.string ⟨#[101,108,115,101]⟩)))),(4,(.k (.sc (.string ⟨#[119,104,105,108,101]⟩)))),(5,(.k (.sc (.string ⟨#[114,101,116,117,114,110]⟩)))),(6,(.k (.sc (.string ⟨#[112,114,105,110,116]⟩)))),(7,(.k (.sc (.string ⟨#[116,114,117,101]⟩)))),(8,(.k (.sc (.string ⟨#[102,97,108,115,101]⟩)))),(9,(.k (.sc (.string ⟨#[108,101,110]⟩)))),(10,(.k (.sc (.string ⟨#[114,101,97,100]⟩))))]))⟩,iM 0 1]) .ret))
theorem ahD:Dk Tryz.prog 80 adf [(.t 0)] 2:=aV Tryz.func80
def adg:IC:=(.seq (.ops [iP 2 (.mv kF)]) (.seq (.ops [iM 3 0,iP 4 (.aN .geq (.t 3) (.k (.sc (.int .u8 48)))),iM 5 4,gM 6 5 true 0,gP 7 5 true (.aN .leq (.t 6) (.k (.sc (.int .u8 57)))),iP 8 (.pick (.t 5) (.t 7) kF),iM 2 8]) .ret))
theorem ahE:Dk Tryz.prog 81 adg [(.t 2)] 9:=aV Tryz.func81
inductive Nd where
 | mk (kind:Int)(text:ByteArray)(num:Int)(kids:List Nd)
def Nd.kind:Nd→Int|⟨k,_,_,_⟩=>k
def Nd.text:Nd→ByteArray|⟨_,s,_,_⟩=>s
def Nd.num:Nd→Int|⟨_,_,n,_⟩=>n
def Nd.kids:Nd→List Nd|⟨_,_,_,l⟩=>l
theorem Nd.eta(t:Nd):t=⟨t.kind,t.text,t.num,t.kids⟩:=by cases t;rfl
theorem Nd.ext'{a b:Nd}(h1:a.kind=b.kind)(h2:a.text=b.text)(h3:a.num=b.num)(h4:a.kids=b.kids):a=b:=by
 cases a;cases b
 simp only[Nd.kind,Nd.text,Nd.num,Nd.kids] at h1 h2 h3 h4
 subst h1 h2 h3 h4
 rfl
mutual
def Nd.size:Nd→Nat
 |⟨_,_,_,l⟩=>1+Nd.ay l
def Nd.ay:List Nd→Nat
 |[]=>0
 |t::r=>t.size+Nd.ay r
end
theorem Nd.size_eq(t:Nd):t.size=1+Nd.ay t.kids:=by cases t;simp[Nd.size,Nd.kids]
theorem Nd.size_pos(t:Nd):0<t.size:=by rw[Nd.size_eq];omega
theorem Nd.de{l:List Nd}{t:Nd}(h:t∈l):t.size≤Nd.ay l:=by
 induction l with
 |nil=>cases h
 |cons x r ih =>
  rcases List.mem_cons.1 h with rfl|h
  ·simp only[Nd.ay];omega
  ·have:=ih h;simp only[Nd.ay];omega
theorem Nd.pg{t k:Nd}(h:k∈t.kids):k.size<t.size:=by
 have:=Nd.de h
 rw[Nd.size_eq t]
 omega
theorem Nd.wM(a b:List Nd):Nd.ay (a++b)=Nd.ay a+Nd.ay b:=by
 induction a with
 |nil=>simp[Nd.ay]
 |cons x r ih=>simp only[List.cons_append,Nd.ay,ih];omega
theorem Nd.ind{p:Nd→Prop}(h:∀t,(∀k∈t.kids,p k)→p t)(t:Nd):p t:=by
 have key:∀n:Nat,∀t:Nd,t.size≤n→p t:=by
  intro n
  induction n with
  |zero=>intro t ht;have:=t.size_pos;omega
  |succ n ih=>intro t ht;exact h t fun k hk=>ih k (by have:=Nd.pg hk;omega)
 exact key _ t (Nat.le_refl _)
mutual
def eu:Nd→AV
 |⟨k,s,n,l⟩=>.agg [.sc (.int .u8 k),.sc (.string s),.sc (.int .i64 n),.am 4 (bh l) none]
def bh:List Nd→List AV
 |[]=>[]
 |t::r=>eu t::bh r
end
theorem ew(t:Nd):eu t = .agg [.sc (.int .u8 t.kind),.sc (.string t.text),.sc (.int .i64 t.num),.am 4 (bh t.kids) none]:=by cases t;simp[eu,Nd.kind,Nd.text,Nd.num,Nd.kids]
theorem qb(l:List Nd):bh l=l.map eu:=by
 induction l with
 |nil=>rfl
 |cons x r ih=>simp[bh,ih]
theorem aH(l:List Nd):(bh l).length=l.length:=by simp[qb]
theorem TV(t:Nd)(l:List Nd):bh (t::l)=eu t::bh l:=by simp[bh]
def Nd.none:Nd:=⟨0,⟨#[]⟩,0,[]⟩
def aE(l:List Nd)(k:Nat):Nd:=l.getD k Nd.none
theorem eH{l:List Nd}{k:Nat}(h:k<l.length):aE l k=l[k]:=by simp[aE,List.getD,h]
theorem eJ{l:List Nd}{k:Nat}(h:k<l.length):aE l k∈l:=by rw[eH h];exact List.getElem_mem _
theorem TW{l:List Nd}{k:Nat}(h:k<l.length):(bh l).getD k .top=eu (aE l k):=by simp[qb,aE,List.getD,h]
theorem dG{l:List Nd}{k:Nat}(h:k<l.length):(bh l).getD k .top = .agg [.sc (.int .u8 (aE l k).kind),.sc (.string (aE l k).text),.sc (.int .i64 (aE l k).num),.am 4 (bh (aE l k).kids) none]:=by rw[TW h,ew]
def dZ(t:Nd)(ro:Option (List AV)):AV:=.agg [.sc (.int .u8 t.kind),.sc (.string t.text),.sc (.int .i64 t.num),.am 4 (bh t.kids) ro]
theorem aQ(t:Nd)(ro:Option (List AV)):dZ t ro = .agg [.sc (.int .u8 t.kind),.sc (.string t.text),.sc (.int .i64 t.num),.am 4 (bh t.kids) ro]:=rfl
theorem ky(t:Nd):dZ t none=eu t:=(ew t).symm
mutual
def nt:Nd→Nd→Bool
 |⟨k,s,n,l⟩,⟨k',s',n',l'⟩=>decide (k=k') && decide (s=s') && decide (n=n') && oA l l'
def oA:List Nd→List Nd→Bool
 |[],[]=>true
 |a::r,b::q=>nt a b && oA r q
 |_,_=>false
end
theorem GC(l:List Nd)(ih:∀a∈l,∀b,nt a b=true↔a=b):∀m,oA l m=true↔l=m:=by
 induction l with
 |nil=>intro m;cases m<;>simp[oA]
 |cons x r fC =>
  intro m
  cases m with
  |nil=>simp[oA]
  |cons y q =>
   simp only[oA,Bool.and_eq_true,List.cons.injEq]
   rw[ih x (by simp),fC (fun a ha=>ih a (by simp[ha]))]
theorem xl(a b:Nd):nt a b=true↔a=b:=by
 revert b
 induction a using Nd.ind with
 |_ a ih =>
  intro b
  cases a with
  |mk k s n l =>
   cases b with
   |mk k' s' n' l' =>
    simp only[nt,Bool.and_eq_true,decide_eq_true_eq,Nd.mk.injEq]
    rw[GC l ih]
    constructor
    ·rintro ⟨⟨⟨a,b⟩,c⟩,d⟩;exact ⟨a,b,c,d⟩
    ·rintro ⟨a,b,c,d⟩;exact ⟨⟨⟨a,b⟩,c⟩,d⟩
theorem xm(l m:List Nd):oA l m=true↔l=m:=GC l (fun a _=>xl a) m
theorem qS(a:Nd):nt a a=true:=(xl a a).2 rfl
theorem TX(a b:Nd):nt a b=(decide (a.kind=b.kind) && decide (a.text=b.text) && decide (a.num=b.num) && oA a.kids b.kids):=by cases a;cases b;rfl
def jA:List (Int×(List Int×Bool)):=[(1,[2],true),(2,[3,5],false),(3,[4],true),(4,[],false),(5,[201],true),(6,[200],false),(7,[202,200],false),(8,[200,5,5],false),(9,[200,5],false),(10,[200],false),(11,[200],false),(12,[25],false),(20,[],false),(21,[],false),(22,[],false),(23,[200],false),(24,[200,200],false),(25,[200],true),(26,[200,200],false),(27,[200,200],false),(28,[200],false),(29,[],false)]
def mw(k:Int):Option (List Int×Bool):=kR k jA
def eY(k:Int):Bool:=decide (20≤k) && decide (k≤29)
def oB(k:Int):Bool:=decide (6≤k) && decide (k≤12)|| decide (k=5)
def yX(k f:Int):Bool:=if f=200 then eY k else if f=201 then oB k else if f=202 then decide (k=22)|| decide (k=26) else decide (k=f)
def xn(p k at_:Int):Bool :=
 if at_<0 then false
 else if ((mw p).getD ([],false)).2 then yX k (((mw p).getD ([],false)).1.getD 0 0)
 else decide (at_<((mw p).getD ([],false)).1.length) && yX k (((mw p).getD ([],false)).1.getD at_.toNat 0)
def eM(k:Int):Bool:=decide (k=2)|| decide (k=4)|| decide (k=6)|| decide (k=22)|| decide (k=25)
def eZ(k:Int):Int :=
 if k=1∨k=3∨k=5∨k=25 then -1
 else if k=2∨k=7∨k=9∨k=24∨k=26∨k=27 then 2
 else if k=8 then 3
 else if k=6∨k=10∨k=11∨k=23∨k=28∨k=12 then 1
 else 0
def eA(p k at_:Int):Bool :=
 if at_<0∨(eZ p≥0∧at_≥eZ p) then false
 else if p=1 then decide (k=2)
 else if p=2 then decide (at_=0∧k=3)|| decide (at_=1∧k=5)
 else if p=3 then decide (k=4)
 else if p=5 then oB k
 else if p=7 then decide (at_=0∧(k=22∨k=26))|| (decide (at_=1) && eY k)
 else if p=8∨p=9 then (decide (at_=0) && eY k)|| decide (at_ > 0∧k=5)
 else if p=12 then decide (k=25)
 else eY k
theorem vc(p:Int):(mw p=none∧∀x∈jA,p≠x.1)∨p∈jA.map (·.1):=by
 by_cases h:p∈jA.map (·.1)
 ·exact .inr h
 ·refine .inl ⟨?_,fun x hx e=>h (List.mem_map.2 ⟨x,hx,e.symm⟩)⟩
  cases hr:mw p with
  |none=>rfl
  |some v=>exact absurd (GB.2 (by unfold mw at hr;rw[hr];rfl)) h
theorem Pk(p k at_:Int):xn p k at_=eA p k at_:=by
 rcases vc p with ⟨h,hn⟩|h
 ·have e:xn p k at_=false:=by
   unfold xn
   rw[h]
   split
   ·rfl
   ·simp
    intro h1;omega
  rw[e]
  have h0:eZ p=0:=by
   have g:∀n:Int,n∈jA.map (·.1)→p≠n:=fun n hm=>by
    obtain ⟨x,hx,rfl⟩:=List.mem_map.1 hm
    exact hn x hx
   have g1:=fun n=>g n
   unfold eZ
   rw[if_neg,if_neg,if_neg (g 8 (by decide)),if_neg]
   ·rintro (h|h|h|h|h|h)
    ·exact g 6 (by decide) h
    ·exact g 10 (by decide) h
    ·exact g 11 (by decide) h
    ·exact g 23 (by decide) h
    ·exact g 28 (by decide) h
    ·exact g 12 (by decide) h
   ·rintro (h|h|h|h|h|h)
    ·exact g 2 (by decide) h
    ·exact g 7 (by decide) h
    ·exact g 9 (by decide) h
    ·exact g 24 (by decide) h
    ·exact g 26 (by decide) h
    ·exact g 27 (by decide) h
   ·rintro (h|h|h|h)
    ·exact g 1 (by decide) h
    ·exact g 3 (by decide) h
    ·exact g 5 (by decide) h
    ·exact g 25 (by decide) h
  unfold eA
  rw[h0,if_pos (by omega)]
 ·by_cases c:at_<0
  ·unfold xn eA
   rw[if_pos c,if_pos (.inl c)]
  obtain ⟨a,rfl⟩:∃a:Nat,at_=a:=⟨at_.toNat,by omega⟩
  simp only[jA,List.map_cons,List.map_nil,List.mem_cons,List.not_mem_nil,or_false] at h
  have q0:∀a:Nat,¬((a:Int)+1+1+1<0):=fun a=>by omega
  have q1:∀a:Nat,¬((a:Int)+1+1+1<1):=fun a=>by omega
  have q2:∀a:Nat,¬((a:Int)+1+1+1<2):=fun a=>by omega
  have q3:∀a:Nat,¬((a:Int)+1+1+1<3):=fun a=>by omega
  have q4:∀a:Nat,0≤(a:Int)+1+1+1:=fun a=>by omega
  have r1:∀a:Nat,1≤(a:Int)+1+1+1:=fun a=>by omega
  have r2:∀a:Nat,2≤(a:Int)+1+1+1:=fun a=>by omega
  have r3:∀a:Nat,3≤(a:Int)+1+1+1:=fun a=>by omega
  have r4:∀a:Nat,¬(a:Int)+1+1+1=0:=fun a=>by omega
  have r5:∀a:Nat,0<(a:Int)+1+1+1:=fun a=>by omega
  rcases h with rfl|rfl|rfl|rfl|rfl|rfl|rfl|rfl|rfl|rfl|rfl|rfl|rfl|rfl|rfl|rfl|rfl|rfl|rfl|rfl|rfl|rfl <;>
   rcases a with _|_|_|a<;>simp[xn,eA,eZ,mw,jA,kR,yX,eY,oB]<;>simp only[q0,q1,q2,q3,q4,r1,r2,r3,r4,r5,decide_false,decide_true,Bool.not_false,Bool.not_true,Bool.false_and,Bool.true_and,Bool.and_false]
theorem aq{F H:Y}(h:Over H F){a b:Bool}(e:a=b):eB H (.ret (.sc (.bool a))) F (.ret (.sc (.bool b))) H:=by
 subst e
 exact dD h (.same trivial)
def Pm(x:AV):AV:=x
theorem gD(q:IntKind)(k:Int)(v:AV)(M:List (Int×AV)):qK (.int q k) v (mI q Pm M)=mI q Pm (xk k v M):=Dw (f:=Pm) (a:=v)
theorem eN(q:IntKind)(k:Int)(v:AV):qK (.int q k) v []=mI q Pm [(k,v)]:=Dw (f:=Pm) (a:=v) (M:=[])
theorem cW(k:Int)(v:AV):xk k v ([]:List (Int×AV))=[(k,v)]:=rfl
theorem cG(k j:Int)(v u:AV)(r:List (Int×AV)):xk k v ((j,u)::r)=if k=j then (k,v)::r else (j,u)::xk k v r:=rfl
def yY(l:List Int):AV:=if l=[] then .am 0 [] (some []) else .am 1 (l.map fun n=>.sc (.int .u8 n)) (some [])
def K8(r:List Int×Bool):AV:=.agg [yY r.1,.sc (.bool r.2)]
def xp:List (Int×AV):=jA.map fun p=>(p.1,K8 p.2)
theorem Au{α β:Type}(g:α→β)(k:Int):∀(M:List (Int×α)),kR k (M.map fun p=>(p.1,g p.2))=(kR k M).map g
 |[]=>rfl
 |p::r=>by
  have ih:=Au g k r
  simp only[List.map_cons,kR]
  split
  ·rfl
  ·exact ih
def mS(k:Int):List Int×Bool:=(mw k).getD ([],false)
theorem TY(k:Int):(kR k xp).getD (.agg [.am 0 [] (some []),.sc (.bool false)])=K8 (mS k):=by
 unfold xp mS mw
 rw[Au]
 cases kR k jA<;>rfl
theorem Pn(k:Int):(kR k xp).isSome=(mw k).isSome:=by
 unfold xp mw
 rw[Au]
 cases kR k jA<;>rfl
theorem afV(x:AV)(H:Y)(h1:x.bT=false∧x.isAgg=false∧x.az=1∧x.cells=[x])(h2:x.ids (· < H.length)):D Tryz.prog 123 [x] H (.ret (.agg [x,.sc (.bool false)])) H:=by
 obtain ⟨a1,a2,a3,a4⟩:=h1
 refine aG (Nat.le_refl _) (afH (aA ?_))
 simp only[X9,ux]
 refine eQ (ei a1 a2 a3 a4) ?_
 exact dD (.cons .refl) (.same ⟨h2,trivial,trivial⟩)
theorem ab0(k:Int)(H:Y):D Tryz.prog 124 [.sc (.int .u8 k)] H (.ret (.agg [.am 1 [.sc (.int .u8 k)] (some []),.sc (.bool true)])) H:=by
 refine aG (Nat.le_refl _) (afI (aA ?_))
 simp only[Ya,ux]
 refine aw ?_
 exact dD (.cons .refl) (.same ⟨⟨⟨trivial,trivial⟩,trivial⟩,trivial,trivial⟩)
theorem TZ{q:IntKind}{k:Int}{z:AV}{M:List (Int×AV)}:nR (.int q k) z (mI q Pm M)=(kR k M).getD z:=by
 rw[K7]
 cases kR k M<;>rfl
theorem T1{q:IntKind}{k:Int}{M:List (Int×AV)}:(decide (fy (.int q k) (mI q Pm M)<M.length))=(kR k M).isSome:=by rw[yW];exact K4
theorem Rn(k:Int)(H:Y):D Tryz.prog 69 [.sc (.int .u8 k)] H (.ret (.aO [K8 (mS k),.sc (.bool (mw k).isSome)])) H:=by
 have ok:=abZ (α:=AV)
 have g1:=fun (n:Int)(H:Y)=>ab0 n H
 have g2:=fun (x:AV)(H:Y)=>afV x H
 have c1:cr Tryz.prog 123=true:=by kernel_rfl
 have c2:cr Tryz.prog 124=true:=by kernel_rfl
 refine aG (Nat.le_refl _) (ahs (aA ?_))
 simp only[ac2,ux]
 refine Z fun L hL=>?_
 refine aw ?_
 refine hL _ _ ?_
 clear hL
 refine Z fun L hL=>?_
 refine aw ?_
 refine hL _ _ ?_
 clear hL
 refine Z fun L hL=>?_
 refine aw ?_
 refine hL _ _ ?_
 clear hL
 refine Z fun L hL=>?_
 refine aI (ak c1 c2) ?_
 refine ae (g1 _ _) ?_
 refine aI (mN c1 c2 ok @gD @eN @cG @cW) ?_
 refine ae (g2 _ _ ⟨rfl,rfl,rfl,rfl⟩ (by simp[AV.ids,AV.cV,AV.gG])) ?_
 refine aI (mN c1 c2 ok @gD @eN @cG @cW) ?_
 refine ae (g1 _ _) ?_
 refine aI (mN c1 c2 ok @gD @eN @cG @cW) ?_
 refine ae (g2 _ _ ⟨rfl,rfl,rfl,rfl⟩ (by simp[AV.ids,AV.cV,AV.gG])) ?_
 refine aI (mN c1 c2 ok @gD @eN @cG @cW) ?_
 refine ae (g1 _ _) ?_
 refine aI (mN c1 c2 ok @gD @eN @cG @cW) ?_
 refine ae (g2 _ _ ⟨rfl,rfl,rfl,rfl⟩ (by simp[AV.ids,AV.cV,AV.gG])) ?_
 refine aI (mN c1 c2 ok @gD @eN @cG @cW) ?_
 refine ae (g2 _ _ ⟨rfl,rfl,rfl,rfl⟩ (by simp[AV.ids,AV.cV,AV.gG])) ?_
 refine aI (mN c1 c2 ok @gD @eN @cG @cW) ?_
 refine ae (g2 _ _ ⟨rfl,rfl,rfl,rfl⟩ (by simp[AV.ids,AV.cV,AV.gG])) ?_
 refine aI (mN c1 c2 ok @gD @eN @cG @cW) ?_
 refine ae (g2 _ _ ⟨rfl,rfl,rfl,rfl⟩ (by simp[AV.ids,AV.cV,AV.gG])) ?_
 refine aI (mN c1 c2 ok @gD @eN @cG @cW) ?_
 refine ae (g2 _ _ ⟨rfl,rfl,rfl,rfl⟩ (by simp[AV.ids,AV.cV,AV.gG])) ?_
 refine aI (mN c1 c2 ok @gD @eN @cG @cW) ?_
 refine ae (g2 _ _ ⟨rfl,rfl,rfl,rfl⟩ (by simp[AV.ids,AV.cV,AV.gG])) ?_
 refine aI (mN c1 c2 ok @gD @eN @cG @cW) ?_
 refine ae (g2 _ _ ⟨rfl,rfl,rfl,rfl⟩ (by simp[AV.ids,AV.cV,AV.gG])) ?_
 refine aI (mN c1 c2 ok @gD @eN @cG @cW) ?_
 refine ae (g2 _ _ ⟨rfl,rfl,rfl,rfl⟩ (by simp[AV.ids,AV.cV,AV.gG])) ?_
 refine aI (mN c1 c2 ok @gD @eN @cG @cW) ?_
 refine ae (g2 _ _ ⟨rfl,rfl,rfl,rfl⟩ (by simp[AV.ids,AV.cV,AV.gG])) ?_
 refine aI (mN c1 c2 ok @gD @eN @cG @cW) ?_
 refine ae (g2 _ _ ⟨rfl,rfl,rfl,rfl⟩ (by simp[AV.ids,AV.cV,AV.gG])) ?_
 refine aI (mN c1 c2 ok @gD @eN @cG @cW) ?_
 refine ae (g2 _ _ ⟨rfl,rfl,rfl,rfl⟩ (by simp[AV.ids,AV.cV,AV.gG])) ?_
 refine aI (mN c1 c2 ok @gD @eN @cG @cW) ?_
 refine ae (g2 _ _ ⟨rfl,rfl,rfl,rfl⟩ (by simp[AV.ids,AV.cV,AV.gG])) ?_
 refine aI (mN c1 c2 ok @gD @eN @cG @cW) ?_
 refine ae (g1 _ _) ?_
 refine aI (mN c1 c2 ok @gD @eN @cG @cW) ?_
 refine ae (g2 _ _ ⟨rfl,rfl,rfl,rfl⟩ (by simp[AV.ids,AV.cV,AV.gG])) ?_
 refine aI (mN c1 c2 ok @gD @eN @cG @cW) ?_
 refine ae (g2 _ _ ⟨rfl,rfl,rfl,rfl⟩ (by simp[AV.ids,AV.cV,AV.gG])) ?_
 refine aI (mN c1 c2 ok @gD @eN @cG @cW) ?_
 refine ae (g2 _ _ ⟨rfl,rfl,rfl,rfl⟩ (by simp[AV.ids,AV.cV,AV.gG])) ?_
 refine aI (mN c1 c2 ok @gD @eN @cG @cW) ?_
 refine ae (g2 _ _ ⟨rfl,rfl,rfl,rfl⟩ (by simp[AV.ids,AV.cV,AV.gG])) ?_
 have mo:=TY k
 have hsome:=(T1 (q:=.u8) (k:=k) (M:=xp)).trans (Pn k)
 rw[show xp.length=22 from rfl] at hsome
 obtain ⟨x,b,hR⟩:∃x b,K8 (mS k) = .agg [x,.sc (.bool b)]:=⟨_,_,rfl⟩
 have hx:x.ids (· < H.length)∧x.isAgg=false∧x.bT=false∧x.az=1∧x.cells=[x]:=by
  have e:x=yY (mS k).1:=by unfold K8 at hR;cases hR;rfl
  rw[e]
  unfold yY
  split
  ·exact ⟨⟨trivial,trivial⟩,rfl,rfl,rfl,rfl⟩
  ·exact ⟨⟨AV.rJ.2 (by intro y hy;obtain ⟨n,_,rfl⟩:=List.mem_map.1 hy;trivial),trivial⟩,rfl,rfl,rfl,rfl⟩
 rw[hR] at mo
 generalize (mw k).isSome=s at *
 simp only[xp,jA,K8,yY,List.map_cons,List.map_nil,reduceCtorEq,if_false,if_true] at mo hsome
 refine aI (XJ c1 c2 ok @gD @eN @cG @cW @TZ @xj mo hsome hx.2.1 hx.2.2.1 hx.2.2.2.1 hx.2.2.2.2) ?_
 refine hL _ _ ?_
 clear hL
 refine aI (ei hx.2.1 hx.2.2.1 hx.2.2.2.1 hx.2.2.2.2) ?_
 rw[hR]
 refine dD (.cons (.cons (.cons .refl))) (.same ?_)
 exact ⟨⟨hx.1,trivial,trivial⟩,trivial,trivial⟩
def Dx(l:List Int):List AV:=l.map fun n=>.sc (.int .u8 n)
theorem lT(l:List Int):(Dx l).length=l.length:=by simp[Dx]
def tQ(xs:List Int)(k:Nat):Int:=xs.getD k 0
theorem K9{l:List Int}{k:Nat}(h:k<l.length):(Dx l).getD k .top = .sc (.int .u8 (tQ l k)):=by
 simp[Dx,tQ,List.getD,h]
def yZ(l:List Int)(s:Int):Bool:=l.any fun x=>decide (x=s)
def Dy(l:List Int)(s:Int):Int:=if yZ l s=true then (l.findIdx (fun x=>decide (x=s)):Nat) else -1
theorem v8{l:List Int}{k:Nat}(h:k<l.length):tQ l k=l[k]:=by simp[tQ,List.getD,h]
theorem Yn{l:List Int}{s:Int}{k:Nat}(h:k<l.length)(h1:tQ l k=s):yZ l s=true:=by
 rw[v8 h] at h1
 exact List.any_eq_true.2 ⟨l[k],List.getElem_mem h,by simp[h1]⟩
theorem Po{l:List Int}{s:Int}(h2:∀j,j<l.length→¬tQ l j=s):yZ l s=false:=by
 cases h:yZ l s
 ·rfl
 ·obtain ⟨x,hx,e⟩:=List.any_eq_true.1 h
  obtain ⟨j,hj,rfl⟩:=List.getElem_of_mem hx
  exact absurd (by rw[v8 hj];simpa using e) (h2 j hj)
theorem Yo{l:List Int}{s:Int}{k:Nat}(h:k<l.length)(h1:tQ l k=s)(h2:∀j,j<k→¬tQ l j=s):Dy l s=k:=by
 unfold Dy
 rw[if_pos (Yn h h1),(List.findIdx_eq h).2 ⟨by rw[v8 h] at h1;simp[h1],fun j hj=>?_⟩]
 have:=h2 j hj
 rw[v8 (by omega)] at this
 simp[this]
theorem Pp{l:List Int}{s:Int}(h2:∀j,j<l.length→¬tQ l j=s):Dy l s=-1:=by
 unfold Dy
 rw[Po h2]
 rfl
theorem Yp(l:List Int)(s:Int):decide (Dy l s≥0)=yZ l s:=by
 unfold Dy
 cases yZ l s<;>simp
set_option maxHeartbeats 4000000 in
theorem T3(l:List Int)(ro:Option (List AV))(s:Int)(hl:l.length≤1000000)(H:Y):D Tryz.prog 178 [.am 1 (Dx l) ro,.sc (.int .u8 s)] H (.ret (.sc (.int .i64 (Dy l s)))) H:=by
 refine aG (Nat.le_refl _) (afL (aA ?_))
 simp only[Yd,ux]
 refine Z fun L hL=>?_
 refine eQ @lT ?_
 refine hL _ _ ?_
 clear hL
 refine Z fun L hL=>?_
 refine eQ @lT ?_
 refine aZ (fun ts F=>∃k:Nat,(k≤l.length∧∀j,j<k→¬tQ l j=s)∧F=H∧Fr (some (.am 1 (Dx l) ro)::some (.sc (.int .u8 s))::none::fg (some (.sc (.int .i64 l.length))::some (.sc (.int .i64 k))::none::none::iv [])) ts) (fun ts _=>l.length-(aM (ts.getD 8 .top)).toNat) ?_ ?_
 ·exact ⟨0,⟨Nat.zero_le _,fun j h=>absurd h (Nat.not_lt_zero _)⟩,rfl,by simp[Fr]⟩
 rintro ts F ⟨k,⟨hk,hp⟩,rfl,aX⟩ L2 bM
 obtain ⟨js,rfl⟩:=aX.opened
 clear aX
 by_cases hd:k<l.length
 ·have c1:(k:Int)<l.length:=by omega
  have hg:=K9 hd
  by_cases e:s=tQ l k
  ·have hi:=Yo hd e.symm hp
   refine df (ei c1 hg @lT e.symm) ?_
   rw[hi]
   exact ⟨by omega,bL .refl⟩
  ·refine df (ei c1 hg @lT e) ?_
   refine ⟨by omega,bM _ _ ⟨k+1,⟨by omega,fun j hj=>?_⟩,rfl,by simp[Fr]⟩ (by simp[aM,mk];omega)⟩
   rcases Nat.lt_succ_iff_lt_or_eq.1 hj with h'|rfl
   ·exact hp j h'
   ·exact fun h=>e h.symm
 ·have c1:¬(k:Int)<l.length:=by omega
  have hi:=Pp fun j hj=>hp j (by omega)
  refine df c1 ?_
  refine hL _ _ ?_
  clear hL
  refine fh ?_
  rw[hi]
  exact bL .refl
theorem y2(l:List Int)(ro:Option (List AV))(s:Int)(hl:l.length≤1000000)(H:Y):D Tryz.prog 121 [.am 1 (Dx l) ro,.sc (.int .u8 s)] H (.ret (.sc (.bool (yZ l s)))) H:=by
 refine aG (Nat.le_refl _) (afK (aA ?_))
 have he:=Yp l s
 simp -implicitDefEqProofs (maxSteps:=99999999) (disch:=first|omega|(simp only[vl];first|done|omega)) only[vu,Yc,va,vg,vs,vw,vk,simprocAttr]
 refine ae (T3 l ro s hl _) ?_
 refine aw ?_
 exact aq .refl he
def mT(l:List ByteArray)(s:ByteArray):Bool:=l.any fun x=>decide (x=s)
def kN(l:List ByteArray)(s:ByteArray):Int:=if mT l s=true then (l.findIdx (fun x=>decide (x=s)):Nat) else -1
theorem wc{l:List ByteArray}{k:Nat}(h:k<l.length):nV l k=l[k]:=by simp[nV,List.getD,h]
theorem Dz{l:List ByteArray}{s:ByteArray}{k:Nat}(h:k<l.length)(h1:nV l k=s):mT l s=true:=by
 rw[wc h] at h1
 exact List.any_eq_true.2 ⟨l[k],List.getElem_mem h,by simp[h1]⟩
theorem xq{l:List ByteArray}{s:ByteArray}(h2:∀j,j<l.length→¬nV l j=s):mT l s=false:=by
 cases h:mT l s
 ·rfl
 ·obtain ⟨x,hx,e⟩:=List.any_eq_true.1 h
  obtain ⟨j,hj,rfl⟩:=List.getElem_of_mem hx
  exact absurd (by rw[wc hj];simpa using e) (h2 j hj)
theorem Yq{l:List ByteArray}{s:ByteArray}{k:Nat}(h:k<l.length)(h1:nV l k=s)(h2:∀j,j<k→¬nV l j=s):kN l s=k:=by
 unfold kN
 rw[if_pos (Dz h h1),(List.findIdx_eq h).2 ⟨by rw[wc h] at h1;simp[h1],fun j hj=>?_⟩]
 have:=h2 j hj
 rw[wc (by omega)] at this
 simp[this]
theorem Pq{l:List ByteArray}{s:ByteArray}(h2:∀j,j<l.length→¬nV l j=s):kN l s=-1:=by
 unfold kN
 rw[xq h2]
 rfl
theorem Yr(l:List ByteArray)(s:ByteArray):decide (kN l s≥0)=mT l s:=by
 unfold kN
 cases mT l s<;>simp
set_option maxHeartbeats 4000000 in
theorem T4(l:List ByteArray)(ro:Option (List AV))(s:ByteArray)(hl:l.length≤1000000)(H:Y):D Tryz.prog 114 [.am 1 (strs l) ro,.sc (.string s)] H (.ret (.sc (.int .i64 (kN l s)))) H:=by
 refine aG (Nat.le_refl _) (afM (aA ?_))
 simp only[Ye,ux]
 refine Z fun L hL=>?_
 refine eQ @dM ?_
 refine hL _ _ ?_
 clear hL
 refine Z fun L hL=>?_
 refine eQ @dM ?_
 refine aZ (fun ts F=>∃k:Nat,(k≤l.length∧∀j,j<k→¬nV l j=s)∧F=H∧Fr (some (.am 1 (strs l) ro)::some (.sc (.string s))::none::fg (some (.sc (.int .i64 l.length))::some (.sc (.int .i64 k))::none::none::iv [])) ts) (fun ts _=>l.length-(aM (ts.getD 8 .top)).toNat) ?_ ?_
 ·exact ⟨0,⟨Nat.zero_le _,fun j h=>absurd h (Nat.not_lt_zero _)⟩,rfl,by simp[Fr]⟩
 rintro ts F ⟨k,⟨hk,hp⟩,rfl,aX⟩ L2 bM
 obtain ⟨js,rfl⟩:=aX.opened
 clear aX
 by_cases hd:k<l.length
 ·have c1:(k:Int)<l.length:=by omega
  have hg:=Ap hd
  by_cases e:s=nV l k
  ·have hi:=Yq hd e.symm hp
   refine df (ei c1 hg @dM e.symm) ?_
   rw[hi]
   exact ⟨by omega,bL .refl⟩
  ·refine df (ei c1 hg @dM e) ?_
   refine ⟨by omega,bM _ _ ⟨k+1,⟨by omega,fun j hj=>?_⟩,rfl,by simp[Fr]⟩ (by simp[aM,mk];omega)⟩
   rcases Nat.lt_succ_iff_lt_or_eq.1 hj with h'|rfl
   ·exact hp j h'
   ·exact fun h=>e h.symm
 ·have c1:¬(k:Int)<l.length:=by omega
  have hi:=Pq fun j hj=>hp j (by omega)
  refine df c1 ?_
  refine hL _ _ ?_
  clear hL
  refine fh ?_
  rw[hi]
  exact bL .refl
theorem y3(l:List ByteArray)(ro:Option (List AV))(s:ByteArray)(hl:l.length≤1000000)(H:Y):D Tryz.prog 59 [.am 1 (strs l) ro,.sc (.string s)] H (.ret (.sc (.bool (mT l s)))) H:=by
 refine aG (Nat.le_refl _) (aht (aA ?_))
 have he:=Yr l s
 simp -implicitDefEqProofs (maxSteps:=99999999) (disch:=first|omega|(simp only[vl];first|done|omega)) only[vu,ac3,va,vg,vs,vw,vk,simprocAttr]
 refine ae (T4 l ro s hl _) ?_
 refine aw ?_
 exact aq .refl he
theorem La{l:List Int}(h:l≠[]):yY l = .am 1 (Dx l) (some []):=if_neg h
theorem adh(k f:Int)(H:Y):D Tryz.prog 127 [.sc (.int .u8 k),.sc (.int .u8 f)] H (.ret (.sc (.bool (yX k f)))) H:=by
 refine aG (Nat.le_refl _) (afF (aA ?_))
 simp only[X7,ux]
 by_cases c1:f=200
 ·by_cases g1:k≥20
  ·refine aI (ak c1 g1) ?_
   exact aq .refl (by simp[yX,c1,eY];intro;omega)
  ·refine aI (ak c1 g1) ?_
   exact aq .refl (by simp[yX,c1,eY];omega)
 by_cases c2:f=201
 ·by_cases g1:k≥6
  ·by_cases g2:k≤12
   ·refine aI (gq c2 g1 g2) ?_
    exact aq .refl (by simp[yX,c2,oB];omega)
   ·refine aI (gq c2 g1 g2) ?_
    exact aq .refl (by simp[yX,c2,oB];omega)
  ·refine aI (ak c2 g1) ?_
   exact aq .refl (by simp[yX,c2,oB];omega)
 by_cases c3:f=202
 ·by_cases g1:k=22
  ·refine aI (ak c3 g1) ?_
   exact aq .refl (by simp[yX,c3,g1])
  ·refine aI (ak c3 g1) ?_
   exact aq .refl (by simp[yX,c3,g1])
 refine aI (gq c1 c2 c3) ?_
 exact aq .refl (by simp[yX,c1,c2,c3])
theorem GD{p:Int}(h:(mS p).2=true):(mS p).1≠[]:=by
 rcases vc p with ⟨hn,_⟩|hm
 ·unfold mS at h;rw[hn] at h;cases h
 ·simp only[jA,List.map_cons,List.map_nil,List.mem_cons,List.not_mem_nil,or_false] at hm
  rcases hm with rfl|rfl|rfl|rfl|rfl|rfl|rfl|rfl|rfl|rfl|rfl|rfl|rfl|rfl|rfl|rfl|rfl|rfl|rfl|rfl|rfl|rfl<;>first|(exact absurd h (by decide))|(simp[mS,mw,jA,kR])
theorem Lb(l:List Int):pS (yY l)=l.length∧oz (yY l)∧(yY l).bT=false∧(yY l).isAgg=false∧(yY l).az=1∧(yY l).cells=[yY l]:=by
 unfold yY
 split
 ·rename_i h;subst h;exact ⟨rfl,trivial,rfl,rfl,rfl,rfl⟩
 ·exact ⟨by simp[pS],trivial,rfl,rfl,rfl,rfl⟩
set_option maxHeartbeats 4000000 in
theorem ab1(p k a:Int)(H:Y):D Tryz.prog 71 [.sc (.int .u8 p),.sc (.int .u8 k),.sc (.int .i64 a)] H (.ret (.sc (.bool (xn p k a)))) H:=by
 refine aG (Nat.le_refl _) (aho (aA ?_))
 simp only[acY,ux]
 have hr:=Rn p
 unfold K8 at hr
 have hP:xn p k a=if a<0 then false else if (mS p).2 then yX k ((mS p).1.getD 0 0) else decide (a<(mS p).1.length) && yX k ((mS p).1.getD a.toNat 0):=rfl
 have hall:=GD (p:=p)
 generalize (mw p).isSome=s at *
 obtain ⟨l,b,hG⟩:∃l b,mS p=(l,b):=⟨_,_,rfl⟩
 rw[hG] at hr hP hall
 simp only at hr hP hall
 obtain ⟨k1,k2,k3,k4,k5,k6⟩:=Lb l
 refine Z fun L hL=>?_
 refine aw ?_
 refine hL _ _ ?_
 clear hL
 refine Z fun L hL=>?_
 refine aw ?_
 refine ae (hr _) ?_
 refine aI (ei k3 k4 k5 k6) ?_
 refine hL _ _ ?_
 clear hL
 refine Z fun L hL=>?_
 by_cases c1:a<0
 ·refine aI (kZ c1 k3 k4 k5 k6) ?_
  exact aq (.cons .refl) (by rw[hP,if_pos c1])
 rw[if_neg c1] at hP
 cases b
 case true =>
  have hne:=hall rfl
  obtain ⟨x,r,rfl⟩:=List.exists_cons_of_ne_nil hne
  rw[La hne] at *
  simp -implicitDefEqProofs (maxSteps:=99999999) (disch:=first|omega|(simp only[vl];first|done|omega)) only[vu,c1,lT,Dx,List.map_cons,va,vg,vs,vw,vk,simprocAttr]
  refine ⟨by omega,ae (adh _ _ _) ?_⟩
  refine aw ?_
  exact aq (.cons .refl) (by rw[hP];rfl)
 case false =>
  simp only[Bool.false_eq_true,if_false] at hP
  refine aI (kZ c1 k3 k4 k5 k6) ?_
  refine hL _ _ ?_
  clear hL
  by_cases c2:a<l.length
  ·have hne:l≠[]:=fun e=>by rw[e] at c2;simp at c2;omega
   obtain ⟨n,rfl⟩:∃n:Nat,a=n:=⟨a.toNat,by omega⟩
   have hn:n<l.length:=by omega
   rw[La hne] at *
   simp -implicitDefEqProofs (maxSteps:=99999999) (disch:=first|omega|(simp only[vl];first|done|omega)) only[vu,c2,lT,K9 hn,va,vg,vs,vw,vk,simprocAttr]
   refine ⟨by omega,ae (adh _ _ _) ?_⟩
   refine aw ?_
   exact aq (.cons .refl) (by rw[hP];simp[c2,hn,tQ])
  ·refine aI (mN c2 k1 k2 k3 k4 k5 k6) ?_
   exact aq (.cons .refl) (by rw[hP];simp[c2])
theorem DA(k:Int):yZ [2,4,6,22,25] k=eM k:=by
 simp[yZ,eM,eq_comm,Bool.or_assoc]
theorem Lc(k:Int)(H:Y):D Tryz.prog 117 [.sc (.int .u8 k)] H (.ret (.sc (.bool (eM k)))) H:=by
 refine aG (Nat.le_refl _) (afE (aA ?_))
 simp only[X6,ux]
 have hc:=y2 [2,4,6,22,25] (some []) k (by decide)
 rw[show Dx [2,4,6,22,25]=[.sc (.int .u8 2),.sc (.int .u8 4),.sc (.int .u8 6),.sc (.int .u8 22),.sc (.int .u8 25)] from rfl] at hc
 refine aw ?_
 refine ae (hc _) ?_
 refine aw ?_
 exact aq .refl (DA k)
theorem eR{F H:Y}(h:Over H F){a b:Int}(e:a=b):eB H (.ret (.sc (.int .i64 a))) F (.ret (.sc (.int .i64 b))) H:=by
 subst e
 exact dD h (.same trivial)
theorem Ld(k:Int)(H:Y):D Tryz.prog 131 [.sc (.int .u8 k)] H (.ret (.sc (.int .i64 (eZ k)))) H:=by
 refine aG (Nat.le_refl _) (afQ (aA ?_))
 simp only[Yi,ux]
 by_cases c1:k=1
 ·subst c1
  refine aw ?_
  exact eR .refl rfl
 by_cases c3:k=3
 ·subst c3
  refine aw ?_
  exact eR .refl rfl
 by_cases c5:k=5
 ·subst c5
  refine aw ?_
  exact eR .refl rfl
 by_cases qG:k=25
 ·subst qG
  refine aw ?_
  exact eR .refl rfl
 by_cases c2:k=2
 ·subst c2
  refine aw ?_
  exact eR .refl rfl
 by_cases c7:k=7
 ·subst c7
  refine aw ?_
  exact eR .refl rfl
 by_cases c9:k=9
 ·subst c9
  refine aw ?_
  exact eR .refl rfl
 by_cases c24:k=24
 ·subst c24
  refine aw ?_
  exact eR .refl rfl
 by_cases c26:k=26
 ·subst c26
  refine aw ?_
  exact eR .refl rfl
 by_cases c27:k=27
 ·subst c27
  refine aw ?_
  exact eR .refl rfl
 by_cases c8:k=8
 ·subst c8
  refine aw ?_
  exact eR .refl rfl
 by_cases c6:k=6
 ·subst c6
  refine aw ?_
  exact eR .refl rfl
 by_cases c10:k=10
 ·subst c10
  refine aw ?_
  exact eR .refl rfl
 by_cases c11:k=11
 ·subst c11
  refine aw ?_
  exact eR .refl rfl
 by_cases c23:k=23
 ·subst c23
  refine aw ?_
  exact eR .refl rfl
 by_cases c28:k=28
 ·subst c28
  refine aw ?_
  exact eR .refl rfl
 by_cases c12:k=12
 ·subst c12
  refine aw ?_
  exact eR .refl rfl
 simp -implicitDefEqProofs (maxSteps:=99999999) (disch:=first|omega|(simp only[vl];first|done|omega)) only[vu,c1,c3,c5,qG,c2,c7,c9,c24,c26,c27,c8,c6,c10,c11,c23,c28,c12,va,vg,vs,vw,vk,simprocAttr]
 exact eR .refl (by simp[eZ,c1,c3,c5,qG,c2,c7,c9,c24,c26,c27,c8,c6,c10,c11,c23,c28,c12])
theorem GF(k:Int)(H:Y):D Tryz.prog 182 [.sc (.int .u8 k)] H (.ret (.sc (.bool (eM k)))) H:=by
 refine aG (Nat.le_refl _) (afU (aA ?_))
 simp only[Ym,ux]
 by_cases c2:k=2
 ·subst c2
  refine aw ?_
  exact aq .refl rfl
 by_cases c4:k=4
 ·subst c4
  refine aw ?_
  exact aq .refl rfl
 by_cases c6:k=6
 ·subst c6
  refine aw ?_
  exact aq .refl rfl
 by_cases qH:k=22
 ·subst qH
  refine aw ?_
  exact aq .refl rfl
 by_cases qG:k=25
 ·subst qG
  refine aw ?_
  exact aq .refl rfl
 refine aI (kZ c2 c4 c6 qH qG) ?_
 exact aq .refl (by simp[eM,c2,c4,c6,qH,qG])
theorem Ys(k:Int)(H:Y):D Tryz.prog 183 [.sc (.int .u8 k)] H (.ret (.sc (.bool (oB k)))) H:=by
 refine aG (Nat.le_refl _) (afR (aA ?_))
 simp only[Yj,ux]
 by_cases c5:k=5
 ·subst c5
  refine aw ?_
  exact aq .refl rfl
 by_cases g1:k≥6
 ·by_cases g2:k≤12
  ·refine aI (gq c5 g1 g2) ?_
   exact aq .refl (by simp[oB,c5];omega)
  ·refine aI (gq c5 g1 g2) ?_
   exact aq .refl (by simp[oB,c5];omega)
 ·refine aI (ak c5 g1) ?_
  exact aq .refl (by simp[oB,c5];omega)
theorem nW(k:Int)(H:Y):D Tryz.prog 130 [.sc (.int .u8 k)] H (.ret (.sc (.bool (eY k)))) H:=by
 refine aG (Nat.le_refl _) (afS (aA ?_))
 simp only[Yk,ux]
 by_cases g1:k≥20
 ·by_cases g2:k≤29
  ·refine aI (ak g1 g2) ?_
   exact aq .refl (by simp[eY];omega)
  ·refine aI (ak g1 g2) ?_
   exact aq .refl (by simp[eY];omega)
 ·refine aI g1 ?_
  exact aq .refl (by simp[eY];omega)
theorem Yt(p k a:Int)(H:Y):D Tryz.prog 133 [.sc (.int .u8 p),.sc (.int .u8 k),.sc (.int .i64 a)] H (.ret (.sc (.bool (eA p k a)))) H:=by
 refine aG (Nat.le_refl _) (afP (aA ?_))
 simp only[Yh,ux]
 obtain ⟨m,hm⟩:∃m,eZ p=m:=⟨_,rfl⟩
 refine Z fun L hL=>?_
 refine aw ?_
 refine hL _ _ ?_
 clear hL
 refine Z fun L hL=>?_
 refine aw ?_
 refine ae (Ld p _) ?_
 refine aI hm ?_
 refine hL _ _ ?_
 clear hL
 refine Z fun L hL=>?_
 by_cases c0:a<0
 ·have hq:eA p k a=false:=by unfold eA;rw[if_pos (.inl c0)]
  refine aI c0 ?_
  exact aq .refl hq.symm
 by_cases c1:m≥0∧a≥m
 ·have hq:eA p k a=false:=by unfold eA;rw[hm,if_pos (.inr c1)]
  refine aI (gq c0 c1.1 c1.2) ?_
  exact aq .refl hq.symm
 have hq:eA p k a=if p=1 then decide (k=2)
  else if p=2 then decide (a=0∧k=3)|| decide (a=1∧k=5)
  else if p=3 then decide (k=4)
  else if p=5 then oB k
  else if p=7 then decide (a=0∧(k=22∨k=26))|| (decide (a=1) && eY k)
  else if p=8∨p=9 then (decide (a=0) && eY k)|| decide (a > 0∧k=5)
  else if p=12 then decide (k=25)
  else eY k:=by
  unfold eA
  rw[if_neg (by rw[hm];exact fun h=>h.elim c0 c1)]
 suffices ∀b1 b2 b3 b4 b5 b6 b7 b8 b9 b10 b11,L ([.sc (.int .u8 p),.sc (.int .u8 k),.sc (.int .i64 a),.aO [],.aO [],.aO [],.sc (.bool false),.sc (.int .i64 m),.sc (.int .u8 p),.sc (.int .i64 m),b1,b2,b3,b4,b5,b6,b7,b8,b9,b10,b11,.aO [],.aO [],.aO [],.aO [],.aO [],.aO [],.aO [],.aO [],.aO [],.aO [],.aO [],.aO [],.aO [],.aO [],.aO [],.aO [],.aO [],.aO [],.aO [],.aO [],.aO [],.aO [],.aO [],.aO [],.aO [],.aO [],.aO [],.aO [],.aO [],.aO [],.aO [],.aO [],.aO [],.aO [],.aO [],.aO [],.aO [],.aO [],.aO [],.aO [],.aO [],.aO [],.aO [],.aO [],.aO [],.aO [],.aO [],.aO [],.aO [],.aO [],.aO [],.aO [],.aO [],.aO [],.aO [],.aO [],.aO [],.aO [],.aO [],.aO [],.aO [],.aO [],.aO [],.aO [],.aO [],.aO [],.aO [],.aO [],.aO [],.aO [],.aO [],.aO []]) H by
  by_cases c2:m≥0
  ·have c3:¬a≥m:=fun h=>c1 ⟨c2,h⟩
   refine aI (gq c0 c2 c3) ?_
   exact this _ _ _ _ _ _ _ _ _ _ _
  ·refine aI (ak c0 c2) ?_
   exact this _ _ _ _ _ _ _ _ _ _ _
 intro b1 b2 b3 b4 b5 b6 b7 b8 b9 b10 b11
 clear hm c1
 by_cases p1:p=1
 ·subst p1
  refine hL _ _ ?_
  clear hL
  refine Z fun L hL=>?_
  refine aw ?_
  exact aq .refl (by simp[hq])
 by_cases p2:p=2
 ·subst p2
  refine hL _ _ ?_
  clear hL
  refine Z fun L hL=>?_
  by_cases ca:a=0
  ·subst ca
   by_cases ck:k=3
   ·subst ck
    refine aw ?_
    exact aq .refl (by simp[hq])
   ·skip
    refine aI ck ?_
    exact aq .refl (by simp[hq,ck])
  by_cases cb:a=1
  ·subst cb
   refine aw ?_
   exact aq .refl (by simp[hq])
  refine aI (ak ca cb) ?_
  exact aq .refl (by simp[hq,ca,cb])
 by_cases p3:p=3
 ·subst p3
  refine hL _ _ ?_
  clear hL
  refine Z fun L hL=>?_
  refine aw ?_
  exact aq .refl (by simp[hq])
 by_cases p5:p=5
 ·subst p5
  refine hL _ _ ?_
  clear hL
  refine Z fun L hL=>?_
  refine aw ?_
  refine ae (Ys _ _) ?_
  refine aw ?_
  exact aq .refl (by simp[hq])
 by_cases p7:p=7
 ·subst p7
  refine hL _ _ ?_
  clear hL
  refine Z fun L hL=>?_
  by_cases ca:a=0
  ·subst ca
   by_cases ck:k=22
   ·subst ck
    refine aw ?_
    exact aq .refl (by simp[hq])
   by_cases cl:k=26
   ·subst cl
    refine aw ?_
    exact aq .refl (by simp[hq])
   simp -implicitDefEqProofs (maxSteps:=99999999) (disch:=first|omega|(simp only[vl];first|done|omega)) only[vu,ck,cl,va,vg,vs,vw,vk,simprocAttr]
   exact aq .refl (by simp[hq,ck,cl])
  by_cases cb:a=1
  ·subst cb
   refine aw ?_
   refine ae (nW _ _) ?_
   refine aw ?_
   exact aq .refl (by simp[hq])
  refine aI (ak ca cb) ?_
  exact aq .refl (by simp[hq,ca,cb])
 by_cases p8:p=8
 ·subst p8
  refine hL _ _ ?_
  clear hL
  refine Z fun L hL=>?_
  by_cases ca:a=0
  ·subst ca
   cases hx:eY k
   ·refine aw ?_
    refine ae (nW _ _) ?_
    refine aI hx ?_
    exact aq .refl (by simp[hq,hx])
   ·refine aw ?_
    refine ae (nW _ _) ?_
    refine aI hx ?_
    exact aq .refl (by simp[hq,hx])
  by_cases cb:a > 0
  ·skip
   refine aI (ak ca cb) ?_
   exact aq .refl (by simp[hq,ca,cb])
  omega
 by_cases p9:p=9
 ·subst p9
  refine hL _ _ ?_
  clear hL
  refine Z fun L hL=>?_
  by_cases ca:a=0
  ·subst ca
   cases hx:eY k
   ·refine aw ?_
    refine ae (nW _ _) ?_
    refine aI hx ?_
    exact aq .refl (by simp[hq,hx])
   ·refine aw ?_
    refine ae (nW _ _) ?_
    refine aI hx ?_
    exact aq .refl (by simp[hq,hx])
  by_cases cb:a > 0
  ·skip
   refine aI (ak ca cb) ?_
   exact aq .refl (by simp[hq,ca,cb])
  omega
 by_cases p12:p=12
 ·subst p12
  refine hL _ _ ?_
  clear hL
  refine Z fun L hL=>?_
  refine aw ?_
  exact aq .refl (by simp[hq])
 refine hL _ _ ?_
 clear hL
 refine Z fun L hL=>?_
 refine aI (Ds p1 p2 p3 p5 p7 p8 p9 p12) ?_
 refine hL _ _ ?_
 clear hL
 refine aI (Ds p1 p2 p3 p5 p7 p8 p9 p12) ?_
 refine ae (nW _ _) ?_
 refine aw ?_
 exact aq .refl (by simp[hq,p1,p2,p3,p5,p7,p8,p9,p12])
def Bt(k:Int):Int:=IntKind.u8.wrap ↑(BitVec.ofInt IntKind.u8.bits k||| BitVec.ofInt IntKind.u8.bits 32).toNat
theorem y4(k:Int):IntKind.u8.wrap ↑(BitVec.ofInt IntKind.u8.bits k||| BitVec.ofInt IntKind.u8.bits 32).toNat=Bt k:=rfl
def wN(k:Int):Bool:=decide (97≤Bt k∧Bt k≤122)|| decide (k=95)
def qT(k:Int):Bool:=decide (97≤k∧k≤122)|| decide (65≤k∧k≤90)|| decide (k=95)
def ve(k:Int):Bool:=decide (48≤k∧k≤57)
theorem GG{k:Int}(h0:0≤k)(h1:k<256):wN k=qT k:=by
 have h:∀n:Fin 256,wN (n.val:Int)=qT (n.val:Int):=by decide +kernel
 have:=h ⟨k.toNat,by omega⟩
 rwa [show ((k.toNat:Nat):Int)=k by omega] at this
theorem Av(k:Int)(H:Y):D Tryz.prog 72 [.sc (.int .u8 k)] H (.ret (.sc (.bool (wN k)))) H:=by
 refine aG (Nat.le_refl _) (ahv (aA ?_))
 simp only[ac5,ux]
 by_cases g3:k=95
 ·subst g3
  have g1:Bt 95≥97:=by decide +kernel
  have g2:¬Bt 95≤122:=by decide +kernel
  refine aI (gq @y4 g1 g2) ?_
  exact aq .refl (by simp[wN])
 by_cases g1:Bt k≥97
 ·by_cases g2:Bt k≤122
  ·refine aI (gq @y4 g1 g2) ?_
   exact aq .refl (by simp[wN,g1,g2])
  ·refine aI (ei @y4 g1 g2 g3) ?_
   exact aq .refl (by simp[wN,g2,g3])
 ·have g2:¬97≤Bt k:=g1
  refine aI (gq @y4 g1 g3) ?_
  exact aq .refl (by simp[wN,g2,g3])
theorem Yu(k:Int)(H:Y):D Tryz.prog 74 [.sc (.int .u8 k)] H (.ret (.sc (.bool (wN k|| ve k)))) H:=by
 refine aG (Nat.le_refl _) (ahx (aA ?_))
 simp only[ac7,ux]
 refine aw ?_
 refine ae (Av _ _) ?_
 cases h:wN k
 ·by_cases g1:k≥48
  ·by_cases g2:k≤57
   ·refine aI (ak g1 g2) ?_
    exact aq .refl (by simp[ve,g2];omega)
   ·refine aI (ak g1 g2) ?_
    exact aq .refl (by simp[ve,g2])
  ·refine aI g1 ?_
   exact aq .refl (by simp[ve];omega)
 ·refine aw ?_
  exact aq .refl rfl
theorem xu(k:Int)(H:Y):D Tryz.prog 78 [.sc (.int .u8 k)] H (.ret (.sc (.bool (qT k)))) H:=by
 refine aG (Nat.le_refl _) (ahB (aA ?_))
 simp only[adb,ux]
 by_cases g1:k≥97
 ·by_cases g2:k≤122
  ·refine aI (ak g1 g2) ?_
   exact aq .refl (by simp[qT,g2];omega)
  ·have g3:k≥65:=by omega
   have g4:¬k≤90:=by omega
   have g5:¬k=95:=by omega
   refine aI (kZ g1 g2 g3 g4 g5) ?_
   exact aq .refl (by simp[qT,g2,g4,g5])
 ·by_cases g3:k≥65
  ·by_cases g4:k≤90
   ·refine aI (gq g1 g3 g4) ?_
    exact aq .refl (by simp[qT,g4];omega)
   ·by_cases g5:k=95
    ·refine aI (ei g1 g3 g4 g5) ?_
     exact aq .refl (by simp[qT,g5])
    ·refine aI (ei g1 g3 g4 g5) ?_
     exact aq .refl (by simp[qT,g4,g5];omega)
  ·have g5:¬k=95:=by omega
   refine aI (gq g1 g3 g5) ?_
   exact aq .refl (by simp[qT,g5];omega)
theorem T5(k:Int)(H:Y):D Tryz.prog 81 [.sc (.int .u8 k)] H (.ret (.sc (.bool (ve k)))) H:=by
 refine aG (Nat.le_refl _) (ahE (aA ?_))
 simp only[adg,ux]
 by_cases g1:k≥48
 ·by_cases g2:k≤57
  ·refine aI (ak g1 g2) ?_
   exact aq .refl (by simp[ve,g2];omega)
  ·refine aI (ak g1 g2) ?_
   exact aq .refl (by simp[ve,g2])
 ·refine aI g1 ?_
  exact aq .refl (by simp[ve];omega)
def qU:List ByteArray:=[⟨#[102,117,110,99]⟩,⟨#[118,97,114]⟩,⟨#[105,102]⟩,⟨#[101,108,115,101]⟩,⟨#[119,104,105,108,101]⟩,⟨#[114,101,116,117,114,110]⟩,⟨#[112,114,105,110,116]⟩,⟨#[116,114,117,101]⟩,⟨#[102,97,108,115,101]⟩,⟨#[108,101,110]⟩,⟨#[114,101,97,100]⟩]
theorem T6(H:Y):D Tryz.prog 80 [] H (.ret (.am 1 (strs qU) (some []))) H:=by
 refine aG (Nat.le_refl _) (ahD (aA ?_))
 simp only[adf,ux]
 refine aw ?_
 exact dD .refl (.same ⟨⟨trivial,trivial,trivial,trivial,trivial,trivial,trivial,trivial,trivial,trivial,trivial,trivial⟩,trivial⟩)
open Go.RowKit Go.Shelf
theorem Yv {φ : aU} {H : Y} {w : World} (h : BM φ H w) : Lib.TabIs Tryz.prog w "strings.asciiSpace" .u8 Lib.asciiSpaceTab := by
 obtain ⟨⟨e,fr,h1⟩,_⟩:=h _ (List.mem_cons_self ..)
 unfold Lib.TabIs World.var?
 have hg : Tryz.prog.globalNamed "strings.asciiSpace" = some 0 := by kernel_rfl
 rw[hg]
 simp only[Option.bind_some,h1]
 congr 2
theorem Lf{φ:aU}{O:Nat→Prop}{w:World}{b:Nat}:∀(l:List ByteArray)(off:Nat),(∀j (h:j<l.length),cX w b (off+j) 0=some (.string l[j]))→Rl φ O w b 1 (strs l) off
 |[],_,_=>trivial
 |x::r,off,h=>by
  have h0:=h 0 (by simp)
  simp only[Nat.add_zero,List.getElem_cons_zero] at h0
  refine ⟨rfl,fun _=>⟨_,h0,rfl⟩,h0,Lf r (off+1) fun j hj=>?_⟩
  have:=h (j+1) (by simp;omega)
  rw[show off+1+j=off+(j+1) by omega]
  simpa using this
theorem Aw(s:ByteArray)(l:List ByteArray)(hl:(Lib.fields s.data.toList).map (fun x=>(⟨x.toArray⟩:ByteArray))=l)(hs:s.size<4294967281)(hascii:∀(j:Nat) b,s.data.toList[j]? = some b→b.toNat<128)(hn:l.length≤1000000)(H:Y):D Tryz.prog 126 [.sc (.string s)] H (.ret (.am 1 (strs l) none)) H:=by
 refine ⟨Nat.le_refl _,fun φ w vs hR ha=>?_⟩
 obtain ⟨a,r,e1,a1,a2,e3⟩:=ha
 have ea:a = .string s:=cw ⟨a1,a2⟩
 have e3':r=[]:=e3
 have hvs:vs=#[.string s]:=by
  cases vs
  simp only at e1
  rw[e1,ea,e3']
 rw[hvs]
 refine (Any.strings_Fields Vl (by kernel_rfl) (by kernel_rfl) s w hs hascii (Yv hR.jC)).mono fun en w' ⟨he,hw⟩=>?_
 have ef:(Lib.fields s.data.toList).length=l.length:=by rw[←hl];simp
 have hcells:((Lib.fields s.data.toList).map fun l=>Value.string ⟨l.toArray⟩)=l.map Value.string:=by rw[←hl];simp[Function.comp_def]
 rw[hcells] at hw
 rw[ef] at he
 have hold:∀b,b<w.heap.size→w'.heap[b]? = w.heap[b]?:=fun b hb=>by rw[hw];exact heap_alloc_old w _ hb
 have hsz:w'.heap.size=w.heap.size+1:=by rw[hw];exact World.size_alloc w _
 have hno:¬Own φ H w.heap.size:=by
  rintro ⟨id,k,g1,_⟩
  have:=(hR.dom id _ g1).2
  omega
 refine ⟨φ,?_,hR.grow (by omega) hold,grow_step (by rw[hw];rfl) (by rw[hw];rfl) (by rw[hw];rfl) (by omega) hold⟩
 rw[he]
 refine ⟨rfl,_,l.length,?_,?_,?_,fun h=>by simp at h,fun _=>⟨w.heap.size,0,rfl,hno,by omega,Lf l 0 fun j hj=>?_⟩,trivial⟩
 ·simp[fR,Value.cells,strs]
 ·simp[strs]
 ·unfold maxLen;omega
 ·unfold cX
  rw[hw,World.cell?_alloc_at _ _ _ _ rfl]
  rw[show 0+j+0=j by omega,List.getElem?_toArray,List.getElem?_map,List.getElem?_eq_getElem hj]
  rfl
def fY(s:ByteArray)(k:Nat):Int:=((s.data.getD k 0).toNat:Int)
theorem GH(s:ByteArray)(k:Nat):0≤fY s k:=by unfold fY;omega
theorem GI(s:ByteArray)(k:Nat):fY s k<256:=by
 unfold fY
 have:=(s.data.getD k 0).toNat_lt
 omega
def rB(k:Int):Bool:=qT k|| ve k
theorem afW(s:ByteArray)(k:Nat):(wN (fY s k)|| ve (fY s k))=rB (fY s k):=by
 rw[GG (GH s k) (GI s k)];rfl
def GJ(s:ByteArray):Bool:=(List.range s.size).all fun k=>rB (fY s k)
theorem Ro{s:ByteArray}{k:Nat}(hk:¬k<s.size)(h:∀j,j<k→rB (fY s j)=true):GJ s=true :=
 List.all_eq_true.2 fun j hj=>h j (by have:=List.mem_range.1 hj;omega)
theorem Rp{s:ByteArray}{k:Nat}(hk:k<s.size)(h:rB (fY s k)=false):GJ s=false:=by
 cases e:GJ s
 ·rfl
 ·have:=List.all_eq_true.1 e k (List.mem_range.2 hk)
  rw[h] at this
  cases this
def ja(s:ByteArray):Bool:=!decide (s.size=0) && decide (s.size≤24) && qT (fY s 0) && !mT qU s && GJ s
theorem Yw{s:ByteArray}(h:¬s=⟨#[]⟩):s.size≠0:=fun e=>h (by
 cases s with
 | mk d=>exact congrArg _ (Array.eq_empty_of_size_eq_zero e))
theorem Lg(H:Y):D Tryz.prog 73 [] H (.ret (.am 1 (strs qU) none)) H:=by
 have hf:=Aw ⟨#[102,117,110,99,32,118,97,114,32,105,102,32,101,108,115,101,32,119,104,105,108,101,32,114,101,116,117,114,110,32,112,114,105,110,116,32,116,114,117,101,32,102,97,108,115,101,32,108,101,110,32,114,101,97,100]⟩ qU (by decide +kernel) (by decide +kernel) (fun j b h=>by
  have h2:∀b∈([102,117,110,99,32,118,97,114,32,105,102,32,101,108,115,101,32,119,104,105,108,101,32,114,101,116,117,114,110,32,112,114,105,110,116,32,116,114,117,101,32,102,97,108,115,101,32,108,101,110,32,114,101,97,100]:List UInt8),b.toNat<128:=by decide +kernel
  exact h2 b (List.mem_of_getElem? h)) (by decide)
 refine aG (Nat.le_refl _) (ahw (aA ?_))
 simp only[ac6,ux]
 refine aw ?_
 refine ae (hf _) ?_
 refine aw ?_
 exact dD .refl (.same ⟨⟨trivial,trivial,trivial,trivial,trivial,trivial,trivial,trivial,trivial,trivial,trivial,trivial⟩,trivial⟩)
set_option maxHeartbeats 4000000 in
theorem afX(l:List ByteArray)(ro:Option (List AV))(s:ByteArray)(hl:l.length≤1000000)(H:Y):D Tryz.prog 79 [.sc (.string s),.am 1 (strs l) ro] H (.ret (.sc (.bool (mT l s)))) H:=by
 refine aG (Nat.le_refl _) (ahC (aA ?_))
 simp only[ade,ux]
 refine Z fun L hL=>?_
 refine eQ @dM ?_
 refine hL _ _ ?_
 clear hL
 refine Z fun L hL=>?_
 refine eQ @dM ?_
 refine aZ (fun ts F=>∃k:Nat,(k≤l.length∧∀j,j<k→¬nV l j=s)∧F=H∧Fr (some (.sc (.string s))::some (.am 1 (strs l) ro)::none::none::some (.sc (.bool false))::some (.sc (.int .i64 k))::fg (iv [])) ts) (fun ts _=>l.length-(aM (ts.getD 5 .top)).toNat) ?_ ?_
 ·exact ⟨0,⟨Nat.zero_le _,fun j h=>absurd h (Nat.not_lt_zero _)⟩,rfl,by simp[Fr]⟩
 rintro ts F ⟨k,⟨hk,hp⟩,rfl,aX⟩ L2 bM
 obtain ⟨js,rfl⟩:=aX.opened
 clear aX
 by_cases hd:k<l.length
 ·have c1:(k:Int)<l.length:=by omega
  have hg:=Ap hd
  by_cases e:nV l k=s
  ·have hi:=Dz hd e
   refine df (ei c1 hg @dM e) ?_
   rw[hi]
   exact ⟨by omega,bL .refl⟩
  ·refine df (ei c1 hg @dM e) ?_
   refine ⟨by omega,bM _ _ ⟨k+1,⟨by omega,fun j hj=>?_⟩,rfl,by simp[Fr]⟩ (by simp[aM,mk];omega)⟩
   rcases Nat.lt_succ_iff_lt_or_eq.1 hj with h'|rfl
   ·exact hp j h'
   ·exact e
 ·have c1:¬(k:Int)<l.length:=by omega
  have hi:=xq fun j hj=>hp j (by omega)
  refine df (ak c1 @dM) ?_
  refine hL _ _ ?_
  clear hL
  refine fh ?_
  rw[hi]
  exact bL .refl
set_option maxHeartbeats 4000000 in
theorem Lh(s:ByteArray)(H:Y):D Tryz.prog 47 [.sc (.string s)] H (.ret (.sc (.bool (ja s)))) H:=by
 refine aG (Nat.le_refl _) (ahA (aA ?_))
 simp only[ada,ux]
 have hb:((s.data.getD (0:Int).toNat 0).toNat:Int)=fY s 0:=rfl
 have jP:∀k:Nat,((s.data.getD (k:Int).toNat 0).toNat:Int)=fY s k:=fun k=>rfl
 have Li:∀k:Nat,((s.data.getD k 0).toNat:Int)=fY s k:=fun k=>rfl
 refine Z fun L hL=>?_
 refine aw ?_
 refine hL _ _ ?_
 clear hL
 refine Z fun L hL=>?_
 by_cases c0:s=⟨#[]⟩
 ·subst c0
  refine aw ?_
  exact aq .refl rfl
 have z0:=Yw c0
 by_cases c1:(s.size:Int) > 24
 ·refine aI (ak c0 c1) ?_
  exact aq .refl (by unfold ja;simp;omega)
 cases c2:qT (fY s 0)
 ·refine aI (kZ c0 c1 hb jP Li) ?_
  refine ⟨by omega,ae (xu _ _) ?_⟩
  refine aI c2 ?_
  exact aq .refl (by simp[ja,c2])
 refine aI (kZ c0 c1 hb jP Li) ?_
 refine ⟨by omega,ae (xu _ _) ?_⟩
 refine aI c2 ?_
 refine ae (T6 _) ?_
 refine aI c2 ?_
 refine ae (afX qU _ s (by decide) _) ?_
 cases c3:mT qU s
 rotate_left
 ·refine aw ?_
  exact aq .refl (by simp[ja,c3])
 refine aw ?_
 refine hL _ _ ?_
 clear hL
 refine Z fun L hL=>?_
 refine aw ?_
 have hs:s.size≤24:=by omega
 have hN:ja s=GJ s:=by simp[ja,c2,c3,z0,hs]
 refine aZ (fun ts F=>∃k:Nat,(k≤s.size∧∀j,j<k→rB (fY s j)=true)∧F=H∧Fr (some (.sc (.string s))::none::some (.sc (.bool false))::some (.sc (.int .i64 k))::fg (bf [])) ts) (fun ts _=>s.size-(aM (ts.getD 3 .top)).toNat) ?_ ?_
 ·exact ⟨0,⟨Nat.zero_le _,fun j h=>absurd h (Nat.not_lt_zero _)⟩,rfl,by simp[Fr]⟩
 rintro ts F ⟨k,⟨hk,hp⟩,rfl,aX⟩ L2 bM
 obtain ⟨js,rfl⟩:=aX.opened
 clear aX
 by_cases hd:k<s.size
 ·have d1:(k:Int)<s.size:=by omega
  refine df (ei d1 hb jP Li) ?_
  refine ⟨by omega,ae (xu _ _) ?_⟩
  cases e1:qT (fY s k)
  ·refine aI (ei e1 hb jP Li) ?_
   refine ⟨by omega,ae (T5 _ _) ?_⟩
   cases e2:ve (fY s k)
   ·refine aw ?_
    exact aq .refl (by rw[hN,Rp hd (by simp[rB,e1,e2])])
   ·refine aw ?_
    refine bM _ _ ⟨k+1,⟨by omega,fun j hj=>?_⟩,rfl,by simp[Fr]⟩ (by simp[aM,mk];omega)
    rcases Nat.lt_succ_iff_lt_or_eq.1 hj with h'|rfl
    ·exact hp j h'
    ·simp[rB,e1,e2]
  ·refine aI e1 ?_
   refine bM _ _ ⟨k+1,⟨by omega,fun j hj=>?_⟩,rfl,by simp[Fr]⟩ (by simp[aM,mk];omega)
   rcases Nat.lt_succ_iff_lt_or_eq.1 hj with h'|rfl
   ·exact hp j h'
   ·simp[rB,e1]
 ·have d1:¬(k:Int)<s.size:=by omega
  refine df d1 ?_
  refine hL _ _ ?_
  clear hL
  refine fh ?_
  exact aq .refl (by rw[hN,Ro hd hp])
set_option maxHeartbeats 4000000 in
theorem Rq(s:ByteArray)(H:Y):D Tryz.prog 43 [.sc (.string s)] H (.ret (.sc (.bool (ja s)))) H:=by
 refine aG (Nat.le_refl _) (ahu (aA ?_))
 simp only[ac4,ux]
 have hb:((s.data.getD (0:Int).toNat 0).toNat:Int)=fY s 0:=rfl
 have jP:∀k:Nat,((s.data.getD (k:Int).toNat 0).toNat:Int)=fY s k:=fun k=>rfl
 have Li:∀k:Nat,((s.data.getD k 0).toNat:Int)=fY s k:=fun k=>rfl
 refine Z fun L hL=>?_
 refine aw ?_
 refine hL _ _ ?_
 clear hL
 refine Z fun L hL=>?_
 by_cases c0:s=⟨#[]⟩
 ·subst c0
  refine aw ?_
  exact aq .refl rfl
 have z0:=Yw c0
 by_cases c1:(s.size:Int) > 24
 ·refine aI (ak c0 c1) ?_
  exact aq .refl (by unfold ja;simp;omega)
 have oh:=GG (GH s 0) (GI s 0)
 cases c2:qT (fY s 0)
 ·refine aI (kZ c0 c1 hb jP Li) ?_
  refine ⟨by omega,ae (Av _ _) ?_⟩
  refine aI (ak oh c2) ?_
  exact aq .refl (by simp[ja,c2])
 refine aI (kZ c0 c1 hb jP Li) ?_
 refine ⟨by omega,ae (Av _ _) ?_⟩
 refine aI (ak oh c2) ?_
 refine ae (Lg _) ?_
 refine aI c2 ?_
 refine ae (y3 qU _ s (by decide) _) ?_
 cases c3:mT qU s
 rotate_left
 ·refine aw ?_
  exact aq .refl (by simp[ja,c3])
 refine aw ?_
 refine hL _ _ ?_
 clear hL
 refine Z fun L hL=>?_
 refine aw ?_
 have hs:s.size≤24:=by omega
 have hN:ja s=GJ s:=by simp[ja,c2,c3,z0,hs]
 refine aZ (fun ts F=>∃k:Nat,(k≤s.size∧∀j,j<k→rB (fY s j)=true)∧F=H∧Fr (some (.sc (.string s))::none::some (.sc (.bool false))::fg (dL (some (.sc (.int .i64 s.size))::some (.sc (.int .i64 k))::iv []))) ts) (fun ts _=>s.size-(aM (ts.getD 24 .top)).toNat) ?_ ?_
 ·exact ⟨0,⟨Nat.zero_le _,fun j h=>absurd h (Nat.not_lt_zero _)⟩,rfl,by simp[Fr]⟩
 rintro ts F ⟨k,⟨hk,hp⟩,rfl,aX⟩ L2 bM
 obtain ⟨js,rfl⟩:=aX.opened
 clear aX
 by_cases hd:k<s.size
 ·have d1:(k:Int)<s.size:=by omega
  have hw:=afW s k
  refine df (ei d1 hb jP Li) ?_
  refine ⟨by omega,ae (Yu _ _) ?_⟩
  rw[hw]
  cases e1:rB (fY s k)
  ·refine aw ?_
   exact aq .refl (by rw[hN,Rp hd e1])
  ·refine aw ?_
   refine bM _ _ ⟨k+1,⟨by omega,fun j hj=>?_⟩,rfl,by simp[Fr]⟩ (by simp[aM,mk];omega)
   rcases Nat.lt_succ_iff_lt_or_eq.1 hj with h'|rfl
   ·exact hp j h'
   ·exact e1
 ·have d1:¬(k:Int)<s.size:=by omega
  refine df d1 ?_
  refine hL _ _ ?_
  clear hL
  refine fh ?_
  exact aq .refl (by rw[hN,Ro hd hp])
def td(l:List ByteArray)(s:ByteArray):Bool:=!decide (s=⟨#[]⟩) && mT l s
def DB:List ByteArray:=[⟨#[45]⟩,⟨#[33]⟩]
def rC:List ByteArray:=[⟨#[124,124]⟩,⟨#[38,38]⟩,⟨#[61,61]⟩,⟨#[33,61]⟩,⟨#[60]⟩,⟨#[60,61]⟩,⟨#[62]⟩,⟨#[62,61]⟩,⟨#[43]⟩,⟨#[45]⟩,⟨#[42]⟩,⟨#[47]⟩,⟨#[37]⟩]
def k7(t:Nd):Bool :=
 if t.kind=20 then decide (t.text=⟨#[]⟩) && decide (t.num≥0)
 else if t.kind=21 then decide (t.text=⟨#[]⟩) && (decide (t.num=0)|| decide (t.num=1))
 else if ¬t.num=0 then false
 else if eM t.kind then ja t.text
 else if t.kind=23 then td DB t.text
 else if t.kind=24 then td rC t.text
 else decide (t.text=⟨#[]⟩)
theorem Lj(s:ByteArray)(l:List ByteArray)(hl:l.length≤1000000)(hf:∀H,D Tryz.prog 126 [.sc (.string s)] H (.ret (.am 1 (strs l) none)) H)(t:Nd)(ro:Option (List AV))(H:Y):D Tryz.prog 125 [.sc (.string s),.ptr 4 H.length 0 0] (some ⟨4,[dZ t ro],true,25⟩::H) (.ret (.sc (.bool (td l t.text)))) (some ⟨4,[dZ t ro],true,25⟩::H):=by
 refine aG (Nat.le_refl _) (afG (aA ?_))
 simp only[X8,ux]
 rw[aQ]
 obtain ⟨k,tx,n,kids⟩:=t
 simp only[Nd.kind,Nd.text,Nd.num,Nd.kids]
 refine Z fun L hL=>?_
 refine aw ?_
 refine hL _ _ ?_
 clear hL
 refine Z fun L hL=>?_
 by_cases c0:tx=⟨#[]⟩
 ·subst c0
  refine aw ?_
  refine hL _ _ ?_
  clear hL
  refine aw ?_
  exact aq .refl (by simp[td])
 ·refine aI c0 ?_
  refine aL (hf _) ?_
  refine aw ?_
  refine aL (y3 l none tx hl _) ?_
  refine aw ?_
  refine hL _ _ ?_
  clear hL
  refine aw ?_
  exact aq .refl (by simp[td,c0])
theorem Yx(H:Y):D Tryz.prog 126 [.sc (.string ⟨#[45,32,33]⟩)] H (.ret (.am 1 (strs DB) none)) H :=
 Aw _ DB (by decide +kernel) (by decide +kernel) (fun j b h=>by
  have h2:∀b∈([45,32,33]:List UInt8),b.toNat<128:=by decide +kernel
  exact h2 b (List.mem_of_getElem? h)) (by decide) H
theorem Yy(H:Y):D Tryz.prog 126 [.sc (.string ⟨#[124,124,32,38,38,32,61,61,32,33,61,32,60,32,60,61,32,62,32,62,61,32,43,32,45,32,42,32,47,32,37]⟩)] H (.ret (.am 1 (strs rC) none)) H :=
 Aw _ rC (by decide +kernel) (by decide +kernel) (fun j b h=>by
  have h2:∀b∈([124,124,32,38,38,32,61,61,32,33,61,32,60,32,60,61,32,62,32,62,61,32,43,32,45,32,42,32,47,32,37]:List UInt8),b.toNat<128:=by decide +kernel
  exact h2 b (List.mem_of_getElem? h)) (by decide) H
theorem ahF(n:Int):decide (n.fdiv (2 ^ min 1 IntKind.i64.bits)=0)=(decide (n=0)|| decide (n=1)):=by
 rw[show min 1 IntKind.i64.bits=1 from rfl,show (2 ^ 1:Int)=2 from rfl,Int.fdiv_eq_ediv_of_nonneg _ (by omega),Bool.eq_iff_iff]
 simp
 omega
theorem ab2(t:Nd)(ro:Option (List AV))(H:Y):D Tryz.prog 70 [dZ t ro] H (.ret (.sc (.bool (k7 t)))) H:=by
 have hA:=fun H=>Lj _ DB (by decide) Yx t ro H
 have hB:=fun H=>Lj _ rC (by decide) Yy t ro H
 have cl:cr Tryz.prog 125=true:=by kernel_rfl
 refine aG (Nat.le_refl _) (ahr (aA ?_))
 simp only[ac1,ux]
 rw[aQ] at *
 have hP:k7 t=k7 ⟨t.kind,t.text,t.num,t.kids⟩:=by rw[←t.eta]
 rw[hP]
 clear hP
 obtain ⟨k,tx,n,kids⟩:=t
 simp only[Nd.kind,Nd.text,Nd.num,Nd.kids] at hA hB ⊢
 refine Z fun L hL=>?_
 refine aw ?_
 refine hL _ _ ?_
 clear hL
 refine Z fun L hL=>?_
 simp -implicitDefEqProofs (maxSteps:=99999999) (disch:=first|omega|(simp only[vl];first|done|omega)) only[vu,cl,va,vg,vs,vw,vk,simprocAttr]
 refine hL _ _ ?_
 clear hL
 refine Z fun L hL=>?_
 by_cases Ll:k=20
 ·subst Ll
  by_cases c0:tx=⟨#[]⟩
  ·subst c0
   refine aw ?_
   exact aq (.cons .refl) (by simp[k7,Nd.kind,Nd.text,Nd.num])
  ·refine aI c0 ?_
   exact aq (.cons .refl) (by simp[k7,Nd.kind,Nd.text,Nd.num,c0])
 by_cases Lm:k=21
 ·subst Lm
  by_cases c0:tx=⟨#[]⟩
  ·subst c0
   refine aw ?_
   exact aq (.cons .refl) (by simp[k7,Nd.kind,Nd.text,Nd.num];exact ahF n)
  ·refine aI c0 ?_
   exact aq (.cons .refl) (by simp[k7,Nd.kind,Nd.text,Nd.num,c0])
 by_cases n0:n=0
 rotate_left
 ·refine aI (gq Ll Lm n0) ?_
  exact aq (.cons .refl) (by simp[k7,Nd.kind,Nd.text,Nd.num,Ll,Lm,n0])
 subst n0
 cases hn:eM k
 rotate_left
 ·refine aI (ak Ll Lm) ?_
  refine ae (Lc _ _) ?_
  rw[hn]
  refine aI (ak Ll Lm) ?_
  refine ae (Rq _ _) ?_
  refine aw ?_
  exact aq (.cons .refl) (by simp[k7,Nd.kind,Nd.text,Nd.num,Ll,Lm,hn])
 refine aI (ak Ll Lm) ?_
 refine ae (Lc _ _) ?_
 rw[hn]
 by_cases Pr:k=23
 ·subst Pr
  refine aw ?_
  refine ⟨cl,ae (hA _) ?_⟩
  refine aw ?_
  exact aq (.cons .refl) (by simp[k7,Nd.kind,Nd.text,Nd.num,hn])
 by_cases Ps:k=24
 ·subst Ps
  refine aw ?_
  refine ⟨cl,ae (hB _) ?_⟩
  refine aw ?_
  exact aq (.cons .refl) (by simp[k7,Nd.kind,Nd.text,Nd.num,hn])
 refine aI (ak Pr Ps) ?_
 refine hL _ _ ?_
 clear hL
 refine aw ?_
 exact aq (.cons .refl) (by rw[Bool.eq_iff_iff];simp[k7,Nd.kind,Nd.text,Nd.num,hn,Ll,Lm,Pr,Ps];exact ⟨fun h=>decide_eq_true h,of_decide_eq_true⟩)
def lJ(t:Nd):Bool :=
 if eM t.kind then ja t.text
 else if t.kind=23 then decide (t.text=⟨#[45]⟩)|| decide (t.text=⟨#[33]⟩)
 else if ¬t.kind=24 then decide (t.text=⟨#[]⟩)
 else mT rC t.text
set_option maxHeartbeats 4000000 in
theorem ab3(t:Nd)(ro:Option (List AV))(H:Y):D Tryz.prog 132 [dZ t ro] H (.ret (.sc (.bool (lJ t)))) H:=by
 refine aG (Nat.le_refl _) (afT (aA ?_))
 simp only[Yl,ux]
 rw[aQ] at *
 have hP:lJ t=lJ ⟨t.kind,t.text,t.num,t.kids⟩:=by rw[←t.eta]
 rw[hP]
 clear hP
 obtain ⟨k,tx,n,kids⟩:=t
 simp only[Nd.kind,Nd.text,Nd.num,Nd.kids]
 refine Z fun L hL=>?_
 refine aw ?_
 refine hL _ _ ?_
 clear hL
 refine Z fun L hL=>?_
 cases hn:eM k
 rotate_left
 ·refine aw ?_
  refine ae (GF _ _) ?_
  rw[hn]
  refine aw ?_
  refine ae (Lh _ _) ?_
  refine aw ?_
  exact aq (.cons .refl) (by simp[lJ,Nd.kind,Nd.text,hn])
 refine aw ?_
 refine ae (GF _ _) ?_
 rw[hn]
 refine aw ?_
 refine hL _ _ ?_
 clear hL
 refine Z fun L hL=>?_
 by_cases Pr:k=23
 ·subst Pr
  by_cases c0:tx=⟨#[45]⟩
  ·subst c0
   refine aw ?_
   exact aq (.cons .refl) (by simp[lJ,Nd.kind,Nd.text,hn])
  by_cases c1:tx=⟨#[33]⟩
  ·subst c1
   refine aI c0 ?_
   exact aq (.cons .refl) (by simp[lJ,Nd.kind,Nd.text,hn])
  ·refine aI (ak c0 c1) ?_
   exact aq (.cons .refl) (by simp[lJ,Nd.kind,Nd.text,hn,c0,c1])
 refine aI Pr ?_
 refine hL _ _ ?_
 clear hL
 refine Z fun L hL=>?_
 by_cases Ps:k=24
 rotate_left
 ·refine aI Ps ?_
  exact aq (.cons .refl) (by rw[Bool.eq_iff_iff];simp[lJ,Nd.kind,Nd.text,hn,Pr,Ps];exact ⟨fun h=>decide_eq_true h,of_decide_eq_true⟩)
 subst Ps
 refine aw ?_
 refine hL _ _ ?_
 clear hL
 refine Z fun L hL=>?_
 refine aw ?_
 refine hL _ _ ?_
 clear hL
 refine Z fun L hL=>?_
 have ahG : [AV.sc (.string ⟨#[124,124]⟩),.sc (.string ⟨#[38,38]⟩),.sc (.string ⟨#[61,61]⟩),.sc (.string ⟨#[33,61]⟩),.sc (.string ⟨#[60]⟩),.sc (.string ⟨#[60,61]⟩),.sc (.string ⟨#[62]⟩),.sc (.string ⟨#[62,61]⟩),.sc (.string ⟨#[43]⟩),.sc (.string ⟨#[45]⟩),.sc (.string ⟨#[42]⟩),.sc (.string ⟨#[47]⟩),.sc (.string ⟨#[37]⟩)]=strs rC:=rfl
 have hq:lJ ⟨24,tx,n,kids⟩=mT rC tx:=by simp[lJ,Nd.kind,Nd.text,hn]
 rw[ahG,hq]
 have hlen:rC.length=13:=rfl
 generalize rC=l at *
 refine aw ?_
 refine aZ (fun ts F=>∃k:Nat,(k≤l.length∧∀j,j<k→¬nV l j=tx)∧F=some ⟨4,[.agg [.sc (.int .u8 24),.sc (.string tx),.sc (.int .i64 n),.am 4 (bh kids) ro]],true,25⟩::H∧Fr (none::some (.ptr 4 H.length 0 0)::some (.sc (.bool false))::some (.am 1 (strs l) (some []))::some (.sc (.int .i64 k))::none::fg (bf [])) ts) (fun ts _=>l.length-(aM (ts.getD 4 .top)).toNat) ?_ ?_
 ·exact ⟨0,⟨Nat.zero_le _,fun j h=>absurd h (Nat.not_lt_zero _)⟩,rfl,by simp[Fr]⟩
 rintro ts F ⟨k,⟨hk,hp⟩,rfl,aX⟩ L2 bM
 obtain ⟨js,rfl⟩:=aX.opened
 clear aX
 by_cases hd:k<l.length
 ·have c1:(k:Int)<l.length:=by omega
  have hg:=Ap hd
  by_cases e:tx=nV l k
  ·have hi:=Dz hd e.symm
   refine df (ei c1 hg @dM e.symm) ?_
   rw[hi]
   exact ⟨by omega,bL (.cons .refl)⟩
  ·refine df (ei c1 hg @dM e) ?_
   refine ⟨by omega,bM _ _ ⟨k+1,⟨by omega,fun j hj=>?_⟩,rfl,by simp[Fr]⟩ (by simp[aM,mk];omega)⟩
   rcases Nat.lt_succ_iff_lt_or_eq.1 hj with h'|rfl
   ·exact hp j h'
   ·exact fun h=>e h.symm
 ·have c1:¬(k:Int)<l.length:=by omega
  have hi:=xq fun j hj=>hp j (by omega)
  refine df (ak c1 @dM) ?_
  refine hL _ _ ?_
  clear hL
  refine fh ?_
  rw[hq,hi]
  exact bL (.cons .refl)
theorem ams(l:List ByteArray)(s:ByteArray)(h:mT l ⟨#[]⟩=false):td l s=mT l s:=by
 unfold td
 by_cases e:s=⟨#[]⟩
 ·rw[e,h];simp
 ·simp[e]
def Ln(t:Nd):Bool:=(mw t.kind).isSome && k7 t && ((mS t.kind).2|| decide (t.kids.length=(mS t.kind).1.length))
def jE(k:Int):Bool:=(decide (k≥1) && decide (k≤12))|| eY k
def nX(k n:Int):Bool:=decide (n=0)|| (decide (k=20) && decide (n > 0))|| (decide (k=21) && decide (n=1))
def qc(t:Nd):Bool:=jE t.kind && nX t.kind t.num && lJ t && (decide (eZ t.kind<0)|| decide ((t.kids.length:Int)=eZ t.kind))
theorem GK(t:Nd):Ln t=qc t:=by
 obtain ⟨k,s,n,l⟩:=t
 unfold Ln qc
 simp only[Nd.kind,Nd.kids,Nd.num]
 rcases vc k with ⟨h,hn⟩|h
 ·have g:∀m:Int,m∈jA.map (·.1)→k≠m:=fun m hm=>by
   obtain ⟨x,hx,rfl⟩:=List.mem_map.1 hm
   exact hn x hx
  have e:jE k=false:=by
   have g1:=fun m (hm:m∈jA.map (·.1))=>g m hm
   simp only[jA,List.map_cons,List.map_nil] at g1
   have:=g1 1 (by decide);have:=g1 2 (by decide);have:=g1 3 (by decide);have:=g1 4 (by decide);have:=g1 5 (by decide);have:=g1 6 (by decide);have:=g1 7 (by decide);have:=g1 8 (by decide);have:=g1 9 (by decide);have:=g1 10 (by decide);have:=g1 11 (by decide);have:=g1 12 (by decide);have:=g1 20 (by decide);have:=g1 21 (by decide);have:=g1 22 (by decide);have:=g1 23 (by decide);have:=g1 24 (by decide);have:=g1 25 (by decide);have:=g1 26 (by decide);have:=g1 27 (by decide);have:=g1 28 (by decide);have:=g1 29 (by decide)
   unfold jE eY
   rw[←Bool.not_eq_true]
   simp
   omega
  rw[h,e]
  simp
 ·simp only[jA,List.map_cons,List.map_nil,List.mem_cons,List.not_mem_nil,or_false] at h
  have q1:decide ((l.length:Int)=1)=decide (l.length=1):=by rw[Bool.eq_iff_iff];simp;omega
  have q2:decide ((l.length:Int)=2)=decide (l.length=2):=by rw[Bool.eq_iff_iff];simp;omega
  have q3:decide ((l.length:Int)=3)=decide (l.length=3):=by rw[Bool.eq_iff_iff];simp;omega
  have q0:(decide (n=0)|| decide (0<n))=decide (0≤n):=by rw[Bool.eq_iff_iff];simp;omega
  have e1:=ams DB s (by decide +kernel)
  have e2:=ams rC s (by decide +kernel)
  have e3:mT DB s=(decide (s=⟨#[45]⟩)|| decide (s=⟨#[33]⟩)):=by
   simp[mT,DB,eq_comm]
  rw[e3] at e1
  rcases h with rfl|rfl|rfl|rfl|rfl|rfl|rfl|rfl|rfl|rfl|rfl|rfl|rfl|rfl|rfl|rfl|rfl|rfl|rfl|rfl|rfl|rfl<;>simp[mS,mw,jA,kR,jE,eY,nX,eZ,k7,lJ,Nd.kind,Nd.text,Nd.num,eM,e1,e2]
  all_goals first
   | (simp only[q1,q2,q3];done)
   | rfl
   | (simp only[q0];ac_rfl)
   | (simp only[q1,q2,q3];rfl)
   | ac_rfl
theorem Over.len{H G:Y}(h:Over H G):H.length≤G.length:=by
 obtain ⟨A,rfl⟩:=h.split
 simp
theorem Over.find{H G:Y}(h:Over H G){i:Nat}(hi:i<H.length):Y.find G i=Y.find H i:=by
 obtain ⟨A,rfl⟩:=h.split
 exact Y.bF hi
theorem Over.trans{A B C:Y}(h:Over A B)(k:Over B C):Over A C:=by
 induction k with
 |refl=>exact h
 |cons _ ih=>exact .cons ih
theorem Nd.fZ(l:List Nd):l.length≤Nd.ay l:=by
 induction l with
 |nil=>simp[Nd.ay]
 |cons x r ih=>have:=x.size_pos;simp only[List.length_cons,Nd.ay];omega
theorem Nd.Lo(t:Nd):t.kids.length<t.size:=by
 have:=Nd.fZ t.kids
 rw[Nd.size_eq]
 omega
def wO(k:Int)(l:List Nd):Bool:=!decide (k=7)|| !decide ((aE l 0).kind=26)|| decide ((aE (aE l 0).kids 0).kind=22)
mutual
def bH:Nd→Nat→Bool
 |⟨k,s,n,l⟩,m=>decide (1≤m) && qc ⟨k,s,n,l⟩ && my k l 0 (m-1) && wO k l
def my:Int→List Nd→Nat→Nat→Bool
 |_,[],_,_=>true
 |p,t::r,a,m=>eA p t.kind a && bH t m && my p r (a+1) m
end
theorem nu(t:Nd)(m:Nat):bH t m=(decide (1≤m) && qc t && my t.kind t.kids 0 (m-1) && wO t.kind t.kids):=by
 cases t
 simp only[bH,Nd.kind,Nd.kids]
theorem qV(p:Int)(m:Nat):∀(l:List Nd)(a:Nat),my p l a m=true↔∀j,j<l.length→eA p (aE l j).kind (a+j:Nat)=true∧bH (aE l j) m=true
 |[],a=>by simp[my]
 |t::r,a=>by
  have ih:=qV p m r (a+1)
  simp only[my,Bool.and_eq_true,ih]
  constructor
  ·rintro ⟨⟨h1,h2⟩,h3⟩ j hj
   cases j with
   |zero=>exact ⟨h1,h2⟩
   |succ j =>
    have:=h3 j (by simpa using hj)
    rw[show a+(j+1)=a+1+j by omega]
    simpa [aE] using this
  ·intro h
   refine ⟨h 0 (by simp),fun j hj=>?_⟩
   have:=h (j+1) (by simpa using hj)
   rw[show a+(j+1)=a+1+j by omega] at this
   simpa [aE] using this
theorem wg{p:Int}{l:List Nd}{m k:Nat}(hk:k<l.length)(h:eA p (aE l k).kind k=false∨bH (aE l k) m=false):my p l 0 m=false:=by
 cases e:my p l 0 m
 ·rfl
 ·have:=(qV p m l 0).1 e k hk
  rw[Nat.zero_add] at this
  rcases h with h|h
  ·rw[h] at this;exact absurd this.1 (by simp)
  ·rw[h] at this;exact absurd this.2 (by simp)
theorem GL{p:Int}{l:List Nd}{m k:Nat}(hk:¬k<l.length)(h:∀j,j<k→eA p (aE l j).kind j=true∧bH (aE l j) m=true):my p l 0 m=true :=
 (qV p m l 0).2 fun j hj=>by rw[Nat.zero_add];exact h j (by omega)
theorem Lp{t:Nd}(hk:t.kind=7)(h:qc t=true):t.kids.length=2:=by
 simp only[qc,hk,Bool.and_eq_true] at h
 have:=h.2
 simp[eZ] at this
 omega
theorem DC{t:Nd}{m:Nat}(hk:t.kind=26)(h:bH t m=true):t.kids.length=2:=by
 rw[nu] at h
 simp only[Bool.and_eq_true] at h
 have h:=h.1.1.2
 simp only[qc,hk,Bool.and_eq_true] at h
 have:=h.2
 simp[eZ] at this
 omega
theorem GM{k:Int}(h:eA 7 k 0=true):k=22∨k=26:=by
 simp[eA,eZ] at h
 omega
theorem T7(t:Nd):∀(ro:Option (List AV))(m:Nat)(d:Int)(hd:d=41-m)(Yz:m≤41)(hz:t.size≤1000000)(id:Nat)(H:Y)(hf:Y.find H id=some ⟨1,[.fn (.func 68) [] [.ptr 1 id 0 0]],true,113⟩),D Tryz.prog 68 [dZ t ro,.sc (.int .i64 d),.ptr 1 id 0 0] H (.ret (.sc (.bool (bH t m)))) H:=by
 induction t using Nd.ind with
 |_ t ih =>
  intro ro m d hd Yz hz id H hf
  have mO:=Nd.Lo t
  have hid:id<H.length:=Y.ax hf
  have cl:cr Tryz.prog 68=true:=by kernel_rfl
  have hP:=nu t m
  rw[←GK] at hP
  unfold Ln at hP
  have CX:∀H,D Tryz.prog 70 [.agg [.sc (.int .u8 t.kind),.sc (.string t.text),.sc (.int .i64 t.num),.am 4 (bh t.kids) ro]] H (.ret (.sc (.bool (k7 t)))) H:=fun H=>ab2 t ro H
  have gK:∀h:t.kind=7,qc t=true→t.kids.length=2:=fun h h2=>Lp h h2
  have hls:Ln t=qc t:=GK t
  unfold Ln at hls
  refine aG (Nat.le_refl _) (ahq (aA ?_))
  simp only[ac0,ux]
  rw[aQ]
  have hr:=Rn t.kind
  unfold K8 at hr
  have hall:=GD (p:=t.kind)
  generalize (mw t.kind).isSome=s at *
  obtain ⟨l,b,hG⟩:∃l b,mS t.kind=(l,b):=⟨_,_,rfl⟩
  rw[hG] at hr hP hall hls
  simp only at hr hP hall hls
  obtain ⟨k1,k2,k3,k4,k5,k6⟩:=Lb l
  have hY:∀H F:Y,Over H F→bH t m=false→eB H (.ret (.sc (.bool false))) F (.ret (.sc (.bool (bH t m)))) H:=fun H F h e=>by rw[e];exact bL h
  refine Z fun L hL=>?_
  refine aw ?_
  refine hL _ _ ?_
  clear hL
  refine Z fun L hL=>?_
  refine aw ?_
  refine ae (hr _) ?_
  refine aI (ei k3 k4 k5 k6) ?_
  refine hL _ _ ?_
  clear hL
  refine Z fun L hL=>?_
  cases s
  ·refine aw ?_
   exact hY _ _ (.cons (.cons .refl)) (by rw[hP];simp)
  by_cases c1:d > 40
  ·refine aI c1 ?_
   exact hY _ _ (.cons (.cons .refl)) (by rw[hP];simp;omega)
  refine aI c1 ?_
  refine ae (CX _) ?_
  cases hs:k7 t
  ·refine aw ?_
   exact hY _ _ (.cons (.cons .refl)) (by rw[hP];simp[hs])
  by_cases c2:b=false∧¬t.kids.length=l.length
  ·obtain ⟨rfl,c2⟩:=c2
   have c3:¬(t.kids.length:Int)=l.length:=by omega
   refine aI (Ds c3 k1 k2 k3 k4 k5 k6 @aH) ?_
   exact hY _ _ (.cons (.cons .refl)) (by rw[hP];simp[c2])
  have YA:qc t=true:=by
   rw[←hls,hs]
   cases b
   ·simp only[Bool.true_and,Bool.false_or,decide_eq_true_eq]
    exact Decidable.byContradiction fun h=>c2 ⟨rfl,h⟩
   ·rfl
  have hm:1≤m:=by omega
  have DD:bH t m=(my t.kind t.kids 0 (m-1) && wO t.kind t.kids):=by
   rw[nu,YA]
   simp[hm]
  clear hP
  suffices key:∀ts,Fr (none::some (.sc (.int .i64 d))::some (.ptr 1 id 0 0)::some (.ptr 4 H.length 0 0)::none::some (.sc (.bool false))::none::dL (bf (bf []))) ts→L ts (some ⟨2,[.agg [yY l,.sc (.bool b)]],true,116⟩::some ⟨4,[.agg [.sc (.int .u8 t.kind),.sc (.string t.text),.sc (.int .i64 t.num),.am 4 (bh t.kids) ro]],true,25⟩::H) by
   cases b
   ·have c3:t.kids.length=l.length:=Decidable.byContradiction fun h=>c2 ⟨rfl,h⟩
    have c4:(t.kids.length:Int)=l.length:=by omega
    refine aI (Ds c4 k1 k2 k3 k4 k5 k6 @aH) ?_
    exact key _ (by simp[Fr])
   ·refine aI (mN k1 k2 k3 k4 k5 k6 @aH) ?_
    exact key _ (by simp[Fr])
  intro ts aX
  obtain ⟨js,rfl⟩:=aX.opened
  clear aX
  refine hL _ _ ?_
  clear hL
  refine Z fun L hL=>?_
  refine df @aH ?_
  have hnone:dZ=fun t ro=>AV.agg [.sc (.int .u8 t.kind),.sc (.string t.text),.sc (.int .i64 t.num),.am 4 (bh t.kids) ro]:=rfl
  refine aZ (fun ts F=>∃k:Nat,(k≤t.kids.length∧∀j,j<k→eA t.kind (aE t.kids j).kind j=true∧bH (aE t.kids j) (m-1)=true)∧(Over H F∧H.length<F.length∧Y.find F H.length=some ⟨4,[.agg [.sc (.int .u8 t.kind),.sc (.string t.text),.sc (.int .i64 t.num),.am 4 (bh t.kids) ro]],true,25⟩∧Y.find F id=some ⟨1,[.fn (.func 68) [] [.ptr 1 id 0 0]],true,113⟩)∧Fr (none::some (.sc (.int .i64 d))::some (.ptr 1 id 0 0)::some (.ptr 4 H.length 0 0)::none::some (.sc (.bool false))::fg (bf (some (.am 4 (bh t.kids) ro)::some (.sc (.int .i64 t.kids.length))::some (.sc (.int .i64 k))::none::none::iv (bf [])))) ts) (fun ts _=>t.kids.length-(aM (ts.getD 44 .top)).toNat) ?_ ?_
  ·refine ⟨0,⟨Nat.zero_le _,fun j h=>absurd h (Nat.not_lt_zero _)⟩,⟨.cons (.cons .refl),by simp only[List.length_cons];omega,?_,?_⟩,by simp[Fr]⟩
   ·rw[ai (by simp),aJ rfl]
   ·rw[ai (by simp;omega),ai hid,hf]
  rintro ts F ⟨k,⟨hk,hp⟩,⟨f1,f2,f3,f4⟩,aX⟩ L2 bM
  obtain ⟨js,rfl⟩:=aX.opened
  clear aX
  by_cases DE:k<t.kids.length
  ·have d1:(k:Int)<t.kids.length:=by omega
   have hg:=dG DE
   have dW:=eJ DE
   refine df (kZ d1 hg f3 f4 @aH) ?_
   refine ⟨by omega,ae (ab1 _ _ _ _) ?_⟩
   rw[Pk]
   cases e1:eA t.kind (aE t.kids k).kind k
   ·refine aw ?_
    exact hY _ _ (.cons f1) (by rw[DD,wg DE (.inl e1)];rfl)
   refine aI (ak f3 f4) ?_
   refine ⟨cl,ae (ih _ dW none (m-1) _ (by omega) (by omega) (by have:=Nd.pg dW;omega) id _ (by rw[ai (by omega),f4])) ?_⟩
   cases e2:bH (aE t.kids k) (m-1)
   ·refine aw ?_
    exact hY _ _ (.cons f1) (by rw[DD,wg DE (.inr e2)];rfl)
   refine aw ?_
   refine bM _ _ ⟨k+1,⟨by omega,fun j hj=>?_⟩,⟨.cons f1,by simp;omega,by rw[ai (by omega),f3],by rw[ai (by omega),f4]⟩,by simp[Fr]⟩ (by simp[aM,mk];omega)
   rcases Nat.lt_succ_iff_lt_or_eq.1 hj with h'|rfl
   ·exact hp j h'
   ·exact ⟨e1,e2⟩
  ·have d1:¬(k:Int)<t.kids.length:=by omega
   have hR:=GL DE hp
   refine df (ak d1 f3) ?_
   refine hL _ _ ?_
   clear hL
   by_cases g7:t.kind=7
   ·have h2:=gK g7 YA
    have fx:¬k<2:=by omega
    have y5:=dG (l:=t.kids) (k:=0) (by omega)
    have rR:=hp 0 (by omega)
    rw[g7] at rR
    have h0:(0:Int)<(2:Nat):=by omega
    by_cases g22:(aE t.kids 0).kind=22
    ·rw[g22] at y5
     refine aI (yR f3 g7 y5 @aH h2 h0) ?_
     exact aq f1 (by rw[DD,hR,g7];simp[wO,g22])
    ·have Pt:(aE t.kids 0).kind=26:=by
      rcases GM rR.1 with h|h
      ·exact absurd h g22
      ·exact h
     have i2:=DC Pt rR.2
     have xv:=dG (l:=(aE t.kids 0).kids) (k:=0) (by omega)
     rw[Pt] at y5
     refine aI (Ds f3 g7 y5 xv @aH h2 i2 h0) ?_
     exact aq f1 (by rw[DD,hR,g7];simp[wO,Pt])
   ·refine aI (ak f3 g7) ?_
    exact aq f1 (by rw[DD,hR];simp[wO,g7])
theorem GN(t:Nd)(ro:Option (List AV))(hz:t.size≤1000000)(H:Y):D Tryz.prog 40 [dZ t ro] H (.ret (.sc (.bool (bH t 40)))) H:=by
 have cl:cr Tryz.prog 68=true:=by kernel_rfl
 have hr:=T7 t ro 40 1 rfl (by omega) hz
 rw[aQ] at hr ⊢
 refine aG (Nat.le_refl _) (ahp (aA ?_))
 simp only[acZ,ux]
 refine Z fun L hL=>?_
 refine aw ?_
 refine hL _ _ ?_
 clear hL
 refine Z fun L hL=>?_
 refine aw ?_
 refine hL _ _ ?_
 clear hL
 refine Z fun L hL=>?_
 simp -implicitDefEqProofs (maxSteps:=99999999) (disch:=first|omega|(simp only[vl];first|done|omega)) only[vu,cl,va,vg,vs,vw,vk,simprocAttr]
 refine hL _ _ ?_
 clear hL
 refine Z fun L hL=>?_
 refine aw ?_
 refine ⟨cl,ae (hr (H.length+1) _ (aJ (by simp))) ?_⟩
 refine aw ?_
 refine hL _ _ ?_
 clear hL
 refine aw ?_
 exact aq (.cons (.cons .refl)) rfl
section
variable {α:Type}
def mE(f:α→AV)(M:List (ByteArray×α)):List AV:=M.map fun p=>.aO [.sc (.string p.1),f p.2]
theorem DF(f:α→AV)(M:List (ByteArray×α)):(mE f M).length=M.length:=by simp[mE]
theorem afY(f:α→AV)(M:List (ByteArray×α)):fM none (mE f M):=fun x hx=>by
 obtain ⟨p,_,rfl⟩:=List.mem_map.1 hx
 rfl
theorem ab4(f:α→AV)(M:List (ByteArray×α)):fM none (mE f M)=True:=by simp[afY]
def Lq(k:ByteArray):List (ByteArray×α)→Nat
 |[]=>0
 |p::r=>if k=p.1 then 0 else Lq k r+1
def cL(k:ByteArray):List (ByteArray×α)→Option α
 |[]=>none
 |p::r=>if k=p.1 then some p.2 else cL k r
def fD(k:ByteArray)(a:α):List (ByteArray×α)→List (ByteArray×α)
 |[]=>[(k,a)]
 |p::r=>if k=p.1 then (k,a)::r else p::fD k a r
theorem DG{f:α→AV}{k:ByteArray}:∀{M:List (ByteArray×α)},fy (.string k) (mE f M)=Lq k M
 |[]=>rfl
 |p::r=>by
  show (if sK _ _=true then 0 else fy _ (mE f r)+1)=_
  rw[DG (M:=r)]
  simp[sK,oo,Lq]
theorem Lr{f:α→AV}{k:ByteArray}{z:AV}:∀{M:List (ByteArray×α)},nR (.string k) z (mE f M)=((cL k M).map f).getD z
 |[]=>rfl
 |p::r=>by
  have ih:=Lr (f:=f) (k:=k) (z:=z) (M:=r)
  unfold nR at ih ⊢
  rw[DG,DF] at ih ⊢
  unfold Lq cL
  by_cases h:k=p.1
  ·simp[h,mE,VS]
  ·simp only[if_neg h,List.length_cons,Nat.add_lt_add_iff_right] at ih ⊢
   rw[←ih]
   rfl
theorem Ls{f:α→AV}{k:ByteArray}{a:α}:∀{M:List (ByteArray×α)},qK (.string k) (f a) (mE f M)=mE f (fD k a M)
 |[]=>rfl
 |p::r=>by
  have ih:=Ls (f:=f) (k:=k) (a:=a) (M:=r)
  unfold qK at ih ⊢
  rw[DG,DF] at ih ⊢
  unfold Lq fD
  by_cases h:k=p.1
  ·simp[h,mE]
  ·simp only[if_neg h,List.length_cons,Nat.add_lt_add_iff_right]
   split
   ·rename_i hlt
    rw[if_pos hlt] at ih
    show _::(mE f r).set _ _=_::mE f _
    rw[←ih]
   ·rename_i hlt
    rw[if_neg hlt] at ih
    show _::(mE f r++_)=_::mE f _
    rw[←ih]
theorem ju{k k':ByteArray}{a:α}:∀{M:List (ByteArray×α)},cL k' (fD k a M)=if k'=k then some a else cL k' M
 |[]=>by by_cases h:k'=k<;>simp[fD,cL,h]
 |p::r=>by
  have ih:=ju (k:=k) (k':=k') (a:=a) (M:=r)
  unfold fD
  by_cases h:k=p.1
  ·by_cases h2:k'=k
   ·simp[h,cL,h2]
   ·have h3:¬k'=p.1:=fun e=>h2 (e.trans h.symm)
    simp[h,cL,h2,h3,if_neg]
  ·rw[if_neg h]
   by_cases h2:k'=p.1
   ·have h3:¬k'=k:=fun e=>h (e.symm.trans h2)
    simp only[cL,if_pos h2,if_neg h3]
   ·simp only[cL,if_neg h2,ih]
end
structure Bd where
 path:List Int
 name:ByteArray
 cZ:List (List Int)
 many:Int
def Bd.none:Bd:=⟨[],⟨#[]⟩,[],0⟩
def bq(bs:List Bd)(i:Nat):Bd:=bs.getD i Bd.none
abbrev bn:=List (ByteArray×Nat)
structure WS where
 bs:List Bd
 all:List Nat
 at_:Nat
abbrev jU:=Int×Nat
def dx(env:List bn)(ws:WS)(s:ByteArray)(p:List Int)(at_:Nat):Except jU (List bn×WS) :=
 match cL s (env.headD []) with
 |some _=>.error (110,at_)
 |none=>.ok (fD s ws.bs.length (env.headD [])::env.tail,{ ws with bs:=ws.bs++[⟨p,s,[],0⟩],all:=ws.all++[ws.bs.length] })
def cF:List bn→ByteArray→Option Nat
 |[],_=>none
 |f::r,x=>match cL x f with
  |some i=>some i
  |none=>cF r x
def jV(env:List bn)(ws:WS)(k:Int)(s:ByteArray)(n:Nat)(p:List Int)(at_:Nat):Except jU WS :=
 match cF env s with
 |none=>.error (111,at_)
 |some i=>if k=25∧¬(bq ws.bs i).many=n then .error (112,at_) else .ok { ws with bs:=ws.bs.set i { bq ws.bs i with cZ:=(bq ws.bs i).cZ++[p] } }
mutual
def bR(fu:bn):Nd→List bn→WS→List Int→Except jU (List bn×WS)
 |⟨k,s,_,l⟩,env,ws,p =>
  if k=2 then
   match bJ fu l ([]::env) { ws with at_:=ws.at_+1,all:=ws.all++[(cL s fu).getD 0] } p 0 with
   |.error e=>.error e
   |.ok r=>.ok (env,r.2)
  else if k=4 then
   match dx env { ws with at_:=ws.at_+1 } s p ws.at_ with
   |.error e=>.error e
   |.ok r=>bJ fu l r.1 r.2 p 0
  else if k=5 then
   match bJ fu l ([]::env) { ws with at_:=ws.at_+1 } p 0 with
   |.error e=>.error e
   |.ok r=>.ok (env,r.2)
  else if k=6 then
   if (cL s (env.headD [])).isSome=true then .error (110,ws.at_)
   else match bJ fu l env { ws with at_:=ws.at_+1 } p 0 with
    |.error e=>.error e
    |.ok r=>dx r.1 r.2 s p ws.at_
  else if k=22 then
   match jV env { ws with at_:=ws.at_+1 } k s l.length p ws.at_ with
   |.error e=>.error e
   |.ok w=>bJ fu l env w p 0
  else if k=25 then
   match jV [fu] { ws with at_:=ws.at_+1 } k s l.length p ws.at_ with
   |.error e=>.error e
   |.ok w=>bJ fu l env w p 0
  else bJ fu l env { ws with at_:=ws.at_+1 } p 0
def bJ(fu:bn):List Nd→List bn→WS→List Int→Nat→Except jU (List bn×WS)
 |[],env,ws,_,_=>.ok (env,ws)
 |t::r,env,ws,p,i =>
  match bR fu t env ws (p++[(i:Int)]) with
  |.error e=>.error e
  |.ok q=>bJ fu r q.1 q.2 p (i+1)
end
def gE:List Nd→Nat→bn→WS→Nat→Except jU (bn×WS)
 |[],_,fu,ws,_=>.ok (fu,ws)
 |f::r,k,fu,ws,at_ =>
  match dx [fu] ws f.text [(k:Int)] at_ with
  |.error e=>.error e
  |.ok q=>gE r (k+1) (q.1.headD []) { q.2 with bs:=q.2.bs.set ws.bs.length { bq q.2.bs ws.bs.length with many:=(aE f.kids 0).kids.length } } (at_+f.size)
def k8(n:Nd):Except jU WS :=
 match gE n.kids 0 [] ⟨[],[],0⟩ 1 with
 |.error e=>.error e
 |.ok q=>match bR q.1 n [[]] { q.2 with all:=[] } [] with
  |.error e=>.error e
  |.ok r=>.ok r.2
def jb(n:Nd):jU:=if n.kind=1∧bH n 40=true then (match k8 n with
 |.error e=>e
 | .ok _=>(0,0)) else (4,0)
abbrev kz:=List Int×ByteArray×List (List Int)
def bQ(n:Nd):List kz:=if (jb n).1=0 then (match k8 n with
 |.error _=>[]
 | .ok ws=>ws.all.map fun j=>((bq ws.bs j).path,(bq ws.bs j).name,(bq ws.bs j).cZ)) else []
structure Pl where
 n:Nd
 p:List Int
mutual
def bI:Nd→List Int→List Pl
 |⟨k,s,m,l⟩,p=>⟨⟨k,s,m,l⟩,p⟩::bZ l p 0
def bZ:List Nd→List Int→Nat→List Pl
 |[],_,_=>[]
 |t::r,p,i=>bI t (p++[(i:Int)])++bZ r p (i+1)
end
theorem cR(t:Nd)(p:List Int):bI t p=⟨t,p⟩::bZ t.kids p 0:=by cases t;simp[bI,Nd.kids]
def jk(p w:List Int):Bool:=decide (w.length≤p.length) && decide (p.take w.length=w)
def cM(b:Pl)(q:List Int):Bool:=if b.n.kind=4 then jk q (b.p.take (b.p.length-2)++[1]) else decide (b.p.length≤q.length) && (jk q (b.p.take (b.p.length-1)) && decide (q.getD (b.p.length-1) 0 > b.p.getD (b.p.length-1) 0))
def fH(b:Pl):Bool:=decide (b.n.kind=4)|| decide (b.n.kind=6)
def gj(b:Pl):Bool:=decide (b.n.kind=22)|| decide (b.n.kind=25)
def jW(x:ByteArray)(q:List Int):List Pl→Nat→Int→Int
 |[],_,f=>f
 |b::r,i,f=>jW x q r (i+1) (if b.n.text=x∧fH b=true∧cM b q=true then i else f)
def iA(x:ByteArray):List Pl→Nat→Int→Int
 |[],_,f=>f
 |b::r,i,f=>iA x r (i+1) (if b.n.text=x∧b.n.kind=2∧f<0 then i else f)
def bW(l:List Pl)(u:Pl):Int:=if u.n.kind=25 then iA u.n.text l 0 (-1) else jW u.n.text u.p l 0 (-1)
def au(l:List Pl)(i:Nat):Pl:=l.getD i ⟨Nd.none,[]⟩
def twin(a b:Pl):Bool:=decide (a.n.kind=b.n.kind) && (decide (a.n.text=b.n.text) && (decide (a.p.length=b.p.length) && jk a.p (b.p.take (b.p.length-1))))
def dm(l:List Pl)(i:Nat):Bool:=(l.take i).any fun a=>twin a (au l i)
def eD(l:List Pl)(i:Nat):Option jU:=if (au l i).n.kind=2∧dm l i=true then some (110,i) else none
def cN(l:List Pl)(i:Nat):Option jU :=
 if fH (au l i)=true∧dm l i=true then some (110,i)
 else if gj (au l i)=false then none
 else if bW l (au l i)<0 then some (111,i)
 else if (au l i).n.kind=25∧¬(aE (au l (bW l (au l i)).toNat).n.kids 0).kids.length=(au l i).n.kids.length then some (112,i)
 else none
def ph(g:Nat→Option jU):Nat→Nat→Option jU
 |0,_=>none
 |n+1,i=>match g i with
  |some e=>some e
  |none=>ph g n (i+1)
def jF(l:List Pl):jU:=match ph (eD l) l.length 0 with
 |some e=>e
 |none=>match ph (cN l) l.length 0 with
  |some e=>e
  |none=>(0,0)
def fp(n:Nd):jU:=if n.kind=1∧bH n 40=true then jF (bI n []) else (4,0)
def ga(b:Pl):Bool:=decide (b.n.kind=2)|| (decide (b.n.kind=4)|| decide (b.n.kind=6))
def e8(l pre:List Pl)(i:Nat):List (List Int):=(pre.filter fun u=>gj u && decide (bW l u=(i:Int))).map (·.p)
def eC(n:Nd):List kz:=if (fp n).1=0 then ((List.range (bI n []).length).filter fun i=>ga (au (bI n []) i)).map fun i=>((au (bI n []) i).p,(au (bI n []) i).n.text,e8 (bI n []) (bI n []) i) else []
end Go.Proofs.YtnoplgongieehaaGreatDoor
