import Derived.Test.YtnoplgongieehaaGreatDoorM2
import Derived.ChangeOld
import Derived.Below
import Derived.Carry
import Derived.OpenShut
import Derived.Recover
import Derived.KernelRfl
import Derived.Test.YtnoplgongieehaaGreatDoorProg
import Derived.Lib.Bytealg
import Derived.Test.YtnoplgongieehaaGreatDoorM1
namespace Go.Proofs.YtnoplgongieehaaGreatDoor
open Go.RowKit
set_option linter.unusedVariables false
set_option linter.unusedSimpArgs false
def gK(ev:X→AV)(d:Nat):Option X→Nat
 |none=>d
 |some x=>match ev x with
  |.sc (.int _ n)=>n.toNat
  |_=>0
def ox(ev:X→AV):Option X→Prop
 |none=>True
 |some x=>match ev x with
  |.sc (.int _ n)=>0≤n
  |_=>False
def xc(ev:X→AV):List AV→List (Nat×Nat×X)→List AV
 |zs,[]=>zs
 |zs,(off,n,x)::r=>xc ev (zs.take off++(ev x).cells++zs.drop (off+n)) r
def qO(ev:X→AV):List AV→List (Nat×Nat×X)→Prop
 |_,[]=>True
 |zs,(off,n,x)::r=>((ev x).bT=false∧(ev x).az=n∧off+n≤zs.length)∧qO ev (zs.take off++(ev x).cells++zs.drop (off+n)) r
theorem C8{ev:X→AV}{K:List AV→Prop}:∀{ps:List (Nat×Nat×X)}{zs:List AV},oe ev zs ps K↔qO ev zs ps∧K (xc ev zs ps)
 |[],zs=>by simp[oe,qO,xc]
 |(o,n,x)::r,zs=>by simp only[oe,qO,xc,C8 (ps:=r),and_assoc]
theorem jQ{ev:X→AV}{d:Nat}{K:Nat→Prop}{o:Option X}:l7 ev d o K↔ox ev o∧K (gK ev d o):=by
 cases o with
 |none=>simp[l7,ox,gK]
 |some x =>
  simp only[l7,ox,gK]
  cases ev x with
  |sc v=>cases v<;>simp
  |_=>simp
def WM(op:BinOp):AV→AV→AV
 |.sc u,.sc v=>match wC op u v with
  |some r=>.sc r
  |none=>.top
 |_,_=>.top
def N9(op:BinOp):AV→AV→Prop
 |.sc u,.sc v=>(wC op u v).isSome=true
 |_,_=>False
def shF(op:BinOp):AV→AV→AV
 |.sc u,.sc v=>match NB op u v with
  |some r=>.sc r
  |none=>.top
 |_,_=>.top
def WN(op:BinOp):AV→AV→Prop
 |.sc u,.sc v=>(NB op u v).isSome=true
 |_,_=>False
def unF(op:UnOp):AV→AV
 |.sc u=>match JC op u with
  |some r=>.sc r
  |none=>.top
 |_=>.top
def WO(op:UnOp):AV→Prop
 |.sc u=>(JC op u).isSome=true
 |_=>False
def acO(pos:Bool):AV→AV→AV
 |.sc (.bool a),.sc (.bool b)=>.sc (.bool (if pos then a == b else !(a == b)))
 |_,_=>.top
def Oa:AV→AV→Prop
 |.sc (.bool _),.sc (.bool _)=>True
 |_,_=>False
def acP(pos:Bool):AV→AV
 |.sc .nilIface=>.sc (.bool pos)
 |.eP _ _=>.sc (.bool !pos)
 |_=>.top
def WP:AV→Prop
 |.sc .nilIface=>True
 |.eP _ _=>True
 |_=>False
def WQ(pos:Bool):AV→AV
 |.am _ [] _=>.ub
 |.am _ (_::_) _=>.sc (.bool !pos)
 |.aD _ _ _ _ _=>.sc (.bool !pos)
 |_=>.top
def Q3:AV→Prop
 |.am _ _ _=>True
 |.aD _ _ _ _ _=>True
 |_=>False
def WR:AV→AV→AV→AV
 |.sc (.bool true),a,_=>a
 |.sc (.bool false),_,b=>b
 |_,_,_=>.top
def Q4:AV→Prop
 |.sc (.bool _)=>True
 |_=>False
def WT(k:IntKind):AV→AV
 |.sc (.int _ n)=>.sc (.int k (k.wrap n))
 |_=>.top
def Q5:AV→AV
 |.am _ xs _=>.sc (.string (oY xs))
 |_=>.top
def Kl:AV→Prop
 |.am k xs _=>k=1∧l8 xs=true
 |_=>False
def Q6:AV→Prop
 |.sc (.int _ _)=>True
 |_=>False
def C9:AV→Prop
 |.ptr k _ _ f=>0<k∨0<f
 |.lp ..=>True
 |.fn (.func _) _ _=>True
 |_=>False
def Q7(off:Nat):AV→AV
 |.ptr k id j f=>.ptr k id j (f+off)
 |.lp y f=>.lp y (f+off)
 |_=>.top
def Da:AV→Prop
 |.ptr k _ _ _=>0<k
 |.lp ..=>True
 |_=>False
def Km(off n:Nat)(ag:Bool):AV→Prop
 |.agg cs=>AV.jv (.agg cs) off n ag
 |_=>False
def Q8(k:Nat):AV→AV→AV
 |.am _ xs _,.sc (.int _ n)=>.lp (xs.getD n.toNat .top) 0
 |.aD _ id off _ _,.sc (.int _ n)=>.ptr k id (off+n.toNat) 0
 |_,_=>.top
def uN(k:Nat):AV→AV→Prop
 |.am k' xs _,.sc (.int _ n)=>0≤n∧n<(xs.length:Int)∧k'=k
 |.aD k' _ _ m _,.sc (.int _ n)=>0≤n∧n<(m:Int)∧k'=k∧0<k
 |_,_=>False
def Kn(k:Nat):AV→AV→AV
 |.ptr k' id j f,.sc (.int _ n)=>.ptr k' id j (f+n.toNat*k)
 |.lp y f,.sc (.int _ n)=>.lp y (f+n.toNat*k)
 |_,_=>.top
def Ag(ln:Nat):AV→AV→Prop
 |.ptr k _ _ _,.sc (.int _ n)=>0≤n∧n<(ln:Int)∧0<k
 |.lp _ _,.sc (.int _ n)=>0≤n∧n<(ln:Int)
 |_,_=>False
def WU:AV→AV→AV
 |.sc (.string s),.sc (.int _ n)=>.sc (.int .u8 ((s.data.getD n.toNat 0).toNat:Int))
 |_,_=>.top
def Ch:AV→AV→Prop
 |.sc (.string s),.sc (.int _ n)=>0≤n∧n<(s.size:Int)
 |_,_=>False
def WV(n:Nat)(ag:Bool):AV→AV→AV
 |.agg cs,.sc (.int _ m)=>AV.sub (.agg cs) (m.toNat*n) n ag
 |_,_=>.top
def Iu(ln n:Nat)(ag:Bool):AV→AV→Prop
 |.agg cs,.sc (.int _ m)=>(0≤m∧m<(ln:Int))∧AV.jv (.agg cs) (m.toNat*n) n ag
 |_,_=>False
def Ko(k:Nat)(mx:Option Nat)(h l:Nat):AV→AV
 |.am _ xs room=>match mx with
  |some m=>.am k ((xs.take h).drop l) (some ((xs.take m).drop h))
  |none=>match room with
   |none=>.am k ((xs.take h).drop l) none
   |some ys=>.am k (((xs++ys).take h).drop l) (some ((xs++ys).drop h))
 |.aD _ id off _ c=>match c with
  |none=>if l<h then .aD k id (off+l) (h-l) none else .am k [] none
  |some m=>if l<m then .aD k id (off+l) (h-l) (some (m-l)) else .am k [] none
 |_=>.top
def Db(k:Nat)(mx:Option Nat)(hs:Bool)(h l:Nat):AV→Prop
 |.am k' xs room=>(k'=k∨xs=[]∧room=some [])∧match mx with
  |some m=>hs=true∧l≤h∧h≤m∧m≤xs.length
  |none=>match room with
   |none=>l≤h∧h≤xs.length
   |some ys=>l≤h∧h≤xs.length+ys.length
 |.aD k' _ _ n c=>k'=k∧mx.isNone=true∧l≤h∧h≤c.getD n
 |_=>False
def pR:AV→Nat
 |.am _ xs _=>xs.length
 |.aD _ _ _ n _=>n
 |_=>0
def oy:AV→Prop
 |.am _ _ _=>True
 |.aD ..=>True
 |.sc (.slice none 0 0)=>True
 |_=>False
def Ob:AV→Prop
 |.sc (.string _)=>True
 |_=>False
def Dc:AV→ByteArray
 |.sc (.string s)=>s
 |_=>ByteArray.empty
def mmF(mx:Bool):AV→AV→AV
 |.sc (.int k a),.sc (.int _ b)=>.sc (.int k (if mx then (if b > a then b else a) else (if b<a then b else a)))
 |_,_=>.top
def WW:AV→AV→Prop
 |.sc (.int _ _),.sc (.int _ _)=>True
 |_,_=>False
def acQ(i:Nat):AV→AV
 |.aO vs=>vs.getD i .top
 |_=>.top
def Oc(i:Nat):AV→Prop
 |.aO vs=>i<vs.length
 |_=>False
def Od(t:TypeId)(z:AV):AV→AV
 |.eP u v=>if u=t then .aO [v,.sc (.bool true)] else .aO [z,.sc (.bool false)]
 |.sc .nilIface=>.aO [z,.sc (.bool false)]
 |_=>.top
def Q9:AV→Prop
 |.eP _ _=>True
 |.sc .nilIface=>True
 |_=>False
def Iv:AV→Prop
 |.sc .nilFunc=>True
 |.fn _ _ _=>True
 |_=>False
def Oe(pos:Bool):AV→AV
 |.sc .nilFunc=>.sc (.bool pos)
 |.fn _ _ _=>.sc (.bool !pos)
 |_=>.top
def Iw(t:TypeId):AV→Prop
 |.eP u _=>u=t
 |_=>False
def Og:AV→AV
 |.eP _ v=>v
 |_=>.top
def PO.ok(ev:X→AV):PO→Prop
 |.mv _=>True
 |.pick c _ _=>Q4 (ev c)
 |.aN op x y=>N9 op (ev x) (ev y)
 |.E3 op x y=>WN op (ev x) (ev y)
 |.JE _ x y=>Oa (ev x) (ev y)
 |.HP _ x=>WP (ev x)
 |.yc _ x=>Q3 (ev x)
 |.un op x=>WO op (ev x)
 |.conv _ x=>Q6 (ev x)
 |.wX x=>Kl (ev x)
 |.bV x=>C9 (ev x)
 |.an _ x=>Da (ev x)
 |.field off n ag x=>Km off n ag (ev x)
 |.gm k x i=>uN k (ev x) (ev i)
 |.sH ln _ x i=>Ag ln (ev x) (ev i)
 |.kK x i=>Ch (ev x) (ev i)
 |.A8 ln n ag x i=>Iu ln n ag (ev x) (ev i)
 |.qB k x lo hi mx=>ox ev lo∧ox ev hi∧ox ev mx∧Db k (match mx with|none=>none|some m=>some (gK ev 0 (some m))) hi.isSome (gK ev (match mx with|none=>pR (ev x)|some _=>0) hi) (gK ev 0 lo) (ev x)
 |.rL x lo hi=>Ob (ev x)∧ox ev lo∧ox ev hi∧gK ev 0 lo≤gK ev (Dc (ev x)).size hi∧gK ev (Dc (ev x)).size hi≤(Dc (ev x)).size
 |.len x=>oy (ev x)
 |.nN x=>Ob (ev x)
 |.mm _ x y=>WW (ev x) (ev y)
 |.ext x i=>Oc i (ev x)
 |.oP _ _ _=>True
 |.A9 _ _=>True
 |.Ba _ _ x=>Q9 (ev x)
 |.build zs ps=>qO ev zs ps
 |.uf _ x=>Iv (ev x)
 |.wD t x=>Iw t (ev x)
def PO.val(ev:X→AV):PO→AV
 |.mv x=>ev x
 |.pick c a b=>WR (ev c) (ev a) (ev b)
 |.aN op x y=>WM op (ev x) (ev y)
 |.E3 op x y=>shF op (ev x) (ev y)
 |.JE pos x y=>acO pos (ev x) (ev y)
 |.HP pos x=>acP pos (ev x)
 |.yc pos x=>WQ pos (ev x)
 |.un op x=>unF op (ev x)
 |.conv k x=>WT k (ev x)
 |.wX x=>Q5 (ev x)
 |.bV x=>ev x
 |.an off x=>Q7 off (ev x)
 |.field off n ag x=>AV.sub (ev x) off n ag
 |.gm k x i=>Q8 k (ev x) (ev i)
 |.sH _ k x i=>Kn k (ev x) (ev i)
 |.kK x i=>WU (ev x) (ev i)
 |.A8 _ n ag x i=>WV n ag (ev x) (ev i)
 |.qB k x lo hi mx=>Ko k (match mx with|none=>none|some m=>some (gK ev 0 (some m))) (gK ev (match mx with|none=>pR (ev x)|some _=>0) hi) (gK ev 0 lo) (ev x)
 |.rL x lo hi=>.sc (.string ((Dc (ev x)).extract (gK ev 0 lo) (gK ev (Dc (ev x)).size hi)))
 |.len x=>.sc (.int .i64 (pR (ev x)))
 |.nN x=>.sc (.int .i64 (Dc (ev x)).size)
 |.mm mx x y=>mmF mx (ev x) (ev y)
 |.ext x i=>acQ i (ev x)
 |.oP f a b=>.fn f (a.map ev) (b.map ev)
 |.A9 t x=>.eP t (ev x)
 |.Ba t z x=>Od t z (ev x)
 |.build zs ps=>.agg (xc ev zs ps)
 |.uf pos x=>Oe pos (ev x)
 |.wD _ x=>Og (ev x)
theorem PO.jC{ev:X→AV}{K:AV→Prop}:∀{q:PO},q.ok ev→K (q.val ev)→PO.bu ev K q:=by
 intro q h hk
 cases q with
 |build zs ps=>exact C8.2 ⟨h,hk⟩
 |pick c a b =>
  simp only[PO.ok,PO.val,PO.bu] at *
  cases hc:ev c<;>rw[hc] at h hk<;>try exact h.elim
  rename_i v
  cases v<;>try exact h.elim
  rename_i t
  cases t
  ·exact ⟨fun h=>by simp at h,fun _=>hk⟩
  ·exact ⟨fun _=>hk,fun h=>by simp at h⟩
 |aN op x y =>
  simp only[PO.ok,PO.val,PO.bu] at *
  cases hx:ev x<;>cases hy:ev y<;>rw[hx,hy] at h hk<;>try exact h.elim
  simp only[N9,WM] at h hk ⊢
  cases hb:wC op _ _ with
  |none=>rw[hb] at h;simp at h
  |some r=>rw[hb] at hk;exact ⟨r,rfl,hk⟩
 |E3 op x y =>
  simp only[PO.ok,PO.val,PO.bu] at *
  cases hx:ev x<;>cases hy:ev y<;>rw[hx,hy] at h hk<;>try exact h.elim
  simp only[WN,shF] at h hk ⊢
  cases hb:NB op _ _ with
  |none=>rw[hb] at h;simp at h
  |some r=>rw[hb] at hk;exact ⟨r,rfl,hk⟩
 |un op x =>
  simp only[PO.ok,PO.val,PO.bu] at *
  cases hx:ev x<;>rw[hx] at h hk<;>try exact h.elim
  simp only[WO,unF] at h hk ⊢
  cases hb:JC op _ with
  |none=>rw[hb] at h;simp at h
  |some r=>rw[hb] at hk;exact ⟨r,rfl,hk⟩
 |rL x lo hi =>
  simp only[PO.ok,PO.val,PO.bu] at *
  cases hx:ev x<;>rw[hx] at h hk<;>try exact h.1.elim
  rename_i v
  cases v<;>try exact h.1.elim
  obtain ⟨_,h1,h2,h3,h4⟩:=h
  exact jQ.2 ⟨h2,jQ.2 ⟨h1,⟨h3,h4⟩,hk⟩⟩
 |qB k x lo hi mx =>
  simp only[PO.ok,PO.val,PO.bu] at *
  obtain ⟨h1,h2,h3,h4⟩:=h
  cases hx:ev x<;>rw[hx] at h4 hk<;>try exact h4.elim
  ·rename_i k' xs room
   refine ⟨h4.1,?_⟩
   cases mx with
   |some m=>exact jQ.2 ⟨h3,jQ.2 ⟨h2,jQ.2 ⟨h1,h4.2,hk⟩⟩⟩
   |none =>
    cases room with
    |none=>exact jQ.2 ⟨h2,jQ.2 ⟨h1,h4.2,hk⟩⟩
    |some ys=>exact jQ.2 ⟨h2,jQ.2 ⟨h1,h4.2,hk⟩⟩
  ·rename_i k' id off n c
   obtain ⟨g1,g2,g3,g4⟩:=h4
   cases mx with
   |some m=>simp at g2
   |none =>
    refine ⟨g1,rfl,jQ.2 ⟨h2,jQ.2 ⟨h1,⟨g3,g4⟩,?_⟩⟩⟩
    cases c with
    |none =>
     have fx:K (if gK ev 0 lo<gK ev n hi then .aD k id (off+gK ev 0 lo) (gK ev n hi-gK ev 0 lo) none else .am k [] none):=hk
     refine ⟨fun e=>?_,fun e=>?_⟩
     ·rw[if_pos e] at fx
      exact fx
     ·rw[if_neg (by omega)] at fx
      exact fx
    |some m =>
     have fx:K (if gK ev 0 lo<m then .aD k id (off+gK ev 0 lo) (gK ev n hi-gK ev 0 lo) (some (m-gK ev 0 lo)) else .am k [] none):=hk
     refine ⟨fun e=>?_,fun e=>?_⟩
     ·rw[if_pos e] at fx
      exact fx
     ·rw[if_neg (by omega)] at fx
      exact fx
 |Ba t z x =>
  simp only[PO.ok,PO.val,PO.bu] at *
  cases hx:ev x<;>rw[hx] at h hk<;>try exact h.elim
  ·rename_i v
   cases v<;>first|exact h.elim|exact hk
  ·simp only[Od] at hk
   exact ⟨fun e=>by rw[if_pos e] at hk;exact hk,fun e=>by rw[if_neg e] at hk;exact hk⟩
 |mv x=>exact hk
 |oP f a b=>exact hk
 |A9 t x=>exact hk
 |JE pos x y =>
  simp only[PO.ok,PO.val,PO.bu,Oa] at *
  split at h
  ·rename_i e1 e2
   rw[e1,e2] at hk
   rw[e1,e2]
   exact hk
  ·exact h.elim
 |gm k x i =>
  simp only[PO.ok,PO.val,PO.bu,uN] at *
  split at h
  ·rename_i e1 e2
   rw[e1,e2] at hk
   rw[e1,e2]
   exact ⟨h,hk⟩
  ·rename_i e1 e2
   rw[e1,e2] at hk
   rw[e1,e2]
   exact ⟨h,hk⟩
  ·exact h.elim
 |sH ln k x i =>
  simp only[PO.ok,PO.val,PO.bu,Ag] at *
  split at h
  ·rename_i e1 e2
   rw[e1,e2] at hk
   rw[e1,e2]
   exact ⟨h,hk⟩
  ·rename_i e1 e2
   rw[e1,e2] at hk
   rw[e1,e2]
   exact ⟨h,hk⟩
  ·exact h.elim
 |kK x i =>
  simp only[PO.ok,PO.val,PO.bu,Ch] at *
  split at h
  ·rename_i e1 e2
   rw[e1,e2] at hk
   rw[e1,e2]
   exact ⟨h,hk⟩
  ·exact h.elim
 |A8 ln n ag x i =>
  simp only[PO.ok,PO.val,PO.bu,Iu] at *
  split at h
  ·rename_i e1 e2
   rw[e1,e2] at hk
   rw[e1,e2]
   exact ⟨h.1,h.2,by rw[e1] at *;exact hk⟩
  ·exact h.elim
 |mm mx x y =>
  simp only[PO.ok,PO.val,PO.bu,WW] at *
  split at h
  ·rename_i e1 e2
   rw[e1,e2] at hk
   rw[e1,e2]
   exact hk
  ·exact h.elim
 |HP pos x =>
  simp only[PO.ok,PO.val,PO.bu] at *
  cases hx:ev x<;>rw[hx] at h hk<;>try exact h.elim
  ·rename_i v;cases v<;>first|exact h.elim|exact hk
  ·exact hk
 |yc pos x =>
  simp only[PO.ok,PO.val,PO.bu] at *
  cases hx:ev x<;>rw[hx] at h hk<;>try exact h.elim
  ·rename_i k xs room;cases xs<;>exact hk
  ·exact hk
 |conv k x =>
  simp only[PO.ok,PO.val,PO.bu] at *
  cases hx:ev x<;>rw[hx] at h hk<;>try exact h.elim
  rename_i v;cases v<;>first|exact h.elim|exact hk
 |wX x =>
  simp only[PO.ok,PO.val,PO.bu] at *
  cases hx:ev x<;>rw[hx] at h hk<;>first|exact h.elim|exact ⟨h,hk⟩
 |bV x =>
  simp only[PO.ok,PO.val,PO.bu] at *
  cases hx:ev x<;>rw[hx] at h hk<;>first|exact h.elim|exact ⟨h,hk⟩|exact hk|skip
  rename_i f a b;cases f<;>first|exact h.elim|exact hk
 |an off x =>
  simp only[PO.ok,PO.val,PO.bu] at *
  cases hx:ev x<;>rw[hx] at h hk<;>first|exact h.elim|exact ⟨h,hk⟩|exact hk
 |field off n ag x =>
  simp only[PO.ok,PO.val,PO.bu] at *
  cases hx:ev x<;>rw[hx] at h hk<;>first|exact h.elim|exact ⟨h,hk⟩
 |len x =>
  simp only[PO.ok,PO.val,PO.bu] at *
  cases hx:ev x<;>rw[hx] at h hk<;>try first|exact h.elim|exact hk
  unfold oy at h
  split at h
  ·rename_i e0;cases e0
  ·rename_i e0;cases e0
  ·rename_i e0;cases e0;exact hk
  ·exact h.elim
 |nN x =>
  simp only[PO.ok,PO.val,PO.bu] at *
  cases hx:ev x<;>rw[hx] at h hk<;>try exact h.elim
  rename_i v;cases v<;>first|exact h.elim|exact hk
 |ext x i =>
  simp only[PO.ok,PO.val,PO.bu] at *
  cases hx:ev x<;>rw[hx] at h hk<;>first|exact h.elim|exact ⟨h,hk⟩
 |uf pos x =>
  simp only[PO.ok,PO.val,PO.bu] at *
  cases hx:ev x<;>rw[hx] at h hk<;>try exact h.elim
  ·rename_i v;cases v<;>first|exact h.elim|exact hk
  ·exact hk
 |wD t x =>
  simp only[PO.ok,PO.val,PO.bu] at *
  cases hx:ev x<;>rw[hx] at h hk<;>first|exact h.elim|exact ⟨h,hk⟩
def wG(H:Y)(n:Nat)(ag:Bool):AV→Prop
 |.ptr k id j f=>match Y.find H id with
  |some blk=>blk.k=k∧j<blk.es.length∧AV.jv (blk.es.getD j .top) f n ag∧0<k
  |none=>False
 |.lp x f=>AV.jv x f n ag
 |_=>False
def Fm(H:Y)(n:Nat)(ag:Bool):AV→AV
 |.ptr _ id j f=>match Y.find H id with
  |some blk=>AV.sub (blk.es.getD j .top) f n ag
  |none=>.top
 |.lp x f=>AV.sub x f n ag
 |_=>.top
def Bo(H:Y)(n:Nat):AV→AV→Prop
 |.ptr k id j f,x=>match Y.find H id with
  |some blk=>blk.k=k∧j<blk.es.length∧x.bT=false∧x.az=n∧f+n≤(blk.es.getD j .top).az∧((blk.es.getD j .top).isAgg|| !x.isAgg)=true∧0<k
  |none=>False
 |_,_=>False
def yK(H:Y):AV→AV→Y
 |.ptr k id j f,x=>match Y.find H id with
  |some blk=>Y.set H id (some { blk with es:=blk.es.set j (AV.lq (blk.es.getD j .top) f x) })
  |none=>H
 |_,_=>H
def rT(ev:X→AV):List AV→List (Nat×X)→List AV
 |es,[]=>es
 |es,(i,x)::r=>rT ev (es.set i (ev x)) r
def nn(ev:X→AV)(k:Nat):List AV→List (Nat×X)→Prop
 |_,[]=>True
 |es,(i,x)::r=>((ev x).bT=false∧(ev x).az=k∧i<es.length)∧nn ev k (es.set i (ev x)) r
theorem Ah{ev:X→AV}{k:Nat}{K:List AV→Prop}:∀{ps:List (Nat×X)}{es:List AV},pM ev k es ps K↔nn ev k es ps∧K (rT ev es ps)
 |[],es=>by simp[pM,nn,rT]
 |(i,x)::r,es=>by simp only[pM,nn,rT,Ah (ps:=r),and_assoc]
def wH(H:Y)(k:Nat):AV→Prop
 |.am k' ys _=>k'=k∨ys=[]
 |.aD k' id off n _=>match Y.find H id with
  |some blk=>k'=k∧blk.k=k∧off+n≤blk.es.length
  |none=>False
 |_=>False
def pb(H:Y):AV→List AV
 |.am _ ys _=>ys
 |.aD _ id off n _=>match Y.find H id with
  |some blk=>(blk.es.drop off).take n
  |none=>[]
 |_=>[]
def aM:AV→Int
 |.sc (.int _ n)=>n
 |_=>0
def qP:AV→Prop
 |.sc (.int _ _)=>True
 |_=>False
def gN(H:Y)(k ty:Nat)(ys:List AV):AV→Prop
 |.am k' xs (some [])=>(k'=k∨xs=[])∧xs.length+ys.length≤100000000
 |.aD k' id off n none=>match Y.find H id with
  |some blk=>(k'=k∧blk.k=k∧blk.ty=ty∧off=0∧n+ys.length≤100000000)∧blk.exact=false∧n=blk.es.length
  |none=>False
 |.aD k' id off n (some m)=>match Y.find H id with
  |some blk=>(k'=k∧blk.k=k∧blk.ty=ty∧off=0∧n+ys.length≤100000000)∧((blk.exact=true∧m=blk.es.length∧n≤m)∨(blk.exact=false∧n≤blk.es.length))
  |none=>False
 |_=>False
def lB(H:Y)(k:Nat)(ys:List AV):AV→AV
 |.am k' xs (some [])=>match ys with
  |[]=>.am k' xs (some [])
  |_::_=>.aD k H.length 0 (xs.length+ys.length) none
 |.aD _ id _ n none=>.aD k H.length 0 (n+ys.length) none
 |.aD _ id _ n (some m)=>if n+ys.length≤m then .aD k id 0 (n+ys.length) (some m) else .aD k H.length 0 (n+ys.length) none
 |_=>.top
def jx(H:Y)(k ty:Nat)(ys:List AV):AV→Y
 |.am _ xs (some [])=>match ys with
  |[]=>H
  |_::_=>some ⟨k,xs++ys,false,ty⟩::H
 |.aD _ id _ n none=>match Y.find H id with
  |some blk=>some ⟨k,blk.es++ys,false,ty⟩::Y.set H id none
  |none=>H
 |.aD _ id _ n (some m)=>match Y.find H id with
  |some blk=>if n+ys.length≤m then Y.set H id (some { blk with es:=blk.es.take n++ys++blk.es.drop (n+ys.length) }) else some ⟨k,blk.es.take n++ys,false,ty⟩::H
  |none=>H
 |_=>H
def HO.Fo(ev:X→AV)(H:Y):HO→Prop
 |.load n ag a=>wG H n ag (ev a)
 |.alloc _ _=>True
 |.box k _ x=>(ev x).bT=false∧(ev x).az=k
 |.ep k _ z ln ps=>nn ev k (List.replicate ln z) ps
 |.kN k _ z ln ps=>nn ev k (List.replicate ln z) ps
 |.store n a x=>Bo H n (ev a) (ev x)
 |.jM _ _ _ l c=>qP (ev l)∧qP (ev c)∧0≤aM (ev l)∧aM (ev l)≤aM (ev c)∧aM (ev c)≤100000000
 |.ez k ty s x=>wH H k (ev x)∧gN H k ty (pb H (ev x)) (ev s)
 |.gx g xs=>g.ok H (xs.map ev)
 |_=>False
def HO.uO(ev:X→AV)(H:Y):HO→AV
 |.load n ag a=>Fm H n ag (ev a)
 |.alloc z _=>.ptr z.az H.length 0 0
 |.box k _ _=>.ptr k H.length 0 0
 |.ep k _ z ln ps=>.am k (rT ev (List.replicate ln z) ps) (some [])
 |.kN k _ _ ln _=>.aD k H.length 0 ln (some ln)
 |.store _ _ _=>.top
 |.jM k _ _ l c=>.aD k H.length 0 (aM (ev l)).toNat (some (aM (ev c)).toNat)
 |.ez k _ s x=>lB H k (pb H (ev x)) (ev s)
 |.gx g xs=>g.val H (xs.map ev)
 |_=>.top
def HO.pS(ev:X→AV)(H:Y):HO→Y
 |.alloc z ty=>some ⟨z.az,[z],true,ty⟩::H
 |.box k ty x=>some ⟨k,[ev x],true,ty⟩::H
 |.kN k ty z ln ps=>some ⟨k,rT ev (List.replicate ln z) ps,true,ty⟩::H
 |.store _ a x=>yK H (ev a) (ev x)
 |.jM k ty z _ c=>some ⟨k,List.replicate (aM (ev c)).toNat z,true,ty⟩::H
 |.ez k ty s x=>jx H k ty (pb H (ev x)) (ev s)
 |.gx g xs=>g.heap H (xs.map ev)
 |_=>H
theorem uQ{α:Type}{l:List α}{j:Nat}{d:α}(h:j<l.length):l[j]? = some (l.getD j d):=by simp[List.getD,h]
theorem HO.jC{P:Program}{ev:X→AV}{H:Y}{K Kp:AV→Y→Prop}:∀{q:HO},q.Fo ev H→K (q.uO ev H) (q.pS ev H)→HO.bu P ev H K Kp q:=by
 intro q h hk
 cases q with
 |load n ag a =>
  simp only[HO.Fo,HO.uO,HO.pS,HO.bu] at *
  cases he:ev a<;>rw[he] at h hk<;>try exact h.elim
  ·simp only[wG,Fm] at h hk
   cases hf:Y.find H _ with
   |none=>rw[hf] at h;exact h.elim
   |some blk=>rw[hf] at h hk;exact ⟨blk,_,hf,uQ h.2.1,⟨h.1,h.2.2.1,h.2.2.2⟩,hk⟩
  ·exact ⟨h,hk⟩
 |alloc z ty=>exact hk
 |box k ty x=>exact ⟨h,hk⟩
 |ep k ty z ln ps=>exact Ah.2 ⟨h,hk⟩
 |kN k ty z ln ps=>exact Ah.2 ⟨h,hk⟩
 |store n a x =>
  simp only[HO.Fo,HO.uO,HO.pS,HO.bu] at *
  cases he:ev a<;>rw[he] at h hk<;>try exact h.elim
  simp only[Bo,yK] at h hk
  cases hf:Y.find H _ with
  |none=>rw[hf] at h;exact h.elim
  |some blk =>
   rw[hf] at h hk
   obtain ⟨h1,h2,h3,h4,h5,h6,h7⟩:=h
   refine ⟨blk,_,hf,uQ h2,⟨h1,h3,h4,h5,fun e=>?_,h7⟩,hk⟩
   rw[e] at h6
   simpa using h6
 |jM k ty z l c =>
  simp only[HO.Fo,HO.uO,HO.pS,HO.bu] at *
  obtain ⟨h1,h2,h3⟩:=h
  cases he:ev l<;>rw[he] at h1<;>try exact h1.elim
  rename_i v
  cases v<;>try exact h1.elim
  cases hf:ev c<;>rw[hf] at h2<;>try exact h2.elim
  rename_i v2
  cases v2<;>try exact h2.elim
  rw[he,hf] at h3 hk
  exact ⟨h3,hk⟩
 |gx g xs=>exact ⟨h,hk⟩
 |ez k ty s x =>
  simp only[HO.Fo,HO.uO,HO.pS,HO.bu] at *
  obtain ⟨h1,h2⟩:=h
  have hls:∀{K':List AV→Prop},K' (pb H (ev x))→JP H k (ev x) K':=by
   intro K' hk'
   cases hx:ev x<;>rw[hx] at h1 hk'<;>try exact h1.elim
   ·exact ⟨h1,hk'⟩
   ·simp only[wH,pb] at h1 hk'
    cases hf:Y.find H _ with
    |none=>rw[hf] at h1;exact h1.elim
    |some blk=>rw[hf] at h1 hk';exact ⟨blk,hf,h1,hk'⟩
  refine hls ?_
  cases hs:ev s<;>rw[hs] at h2 hk<;>try exact h2.elim
  ·rename_i k' xs room
   cases room with
   |none=>exact h2.elim
   |some zs =>
    cases zs with
    |cons _ _=>exact h2.elim
    |nil =>
     refine ⟨h2,fun e=>?_,fun e=>?_⟩
     ·rw[e] at hk;exact hk
     ·cases hy:pb H (ev x) with
      |nil=>exact absurd hy e
      |cons a b=>rw[hy] at hk;exact hk
  ·rename_i k' id off n c
   cases c with
   |none =>
    simp only[gN,lB,jx] at h2 hk
    cases hf:Y.find H id with
    |none=>rw[hf] at h2;exact h2.elim
    |some blk=>rw[hf] at h2 hk;exact ⟨blk,hf,h2.1,h2.2,hk⟩
   |some m =>
    simp only[gN,lB,jx] at h2 hk
    cases hf:Y.find H id with
    |none=>rw[hf] at h2;exact h2.elim
    |some blk =>
     rw[hf] at h2 hk
     refine ⟨blk,hf,h2.1,h2.2,fun e=>?_,fun e=>?_⟩
     ·simp only[if_pos e] at hk;exact hk
     ·have:¬n+(pb H (ev x)).length≤m:=by omega
      simp only[if_neg this] at hk;exact hk
 |_=>exact h.elim
def Ks(P:Program)(ev:X→AV)(H:Y)(C Cp:AV→Y→Prop):eX→Prop
 |.p q=>q.ok ev∧C (q.val ev) H
 |.h (.call f fw)=>DK P f (fw.map ev) H (fun e H'=>cH.post C Cp H' e)
 |.h (.cq f fw)=>match ev f with
  |.fn (.func g) a b=>cr P g=true∧DK P g (a++fw.map ev++b) H (fun e H'=>cH.post C Cp H' e)
  |_=>False
 |.h (.bP x)=>match ev x with
  |.eP t v=>Cp (.eP t v) H
  |_=>False
 |.h (.rO kd x)=>NQ C H kd (ev x)
 |.h q=>q.Fo ev H∧C (q.uO ev H) (q.pS ev H)
theorem pT {P : Program} {f : FuncId} (h : cr P f = true) : ∃ fn, P.funcs[f]? = some fn ∧ fn.body.isSome ∧ fn.name ≠ "runtime.NumGoroutine" := by
 unfold cr at h
 split at h
 case h_2=>simp at h
 rename_i fn hf
 simp only[Bool.and_eq_true,Bool.not_eq_true',beq_eq_false_iff_ne] at h
 exact ⟨fn,hf,h.1,h.2⟩
theorem WX{P:Program}{ev:X→AV}{H:Y}{C Cp:AV→Y→Prop}{op:eX}(h:Ks P ev H C Cp op):Wm P ev H C Cp op:=by
 cases op with
 |p q=>exact PO.jC (K:=fun v=>C v H) h.1 h.2
 |h q =>
  cases q with
  |call f fw=>exact h
  |cq f fw =>
   simp only[Ks,Wm,HO.JZ] at h ⊢
   split at h
   ·rename_i he;simp only[he];exact ⟨pT h.1,h.2⟩
   ·exact h.elim
  |bP x=>exact h
  |rO kd x=>exact h
  |_=>exact HO.jC (P:=P) (Kp:=Cp) h.1 h.2
theorem lR{ts:List AV}{p q p' q':Prop}{g:Option (Nat×Bool)}(h1:p→p')(h2:q→q')(h:cI ts p q g):cI ts p' q' g:=Kc h1 h2 h
def dj(P:Program)(K:List AV→Y→Prop)(Kp:AV→List AV→Y→Prop):List cy→List AV→Y→Prop
 |[],ts,H=>K ts H
 |o::r,ts,H=>cI ts (Ks P (X.ev ts) H (fun v H'=>dj P K Kp r (cz ts o.dst v) H') (fun v H'=>Kp v ts H') o.op) (dj P K Kp r (cz ts o.dst (.aO [])) H) o.guard
theorem Gl{P:Program}{ev:X→AV}{H:Y}{C Cp C' Cp':AV→Y→Prop}{op:eX}(h1:∀v H,C v H→C' v H)(h2:∀v H,Cp v H→Cp' v H)(h:Ks P ev H C Cp op):Ks P ev H C' Cp' op:=by
 have xe:∀{e H'},cH.post C Cp H' e→cH.post C' Cp' H' e:=fun {e H'} h=>by
  cases e with
  |ret v=>exact h1 _ _ h
  |bP v=>exact h2 _ _ h
 cases op with
 |p q=>exact ⟨h.1,h1 _ _ h.2⟩
 |h q =>
  cases q with
  |call f fw=>exact h.mono fun e H' _ g=>xe g
  |cq f fw =>
   simp only[Ks] at h ⊢
   split at h
   ·exact ⟨h.1,h.2.mono fun e H' _ g=>xe g⟩
   ·exact h.elim
  |bP x =>
   simp only[Ks] at h ⊢
   split at h
   ·exact h2 _ _ h
   ·exact h.elim
  |rO kd x=>exact Sp h1 h
  |_=>exact ⟨h.1,h1 _ _ h.2⟩
theorem iX{P:Program}{K:List AV→Y→Prop}{Kp:AV→List AV→Y→Prop}:∀{l:List cy}{ts:List AV}{H:Y},dj P K Kp l ts H→iW P K Kp l ts H
 |[],_,_,h=>h
 |o::r,ts,H,h=>lR (fun h=>WX (Gl (fun v H h=>iX h) (fun _ _ h=>h) h)) (fun h=>iX h) h
def BR(A:List (List Nat))(i:Nat)(hs:List (Nat×Y×Y)):AV→Prop
 |.ptr _ id _ _=>∀c∈hs,ni A c.1 i=true→id<c.2.1.length→Y.find c.2.2 id=Y.find c.2.1 id
 |_=>True
def WY(i:Nat)(ld:List (Nat×Nat)):AV→List (Nat×Nat)
 |.ptr _ id _ _=>(i,id)::ld
 |_=>ld
def sW(A:List (List Nat))(i:Nat)(ld:List (Nat×Nat))(H H':Y):Prop:=∀l∈ld,ni A l.1 i=true→Y.find H' l.2=Y.find H l.2
def S1(P:Program)(A:List (List Nat))(n i:Nat)(ev:X→AV)(H:Y)(ld:List (Nat×Nat))(hs:List (Nat×Y×Y))(C:AV→Y→List (Nat×Nat)→List (Nat×Y×Y)→Prop)(Kp:AV→Y→Prop):eX→Prop
 |.p q=>q.ok ev∧C (q.val ev) H ld hs
 |.h (.load m ag a)=>BR A i hs (ev a)∧wG H m ag (ev a)∧C (Fm H m ag (ev a)) H (WY i ld (ev a)) hs
 |.h (.call f fw)=>∃e H',D P f (fw.map ev) H e H'∧cH.post (fun v H'=>sW A i ld H H'∧C v H' ld ((i,H,H')::hs)) (fun v H'=>ru A n i=true∧Kp v H') H' e
 |.h (.cq f fw)=>match ev f with
  |.fn (.func g) a b=>cr P g=true∧∃e H',D P g (a++fw.map ev++b) H e H'∧cH.post (fun v H'=>sW A i ld H H'∧C v H' ld ((i,H,H')::hs)) (fun v H'=>ru A n i=true∧Kp v H') H' e
  |_=>False
 |.h (.bP x)=>False
 |.h (.store m a x)=>Bo H m (ev a) (ev x)∧sW A i ld H (yK H (ev a) (ev x))∧C .top (yK H (ev a) (ev x)) ld ((i,H,yK H (ev a) (ev x))::hs)
 |.h (.ez k ty s x)=>(wH H k (ev x)∧gN H k ty (pb H (ev x)) (ev s))∧sW A i ld H (jx H k ty (pb H (ev x)) (ev s))∧C (lB H k (pb H (ev x)) (ev s)) (jx H k ty (pb H (ev x)) (ev s)) ld ((i,H,jx H k ty (pb H (ev x)) (ev s))::hs)
 |.h (.gx g xs)=>g.ok H (xs.map ev)∧sW A i ld H (g.heap H (xs.map ev))∧C (g.val H (xs.map ev)) (g.heap H (xs.map ev)) ld ((i,H,g.heap H (xs.map ev))::hs)
 |.h q=>q.Fo ev H∧C (q.uO ev H) (q.pS ev H) (HO.N0 i H ld q) hs
def cY(P:Program)(A:List (List Nat))(n:Nat)(K:List AV→Y→Prop)(Kp:AV→Y→Prop):Nat→List cy→List AV→Y→List (Nat×Nat)→List (Nat×Y×Y)→Prop
 |_,[],ts,H,_,_=>K ts H
 |i,o::r,ts,H,ld,hs=>cI ts (S1 P A n i (X.ev ts) H ld hs (fun v H' z7 hs'=>cY P A n K Kp (i+1) r (cz ts o.dst v) H' z7 hs') Kp o.op) (cY P A n K Kp (i+1) r (cz ts o.dst (.aO [])) H ld hs) o.guard
theorem Oh{P:Program}{A:List (List Nat)}{n i:Nat}{ev:X→AV}{H:Y}{ld:List (Nat×Nat)}{hs:List (Nat×Y×Y)}{C C':AV→Y→List (Nat×Nat)→List (Nat×Y×Y)→Prop}{Kp:AV→Y→Prop}{op:eX}
  (hC:∀v H ld hs,C v H ld hs→C' v H ld hs)(h:S1 P A n i ev H ld hs C Kp op):Ig P A n i ev H ld hs C' Kp op:=by
 cases op with
 |p q=>exact PO.jC (K:=fun v=>C' v H ld hs) h.1 (hC _ _ _ _ h.2)
 |h q =>
  cases q with
  |load m ag a =>
   obtain ⟨h1,h2,h3⟩:=h
   simp only[Ig]
   split
   ·rename_i k id j f he
    rw[he] at h1 h2 h3
    refine ⟨h1,HO.jC (q:=.load m ag a) ?_ ?_⟩
    ·simp only[HO.Fo];rw[he];exact h2
    ·simp only[HO.uO,HO.pS];rw[he];exact hC _ _ _ _ h3
   ·rename_i hne
    have hn:WY i ld (ev a)=ld:=by
     cases he:ev a<;>first|rfl|(exact absurd he (hne _ _ _ _))
    rw[hn] at h3
    exact HO.jC (q:=.load m ag a) h2 (hC _ _ _ _ h3)
  |call f fw =>
   obtain ⟨e,H',h1,h2⟩:=h
   cases e with
   |ret v=>exact ⟨.ret v,H',h1,h2.1,hC _ _ _ _ h2.2⟩
   |bP v=>exact ⟨.bP v,H',h1,h2⟩
  |cq f fw =>
   have h':=h
   simp only[S1] at h'
   show HO.bu P ev H _ _ (.cq f fw)
   simp only[HO.bu]
   split at h'
   ·rename_i he
    simp only[he]
    obtain ⟨h0,e,H',h1,h2⟩:=h'
    refine ⟨pT h0,e,H',h1,?_⟩
    cases e with
    |ret v=>exact ⟨h2.1,hC _ _ _ _ h2.2⟩
    |bP v=>exact h2
   ·exact h'.elim
  |bP x=>exact h.elim
  |store m a x=>exact HO.jC (P:=P) (K:=fun v H'=>(∀l∈ld,ni A l.1 i=true→Y.find H' l.2=Y.find H l.2)∧C' v H' ld ((i,H,H')::hs)) (Kp:=fun v H'=>ru A n i=true∧Kp v H') (q:=.store m a x) h.1 ⟨h.2.1,hC _ _ _ _ h.2.2⟩
  |ez k ty s x=>exact HO.jC (P:=P) (K:=fun v H'=>(∀l∈ld,ni A l.1 i=true→Y.find H' l.2=Y.find H l.2)∧C' v H' ld ((i,H,H')::hs)) (Kp:=fun v H'=>ru A n i=true∧Kp v H') (q:=.ez k ty s x) h.1 ⟨h.2.1,hC _ _ _ _ h.2.2⟩
  |gx g xs=>exact HO.jC (P:=P) (K:=fun v H'=>(∀l∈ld,ni A l.1 i=true→Y.find H' l.2=Y.find H l.2)∧C' v H' ld ((i,H,H')::hs)) (Kp:=fun v H'=>ru A n i=true∧Kp v H') (q:=.gx g xs) h.1 ⟨h.2.1,hC _ _ _ _ h.2.2⟩
  |alloc z ty=>exact HO.jC (P:=P) (K:=fun v H'=>C' v H' ((i,H.length)::ld) hs) (Kp:=fun _ _=>False) h.1 (hC _ _ _ _ h.2)
  |box k ty x=>exact HO.jC (P:=P) (K:=fun v H'=>C' v H' ((i,H.length)::ld) hs) (Kp:=fun _ _=>False) h.1 (hC _ _ _ _ h.2)
  |kN k ty z ln ps=>exact HO.jC (P:=P) (K:=fun v H'=>C' v H' ((i,H.length)::ld) hs) (Kp:=fun _ _=>False) h.1 (hC _ _ _ _ h.2)
  |jM k ty z l c=>exact HO.jC (P:=P) (K:=fun v H'=>C' v H' ((i,H.length)::ld) hs) (Kp:=fun _ _=>False) h.1 (hC _ _ _ _ h.2)
  |_=>exact HO.jC (P:=P) (K:=fun v H'=>C' v H' ld hs) (Kp:=fun _ _=>False) h.1 (hC _ _ _ _ h.2)
theorem uR{P:Program}{A:List (List Nat)}{n:Nat}{K:List AV→Y→Prop}{Kp:AV→Y→Prop}:∀{l:List cy}{i:Nat}{ts:List AV}{H:Y}{ld:List (Nat×Nat)}{hs:List (Nat×Y×Y)},cY P A n K Kp i l ts H ld hs→pO P A n K Kp i l ts H ld hs
 |[],_,_,_,_,_,h=>h
 |o::r,i,ts,H,ld,hs,h=>lR (fun h=>Oh (fun v H ld hs h=>uR h) h) (fun h=>uR h) h
def ES(P:Program):IC→Post→List AV→Y→Prop
 |.skip,K,ts,H=>K .normal ts H
 |.ops l,K,ts,H=>dj P (K .normal) (fun v ts' H'=>K (.bP v) ts' H') l ts H
 |.di l A,K,ts,H=>cY P A l.length (K .normal) (fun v H'=>K (.bP v) (kj l ts) H') 0 l ts H [] []
 |.seq a b,K,ts,H=>ES P a (kW (ES P b K) K) ts H
 |.cond c a b,K,ts,H=>match c.ev ts with
  |.sc (.bool t)=>(t=true→ES P a K ts H)∧(t=false→ES P b K ts H)
  |.ub=>ES P a K ts H∧ES P b K ts H
  |_=>False
 |.block id c,K,ts,H=>ES P c (mo id K) ts H
 |.loop c,K,ts,H=>∃(I:List AV→Y→Prop)(μ:List AV→Y→Nat),I ts H∧∀ts H,I ts H→ES P c (kW (fun ts' H'=>I ts' H'∧μ ts' H'<μ ts H) K) ts H
 |.exit id,K,ts,H=>K (.exit id) ts H
 |.ret,K,ts,H=>K .ret ts H
 |.yld l1 g y args d l2,K,ts,H=>dj P (fun hY H1=>cI hY (Q0 P (fun v H2=>dj P (K .normal) (fun v ts' H'=>K (.bP v) ts' H') l2 (cz hY d v) H2) (fun v H2=>K (.bP v) hY H2) (args.map (X.ev hY)) H1 (y.ev hY)) (dj P (K .normal) (fun v ts' H'=>K (.bP v) ts' H') l2 (cz hY d (.aO [])) H1) g) (fun v ts' H'=>K (.bP v) ts' H') l1 ts H
 |.rng g ps wy body,K,ts,H=>Kj P ps wy body K ts H (g.ev ts)
theorem Dd{P:Program}{K K' Kp De:AV→Y→Prop}(h1:∀v H,K v H→K' v H)(h2:∀v H,Kp v H→De v H){args:List AV}{H:Y}{v:AV}(h:Q0 P K Kp args H v):Q0 P K' De args H v:=by
 cases v<;>try exact h.elim
 obtain ⟨h0,e,H',h3,h4⟩:=h
 refine ⟨h0,e,H',h3,?_⟩
 cases e with
 |ret u=>exact h1 _ _ h4
 |bP u=>exact h2 _ _ h4
theorem Oi{K K':Post}(hk:∀x ts H,K x ts H→K' x ts H){ts:List AV}{H:Y}{c:Option Code}(h:Q1 K ts H c):Q1 K' ts H c:=by
 unfold Q1 at h ⊢
 split at h<;>first|exact hk _ _ _ h|exact h.elim
theorem Oj{P:Program}{ps:Array Tmp}{wy body:Code}{K K':Post}(hk:∀x ts H,K x ts H→K' x ts H){ts:List AV}{H:Y}{v:AV}(h:Kj P ps wy body K ts H v):Kj P ps wy body K' ts H v:=by
 unfold Kj at h ⊢
 split at h
 ·refine ⟨h.1,fun fn db=>?_⟩
  obtain ⟨v,H',r,ts',g1,g2,g3,g4⟩:=h.2 fn db
  exact ⟨v,H',r,ts',g1,g2,g3,Oi hk g4⟩
 ·exact h.elim
theorem gQ{P:Program}{K K':List AV→Y→Prop}{Kp De:AV→List AV→Y→Prop}(h1:∀ts H,K ts H→K' ts H)(h2:∀v ts H,Kp v ts H→De v ts H):∀{l:List cy}{ts:List AV}{H:Y},dj P K Kp l ts H→dj P K' De l ts H
 |[],_,_,h=>h1 _ _ h
 |o::r,ts,H,h=>lR (fun h=>Gl (fun v H h=>gQ h1 h2 h) (fun v H h=>h2 _ _ _ h) h) (fun h=>gQ h1 h2 h) h
theorem S2{P:Program}{A:List (List Nat)}{n i:Nat}{ev:X→AV}{H:Y}{ld:List (Nat×Nat)}{hs:List (Nat×Y×Y)}{C C':AV→Y→List (Nat×Nat)→List (Nat×Y×Y)→Prop}{Kp De:AV→Y→Prop}{op:eX}
  (hC:∀v H ld hs,C v H ld hs→C' v H ld hs)(hK:∀v H,Kp v H→De v H)(h:S1 P A n i ev H ld hs C Kp op):S1 P A n i ev H ld hs C' De op:=by
 cases op with
 |p q=>exact ⟨h.1,hC _ _ _ _ h.2⟩
 |h q =>
  cases q with
  |load m ag a=>exact ⟨h.1,h.2.1,hC _ _ _ _ h.2.2⟩
  |call f fw =>
   obtain ⟨e,H',h1,h2⟩:=h
   cases e with
   |ret v=>exact ⟨.ret v,H',h1,h2.1,hC _ _ _ _ h2.2⟩
   |bP v=>exact ⟨.bP v,H',h1,h2.1,hK _ _ h2.2⟩
  |cq f fw =>
   simp only[S1] at h ⊢
   split at h
   ·obtain ⟨h0,e,H',h1,h2⟩:=h
    refine ⟨h0,e,H',h1,?_⟩
    cases e with
    |ret v=>exact ⟨h2.1,hC _ _ _ _ h2.2⟩
    |bP v=>exact ⟨h2.1,hK _ _ h2.2⟩
   ·exact h.elim
  |bP x=>exact h.elim
  |store m a x=>exact ⟨h.1,h.2.1,hC _ _ _ _ h.2.2⟩
  |ez k ty s x=>exact ⟨h.1,h.2.1,hC _ _ _ _ h.2.2⟩
  |gx g xs=>exact ⟨h.1,h.2.1,hC _ _ _ _ h.2.2⟩
  |_=>exact ⟨h.1,hC _ _ _ _ h.2⟩
theorem uT{P:Program}{A:List (List Nat)}{n:Nat}{K K':List AV→Y→Prop}{Kp De:AV→Y→Prop}(h1:∀ts H,K ts H→K' ts H)(h2:∀v H,Kp v H→De v H):∀{l:List cy}{i:Nat}{ts:List AV}{H:Y}{ld:List (Nat×Nat)}{hs:List (Nat×Y×Y)},cY P A n K Kp i l ts H ld hs→cY P A n K' De i l ts H ld hs
 |[],_,_,_,_,_,h=>h1 _ _ h
 |o::r,i,ts,H,ld,hs,h=>lR (fun h=>S2 (fun v H ld hs h=>uT h1 h2 h) h2 h) (fun h=>uT h1 h2 h) h
theorem Df{P:Program}:∀{c:IC}{K K':Post},(∀x ts H,K x ts H→K' x ts H)→∀{ts:List AV}{H:Y},ES P c K ts H→ES P c K' ts H:=by
 intro c
 induction c with
 |skip=>intro K K' hk ts H h;exact hk _ _ _ h
 |ops l=>intro K K' hk ts H h;exact gQ (fun _ _ h=>hk _ _ _ h) (fun _ _ _ h=>hk _ _ _ h) h
 |di l A=>intro K K' hk ts H h;exact uT (fun _ _ h=>hk _ _ _ h) (fun _ _ h=>hk _ _ _ h) h
 |seq a b yL Ai =>
  intro K K' hk ts H h
  refine yL (fun x ts H h=>?_) h
  cases x<;>first|exact Ai hk h|exact hk _ _ _ h
 |cond c a b yL Ai =>
  intro K K' hk ts H h
  simp only[ES] at h ⊢
  split at h
  ·exact ⟨fun e=>yL hk (h.1 e),fun e=>Ai hk (h.2 e)⟩
  ·exact ⟨yL hk h.1,Ai hk h.2⟩
  ·exact h.elim
 |block id c ih =>
  intro K K' hk ts H h
  refine ih (fun x ts H h=>?_) h
  cases x<;>first|exact hk _ _ _ h|skip
  simp only[mo] at h ⊢
  split at h
  ·rename_i e;rw[if_pos e];exact hk _ _ _ h
  ·rename_i e;rw[if_neg e];exact hk _ _ _ h
 |loop c ih =>
  intro K K' hk ts H h
  obtain ⟨I,μ,h1,h2⟩:=h
  refine ⟨I,μ,h1,fun ts H hI=>ih (fun x ts' H' h=>?_) (h2 ts H hI)⟩
  cases x<;>first|exact h|exact hk _ _ _ h
 |exit id=>intro K K' hk ts H h;exact hk _ _ _ h
 |ret=>intro K K' hk ts H h;exact hk _ _ _ h
 |yld l1 g y args d l2=>intro K K' hk ts H h;exact gQ (fun _ _ h=>lR (fun h=>Dd (fun _ _ h=>gQ (fun _ _ h=>hk _ _ _ h) (fun _ _ _ h=>hk _ _ _ h) h) (fun _ _ h=>hk _ _ _ h) h) (fun h=>gQ (fun _ _ h=>hk _ _ _ h) (fun _ _ _ h=>hk _ _ _ h) h) h) (fun _ _ _ h=>hk _ _ _ h) h
 |rng g ps wy body=>intro K K' hk ts H h;exact Oj hk h
theorem Kt{P:Program}:∀{c:IC}{K:Post}{ts:List AV}{H:Y},ES P c K ts H→E P c K ts H:=by
 intro c
 induction c with
 |skip=>intro K ts H h;exact h
 |ops l=>intro K ts H h;exact iX h
 |di l A=>intro K ts H h;exact uR h
 |seq a b yL Ai =>
  intro K ts H h
  refine yL (Df (fun x ts H h=>?_) h)
  cases x<;>first|exact Ai h|exact h
 |cond c a b yL Ai =>
  intro K ts H h
  simp only[ES,E] at h ⊢
  split at h
  ·rename_i he;simp only[he];exact ⟨fun e=>yL (h.1 e),fun e=>Ai (h.2 e)⟩
  ·rename_i he;simp only[he];exact ⟨yL h.1,Ai h.2⟩
  ·exact h.elim
 |block id c ih=>intro K ts H h;exact ih h
 |loop c ih =>
  intro K ts H h
  obtain ⟨I,μ,h1,h2⟩:=h
  exact ⟨I,μ,h1,fun ts H hI=>ih (h2 ts H hI)⟩
 |exit id=>intro K ts H h;exact h
 |ret=>intro K ts H h;exact h
 |yld l1 g y args d l2=>intro K ts H h;exact iX (gQ (fun _ _ h=>lR (fun h=>Dd (fun _ _ h=>iX h) (fun _ _ h=>h) h) (fun h=>iX h) h) (fun _ _ _ h=>h) h)
 |rng g ps wy body=>intro K ts H h;exact h
def Ix(want:Bool)(yes no:Prop):AV→Prop
 |.sc (.bool b)=>(b=want→yes)∧(b≠want→no)
 |.aO _=>no
 |_=>False
theorem Gm{ts:List AV}{yes no:Prop}{g:Nat}{want:Bool}:cI ts yes no (some (g,want))=Ix want yes no (ts.getD g .top):=by
 simp only[cI]
 generalize ts.getD g .top=v
 cases v with
 |sc v=>cases v<;>rfl
 |_=>rfl
def xf(P:Program)(K:List AV→Y→Prop)(Kp:AV→List AV→Y→Prop)(d:Option Nat)(f:FuncId)(args:List AV)(r:List cy)(ts:List AV)(H:Y):Prop :=
 DK P f args H (fun e H'=>cH.post (fun v H'=>dj P K Kp r (cz ts d v) H') (fun v H'=>Kp v ts H') H' e)
theorem ae{P:Program}{K:List AV→Y→Prop}{Kp:AV→List AV→Y→Prop}{d:Option Nat}{f:FuncId}{args:List AV}{r:List cy}{ts:List AV}{H H':Y}{v:AV}(h:D P f args H (.ret v) H')(hk:dj P K Kp r (cz ts d v) H'):xf P K Kp d f args r ts H:=h.dk.mono fun e H1 _ ⟨h1,h2⟩=>by subst h1 h2;exact hk
theorem pU{P:Program}{K:List AV→Y→Prop}{Kp:AV→List AV→Y→Prop}{d:Option Nat}{f:FuncId}{args:List AV}{r:List cy}{ts:List AV}{H H':Y}{v:AV}(h:D P f args H (.bP v) H')(hk:Kp v ts H'):xf P K Kp d f args r ts H:=h.dk.mono fun e H1 _ ⟨h1,h2⟩=>by subst h1 h2;exact hk
theorem jr{P:Program}{K:List AV→Y→Prop}{Kp:AV→List AV→Y→Prop}{d:Option Nat}{f:FuncId}{args:List AV}{r:List cy}{ts:List AV}{H:Y}{Kr:cH→Y→Prop}(h:DK P f args H Kr)(hk:∀e H',H.length≤H'.length→Kr e H'→cH.post (fun v H'=>dj P K Kp r (cz ts d v) H') (fun v H'=>Kp v ts H') H' e):xf P K Kp d f args r ts H:=h.mono hk
theorem gp{P:Program}{K:List AV→Y→Prop}{Kp:AV→List AV→Y→Prop}{d:Option Nat}{f:FuncId}{args:List AV}{r:List cy}{ts:List AV}{H:Y}{Q:AV→Y→Prop}(h:DK P f args H (fun e H'=>∃v,e = .ret v∧Q v H'))(hk:∀v H',H.length≤H'.length→Q v H'→dj P K Kp r (cz ts d v) H'):xf P K Kp d f args r ts H:=h.mono fun e H' hl ⟨v,he,hq⟩=>by subst he;exact hk v H' hl hq
def Ol(P:Program)(K:List AV→Y→Prop)(Kp:AV→List AV→Y→Prop)(d:Option Nat)(f:AV)(args:List AV)(r:List cy)(ts:List AV)(H:Y):Prop :=
 match f with
 |.fn (.func g) a b=>cr P g=true∧xf P K Kp d g (a++args++b) r ts H
 |_=>False
def wI(P:Program)(K:List AV→Y→Prop)(Kp:AV→List AV→Y→Prop)(d:Option Nat)(op:eX)(want:Bool)(r:List cy)(ts:List AV)(H:Y)(v:AV):Prop :=
 match v with
 |.sc (.bool b)=>(b=want→dj P K Kp (⟨d,none,op⟩::r) ts H)∧(b≠want→dj P K Kp r (cz ts d (.aO [])) H)
 |.aO _=>dj P K Kp r (cz ts d (.aO [])) H
 |_=>False
section
variable {P:Program}{K:List AV→Y→Prop}{Kp:AV→List AV→Y→Prop}{d:Option Nat}{r:List cy}{ts:List AV}{H:Y}
theorem S3:dj P K Kp [] ts H=K ts H:=rfl
theorem aa3{q:PO}:dj P K Kp (⟨d,none,.p q⟩::r) ts H=(q.ok (X.ev ts)∧dj P K Kp r (cz ts d (q.val (X.ev ts))) H):=rfl
theorem Om{n:Nat}{ag:Bool}{a:X}:dj P K Kp (⟨d,none,.h (.load n ag a)⟩::r) ts H=(wG H n ag (a.ev ts)∧dj P K Kp r (cz ts d (Fm H n ag (a.ev ts))) H):=rfl
theorem Ku{z:AV}{ty:TypeId}:dj P K Kp (⟨d,none,.h (.alloc z ty)⟩::r) ts H=dj P K Kp r (cz ts d (.ptr z.az H.length 0 0)) (some ⟨z.az,[z],true,ty⟩::H):=by
 show (True∧_)=_;rw[true_and];rfl
theorem S4{k:Nat}{ty:TypeId}{x:X}:dj P K Kp (⟨d,none,.h (.box k ty x)⟩::r) ts H=(((x.ev ts).bT=false∧(x.ev ts).az=k)∧dj P K Kp r (cz ts d (.ptr k H.length 0 0)) (some ⟨k,[x.ev ts],true,ty⟩::H)):=rfl
theorem S5{k:Nat}{ty:TypeId}{z:AV}{ln:Nat}{ps:List (Nat×X)}:dj P K Kp (⟨d,none,.h (.ep k ty z ln ps)⟩::r) ts H=(nn (X.ev ts) k (List.replicate ln z) ps∧dj P K Kp r (cz ts d (.am k (rT (X.ev ts) (List.replicate ln z) ps) (some []))) H):=rfl
theorem Oo{k:Nat}{ty:TypeId}{z:AV}{ln:Nat}{ps:List (Nat×X)}:dj P K Kp (⟨d,none,.h (.kN k ty z ln ps)⟩::r) ts H=(nn (X.ev ts) k (List.replicate ln z) ps∧dj P K Kp r (cz ts d (.aD k H.length 0 ln (some ln))) (some ⟨k,rT (X.ev ts) (List.replicate ln z) ps,true,ty⟩::H)):=rfl
theorem Kv{n:Nat}{a x:X}:dj P K Kp (⟨d,none,.h (.store n a x)⟩::r) ts H=(Bo H n (a.ev ts) (x.ev ts)∧dj P K Kp r (cz ts d .top) (yK H (a.ev ts) (x.ev ts))):=rfl
theorem Oq{k:Nat}{ty:TypeId}{z:AV}{l c:X}:dj P K Kp (⟨d,none,.h (.jM k ty z l c)⟩::r) ts H=((qP (l.ev ts)∧qP (c.ev ts)∧0≤aM (l.ev ts)∧aM (l.ev ts)≤aM (c.ev ts)∧aM (c.ev ts)≤100000000)∧dj P K Kp r (cz ts d (.aD k H.length 0 (aM (l.ev ts)).toNat (some (aM (c.ev ts)).toNat))) (some ⟨k,List.replicate (aM (c.ev ts)).toNat z,true,ty⟩::H)):=rfl
theorem WZ{g:GX}{xs:List X}:dj P K Kp (⟨d,none,.h (.gx g xs)⟩::r) ts H=(g.ok H (xs.map (X.ev ts))∧dj P K Kp r (cz ts d (g.val H (xs.map (X.ev ts)))) (g.heap H (xs.map (X.ev ts)))):=rfl
theorem S6{kd:NP}{x:X}:dj P K Kp (⟨d,none,.h (.rO kd x)⟩::r) ts H=NQ (fun v H'=>dj P K Kp r (cz ts d v) H') H kd (x.ev ts):=rfl
theorem S7{k:Nat}{ty:TypeId}{s x:X}:dj P K Kp (⟨d,none,.h (.ez k ty s x)⟩::r) ts H=((wH H k (x.ev ts)∧gN H k ty (pb H (x.ev ts)) (s.ev ts))∧dj P K Kp r (cz ts d (lB H k (pb H (x.ev ts)) (s.ev ts))) (jx H k ty (pb H (x.ev ts)) (s.ev ts))):=rfl
theorem Ot{f:FuncId}{fw:List X}:dj P K Kp (⟨d,none,.h (.call f fw)⟩::r) ts H=xf P K Kp d f (fw.map (X.ev ts)) r ts H:=rfl
theorem Kw{f:X}{fw:List X}:dj P K Kp (⟨d,none,.h (.cq f fw)⟩::r) ts H=Ol P K Kp d (f.ev ts) (fw.map (X.ev ts)) r ts H:=by
 show (match f.ev ts with
  |.fn (.func g) a b=>cr P g=true∧DK P g (a++fw.map (X.ev ts)++b) H (fun e H'=>cH.post _ _ H' e)
  | _=>False)=_
 unfold Ol
 cases f.ev ts<;>rfl
theorem Kx{g:FuncId}{a b fw:List AV}:Ol P K Kp d (.fn (.func g) a b) fw r ts H=(cr P g=true∧xf P K Kp d g (a++fw++b) r ts H):=rfl
theorem S8{g:Nat}{want:Bool}{op:eX}:dj P K Kp (⟨d,some (g,want),op⟩::r) ts H=wI P K Kp d op want r ts H (ts.getD g .top):=by
 have hg:∀{yes no:Prop}{v:AV},Ix want yes no v=(match v with
  |.sc (.bool b)=>(b=want→yes)∧(b≠want→no)
  |.aO _=>no
  | _=>False):=fun {_ _} {v}=>by cases v<;>rfl
 exact Gm.trans hg
theorem W0{op:eX}:wI P K Kp d op true r ts H (.sc (.bool true))=dj P K Kp (⟨d,none,op⟩::r) ts H:=by simp[wI]
theorem W2{op:eX}:wI P K Kp d op false r ts H (.sc (.bool false))=dj P K Kp (⟨d,none,op⟩::r) ts H:=by simp[wI]
theorem W3{op:eX}:wI P K Kp d op true r ts H (.sc (.bool false))=dj P K Kp r (cz ts d (.aO [])) H:=by simp[wI]
theorem W4{op:eX}:wI P K Kp d op false r ts H (.sc (.bool true))=dj P K Kp r (cz ts d (.aO [])) H:=by simp[wI]
theorem S9{op:eX}{want:Bool}{vs:List AV}:wI P K Kp d op want r ts H (.aO vs)=dj P K Kp r (cz ts d (.aO [])) H:=rfl
end
def Dg(P:Program)(A:List (List Nat))(n:Nat)(K:List AV→Y→Prop)(Kp:AV→Y→Prop)(i:Nat)(d:Option Nat)(f:FuncId)(args:List AV)(r:List cy)(ts:List AV)(H:Y)(ld:List (Nat×Nat))(hs:List (Nat×Y×Y)):Prop :=
 ∃e H',D P f args H e H'∧cH.post (fun v H'=>sW A i ld H H'∧cY P A n K Kp (i+1) r (cz ts d v) H' ld ((i,H,H')::hs)) (fun v H'=>ru A n i=true∧Kp v H') H' e
def Ou(P:Program)(A:List (List Nat))(n:Nat)(K:List AV→Y→Prop)(Kp:AV→Y→Prop)(i:Nat)(d:Option Nat)(f:AV)(args:List AV)(r:List cy)(ts:List AV)(H:Y)(ld:List (Nat×Nat))(hs:List (Nat×Y×Y)):Prop :=
 match f with
 |.fn (.func g) a b=>cr P g=true∧Dg P A n K Kp i d g (a++args++b) r ts H ld hs
 |_=>False
def wJ(P:Program)(A:List (List Nat))(n:Nat)(K:List AV→Y→Prop)(Kp:AV→Y→Prop)(i:Nat)(d:Option Nat)(op:eX)(want:Bool)(r:List cy)(ts:List AV)(H:Y)(ld:List (Nat×Nat))(hs:List (Nat×Y×Y))(v:AV):Prop :=
 match v with
 |.sc (.bool b)=>(b=want→cY P A n K Kp i (⟨d,none,op⟩::r) ts H ld hs)∧(b≠want→cY P A n K Kp (i+1) r (cz ts d (.aO [])) H ld hs)
 |.aO _=>cY P A n K Kp (i+1) r (cz ts d (.aO [])) H ld hs
 |_=>False
section
variable {P:Program}{A:List (List Nat)}{n i:Nat}{K:List AV→Y→Prop}{Kp:AV→Y→Prop}{d:Option Nat}{r:List cy}{ts:List AV}{H:Y}{ld:List (Nat×Nat)}{hs:List (Nat×Y×Y)}
theorem sX{f:FuncId}{args:List AV}{H':Y}{v:AV}(h:D P f args H (.ret v) H')(hc:sW A i ld H H')(hk:cY P A n K Kp (i+1) r (cz ts d v) H' ld ((i,H,H')::hs)):Dg P A n K Kp i d f args r ts H ld hs:=⟨_,_,h,hc,hk⟩
theorem Ta:sW A i ld H H=True:=by simp[sW]
theorem aL{f:FuncId}{args:List AV}{v:AV}(h:D P f args H (.ret v) H)(hk:cY P A n K Kp (i+1) r (cz ts d v) H ld ((i,H,H)::hs)):Dg P A n K Kp i d f args r ts H ld hs:=⟨_,_,h,by simp[sW],hk⟩
theorem Ov:cY P A n K Kp i [] ts H ld hs=K ts H:=rfl
theorem W5{q:PO}:cY P A n K Kp i (⟨d,none,.p q⟩::r) ts H ld hs=(q.ok (X.ev ts)∧cY P A n K Kp (i+1) r (cz ts d (q.val (X.ev ts))) H ld hs):=rfl
theorem Ky{m:Nat}{ag:Bool}{a:X}:cY P A n K Kp i (⟨d,none,.h (.load m ag a)⟩::r) ts H ld hs=(BR A i hs (a.ev ts)∧wG H m ag (a.ev ts)∧cY P A n K Kp (i+1) r (cz ts d (Fm H m ag (a.ev ts))) H (WY i ld (a.ev ts)) hs):=rfl
theorem Iy{z:AV}{ty:TypeId}:cY P A n K Kp i (⟨d,none,.h (.alloc z ty)⟩::r) ts H ld hs=cY P A n K Kp (i+1) r (cz ts d (.ptr z.az H.length 0 0)) (some ⟨z.az,[z],true,ty⟩::H) ((i,H.length)::ld) hs:=by
 show (True∧_)=_;rw[true_and];rfl
theorem Ow{k:Nat}{ty:TypeId}{x:X}:cY P A n K Kp i (⟨d,none,.h (.box k ty x)⟩::r) ts H ld hs=(((x.ev ts).bT=false∧(x.ev ts).az=k)∧cY P A n K Kp (i+1) r (cz ts d (.ptr k H.length 0 0)) (some ⟨k,[x.ev ts],true,ty⟩::H) ((i,H.length)::ld) hs):=rfl
theorem Ox{k:Nat}{ty:TypeId}{z:AV}{ln:Nat}{ps:List (Nat×X)}:cY P A n K Kp i (⟨d,none,.h (.ep k ty z ln ps)⟩::r) ts H ld hs=(nn (X.ev ts) k (List.replicate ln z) ps∧cY P A n K Kp (i+1) r (cz ts d (.am k (rT (X.ev ts) (List.replicate ln z) ps) (some []))) H ld hs):=rfl
theorem Kz{k:Nat}{ty:TypeId}{z:AV}{ln:Nat}{ps:List (Nat×X)}:cY P A n K Kp i (⟨d,none,.h (.kN k ty z ln ps)⟩::r) ts H ld hs=(nn (X.ev ts) k (List.replicate ln z) ps∧cY P A n K Kp (i+1) r (cz ts d (.aD k H.length 0 ln (some ln))) (some ⟨k,rT (X.ev ts) (List.replicate ln z) ps,true,ty⟩::H) ((i,H.length)::ld) hs):=rfl
theorem Iz{m:Nat}{a x:X}:cY P A n K Kp i (⟨d,none,.h (.store m a x)⟩::r) ts H ld hs=(Bo H m (a.ev ts) (x.ev ts)∧sW A i ld H (yK H (a.ev ts) (x.ev ts))∧cY P A n K Kp (i+1) r (cz ts d .top) (yK H (a.ev ts) (x.ev ts)) ld ((i,H,yK H (a.ev ts) (x.ev ts))::hs)):=rfl
theorem KA{k:Nat}{ty:TypeId}{z:AV}{l c:X}:cY P A n K Kp i (⟨d,none,.h (.jM k ty z l c)⟩::r) ts H ld hs=((qP (l.ev ts)∧qP (c.ev ts)∧0≤aM (l.ev ts)∧aM (l.ev ts)≤aM (c.ev ts)∧aM (c.ev ts)≤100000000)∧cY P A n K Kp (i+1) r (cz ts d (.aD k H.length 0 (aM (l.ev ts)).toNat (some (aM (c.ev ts)).toNat))) (some ⟨k,List.replicate (aM (c.ev ts)).toNat z,true,ty⟩::H) ((i,H.length)::ld) hs):=rfl
theorem Tb{g:GX}{xs:List X}:cY P A n K Kp i (⟨d,none,.h (.gx g xs)⟩::r) ts H ld hs=(g.ok H (xs.map (X.ev ts))∧sW A i ld H (g.heap H (xs.map (X.ev ts)))∧cY P A n K Kp (i+1) r (cz ts d (g.val H (xs.map (X.ev ts)))) (g.heap H (xs.map (X.ev ts))) ld ((i,H,g.heap H (xs.map (X.ev ts)))::hs)):=rfl
theorem Oy{k:Nat}{ty:TypeId}{s x:X}:cY P A n K Kp i (⟨d,none,.h (.ez k ty s x)⟩::r) ts H ld hs=((wH H k (x.ev ts)∧gN H k ty (pb H (x.ev ts)) (s.ev ts))∧sW A i ld H (jx H k ty (pb H (x.ev ts)) (s.ev ts))∧cY P A n K Kp (i+1) r (cz ts d (lB H k (pb H (x.ev ts)) (s.ev ts))) (jx H k ty (pb H (x.ev ts)) (s.ev ts)) ld ((i,H,jx H k ty (pb H (x.ev ts)) (s.ev ts))::hs)):=rfl
theorem KB{f:FuncId}{fw:List X}:cY P A n K Kp i (⟨d,none,.h (.call f fw)⟩::r) ts H ld hs=Dg P A n K Kp i d f (fw.map (X.ev ts)) r ts H ld hs:=rfl
theorem IA{f:X}{fw:List X}:cY P A n K Kp i (⟨d,none,.h (.cq f fw)⟩::r) ts H ld hs=Ou P A n K Kp i d (f.ev ts) (fw.map (X.ev ts)) r ts H ld hs:=by
 show (match f.ev ts with
  |.fn (.func g) a b=>cr P g=true∧∃e H',D P g (a++fw.map (X.ev ts)++b) H e H'∧cH.post _ _ H' e
  | _=>False)=_
 unfold Ou
 cases f.ev ts<;>rfl
theorem KC{g:FuncId}{a b fw:List AV}:Ou P A n K Kp i d (.fn (.func g) a b) fw r ts H ld hs=(cr P g=true∧Dg P A n K Kp i d g (a++fw++b) r ts H ld hs):=rfl
theorem Oz{g:Nat}{want:Bool}{op:eX}:cY P A n K Kp i (⟨d,some (g,want),op⟩::r) ts H ld hs=wJ P A n K Kp i d op want r ts H ld hs (ts.getD g .top):=by
 have hg:∀{yes no:Prop}{v:AV},Ix want yes no v=(match v with
  |.sc (.bool b)=>(b=want→yes)∧(b≠want→no)
  |.aO _=>no
  | _=>False):=fun {_ _} {v}=>by cases v<;>rfl
 exact Gm.trans hg
theorem W6{op:eX}:wJ P A n K Kp i d op true r ts H ld hs (.sc (.bool true))=cY P A n K Kp i (⟨d,none,op⟩::r) ts H ld hs:=by simp[wJ]
theorem W7{op:eX}:wJ P A n K Kp i d op false r ts H ld hs (.sc (.bool false))=cY P A n K Kp i (⟨d,none,op⟩::r) ts H ld hs:=by simp[wJ]
theorem W8{op:eX}:wJ P A n K Kp i d op true r ts H ld hs (.sc (.bool false))=cY P A n K Kp (i+1) r (cz ts d (.aO [])) H ld hs:=by simp[wJ]
theorem W9{op:eX}:wJ P A n K Kp i d op false r ts H ld hs (.sc (.bool true))=cY P A n K Kp (i+1) r (cz ts d (.aO [])) H ld hs:=by simp[wJ]
theorem Tc{op:eX}{want:Bool}{vs:List AV}:wJ P A n K Kp i d op want r ts H ld hs (.aO vs)=cY P A n K Kp (i+1) r (cz ts d (.aO [])) H ld hs:=rfl
end
def Aj(P:Program)(a b:IC)(K:Post)(ts:List AV)(H:Y)(v:AV):Prop :=
 match v with
 |.sc (.bool t)=>(t=true→ES P a K ts H)∧(t=false→ES P b K ts H)
 |.ub=>ES P a K ts H∧ES P b K ts H
 |_=>False
section
variable {P:Program}{K:Post}{ts:List AV}{H:Y}
theorem Xa:ES P .skip K ts H=K .normal ts H:=rfl
theorem aa4{l:List cy}:ES P (.ops l) K ts H=dj P (K .normal) (fun v ts' H'=>K (.bP v) ts' H') l ts H:=rfl
theorem Xb{l:List cy}{A:List (List Nat)}:ES P (.di l A) K ts H=cY P A l.length (K .normal) (fun v H'=>K (.bP v) (kj l ts) H') 0 l ts H [] []:=rfl
theorem Ra{a b:IC}:ES P (.seq a b) K ts H=ES P a (kW (ES P b K) K) ts H:=rfl
theorem KD{c:X}{a b:IC}:ES P (.cond c a b) K ts H=Aj P a b K ts H (c.ev ts):=by
 simp only[ES]
 generalize c.ev ts=v
 cases v with
 |sc v=>cases v<;>rfl
 |_=>rfl
theorem Gn{id:Nat}{c:IC}:ES P (.block id c) K ts H=ES P c (mo id K) ts H:=rfl
theorem Xc{id:Nat}:ES P (.exit id) K ts H=K (.exit id) ts H:=rfl
theorem aa5:ES P .ret K ts H=K .ret ts H:=rfl
theorem KE{a b:IC}:Aj P a b K ts H (.sc (.bool true))=ES P a K ts H:=by simp[Aj]
theorem KF{a b:IC}:Aj P a b K ts H (.sc (.bool false))=ES P b K ts H:=by simp[Aj]
theorem dz{a b:IC}{p:Prop} [Decidable p](h1:p→ES P a K ts H)(h2:¬p→ES P b K ts H):Aj P a b K ts H (.sc (.bool (decide p))):=⟨fun e=>h1 (of_decide_eq_true e),fun e=>h2 (of_decide_eq_false e)⟩
theorem Xd{next:List AV→Y→Prop}:kW next K .normal ts H=next ts H:=rfl
theorem Xe{next:List AV→Y→Prop}{i:Nat}:kW next K (.exit i) ts H=K (.exit i) ts H:=rfl
theorem Xf{next:List AV→Y→Prop}:kW next K .ret ts H=K .ret ts H:=rfl
theorem Xg{next:List AV→Y→Prop}{v:AV}:kW next K (.bP v) ts H=K (.bP v) ts H:=rfl
theorem Td{id:Nat}:mo id K .normal ts H=K .normal ts H:=rfl
theorem Gp{id i:Nat}:mo id K (.exit i) ts H=if i=id then K .normal ts H else K (.exit i) ts H:=rfl
theorem Te{id:Nat}:mo id K .ret ts H=K .ret ts H:=rfl
theorem Tf{id:Nat}{v:AV}:mo id K (.bP v) ts H=K (.bP v) ts H:=rfl
theorem Dh{c:IC}(I:List AV→Y→Prop)(μ:List AV→Y→Nat)(h0:I ts H)(h:∀ts H,I ts H→ES P c (kW (fun ts' H'=>I ts' H'∧μ ts' H'<μ ts H) K) ts H):ES P (.loop c) K ts H:=⟨I,μ,h0,h⟩
end
def iY:List RV→List AV→Y→Prop
 |[],_,_=>True
 |.t _::r,ts,H=>iY r ts H
 | .c a n ag::r,ts,H=>(match ts.getD a .top with
  |.ptr k id j f=>wG H n ag (.ptr k id j f)
  | _=>False)∧iY r ts H
def kO:List RV→List AV→Y→List AV
 |[],_,_=>[]
 |.t n::r,ts,H=>ts.getD n .top::kO r ts H
 |.c a n ag::r,ts,H=>Fm H n ag (ts.getD a .top)::kO r ts H
theorem uU:∀{rs:List RV}{ts:List AV}{H:Y}{K:List AV→Prop},iY rs ts H→K (kO rs ts H)→uM rs ts H K
 |[],_,_,_,_,hk=>hk
 |.t n::r,ts,H,K,h,hk=>uU (rs:=r) h hk
 |.c a n ag::r,ts,H,K,h,hk=>by
  obtain ⟨h1,h2⟩:=h
  simp only[kO] at hk
  simp only[uM]
  cases he:ts.getD a .top<;>rw[he] at h1 hk<;>try exact h1.elim
  simp only[wG,Fm] at h1 hk
  cases hf:Y.find H _ with
  |none=>rw[hf] at h1;exact h1.elim
  |some blk =>
   rw[hf] at h1 hk
   exact ⟨blk,_,hf,uQ h1.2.1,⟨h1.1,h1.2.2⟩,uU h2 hk⟩
def sY(rs:List RV)(Kr:cH→Y→Prop):Post
 |.normal,ts,H=>iY rs ts H∧Kr (.ret (oneOf (kO rs ts H))) H
 |.ret,ts,H=>iY rs ts H∧Kr (.ret (oneOf (kO rs ts H))) H
 |.bP v,ts,H=>Kr (.bP v) H
 |.exit _,_,_=>False
theorem mq{rs:List RV}{Kr:cH→Y→Prop}:∀x ts H,sY rs Kr x ts H→Ae rs Kr x ts H
 |.normal,_,_,h=>uU h.1 h.2
 |.ret,_,_,h=>uU h.1 h.2
 |.bP _,_,_,h=>h
 |.exit _,_,_,h=>h
section
variable {rs:List RV}{Kr:cH→Y→Prop}{ts:List AV}{H:Y}
theorem Xh:sY rs Kr .normal ts H=(iY rs ts H∧Kr (.ret (oneOf (kO rs ts H))) H):=rfl
theorem Xi:sY rs Kr .ret ts H=(iY rs ts H∧Kr (.ret (oneOf (kO rs ts H))) H):=rfl
theorem Xj{v:AV}:sY rs Kr (.bP v) ts H=Kr (.bP v) H:=rfl
end
theorem aA{P:Program}{ic:IC}{rs:List RV}{Kr:cH→Y→Prop}{ts:List AV}{H:Y}(h:ES P ic (sY rs Kr) ts H):E P ic (Ae rs Kr) ts H:=Kt (Df mq h)
theorem wrap_i64{n:Int}(h1 : -9223372036854775808≤n)(h2:n≤9223372036854775807):IntKind.i64.wrap n=n:=by
 unfold IntKind.wrap
 simp[IntKind.signed,IntKind.bits]
 omega
def gR:aU:=fun _=>none
abbrev O0:Nat→Prop:=Own gR []
theorem tN{b:Nat}:¬Own gR [] b:=by rintro ⟨id,blk,h,_⟩;simp[gR] at h
theorem Rb{w:World}(hg:BL gR [] w):Rel gR [] w:=⟨hg,fun id b h=>by simp[gR] at h,fun i j b h=>by simp[gR] at h,fun id b k h=>by simp[gR] at h⟩
section
variable {φ:aU}{O:Nat→Prop}{w:World}
theorem uV{l:List AV}{g g':Nat→Option Value}(h:∀i v,g i=some v→g' i=some v)(hr:Rs φ O w l g):Rs φ O w l g' :=
 jp (ok:=fun _=>True) Later.refl l g g' (AV.cO l) h hr
theorem aa6{l m:List AV}:∀{g:Nat→Option Value},Rs φ O w l g→Rs φ O w m (fun i=>g (l.length+i))→Rs φ O w (l++m) g:=by
 induction l with
 |nil=>intro g _ h;simpa using h
 |cons x r ih =>
  intro g h1 h2
  refine ⟨h1.1,h1.2.1,h1.2.2.1,ih h1.2.2.2 ?_⟩
  refine uV (fun i v hv=>?_) h2
  rw[←hv]
  show g _=g _
  congr 1
  simp only[List.length_cons]
  omega
theorem yM{x:AV}{g:Nat→Option Value}(ha:x.isAgg=false){u:Value}(hu:g 0=some u)(h1:u.oneCell'=true)(hr:R φ O w x g):Rs φ O w x.cells g:=by
 have:x.cells=[x]:=by cases x<;>first|rfl|(simp[AV.isAgg] at ha)
 rw[this]
 exact ⟨ha,hr,⟨u,hu,h1⟩,trivial⟩
theorem Di{b k:Nat}:∀{l:List AV}{off:Nat},(∀i x,l[i]? = some x→x.az=k∧Rs φ O w x.cells (cX w b (off+i*k)))→Rl φ O w b k l off
 |[],_,_=>trivial
 |x::r,off,h=>by
  obtain ⟨h1,h2⟩:=h 0 x rfl
  have h3:=ye (r:=[]) (by rw[List.append_nil];exact h2)
  simp only[Nat.zero_mul,Nat.add_zero] at h3
  refine ⟨h1,h3.2,h3.1,Di fun i y hy=>?_⟩
  have:=h (i+1) y (by simpa using hy)
  rw[Nat.add_mul,Nat.one_mul,Nat.add_comm (i*k) k,←Nat.add_assoc] at this
  exact this
end
inductive pV{α β:Type}(p:α→β→Prop):List α→List β→Prop where
 | nil:pV p [] []
 | cons {a:α}{b:β}{r:List α}{s:List β}:p a b→pV p r s→pV p (a::r) (b::s)
theorem pV.length{α β:Type}{p:α→β→Prop}{l:List α}{m:List β}(h:pV p l m):l.length=m.length:=by
 induction h with
 |nil=>rfl
 |cons _ _ ih=>simp[ih]
theorem pV.Rc{α β:Type}{p:α→β→Prop}:∀{l:List α}{m:List β},l.length=m.length→(∀(i:Nat)(a:α)(b:β),l[i]? = some a→m[i]? = some b→p a b)→pV p l m
 |[],[],_,_=>.nil
 |[],_::_,h,_=>by simp at h
 |_::_,[],h,_=>by simp at h
 |a::r,b::s,h,hp=>.cons (hp 0 a b rfl rfl) (pV.Rc (by simpa using h) fun i x y hx hy=>hp (i+1) x y (by simpa using hx) (by simpa using hy))
theorem pV.mono{α β:Type}{p q:α→β→Prop}(hq:∀a b,p a b→q a b){l:List α}{m:List β}(h:pV p l m):pV q l m:=by
 induction h with
 |nil=>exact .nil
 |cons h1 _ ih=>exact .cons (hq _ _ h1) ih
theorem KG{α:Type}{p:Nat→α→Prop}:∀(n:Nat),(∀i,i<n→∃a,p i a)→∃l:List α,l.length=n∧∀i a,l[i]? = some a→p i a
 |0,_=>⟨[],rfl,fun i a h=>by simp at h⟩
 |n+1,h=>by
  obtain ⟨l,h1,h2⟩:=KG n fun i hi=>h i (by omega)
  obtain ⟨a,ha⟩:=h n (by omega)
  refine ⟨l++[a],by simp[h1],fun i x hx=>?_⟩
  by_cases e:i<l.length
  ·rw[List.getElem?_append_left e] at hx
   exact h2 i x hx
  ·rw[List.getElem?_append_right (by omega)] at hx
   have:i-l.length=0:=by
    have:=(List.getElem?_eq_some_iff.1 hx).1
    simp at this
    omega
   rw[this] at hx
   simp at hx
   subst hx
   have:i=n:=by omega
   rw[this]
   exact ha
section
variable {Hh:Type}{enc:TypeId×Value→Hh}{P:Program}{w:World}{n:Nat}{t:TypeId}
def jg(enc:TypeId×Value→Hh)(P:Program)(w:World)(n:Nat)(t:TypeId){α:Type}(en:α→AV)(good:α→DataW Hh→Prop):Prop :=
 ∀cs d ps,DataW.trod enc P w 0 (fun _=>true) true n t cs=some (d,ps)→∃a,cs.length=(en a).az∧Rs gR O0 w (en a).cells (fun i=>cs[i]?)∧good a d
def uW(enc:TypeId×Value→Hh)(P:Program)(w:World)(n:Nat)(off:Nat)(fs:List Field){α:Type}(en:α→List AV)(good:α→List (DataW Hh)→Prop):Prop :=
 ∀(cs:List Value)(xs:List (DataW Hh×List MemPlace)),xs.length=fs.length→(∀(i:Nat)(f:Field),fs[i]? = some f→DataW.trod enc P w 0 (fun _=>true) true n f.type ((cs.drop f.offset).take (P.cellsOf f.type))=xs[i]?)→
  ∃a,Rs gR O0 w (en a) (fun i=>cs[off+i]?)∧good a (xs.map (·.1))
theorem jg.zero{α:Type}{en:α→AV}{good:α→DataW Hh→Prop}:jg enc P w 0 t en good:=fun cs d ps h=>by simp[DataW.trod] at h
theorem jg.map{α β:Type}{en:α→AV}{good:α→DataW Hh→Prop}(h:jg enc P w n t en good)(f:α→β){en':β→AV}{Xk:β→DataW Hh→Prop}(he:∀a d,good a d→en' (f a)=en a∧Xk (f a) d):jg enc P w n t en' Xk:=by
 intro cs d ps hd
 obtain ⟨a,h1,h2,h3⟩:=h cs d ps hd
 obtain ⟨h4,h5⟩:=he a d h3
 exact ⟨f a,by rw[h4];exact h1,by rw[h4];exact h2,h5⟩
theorem jg.int{k:IntKind}(ht:P.underlying t=some (.int k)):jg enc P w n t (fun i:Int=>.sc (.int k i)) (fun i d=>d = .lit (.int k i)∧(Lit.int k i).wf=true):=by
 intro cs d ps h
 obtain ⟨a,rfl,h2,h3⟩:=DataW.trod_int ht h
 cases h2
 exact ⟨a,rfl,yM rfl (u:=.int k a) rfl rfl rfl,rfl,h3⟩
theorem jg.bool(ht:P.underlying t=some .bool):jg enc P w n t (fun i:Bool=>.sc (.bool i)) (fun i d=>d = .lit (.bool i)):=by
 intro cs d ps h
 obtain ⟨a,rfl,h2⟩:=DataW.trod_bool ht h
 cases h2
 exact ⟨a,rfl,yM rfl (u:=.bool a) rfl rfl rfl,rfl⟩
theorem jg.str(ht:P.underlying t=some .string):jg enc P w n t (fun s:ByteArray=>.sc (.string s)) (fun s d=>d = .lit (.string s.data.toList)):=by
 intro cs d ps h
 obtain ⟨a,rfl,h2,_⟩:=DataW.trod_string ht h
 cases h2
 exact ⟨a,rfl,yM rfl (u:=.string a) rfl rfl rfl,rfl⟩
theorem uW.nil{off:Nat}:uW enc P w n off [] (fun _:Unit=>[]) (fun _ l=>l=[]):=fun cs xs hl _=>⟨(),trivial,by
 have:xs=[]:=List.length_eq_zero_iff.1 hl
 rw[this];rfl⟩
theorem uW.cons{off k:Nat}{f:Field}{fs:List Field}{α β:Type}{e1:α→AV}{g1:α→DataW Hh→Prop}{e2:β→List AV}{g2:β→List (DataW Hh)→Prop}(ho:f.offset=off)(hk:P.cellsOf f.type=k)(hn:∀a,(e1 a).az=k)
  (h1:jg enc P w n f.type e1 g1)(h2:uW enc P w n (off+k) fs e2 g2):uW enc P w n off (f::fs) (fun p:α×β=>(e1 p.1).cells++e2 p.2) (fun p l=>∃d r,l=d::r∧g1 p.1 d∧g2 p.2 r):=by
 intro cs xs hl hf
 cases xs with
 |nil=>simp at hl
 |cons x xs =>
  have hx:=hf 0 f rfl
  rw[hk,ho] at hx
  obtain ⟨a,a1,a2,a3⟩:=h1 _ x.1 x.2 hx
  obtain ⟨b,b1,b2⟩:=h2 cs xs (by simpa using hl) fun i g hg=>by
   have:=hf (i+1) g (by simpa using hg)
   simpa using this
  refine ⟨(a,b),aa6 (uV (fun i v hv=>?_) a2) ?_,x.1,_,rfl,a3,b2⟩
  ·rw[List.getElem?_take] at hv
   split at hv
   ·rw[List.getElem?_drop] at hv;exact hv
   ·simp at hv
  ·have e:(e1 a).cells.length=k:=by rw[←AV.eW,hn]
   rw[e]
   refine uV (fun i v hv=>?_) b1
   rw[←hv]
   show cs[off+(k+i)]? = cs[off+k+i]?
   rw[Nat.add_assoc]
theorem jg.struct{fs:Array Field}{α:Type}{en:α→List AV}{good:α→List (DataW Hh)→Prop}(ht:P.underlying t=some (.struct fs))(hl:∀a,(en a).length=P.cellsOf t)(h:uW enc P w n 0 fs.toList en good) :
  jg enc P w (n+1) t (fun a=>.agg (en a)) (fun a d=>∃l,d = .agg l∧good a l):=by
 intro cs d ps hd
 obtain ⟨xs,m,hm,hx,hc,hs,hf⟩:=DataW.trod_struct ht hd
 have hmn:m=n:=by omega
 subst hmn
 obtain ⟨a,a1,a2⟩:=h cs xs (by simpa using hs) fun i f hi=>hf i f (by simpa using hi)
 cases hx
 refine ⟨a,?_,?_,_,rfl,a2⟩
 ·show cs.length=(en a).length
  rw[hl,hc]
 ·refine uV (fun i v hv=>?_) a1
  simpa using hv
theorem jg.slice{e:TypeId}{k:Nat}{α:Type}{en:α→AV}{good:α→DataW Hh→Prop}(ht:P.underlying t=some (.slice e))(hk:P.cellsOf e=k)(h0:0<k)(hn:∀a,(en a).az=k)(h:jg enc P w n e en good) :
  jg enc P w (n+1) t (fun l:List α=>.am k (l.map en) none) (fun l d=>(d = .nil∧l=[])∨∃ds r,d = .slice ds r∧pV good l ds):=by
 intro cs d ps hd
 rcases DataW.trod_slice ht hd with ⟨rfl,h2⟩|⟨a,len,cap,elems,rest,m,hm,rfl,hx,_,hlc,hcm,hel,agG,_,_⟩
 ·cases h2
  exact ⟨[],rfl,yM rfl (u:=.slice none 0 0) rfl rfl ⟨none,0,rfl,Nat.le_refl _,by decide,fun _=>rfl,fun h=>by simp at h,trivial⟩,.inl ⟨rfl,rfl⟩⟩
 ·have hmn:m=n:=by omega
  subst hmn
  have hk':∀i,i<len→∃x:α,∃y cs',elems[i]? = some y∧w.cells? 0 (a.add (i*k)) k=some cs'∧cs'.length=(en x).az∧Rs gR O0 w (en x).cells (fun j=>cs'[j]?)∧good x y.1:=by
   intro i hi
   have:=agG i hi
   rw[hk] at this
   have he:∃y,elems[i]? = some y:=⟨elems[i]'(by omega),by simp[hel,hi]⟩
   obtain ⟨y,hy⟩:=he
   rw[hy] at this
   obtain ⟨cs',c1,c2⟩:=Option.bind_eq_some_iff.1 this
   obtain ⟨x,x1,x2,x3⟩:=h cs' y.1 y.2 c2
   exact ⟨x,y,cs',hy,c1,x1,x2,x3⟩
  obtain ⟨l,l1,l2⟩:=KG len hk'
  cases hx
  refine ⟨l,rfl,yM rfl (u:=.slice (some a) len cap) rfl rfl ⟨some a,cap,by simp[l1],by simpa [l1] using hlc,hcm,fun h=>by simp at h,fun hp=>?_,trivial⟩,.inr ⟨_,_,rfl,pV.Rc (by simp[l1,hel]) fun i x y hx hy=>?_⟩⟩
  ·have hp':0<len:=by simpa [l1] using hp
   obtain ⟨x0,y0,cs0,_,c0,c1,_⟩:=hk' 0 hp'
   obtain ⟨b,off,spot⟩:=a
   obtain ⟨_,_,g2⟩:=World.cells?_some c0
   have hs:spot=none:=by
    have hc:w.cell? ((⟨b,off,spot⟩:Addr).add (0*k))=cs0[0]?:=by
     have:=g2 0 h0
     simpa [Addr.add] using this
    rw[hn] at c1
    rw[List.getElem?_eq_getElem (by omega:0<cs0.length)] at hc
    have:=World.cell?_spot hc
    simp only[Addr.add] at this
    split at this<;>simp_all
   subst hs
   refine ⟨b,off,rfl,tN,?_,Di fun i x hx=>?_⟩
   ·have:=World.cells?_block c0 h0
    simpa [Addr.add] using this
   ·rw[List.getElem?_map] at hx
    obtain ⟨z,hz,rfl⟩:=Option.map_eq_some_iff.1 hx
    obtain ⟨y,cs',z1,z2,z3,z4,z5⟩:=l2 i z hz
    obtain ⟨_,q1,q2⟩:=World.cells?_some z2
    refine ⟨hn z,uV (fun j v hv=>?_) z4⟩
    have hj:j<k:=by
     have:=(List.getElem?_eq_some_iff.1 hv).1
     rw[z3,hn] at this
     exact this
    have:=q2 j hj
    rw[addr_add,addr_add] at this
    unfold cX
    rw[this]
    exact hv
  ·obtain ⟨y',cs',z1,z2,z3,z4,z5⟩:=l2 i x hx
   rw[List.getElem?_map,z1] at hy
   cases hy
   exact z5
theorem KH{α:Type}{en:α→AV}{good:α→DataW Hh→Prop}(hr:∀n,jg enc P w n t en good){v:Value}{d:DataW Hh}{ps:List MemPlace}(h:DataW.Trod enc P w 0 (fun _=>true) true t v d ps)(ha:∀a,(en a).isAgg=false)(ht:∀a,(en a).bT=false)(hv:v.oneCell'=true) :
  ∃a,VR gR O0 w (en a) v∧good a d:=by
 obtain ⟨m,hm⟩:=h
 obtain ⟨a,h1,h2,h3⟩:=hr m _ _ _ hm
 refine ⟨a,⟨?_,?_⟩,h3⟩
 ·have e1:=ha a
  have e2:=ht a
  cases he:en a<;>rw[he] at e1 e2<;>first|exact hv|(simp[AV.isAgg] at e1;done)|(simp[AV.bT] at e2;done)
 ·have:=(ye (r:=[]) (by rw[List.append_nil];exact h2)).1
  have e:(fun i=>v.cells.toList[i]?)=fR v:=by funext i;simp[fR]
  rwa [e] at this
theorem Xl{α:Type}{en:α→List AV}{good:α→DataW Hh→Prop}(hr:∀n,jg enc P w n t (fun a=>.agg (en a)) good){cs:Array Value}{d:DataW Hh}{ps:List MemPlace}(h:DataW.Trod enc P w 0 (fun _=>true) true t (.agg cs) d ps) :
  ∃a,VR gR O0 w (.agg (en a)) (.agg cs)∧good a d:=by
 obtain ⟨m,hm⟩:=h
 obtain ⟨a,h1,h2,h3⟩:=hr m _ _ _ hm
 refine ⟨a,⟨⟨cs,rfl,by simpa [Value.cells,AV.az] using h1⟩,?_⟩,h3⟩
 have:=(ye (x:=.agg (en a)) (r:=[]) (by rw[List.append_nil];exact h2)).1
 have e:(fun i=>(Value.agg cs).cells.toList[i]?)=fR (.agg cs):=by funext i;simp[fR]
 rwa [e] at this
end
theorem uX{Hh:Type}{enc:TypeId×Value→Hh}{P:Program}{W W':World}(hl:laidOutB P=true)(hb:Below W.heap.size W W'):∀{ts:List TypeId}{vs:List Value}{ds:List (DataW Hh)}{ps:List MemPlace},(ts.all fun t=>P.readableRec t && decide (t<P.types.size))=true→
  DataW.TrodAll enc P W 0 (fun _=>true) true ts vs ds ps→DataW.TrodAll enc P W' 0 (fun b=>decide (b<W.heap.size)) true ts vs ds ps
 |[],vs,ds,ps,_,h=>by
  cases vs<;>cases ds<;>first|exact h|(simp[DataW.TrodAll] at h)
 |t::ts,vs,ds,ps,hr,h=>by
  obtain ⟨v,vs',d,ds',p,q,rfl,rfl,rfl,h1,h2⟩:=Go.ChangeShapes.trodAll_cons h
  simp only[List.all_cons,Bool.and_eq_true,decide_eq_true_eq] at hr
  have lt1:∀x∈p,x.block<W.heap.size:=by obtain ⟨m,hm⟩:=h1;exact DataW.trod_lt m _ _ _ hm
  exact ⟨p,q,Below.trod hl hr.1.1 hr.1.2 h1 hb lt1,uX hl hb hr.2 h2,rfl⟩
theorem pW{w w':World}{φ:aU}(h:Step gR [] w φ [] w'):Below w.heap.size w w':=⟨h.os,h.tape,h.output,h.size,fun k hk=>h.same k hk tN⟩
theorem KI{P:Program}{f:FuncId}{args:List AV}{b:Bool}(h:D P f args [] (.ret (.sc (.bool b))) []){w:World}{vs:Array Value}(ha:Rt gR O0 w args vs.toList)(hg:BL gR [] w:=by exact fun p hp=>absurd hp (by simp[Vi])):Calls P f vs w fun e w'=>e = .returned (.bool b)∧Below w.heap.size w w' :=
 (h.2 gR w vs (Rb hg) ha).mono fun e w' ⟨φ',h1,h2,h3⟩=>by
  cases e with
  |returned v=>exact ⟨by rw[cw h1],pW h3⟩
  |panicked c=>exact h1.elim
  |outgrown=>exact h1.elim
theorem Tg{Hh:Type}{enc:TypeId×Value→Hh}{P:Program}{f:FuncId}{fn:Func}{W:World}{args:Array Value}{ds gs:List (DataW Hh)}{before:List MemPlace}{avs:List AV}{tb:TypeId}{s:ChangeSpec}(hl:laidOutB P=true)
  (hp:(fn.params.toList.all fun t=>P.readableRec t && decide (t<P.types.size))=true)(hres:fn.resultTypes=#[tb])(htb:P.underlying tb=some .bool)
  (hvars:s.vars=[])(hfn:s.fn Hh (ds++gs)={ results:=[.lit (.bool true)],args:=ds })
  (hW:DataW.Whole enc P fn.params.toList s.vars false W args.toList ds gs before)(ha:Rt gR O0 W avs args.toList)(h:D P f avs [] (.ret (.sc (.bool true))) [])(hg:BL gR [] W:=by exact fun p hp=>absurd hp (by simp[Vi])) :
  Calls P f args W fun e W'=>∃v,e = .returned v∧s.post enc P fn false true false false W args v W':=by
 refine (KI h ha hg).mono fun e W' ⟨he,bel⟩=>?_
 subst he
 have hW':=hW
 obtain ⟨p,q,hA,hV,rfl,hfz,hnd⟩:=hW
 rw[hvars] at hV
 obtain ⟨rfl,rfl⟩:=Go.ChangeShapes.trodVars_none hV
 refine ⟨_,rfl,ds,[],_,[],p,[],hW',?_,?_,?_,bel.frame _,fun h=>by cases h⟩
 ·rw[hfn,hres]
  exact Go.ChangeShapes.trodAll_mk1 (shut_bool htb _)
 ·rw[hfn]
  exact uX hl bel hp hA
 ·rw[hvars,hfn]
  rfl
def rU:List Oper→Option Nat
 |[]=>none
 |[o]=>match o.op,o.dst,o.guard with
  |.defer { callee:=.value (.tmp t),args,.. },none,none=>if args.isEmpty then some t else none
  |_,_,_=>none
 |_::r=>rU r
def IB(P:Program)(bx:List Nat):Code→Option (List cy×Nat)
 |.region id ops false=>match rU ops.toList with
  |some t=>(eg P (bx.contains id) ops ops.toList.dropLast).map (·,t)
  |none=>none
 |_=>none
def uY(P:Program)(bx:List Nat):Code→Option (IC×Nat×IC)
 |.seq a b=>match IB P bx a with
  |some (l,t)=>(dU P bx b).map fun ib=>(.ops l,t,ib)
  |none=>match dU P bx a,uY P bx b with
   |some ia,some (pre,t,ib)=>some (.seq ia pre,t,ib)
   |_,_=>none
 |_=>none
theorem wK:∀{l:List Oper}{t:Nat},rU l=some t→∃(m:List Oper)(o:Oper)(args:Array Operand)(ats:Array TypeId),l=m++[o]∧o.op = .defer { callee:=.value (.tmp t),args:=args,argTypes:=ats }∧args.isEmpty=true∧o.dst=none∧o.guard=none
 |[],t,h=>by simp[rU] at h
 |[o],t,h=>by
  simp only[rU] at h
  split at h
  ·rename_i t' args ats e1 e2 e3
   split at h
   ·rename_i he
    cases h
    exact ⟨[],o,args,ats,rfl,e1,he,e2,e3⟩
   ·simp at h
  ·simp at h
 |x::y::r,t,h=>by
  simp only[rU] at h
  obtain ⟨m,o,args,ats,h1,h2⟩:=wK (l:=y::r) h
  exact ⟨x::m,o,args,ats,by rw[h1];rfl,h2⟩
section
variable {P:Program}
theorem pc{b:Bool}{ops:Array Oper}{Q:Exit→Act→World→Prop}{K:List AV→Y→Prop}{Kp:AV→List AV→Y→Prop}{tail:List Nat}:∀(n i:Nat)(l:List cy)(ts:List AV)(H:Y)(φ:aU)(w:World)(a:Act),
  i+n≤ops.size→eg P b ops ((ops.toList.drop i).take n)=some l→Rel φ H w→FR φ (Own φ H) w ts a→iW P K Kp l ts H→
  (∀ts' a' φ' H' w',K ts' H'→FR φ' (Own φ' H') w' ts' a'→Rel φ' H' w'→Step φ H w φ' H' w'→a'.defers=a.defers→wpOps P ops Q tail a' w')→ng Q Kp φ H w a.defers→wpOps P ops Q (List.range' i n++tail) a w
 |0,i,l,ts,H,φ,w,a,hi,hc,hR,hF,h,hk,hp=>by
  simp[eg] at hc
  subst hc
  exact hk _ _ _ _ _ h hF hR (Step.refl _ _ _) rfl
 |n+1,i,l,ts,H,φ,w,a,hi,hc,hR,hF,h,hk,hp=>by
  have hlt:i<ops.toList.length:=by simp;omega
  rw[List.drop_eq_getElem_cons hlt,List.take_succ_cons] at hc
  unfold eg at hc
  split at hc
  case h_2=>simp at hc
  rename_i x s hx hs
  cases hc
  have NZ:ops[i]? = some (ops.toList[i]):=by simp at hlt;simp[hlt]
  obtain ⟨hd,hg⟩:=w7 hx
  simp only[iW] at h
  have CY:∀φ' H' w',Step φ H w φ' H' w'→∀a':Act,a'.defers=a.defers→(∀w8 a2 dJ H2 w2,K w8 H2→FR dJ (Own dJ H2) w2 w8 a2→Rel dJ H2 w2→Step φ' H' w' dJ H2 w2→a2.defers=a'.defers→wpOps P ops Q tail a2 w2)∧ng Q Kp φ' H' w' a'.defers:=by
   intro φ' H' w' hst a' ha
   exact ⟨fun w8 a2 dJ H2 w2 k1 k2 k3 k4 k5=>hk w8 a2 dJ H2 w2 k1 k2 k3 (hst.trans k4) (by rw[k5,ha]),fun v u w8 a2 dJ H2 w2 k1 k2 k3 k4 k5 k6=>hp v u w8 a2 dJ H2 w2 k1 k2 k3 k4 (hst.trans k5) (by rw[k6,ha])⟩
  rw[show List.range' i (n+1)++tail=i::(List.range' (i+1) n++tail) from rfl]
  simp only[wpOps,NZ]
  rcases jq hg hF h with ⟨hw,hy⟩|⟨hw,hno⟩
  ·rw[if_pos hw]
   left
   refine Ie hx hR hF hy (fun v u φ' H' w' k1 k2 k3 k4=>?_) (fun v u φ' H' w' k1 k2 k3 k4=>?_)
   ·have z6:=(FR.step k4 hF).put (ops.toList[i]).dst k2
    rw[hd] at k1
    have:=CY φ' H' w' k4 (a.put (ops.toList[i]).dst u) (put_defers _ _ _)
    exact pc n (i+1) s _ H' φ' w' _ (by omega) hs k3 z6 k1 this.1 this.2
   ·exact hp v u ts a φ' H' w' k1 k2 (FR.step k4 hF) k3 k4 rfl
  ·rw[if_neg (by rw[hw];simp)]
   have z6:=hF.put (ops.toList[i]).dst (pB (φ:=φ) (O:=Own φ H) (w:=w))
   rw[hd] at hno
   have:=CY φ H w (Step.refl _ _ _) (a.put (ops.toList[i]).dst undef) (put_defers _ _ _)
   exact pc n (i+1) s _ H φ w _ (by omega) hs hR z6 hno this.1 this.2
def Xm(φ:aU)(O:Nat→Prop)(w:World)(g:FuncId)(cK:List AV)(ds:List Deferred):Prop:=∃ws:Array Value,ds=[{ target:=.fn (.func g) ws,args:=#[] }]∧Rt φ O w cK ws.toList
def KJ(g:FuncId)(K:List AV→List AV→Y→Prop)(t:Nat):List AV→Y→Prop:=fun ts H=>match ts.getD t .top with
 |.fn (.func f) [] cK=>f=g∧K cK ts H
 |_=>False
theorem Fp{bx:List Nat}{c:Code}{l:List cy}{t:Nat}(hc:IB P bx c=some (l,t)){g:FuncId}{Q:Exit→Act→World→Prop}{K:List AV→List AV→Y→Prop}{Kp:AV→List AV→Y→Prop}{φ:aU}{H:Y}{w:World}{ts:List AV}{a:Act}
  (hR:Rel φ H w)(hF:FR φ (Own φ H) w ts a)(hd:a.defers=[])(h:iW P (KJ g K t) Kp l ts H)(hk:∀cK ts' a' φ' H' w',K cK ts' H'→FR φ' (Own φ' H') w' ts' a'→Rel φ' H' w'→Step φ H w φ' H' w'→Xm φ' (Own φ' H') w' g cK a'.defers→Q .normal a' w')(hp:ng Q Kp φ H w a.defers):c.wp P Q a w:=by
 unfold IB at hc
 split at hc
 case h_2=>simp at hc
 rename_i id ops
 split at hc
 case h_2=>simp at hc
 rename_i t' hdo
 simp only[Option.map_eq_some_iff] at hc
 obtain ⟨l',hl,he⟩:=hc
 cases he
 obtain ⟨m,o,args,ats,hm,ho,hargs,yG,hgd⟩:=wK hdo
 have hsz:ops.size=m.length+1:=by rw[←Array.length_toList,hm];simp
 rw[hm,List.dropLast_concat] at hl
 refine wp_region ?_
 have IE:List.range ops.size=List.range' 0 m.length++[m.length]:=by rw[hsz,List.range_succ,List.range_eq_range']
 rw[IE]
 refine pc m.length 0 l ts H φ w a (by omega) (by rw[hm];simpa using hl) hR hF h (fun ts' a' φ' H' w' k1 k2 k3 k4 k5=>?_) hp
 have NZ:ops[m.length]? = some o:=by
  rw[←Array.getElem?_toList,hm]
  simp
 simp only[wpOps,NZ]
 have hw:Region.wanted o (yielded ops a'.tmps)=true:=by unfold Region.wanted;rw[hgd]
 rw[if_pos hw]
 left
 have hv:=k2.2 t
 unfold KJ at k1
 split at k1
 case h_2=>exact k1.elim
 rename_i f cK hf
 rw[hf] at hv
 obtain ⟨us,ws,hu,h1,h2⟩:=Cv hv
 have yN:us=#[]:=by
  have:us.toList=[]:=h1
  cases us;simp_all
 subst yN
 unfold Oper.wp
 have aa7:args=#[]:=by
  cases args with
  |mk l=>cases l<;>first|rfl|(simp at hargs)
 have hrun:(execOp a'.eval o).run P w' = .ok (.defer { target:=.fn (.func f) ws,args:=#[] }) w':=by
  have he:a'.eval (.tmp t) = .func (.func f) #[] ws:=hu
  simp[execOp,ho,resolve,he,Deferred.ofValue,aa7]
 rw[hrun]
 show Q .normal ({ a' with defers:=_::a'.defers }.put o.dst undef) w'
 rw[yG]
 refine hk cK ts' _ φ' H' w' k1.2 ?_ k3 k4 ⟨ws,?_,h2⟩
 ·exact k2
 ·show _::a'.defers=_
  rw[k5,hd,k1.1]
def acR(P:Program)(g t:Nat)(ic:IC)(Kd:List AV→Post)(K:Post):Post
 |.normal,ts,H=>KJ g (fun cK ts H=>E P ic (Kd cK) ts H) t ts H
 |x,ts,H=>K x ts H
def CKD(g:FuncId)(Kd:List AV→Post)(φ:aU)(H:Y)(w:World):Exit→Act→World→Prop:=fun e a' w' =>
 ∃cK x ts' H' φ',XR φ' (Own φ' H') w' x e∧Kd cK x ts' H'∧FR φ' (Own φ' H') w' ts' a'∧Rel φ' H' w'∧Step φ H w φ' H' w'∧Xm φ' (Own φ' H') w' g cK a'.defers
theorem Xm.step{φ φ':aU}{H H':Y}{w w':World}(hs:Step φ H w φ' H' w'){g:FuncId}{cK:List AV}{ds:List Deferred}(h:Xm φ (Own φ H) w g cK ds):Xm φ' (Own φ' H') w' g cK ds:=by
 obtain ⟨ws,h1,h2⟩:=h
 exact ⟨ws,h1,mU hs.toLater _ _ (AV.cO _) h2⟩
theorem Th{φ:aU}{O:Nat→Prop}{w:World}{x:AX}{e:Exit}(h:XR φ O w x e):(x = .normal∧e = .normal)∨(x≠.normal∧e≠.normal):=by
 cases x<;>cases e<;>first|exact h.elim|exact .inl ⟨rfl,rfl⟩|exact .inr ⟨by simp,by simp⟩
theorem Xn{e:Exit}{next:Act→World→Prop}{Q:Exit→Act→World→Prop}{a:Act}{w:World}(h:e≠.normal)(hq:Q e a w):Exit.then next Q e a w:=by
 cases e<;>first|exact (h rfl).elim|exact hq
theorem OA{bx:List Nat}{g:FuncId}{Kd:List AV→Post}{K:Post}:∀(c:Code)(pre:IC)(t:Nat)(ic:IC),uY P bx c=some (pre,t,ic)→∀(φ:aU)(H:Y)(w:World)(ts:List AV)(a:Act),Rel φ H w→FR φ (Own φ H) w ts a→a.defers=[]→E P pre (acR P g t ic Kd K) ts H→
  c.wp P (fun e a' w'=>CKD g Kd φ H w e a' w'∨(e≠.normal∧CK K φ H w [] e a' w')) a w:=by
 intro c
 induction c with
 |seq x y WL SY =>
  intro pre t ic hc φ H w ts a hR hF hd h
  simp only[uY] at hc
  split at hc
  ·rename_i l t' agH
   simp only[Option.map_eq_some_iff] at hc
   obtain ⟨ib,hb,he⟩:=hc
   cases he
   refine wp_seq (Fp (g:=g) (K:=fun cK ts H=>E P ic (Kd cK) ts H) (Kp:=fun v ts' H'=>K (.bP v) ts' H') agH hR hF hd h (fun cK ts' a' φ' H' w' k1 k2 k3 k4 k5=>?_) (fun v u ts' a' φ' H' w' k1 k2 k3 k4 k5 k6=>.inr ⟨by simp,.bP v,ts',H',φ',k2,k1,k3,k4,k5,by rw[k6,hd]⟩))
   show y.wp P _ a' w'
   refine wp_mono (uL y ic hb _ φ' H' w' ts' a' k3 k2 k1) ?_
   rintro e a2 w2 ⟨x2,w8,H2,dJ,m1,m2,m3,m4,m5,m6⟩
   exact .inl ⟨cK,x2,w8,H2,dJ,m1,m2,m3,m4,k4.trans m5,by rw[m6];exact k5.step m5⟩
  ·split at hc
   case h_2=>simp at hc
   rename_i ia agI t' ib h1 h2
   cases hc
   refine wp_seq (wp_mono (uL x ia h1 _ φ H w ts a hR hF h) ?_)
   rintro e a' w' ⟨x',ts',H',φ',k1,k2,k3,k4,k5,k6⟩
   rcases Th k1 with ⟨rfl,rfl⟩|⟨n1,n2⟩
   ·show y.wp P _ a' w'
    refine wp_mono (SY agI t ic h2 φ' H' w' ts' a' k4 k3 (by rw[k6,hd]) k2) ?_
    rintro e2 a2 w2 (⟨cK,x2,w8,H2,dJ,m1,m2,m3,m4,m5,m6⟩|⟨n,m⟩)
    ·exact .inl ⟨cK,x2,w8,H2,dJ,m1,m2,m3,m4,k5.trans m5,m6⟩
    ·exact .inr ⟨n,m.step k5⟩
   ·refine Xn n2 (.inr ⟨n2,x',ts',H',φ',k1,?_,k3,k4,k5,by rw[k6,hd]⟩)
    cases x'<;>first|exact (n1 rfl).elim|exact k2
 |_=>intro pre t ic hc;simp[uY] at hc
theorem Ak{φ:aU}{H:Y}{w:World}{args:List AV}{vs:Array Value}{n:Nat}(ha:Rt φ (Own φ H) w args vs.toList):FR φ (Own φ H) w (args++List.replicate (n-args.length) (.aO [])) { tmps:=vs++Array.replicate (n-vs.size) undef,defers:=[] }:=by
 have hlen:=Cc ha
 have hsz:vs.size=args.length:=by simpa using hlen
 refine ⟨by simp[hsz],fun i=>?_⟩
 by_cases h1:i<args.length
 ·obtain ⟨u,g1,g2⟩:=Cb ha (i:=i) (x:=args[i]) (by simp[h1])
  have e1:(args++List.replicate (n-args.length) (AV.aO [])).getD i .top=args[i]:=by simp[List.getD,List.getElem?_append_left h1,h1]
  have e2:(vs++Array.replicate (n-vs.size) undef).getD i undef=u:=by
   rw[Array.getElem?_toList] at g1
   rw[Array.getD_eq_getD_getElem?,Array.getElem?_append_left (by omega),g1]
   rfl
  rw[e1,e2]
  exact g2
 ·by_cases h2:i<args.length+(n-args.length)
  ·have e1:(args++List.replicate (n-args.length) (AV.aO [])).getD i .top = .aO []:=by
    simp only[List.getD]
    rw[List.getElem?_append_right (by omega),List.getElem?_replicate,if_pos (by omega)]
    rfl
   have e2:(vs++Array.replicate (n-vs.size) undef).getD i undef=undef:=by
    rw[Array.getD_eq_getD_getElem?,Array.getElem?_append_right (by omega),Array.getElem?_replicate]
    split<;>rfl
   rw[e1,e2]
   exact pB
  ·have e1:(args++List.replicate (n-args.length) (AV.aO [])).getD i .top = .top:=by
    simp only[List.getD]
    rw[List.getElem?_eq_none (by simp;omega)]
    rfl
   rw[e1]
   exact nH _
inductive OB where
 | ret
 | bP (v:AV)(met:Bool)
def sZ(φ:aU)(O:Nat→Prop)(w:World):OB→FrameMode→Prop
 |.ret,.returning=>True
 |.bP x r,.panicking c=>∃v older,c={ v:=v,recovered:=r }::older∧(∀p∈older,p.goexit=false)∧VR φ O w x v
 |_,_=>False
def IG:List Oper→Option Nat
 |o::_=>match o.op,o.dst,o.guard with
  |.call { callee:=.builtin .recover,args,.. },some d,none=>if args.isEmpty then some d else none
  |_,_,_=>none
 |[]=>none
def yO(P:Program)(bx:List Nat):Code→Option (Nat×List cy×IC)
 |.seq (.region id ops false) b=>match IG ops.toList,eg P (bx.contains id) ops (ops.toList.drop 1),dU P bx b with
  |some d,some l,some ib=>some (d,l,ib)
  |_,_,_=>none
 |_=>none
def Dj(Kr:Y→Prop)(Kq:AV→Y→Prop):Post
 |.normal,_,H=>Kr H
 |.ret,_,H=>Kr H
 |.bP v,_,H=>Kq v H
 |_,_,_=>False
theorem KK{l:List Oper}{d:Nat}(h:IG l=some d):∃(o:Oper)(r:List Oper)(ats:Array TypeId),l=o::r∧o.op = .call { callee:=.builtin .recover,args:=#[],argTypes:=ats }∧o.dst=some d∧o.guard=none:=by
 cases l with
 |nil=>simp[IG] at h
 |cons o r =>
  simp only[IG] at h
  split at h
  ·rename_i args ats d' e1 e2 e3
   split at h
   ·rename_i he
    cases h
    have:args=#[]:=by
     cases args with
     |mk l=>cases l<;>first|rfl|(simp at he)
    subst this
    exact ⟨o,r,ats,rfl,e1,e2,e3⟩
   ·simp at h
  ·simp at h
theorem OC{o:Oper}{a:Act}{next next':Act→World→Prop}{Q:Exit→Act→World→Prop}(hn:∀a w,next a w→next' a w){r:Result Next}(h:o.upon P a next Q r):o.upon P a next' Q r:=by
 unfold Oper.upon at h ⊢
 split at h
 ·exact hn _ _ h
 ·exact hn _ _ h
 ·exact hn _ _ h
 ·refine h.mono fun e w' he=>?_
  cases e<;>first|exact hn _ _ he|exact he
 ·exact h.mono fun v w' he=>hn _ _ he
 ·exact h
 ·exact h.elim
theorem OD{ops:Array Oper}{Q:Exit→Act→List Frame→World→Prop}{cs:List Frame}(hq:¬LetsOut (fun e a w=>Q e a cs w)):∀{l:List Nat}{a:Act}{w:World},wpOps P ops (fun e a w=>Q e a cs w) l a w→wpOpsS P ops Q l a cs w:=by
 intro l
 induction l with
 |nil=>intro a w h;exact h
 |cons i r ih =>
  intro a w h
  simp only[wpOps] at h
  simp only[wpOpsS]
  split at h
  ·rename_i e;simp only[e];exact ih h
  ·rename_i o e
   simp only[e]
   split at h
   ·rename_i hw
    rw[if_pos hw]
    rcases h with h|h
    ·unfold Oper.wp at h
     split
     ·rename_i w' hr
      rw[hr] at h
      exact h.elim
     ·exact OC (fun a w h=>ih h) h
    ·exact (hq h.2).elim
   ·rename_i hw
    rw[if_neg hw]
    exact ih h
theorem OE{bx:List Nat}{g:FuncId}{fn:Func}{c:Code}{d:Nat}{l:List cy}{ib:IC}(hf:P.funcs[g]? = some fn)(hb:fn.body=some c)(hc:yO P bx c=some (d,l,ib))(hres:fn.results=#[]){cK:List AV}{φ:aU}{H:Y}{w:World}{ws:Array Value}(hR:Rel φ H w)(ha:Rt φ (Own φ H) w cK ws.toList)
  {M M':OB}{u:FrameMode}{x:AV}(hu:sZ φ (Own φ H) w M u)(hm:(M = .ret∧M' = .ret∧x = .sc .nilIface)∨(M = .bP x false∧M' = .bP x true)){Kr:Y→Prop}{Kq:AV→Y→Prop}
  (h:iW P (fun ts H=>E P ib (Dj Kr Kq) ts H) (fun v _ H=>Kq v H) l ((cK++List.replicate (fn.ntmps-cK.length) (AV.aO [])).set d x) H) :
  CallsD P g ws u w fun e u' w'=>∃H' φ',(((∃v,e = .returned v)∧Kr H')∨∃y c,e = .panicked c∧tV φ' (Own φ' H') w' y c∧Kq y H')∧sZ φ' (Own φ' H') w' M' u'∧Rel φ' H' w'∧Step φ H w φ' H' w':=by
 refine callsD_of_wpS hf hb fun c₀ cs hcm=>?_
 unfold yO at hc
 split at hc
 case h_2=>simp at hc
 rename_i id ops b
 split at hc
 case h_2=>simp at hc
 rename_i d' l' ib' h1 h2 h3
 cases hc
 obtain ⟨o,r,ats,Xo,hop,yG,hgd⟩:=KK h1
 have hsz:ops.size=r.length+1:=by rw[←Array.length_toList,Xo];simp
 refine wpS_seq (wpS_region ?_)
 have IE:List.range ops.size=0::List.range' 1 r.length:=by rw[hsz,List.range_eq_range'];rfl
 rw[IE]
 have NZ:ops[0]? = some o:=by rw[←Array.getElem?_toList,Xo];rfl
 have hw:∀a:Act,Region.wanted o (yielded ops a.tmps)=true:=fun a=>by unfold Region.wanted;rw[hgd]
 have gS:FR φ (Own φ H) w (cK++List.replicate (fn.ntmps-cK.length) (AV.aO [])) { tmps:=ws++Array.replicate (fn.ntmps-ws.size) undef,defers:=[] }:=Ak ha
 have hrun:∀a:Act,(execOp a.eval o).run P w = .ok .recover w:=fun a=>by
  simp only[execOp,hop]
  rfl
 simp only[wpOpsS,NZ,hw,if_true,hrun]
 have key:∃v u',VR φ (Own φ H) w x v∧sZ φ (Own φ H) w M' u'∧(match recoverD (c₀::cs) with|some (v',cs')=>v'=v∧cs'={ c₀ with mode:=u' }::cs|none=>v = .nilIface∧u'=u):=by
  rcases hm with ⟨rfl,rfl,rfl⟩|⟨rfl,rfl⟩
  ·refine ⟨.nilIface,u,⟨rfl,rfl⟩,hu,?_⟩
   cases u<;>first|exact hu.elim|skip
   simp[recoverD,hcm]
  ·cases u<;>first|exact hu.elim|skip
   obtain ⟨v,older,rfl,um,hv⟩:=hu
   refine ⟨v,.panicking ({ v:=v,recovered:=true }::older),hv,⟨v,older,rfl,um,hv⟩,?_⟩
   simp[recoverD,hcm]
 obtain ⟨v,u',hv,hM',Gq⟩:=key
 have aeA:({ c₀ with mode:=u }:Frame)=c₀:=by subst hcm;rfl
 have Al:∀cs',cs'={ c₀ with mode:=u' }::cs→wpOpsS P ops (Exit.thenS (b.wpS P (bodyPostS P fn c₀ cs fun e u' w'=>∃H' φ',(((∃v,e = .returned v)∧Kr H')∨∃y c,e = .panicked c∧tV φ' (Own φ' H') w' y c∧Kq y H')∧sZ φ' (Own φ' H') w' M' u'∧Rel φ' H' w'∧Step φ H w φ' H' w')) (bodyPostS P fn c₀ cs fun e u' w'=>∃H' φ',(((∃v,e = .returned v)∧Kr H')∨∃y c,e = .panicked c∧tV φ' (Own φ' H') w' y c∧Kq y H')∧sZ φ' (Own φ' H') w' M' u'∧Rel φ' H' w'∧Step φ H w φ' H' w'))
   (List.range' 1 r.length) (Act.put { tmps:=ws++Array.replicate (fn.ntmps-ws.size) undef,defers:=[] } o.dst v) cs' w:=by
  rintro cs' rfl
  refine OD ?_ ?_
  ·rintro ⟨a,w',u2,H',φ',(⟨⟨v,hv⟩,_⟩|⟨y,c,hv,_⟩),_⟩
   ·simp at hv
   ·simp at hv
  ·have kX:FR φ (Own φ H) w ((cK++List.replicate (fn.ntmps-cK.length) (AV.aO [])).set d x) (Act.put { tmps:=ws++Array.replicate (fn.ntmps-ws.size) undef,defers:=[] } o.dst v):=by
    have:=gS.put o.dst hv
    rwa [yG] at this ⊢
   have hl:ops.toList.drop 1=r:=by rw[Xo];rfl
   have Xp:=pc (P:=P) (ops:=ops) (tail:=[]) (K:=fun ts H=>E P ib (Dj Kr Kq) ts H) (Kp:=fun v _ H=>Kq v H) r.length 1 l _ H φ w _ (by omega) (by rw[hl,List.take_length];rw[hl] at h2;exact h2) hR kX h
    (Q:=fun e a w2=>Exit.thenS (b.wpS P (bodyPostS P fn c₀ cs fun e u' w'=>∃H' φ',(((∃v,e = .returned v)∧Kr H')∨∃y c,e = .panicked c∧tV φ' (Own φ' H') w' y c∧Kq y H')∧sZ φ' (Own φ' H') w' M' u'∧Rel φ' H' w'∧Step φ H w φ' H' w')) (bodyPostS P fn c₀ cs fun e u' w'=>∃H' φ',(((∃v,e = .returned v)∧Kr H')∨∃y c,e = .panicked c∧tV φ' (Own φ' H') w' y c∧Kq y H')∧sZ φ' (Own φ' H') w' M' u'∧Rel φ' H' w'∧Step φ H w φ' H' w') e a ({ c₀ with mode:=u' }::cs) w2)
   rw[List.append_nil] at Xp
   have pX:∀{dJ:aU}{H2:Y}{w2:World},Step φ H w dJ H2 w2→sZ dJ (Own dJ H2) w2 M' u':=by
    intro dJ H2 w2 hst
    cases M'<;>cases u'<;>first|exact hM'.elim|exact trivial|skip
    obtain ⟨v,older,e1,e3,e2⟩:=hM'
    exact ⟨v,older,e1,e3,hst.vr e2⟩
   refine Xp (fun ts' a' φ' H' w' k1 k2 k3 k4 k5=>?_) (fun v c ts' a' φ' H' w' k1 k2 k3 k4 k5 k6=>⟨by rw[k6];exact put_defers _ _ _,u',rfl,H',φ',.inr ⟨v,c,rfl,k2,k1⟩,pX k5,k4,k5⟩)
   show b.wpS P _ a' _ w'
   refine wpS_of_wp (wp_mono (uL b ib h3 _ φ' H' w' ts' a' k3 k2 k1) ?_)
   rintro e a2 w2 ⟨x2,w8,H2,dJ,m1,m2,m3,m4,m5,m6⟩
   have hd:a2.defers=[]:=by
    rw[m6,k5]
    exact put_defers _ _ _
   have hst:=k4.trans m5
   have hr:(results fn a2.tmps).run P w2 = .ok (.tuple #[]) w2:=by
    unfold results
    rw[hres]
    simp
   cases x2 with
   |normal =>
    cases e<;>try exact m1.elim
    exact ⟨hd,u',rfl,_,hr,H2,dJ,.inl ⟨⟨_,rfl⟩,m2⟩,pX hst,m4,hst⟩
   |ret =>
    cases e<;>try exact m1.elim
    exact ⟨hd,u',rfl,_,hr,H2,dJ,.inl ⟨⟨_,rfl⟩,m2⟩,pX hst,m4,hst⟩
   |exit i=>exact m2.elim
   |bP v =>
    cases e<;>try exact m1.elim
    exact ⟨hd,u',rfl,H2,dJ,.inr ⟨v,_,rfl,m1,m2⟩,pX hst,m4,hst⟩
 cases hrd:recoverD (c₀::cs) with
 |none =>
  rw[hrd] at Gq
  obtain ⟨rfl,rfl⟩:=Gq
  rw[if_pos (hw { tmps:=ws++Array.replicate (fn.ntmps-ws.size) undef,defers:=[] })]
  exact Al _ (by rw[aeA])
 |some p =>
  obtain ⟨v',cs'⟩:=p
  rw[hrd] at Gq
  obtain ⟨rfl,rfl⟩:=Gq
  rw[if_pos (hw { tmps:=ws++Array.replicate (fn.ntmps-ws.size) undef,defers:=[] })]
  exact Al _ rfl
theorem KL{K K':List AV→Y→Prop}{Kp:AV→List AV→Y→Prop}(h:∀ts H,K ts H→K' ts H){l:List cy}{ts:List AV}{H:Y}(hr:dj P K Kp l ts H):dj P K' Kp l ts H:=gQ h (fun _ _ _ h=>h) hr
def Bp(P:Program)(d:Nat)(l:List cy)(ib:IC)(n:Nat)(cK:List AV)(x:AV)(Kr:Y→Prop)(Kq:AV→Y→Prop)(H:Y):Prop :=
 dj P (fun ts H=>ES P ib (Dj Kr Kq) ts H) (fun v _ H=>Kq v H) l ((cK++List.replicate (n-cK.length) (AV.aO [])).set d x) H
def Am(P:Program)(d:Nat)(l:List cy)(ib:IC)(n:Nat)(rs:List RV)(Kr:cH→Y→Prop)(cK:List AV):Post
 |.normal,ts,H=>Bp P d l ib n cK (.sc .nilIface) (fun H'=>iY rs ts H'∧Kr (.ret (oneOf (kO rs ts H'))) H') (fun v H'=>Kr (.bP v) H') H
 |.ret,ts,H=>Bp P d l ib n cK (.sc .nilIface) (fun H'=>iY rs ts H'∧Kr (.ret (oneOf (kO rs ts H'))) H') (fun v H'=>Kr (.bP v) H') H
 |.bP v,ts,H=>Bp P d l ib n cK v (fun H'=>iY rs ts H'∧Kr (.ret (oneOf (kO rs ts H'))) H') (fun v H'=>Kr (.bP v) H') H
 |.exit _,_,_=>False
def Gr(P:Program)(ic:IC)(Kd:List AV→Post)(g:Nat)(ts:List AV)(H:Y)(v:AV):Prop:=match v with
 |.fn (.func f) [] cK=>f=g∧ES P ic (Kd cK) ts H
 |_=>False
theorem Xq{ic:IC}{Kd:List AV→Post}{g:Nat}{ts:List AV}{H:Y}{cK:List AV}:Gr P ic Kd g ts H (.fn (.func g) [] cK)=ES P ic (Kd cK) ts H:=by simp[Gr]
def Gs(P:Program)(g t:Nat)(ic:IC)(Kd:List AV→Post)(K:Post):Post
 |.normal,ts,H=>Gr P ic Kd g ts H (ts.getD t .top)
 |x,ts,H=>K x ts H
section
variable {g t:Nat}{ic:IC}{Kd:List AV→Post}{K:Post}{ts:List AV}{H:Y}
theorem aa8:Gs P g t ic Kd K .normal ts H=Gr P ic Kd g ts H (ts.getD t .top):=rfl
theorem aa9{i:Nat}:Gs P g t ic Kd K (.exit i) ts H=K (.exit i) ts H:=rfl
theorem aba:Gs P g t ic Kd K .ret ts H=K .ret ts H:=rfl
theorem abb{v:AV}:Gs P g t ic Kd K (.bP v) ts H=K (.bP v) ts H:=rfl
end
section
variable {d n:Nat}{l:List cy}{ib:IC}{rs:List RV}{Kr:cH→Y→Prop}{cK ts:List AV}{H:Y}{x:AV}{Kh:Y→Prop}{Kq:AV→Y→Prop}
theorem Xr:Am P d l ib n rs Kr cK .normal ts H=Bp P d l ib n cK (.sc .nilIface) (fun H'=>iY rs ts H'∧Kr (.ret (oneOf (kO rs ts H'))) H') (fun v H'=>Kr (.bP v) H') H:=rfl
theorem Xs:Am P d l ib n rs Kr cK .ret ts H=Bp P d l ib n cK (.sc .nilIface) (fun H'=>iY rs ts H'∧Kr (.ret (oneOf (kO rs ts H'))) H') (fun v H'=>Kr (.bP v) H') H:=rfl
theorem Xt{v:AV}:Am P d l ib n rs Kr cK (.bP v) ts H=Bp P d l ib n cK v (fun H'=>iY rs ts H'∧Kr (.ret (oneOf (kO rs ts H'))) H') (fun v H'=>Kr (.bP v) H') H:=rfl
theorem Ti:Bp P d l ib n cK x Kh Kq H=dj P (fun ts H=>ES P ib (Dj Kh Kq) ts H) (fun v _ H=>Kq v H) l ((cK++List.replicate (n-cK.length) (AV.aO [])).set d x) H:=rfl
theorem abc:Dj Kh Kq .normal ts H=Kh H:=rfl
theorem abd:Dj Kh Kq .ret ts H=Kh H:=rfl
theorem abe{v:AV}:Dj Kh Kq (.bP v) ts H=Kq v H:=rfl
end
theorem KM{g:FuncId}(h:cr P g=true)(ws:Array Value)(w:World):(invoke (.fn (.func g) ws) #[]).run P w = .ok (.enter g ws) w:=by
 obtain ⟨fn,h1,h2,h3⟩:=pT h
 show (callFunc g (#[]++ws)).run P w=_
 rw[Array.empty_append]
 exact lw h1 h2 h3 ws w
theorem II{f:FuncId}{fn:Func}{c:Code}{pre:IC}{t:Nat}{ic:IC}{rs:List RV}{bx Xu:List Nat}(hf:P.funcs[f]? = some fn)(hb:fn.body=some c)(hc:uY P bx c=some (pre,t,ic))(hr:ow P fn.results.toList=some rs)
  {g:FuncId}{gn:Func}{gc:Code}{d:Nat}{l:List cy}{ib:IC}(hg:P.funcs[g]? = some gn)(hgb:gn.body=some gc)(hgc:yO P Xu gc=some (d,l,ib))(KN:gn.results=#[])(Dl:cr P g=true){args:List AV}{H:Y}{Kr:cH→Y→Prop}
  (h:ES P pre (Gs P g t ic (Am P d l ib gn.ntmps rs Kr) (sY rs Kr)) (args++List.replicate (fn.ntmps-args.length) (.aO [])) H):DK P f args H Kr:=by
 intro φ w vs hR ha
 have hF:FR φ (Own φ H) w (args++List.replicate (fn.ntmps-args.length) (.aO [])) { tmps:=vs++Array.replicate (fn.ntmps-vs.size) undef,defers:=[] }:=Ak ha
 have hE:E P pre (acR P g t ic (Am P d l ib gn.ntmps rs Kr) (Ae rs Kr)) (args++List.replicate (fn.ntmps-args.length) (.aO [])) H:=by
  refine Kt (Df (fun x ts H hx=>?_) h)
  cases x with
  |normal =>
   show KJ g _ t ts H
   have hx':Gr P ic _ g ts H (ts.getD t .top):=hx
   unfold Gr at hx'
   unfold KJ
   split at hx'
   ·rename_i he
    simp only[he]
    exact ⟨hx'.1,Kt hx'.2⟩
   ·exact hx'.elim
  |exit i=>exact mq (rs:=rs) (Kr:=Kr) (.exit i) ts H hx
  |ret=>exact mq (rs:=rs) (Kr:=Kr) .ret ts H hx
  |bP v=>exact mq (rs:=rs) (Kr:=Kr) (.bP v) ts H hx
 refine calls_of_wp_defers hf hb (wp_mono (OA (K:=Ae rs Kr) c pre t ic hc φ H w _ _ hR hF rfl hE) ?_)
 rintro e a' w' (⟨cK,x,ts',H',φ',k1,k2,k3,k4,k5,k6⟩|⟨hn,x,ts',H',φ',k1,k2,k3,k4,k5,k6⟩)
 ·obtain ⟨ws,hds,hws⟩:=k6
  have main:∀{M M':OB}{u:FrameMode}{x:AV},u≠.run→sZ φ' (Own φ' H') w' M u→((M = .ret∧M' = .ret∧x = .sc .nilIface)∨(M = .bP x false∧M' = .bP x true))→Bp P d l ib gn.ntmps cK x (fun H'=>iY rs ts' H'∧Kr (.ret (oneOf (kO rs ts' H'))) H') (fun v H'=>Kr (.bP v) H') H'→
    Leaves P fn a'.tmps (fun en w'=>∃e H' φ',Bf φ' (Own φ' H') w' e en∧Kr e H'∧Rel φ' H' w'∧Step φ H w φ' H' w') a'.defers u w':=by
   intro M M' u x hu hm hM Gq
   rw[hds]
   refine leaves_cons hu (KM Dl ws w') ?_
   refine (OE hg hgb hgc KN k4 hws hm hM (Kr:=fun H'=>iY rs ts' H'∧Kr (.ret (oneOf (kO rs ts' H'))) H') (Kq:=fun v H'=>Kr (.bP v) H') (iX (KL (fun ts H h=>Kt h) Gq))).mono fun e u' w2 ⟨H2,dJ,hend,pX,CN,HX⟩=>?_
   rcases hend with ⟨⟨v,hv⟩,hk⟩|⟨y,c,hv,hch,hk⟩
   ·subst hv
    show Leaves P fn a'.tmps _ [] (settle u') w2
    have gJ:settle u' = .returning:=by
     rcases hM with ⟨_,rfl,_⟩|⟨_,rfl⟩
     ·cases u'<;>first|exact pX.elim|rfl
     ·cases u'<;>first|exact pX.elim|skip
      obtain ⟨v',older,rfl,um,_⟩:=pX
      have hdw:∀l:List PanicEntry,(∀p∈l,p.goexit=false)→l.dropWhile (fun p=>!p.goexit)=[]:=by
       intro l hl
       induction l with
       |nil=>rfl
       |cons p r ih =>
        rw[List.dropWhile_cons,hl p (by simp)]
        simpa using ih fun q hq=>hl q (by simp[hq])
      simp only[settle,hdw older um]
    rw[gJ]
    have jG:FR dJ (Own dJ H2) w2 ts' a':=FR.step HX k3
    obtain ⟨y,v2,g1,g2,g3⟩:=o9 CN jG hr (K:=fun y=>Kr (.ret y) H2) (uU hk.1 hk.2)
    exact ⟨v2,g3,.ret y,H2,dJ,g2,g1,CN,k5.trans HX⟩
   ·subst hv
    show Leaves P fn a'.tmps _ [] (raised u' c) w2
    obtain ⟨v',Re,sU,acS,hv'⟩:=hch
    rcases hM with ⟨_,rfl,_⟩|⟨_,rfl⟩
    ·cases u'<;>first|exact pX.elim|skip
     exact ⟨.bP y,H2,dJ,⟨v',Re,sU,acS,hv'⟩,hk,CN,k5.trans HX⟩
    ·cases u'<;>first|exact pX.elim|skip
     obtain ⟨v1,older,rfl,um,_⟩:=pX
     subst sU
     refine ⟨.bP y,H2,dJ,⟨v',Re++({ v:=v1,recovered:=true }::older),by simp[raised],fun p hp=>?_,hv'⟩,hk,CN,k5.trans HX⟩
     rcases List.mem_append.1 hp with hp|hp
     ·exact acS p hp
     ·rcases List.mem_cons.1 hp with rfl|hp
      ·rfl
      ·exact um p hp
  cases x with
  |normal =>
   cases e<;>try exact k1.elim
   exact main (M:=.ret) (M':=.ret) (by simp) trivial (.inl ⟨rfl,rfl,rfl⟩) k2
  |ret =>
   cases e<;>try exact k1.elim
   exact main (M:=.ret) (M':=.ret) (by simp) trivial (.inl ⟨rfl,rfl,rfl⟩) k2
  |exit i=>exact k2.elim
  |bP v =>
   cases e<;>try exact k1.elim
   obtain ⟨u,older,rfl,um,hu⟩:=k1
   exact main (M:=.bP v false) (M':=.bP v true) (by simp) ⟨u,older,rfl,um,hu⟩ (.inr ⟨rfl,rfl⟩) k2
 ·cases x with
  |normal =>
   cases e<;>try exact k1.elim
   exact (hn rfl).elim
  |ret =>
   cases e<;>try exact k1.elim
   obtain ⟨y,v,g1,g2,g3⟩:=o9 k4 k3 hr (K:=fun x=>Kr (.ret x) H') k2
   show Leaves P fn a'.tmps _ a'.defers _ w'
   rw[k6]
   exact ⟨v,g3,.ret y,H',φ',g2,g1,k4,k5⟩
  |exit i=>exact k2.elim
  |bP v =>
   cases e<;>try exact k1.elim
   show Leaves P fn a'.tmps _ a'.defers _ w'
   rw[k6]
   exact ⟨.bP v,H',φ',k1,k2,k4,k5⟩
end
def cP(n0:Nat)(src:List Nat)(id:Nat):Option Nat:=if id<n0 then some id else (src.idxOf? id).map (n0+·)
mutual
inductive Gz(H1:Y)(n0:Nat)(src:List Nat):AV→AV→Prop where
 |same {x:AV}:x.ids (fun id=>cP n0 src id=some id)→Gz H1 n0 src x x
 | Gt {k id id' off n:Nat}{c c':Option Nat}:cP n0 src id=some id'→(c'=c∨c'=none)→Gz H1 n0 src (.aD k id off n c) (.aD k id' off n c')
 | agJ {k id id' j f:Nat}:cP n0 src id=some id'→Gz H1 n0 src (.ptr k id j f) (.ptr k id' j f)
 | aD {k id off n:Nat}{c:Option Nat}{blk:aP}{ys:List AV}:cP n0 src id=none→Y.find H1 id=some blk→blk.k=k→off+n≤blk.es.length→dt H1 n0 src ((blk.es.drop off).take n) ys→Gz H1 n0 src (.aD k id off n c) (.am k ys none)
 | am {k:Nat}{xs ys:List AV}{room:Option (List AV)}:dt H1 n0 src xs ys→Gz H1 n0 src (.am k xs room) (.am k ys none)
 | agK {k:Nat}{xs ys:List AV}:dt H1 n0 src xs ys→Gz H1 n0 src (.am k xs (some [])) (.am k ys (some []))
 | nil {k:Nat}{room:Option (List AV)}{k':Nat}:Gz H1 n0 src (.am k' [] room) (.am k [] none)
 | Xv {k k':Nat}:Gz H1 n0 src (.am k' [] (some [])) (.am k [] (some []))
 | agg {xs ys:List AV}:dt H1 n0 src xs ys→Gz H1 n0 src (.agg xs) (.agg ys)
 | aO {xs ys:List AV}:dt H1 n0 src xs ys→Gz H1 n0 src (.aO xs) (.aO ys)
 | eP {t:TypeId}{x y:AV}:Gz H1 n0 src x y→Gz H1 n0 src (.eP t x) (.eP t y)
 | fn {f:Fn}{a b a' b':List AV}:dt H1 n0 src a a'→dt H1 n0 src b b'→Gz H1 n0 src (.fn f a b) (.fn f a' b')
inductive dt(H1:Y)(n0:Nat)(src:List Nat):List AV→List AV→Prop where
 | nil:dt H1 n0 src [] []
 | cons {x y:AV}{r s:List AV}:Gz H1 n0 src x y→dt H1 n0 src r s→dt H1 n0 src (x::r) (y::s)
end
section
variable {H1:Y}{n0:Nat}{src:List Nat}
theorem dt.len:∀{xs ys:List AV},dt H1 n0 src xs ys→ys.length=xs.length
 |_,_,.nil=>rfl
 |_,_,.cons _ h=>by simp[h.len]
theorem Gz.isAgg{x y:AV}(h:Gz H1 n0 src x y):y.isAgg=x.isAgg∧y.az=x.az:=by
 cases h with
 |agg h=>exact ⟨rfl,h.len⟩
 |_=>exact ⟨rfl,rfl⟩
theorem Gz.kU{x y:AV}(h:Gz H1 n0 src x y){u:Value}(hk:kU x u):kU y u:=by
 cases h with
 |agg h=>obtain ⟨us,h1,h2⟩:=hk;exact ⟨us,h1,by rw[h2,h.len]⟩
 |_=>exact hk
theorem s7{id:Nat}(h:id<n0):cP n0 src id=some id:=by unfold cP;rw[if_pos h]
end
def jh(bK:aU)(n0:Nat)(src:List Nat):aU:=fun i=>if i<n0 then bK i else (src[i-n0]?).bind bK
structure IJ(bK:aU)(H1:Y)(n0:Nat)(src:List Nat)(H2:Y):Prop where
 nodup:src.Nodup
 aeB:∀s∈src,n0≤s
 len:H2.length=n0+src.length
 live:∀id k,Y.find H2 id=some k→(id<n0∧∃k1,Y.find H1 id=some k1)∨∃s,src[id-n0]? = some s∧n0≤id∧∃k1,Y.find H1 s=some k1
section
variable {bK:aU}{H1:Y}{n0:Nat}{src:List Nat}{H2:Y}
theorem KO{s:Nat}{i:Nat}{l:List Nat}(h:l.idxOf? s=some i):l[i]? = some s:=by
 induction l generalizing i with
 |nil=>simp at h
 |cons x r ih =>
  rw[List.idxOf?_cons] at h
  split at h
  ·rename_i e
   cases h
   simp at e
   simp[e]
  ·rw[Option.map_eq_some_iff] at h
   obtain ⟨j,h1,rfl⟩:=h
   simpa using ih h1
theorem uZ{s:Nat}{i:Nat}{l:List Nat}(hn:l.Nodup)(h:l[i]? = some s):l.idxOf? s=some i:=by
 induction l generalizing i with
 |nil=>simp at h
 |cons x r ih =>
  rw[List.idxOf?_cons]
  cases i with
  |zero=>simp at h;simp[h]
  |succ i =>
   simp at h
   have hx:¬(x == s)=true:=by
    intro e
    have e':x=s:=by simpa using e
    have:=(List.nodup_cons.1 hn).1
    exact this (e'▸List.mem_of_getElem? h)
   rw[if_neg hx,ih (List.nodup_cons.1 hn).2 h]
   rfl
theorem An{id id':Nat}(h:cP n0 src id=some id'):jh bK n0 src id'=bK id:=by
 unfold cP at h
 unfold jh
 split at h
 ·cases h;rw[if_pos (by assumption)]
 ·rw[Option.map_eq_some_iff] at h
  obtain ⟨i,h1,rfl⟩:=h
  rw[if_neg (by omega),show n0+i-n0=i from by omega,KO h1]
  rfl
theorem KP(hc:IJ bK H1 n0 src H2){b:Nat}(h:Own (jh bK n0 src) H2 b):∃id,bK id=some b∧(∃k1,Y.find H1 id=some k1)∧cP n0 src id≠none:=by
 obtain ⟨id,k,h1,h2⟩:=h
 unfold jh at h1
 rcases hc.live id k h2 with ⟨g1,g2⟩|⟨s,g1,g2,g3⟩
 ·rw[if_pos g1] at h1
  exact ⟨id,h1,g2,by rw[s7 g1];simp⟩
 ·rw[if_neg (by omega),g1] at h1
  refine ⟨s,h1,g3,?_⟩
  unfold cP
  rw[if_neg (by have:=hc.aeB s (List.mem_of_getElem? g1);omega),uZ hc.nodup g1]
  simp
theorem rV(hc:IJ bK H1 n0 src H2){b:Nat}(h:Own (jh bK n0 src) H2 b):Own bK H1 b:=by
 obtain ⟨id,h1,⟨k1,h2⟩,_⟩:=KP hc h
 exact ⟨id,k1,h1,h2⟩
theorem Dm(hc:IJ bK H1 n0 src H2){w1:World}:Later (fun id=>cP n0 src id=some id) bK (jh bK n0 src) (Own bK H1) (Own (jh bK n0 src) H2) w1 w1 :=
 ⟨fun id b hid hm=>by rw[An hid];exact hm,Nat.le_refl _,fun b hb ho fN=>ho (rV hc fN),fun _ _ _=>rfl,fun _ _=>rfl⟩
mutual
theorem Gz.R{w1:World}(hR:Rel bK H1 w1)(hc:IJ bK H1 n0 src H2):∀{x y:AV},Gz H1 n0 src x y→∀{g:Nat→Option Value},R bK (Own bK H1) w1 x g→R (jh bK n0 src) (Own (jh bK n0 src) H2) w1 y g
 |_,_,.same hi,g,h=>lg (Dm hc) _ _ _ hi (fun _ _ h=>h) h
 |_,_,.Gt hi gZ,g,h=>by
  obtain ⟨b,c',cur,e,fr,v1,v2,v3,v4,v5,v6,v7⟩:=h
  refine ⟨b,c',cur,e,fr,by rw[An hi];exact v1,v2,v3,v4,fun m hm=>?_,v6,v7⟩
  rcases gZ with rfl|rfl
  ·exact v5 m hm
  ·simp at hm
 |_,_,.agJ hi,g,h=>by
  obtain ⟨b,h1,h2⟩:=h
  exact ⟨b,by rw[An hi];exact h1,h2⟩
 |_,_,.aD (k:=k) (id:=id) (off:=off) (n:=n) (c:=c) (blk:=blk) (ys:=ys) h1 h2 h3 h4 h5,g,h=>by
  obtain ⟨b,c',cur,e,fr,v1,v2,v3,v4,v5,v6,v7⟩:=h
  have l9:((blk.es.drop off).take n).length=n:=by simp;omega
  have pN:ys.length=n:=by rw[h5.len,l9]
  refine ⟨_,c',by rw[pN];exact v2,by omega,v4,fun h=>by simp at h,fun hp=>⟨b,off*k,rfl,?_,jH v6,?_⟩,trivial⟩
  ·intro ho
   obtain ⟨id',g1,⟨k1,g2⟩,g3⟩:=KP hc ho
   have:=hR.inj id' id b g1 v1 (by rw[g2];rfl) (by rw[h2];rfl)
   rw[this] at g3
   exact g3 h1
  ·obtain ⟨_,uB,cap,a1,a2,a3,a4,a5,a6⟩:=(hR.blk id b blk v1 h2).jJ v6
   have h7:=jK (n:=n) (lm (f:=off) a6)
   rw[h3,Nat.zero_add] at h7
   exact dt.Rl hR hc h5 h7
 |_,_,.am (k:=k) (xs:=xs) (ys:=ys) hl,g,h=>by
  obtain ⟨a,c,h1,h2,h3,h4,h5,h6⟩:=h
  have pN:=hl.len
  refine ⟨a,c,by rw[pN];exact h1,by omega,h3,h4,fun hp=>?_,trivial⟩
  obtain ⟨b,off,e1,e2,e3,e4⟩:=h5 (by omega)
  exact ⟨b,off,e1,fun ho=>e2 (rV hc ho),e3,dt.Rl hR hc hl e4⟩
 |_,_,.agK (k:=k) (xs:=xs) (ys:=ys) hl,g,h=>by
  obtain ⟨a,c,h1,h2,h3,h4,h5,h6⟩:=h
  have pN:=hl.len
  refine ⟨a,c,by rw[pN];exact h1,by omega,h3,h4,fun hp=>?_,by rw[pN];exact h6.1,fun hp=>by simp at hp⟩
  obtain ⟨b,off,e1,e2,e3,e4⟩:=h5 (by omega)
  exact ⟨b,off,e1,fun ho=>e2 (rV hc ho),e3,dt.Rl hR hc hl e4⟩
 |_,_,.nil,g,h=>by
  obtain ⟨a,c,h1,h2,h3,h4,h5,h6⟩:=h
  exact ⟨a,c,h1,h2,h3,h4,fun hp=>by simp at hp,trivial⟩
 |_,_,.Xv,g,h=>by
  obtain ⟨a,c,h1,h2,h3,h4,h5,h6⟩:=h
  exact ⟨a,c,h1,h2,h3,h4,fun hp=>by simp at hp,h6.1,fun hp=>by simp at hp⟩
 |_,_,.agg hl,g,h=>dt.Rs hR hc hl h
 |_,_,.aO hl,g,h=>by
  obtain ⟨us,h1,h2⟩:=h
  exact ⟨us,h1,dt.Rt hR hc hl h2⟩
 |_,_,.eP hx,g,h=>by
  obtain ⟨u,h1,h2,h3⟩:=h
  exact ⟨u,h1,hx.kU h2,Gz.R hR hc hx h3⟩
 |_,_,.fn ha hb,g,h=>by
  obtain ⟨us,ws,h1,h2,h3⟩:=h
  exact ⟨us,ws,h1,dt.Rt hR hc ha h2,dt.Rt hR hc hb h3⟩
theorem dt.Rl{w1:World}(hR:Rel bK H1 w1)(hc:IJ bK H1 n0 src H2):∀{xs ys:List AV},dt H1 n0 src xs ys→∀{b k off:Nat},Rl bK (Own bK H1) w1 b k xs off→Rl (jh bK n0 src) (Own (jh bK n0 src) H2) w1 b k ys off
 |_,_,.nil,b,k,off,_=>trivial
 |_,_,.cons hx hr,b,k,off,h=>⟨by rw[hx.isAgg.2];exact h.1,by rw[hx.isAgg.1];exact h.2.1,Gz.R hR hc hx h.2.2.1,dt.Rl hR hc hr h.2.2.2⟩
theorem dt.Rs{w1:World}(hR:Rel bK H1 w1)(hc:IJ bK H1 n0 src H2):∀{xs ys:List AV},dt H1 n0 src xs ys→∀{g:Nat→Option Value},Rs bK (Own bK H1) w1 xs g→Rs (jh bK n0 src) (Own (jh bK n0 src) H2) w1 ys g
 |_,_,.nil,g,_=>trivial
 |_,_,.cons hx hr,g,h=>⟨by rw[hx.isAgg.1];exact h.1,Gz.R hR hc hx h.2.1,h.2.2.1,dt.Rs hR hc hr h.2.2.2⟩
theorem dt.Rt{w1:World}(hR:Rel bK H1 w1)(hc:IJ bK H1 n0 src H2):∀{xs ys:List AV},dt H1 n0 src xs ys→∀{us:List Value},Rt bK (Own bK H1) w1 xs us→Rt (jh bK n0 src) (Own (jh bK n0 src) H2) w1 ys us
 |_,_,.nil,us,h=>h
 |_,_,.cons hx hr,us,h=>by
  obtain ⟨v,s,h1,h2,h3,h4⟩:=h
  exact ⟨v,s,h1,hx.kU h2,Gz.R hR hc hx h3,dt.Rt hR hc hr h4⟩
end
end
theorem dt.RE{bK:aU}{H1 H2:Y}{n0:Nat}{src:List Nat}{w1:World}(hR:Rel bK H1 w1)(hc:IJ bK H1 n0 src H2):∀{xs ys:List AV},dt H1 n0 src xs ys→∀{es:List MapEntry},RE bK (Own bK H1) w1 xs es→RE (jh bK n0 src) (Own (jh bK n0 src) H2) w1 ys es
 |_,_,.nil,_,h=>h
 |_,_,.cons hx hr,_,h=>by
  obtain ⟨e,s,h1,h2,h3⟩:=h
  exact ⟨e,s,h1,⟨hx.kU h2.1,Gz.R hR hc hx h2.2⟩,dt.RE hR hc hr h3⟩
def Gu(H1:Y)(n0:Nat)(src:List Nat)(k1 k:aP):Prop:=k.k=k1.k∧k.ty=k1.ty∧(k.exact=true→k1.exact=true)∧dt H1 n0 src k1.es k.es
def agL(H1:Y)(n0:Nat)(src:List Nat):cH→cH→Prop
 |.ret x,.ret y=>Gz H1 n0 src x y
 |.bP x,.bP y=>Gz H1 n0 src x y
 |_,_=>False
theorem ku{H H1 H2:Y}(src:List Nat){e1 e:cH}(hl:H2.length=H.length+src.length)(hn:src.Nodup)(ha:∀s∈src,H.length≤s)
  (hold:∀id k,id<H.length→Y.find H2 id=some k→(Y.find H id=some k∧Y.find H1 id=some k)∨∃k1,Y.find H1 id=some k1∧Gu H1 H.length src k1 k)
  (uh:∀i s k,src[i]? = some s→Y.find H2 (H.length+i)=some k→∃k1,Y.find H1 s=some k1∧Gu H1 H.length src k1 k)
  (hz:agL H1 H.length src e1 e):eB H e1 H1 e H2:=by
 intro φ w bK w1 en Ir he hR hS
 have hc:IJ bK H1 H.length src H2:=by
  refine ⟨hn,ha,hl,fun id k hk=>?_⟩
  by_cases hid:id<H.length
  ·left
   rcases hold id k hid hk with ⟨_,h2⟩|⟨k1,h2,_⟩
   ·exact ⟨hid,k,h2⟩
   ·exact ⟨hid,k1,h2⟩
  ·right
   have hlt:=Y.ax hk
   have hi:id-H.length<src.length:=by omega
   have hs:src[id-H.length]? = some src[id-H.length]:=by simp[hi]
   obtain ⟨k1,h1,_⟩:=uh _ _ k hs (by rw[show H.length+(id-H.length)=id from by omega];exact hk)
   exact ⟨_,hs,by omega,k1,h1⟩
 have Xw:∀id b,jh bK H.length src id=some b→(id<H.length∧bK id=some b)∨∃s,src[id-H.length]? = some s∧H.length≤id∧bK s=some b:=by
  intro id b h
  unfold jh at h
  split at h
  ·exact .inl ⟨by assumption,h⟩
  ·rw[Option.bind_eq_some_iff] at h
   obtain ⟨s,h1,h2⟩:=h
   exact .inr ⟨s,h1,by omega,h2⟩
 have Rf:∀id k b,Y.find H2 id=some k→jh bK H.length src id=some b→∃s,bK s=some b∧(Y.find H1 s).isSome∧cP H.length src s=some id:=by
  intro id k b h1 h2
  rcases Xw id b h2 with ⟨g1,g2⟩|⟨s,g1,g2,g3⟩
  ·refine ⟨id,g2,?_,s7 g1⟩
   rcases hc.live id k h1 with ⟨_,k1,g⟩|⟨s,_,g,_⟩
   ·rw[g];rfl
   ·omega
  ·refine ⟨s,g3,?_,?_⟩
   ·rcases hc.live id k h1 with ⟨g,_⟩|⟨s',g4,_,k1,g5⟩
    ·omega
    ·rw[g1] at g4;cases g4;rw[g5];rfl
   ·unfold cP
    rw[if_neg (by have:=ha s (List.mem_of_getElem? g1);omega),uZ hn g1]
    simp only[Option.map_some]
    congr 1
    omega
 refine ⟨jh bK H.length src,?_,⟨hR.jB.less fun b ho=>rV hc ho,fun id b h=>?_,fun i j b hi hj jw mL=>?_,fun id b k h1 h2=>?_⟩,⟨⟨fun id b _ h=>?_,hS.size,fun b hb ho fN=>hS.own b hb ho (rV hc fN),hS.same,hS.shape⟩,hS.os,hS.tape,hS.output,by omega,fun id hid=>?_⟩⟩
 ·cases e1 with
  |ret x =>
   cases e with
   |bP y=>exact hz.elim
   |ret y =>
    cases en with
    |returned v=>exact ⟨Gz.kU hz he.1,Gz.R hR hc hz he.2⟩
    |_=>exact he.elim
  |bP x =>
   cases e with
   |ret y=>exact hz.elim
   |bP y =>
    cases en with
    |panicked c=>obtain ⟨v,older,rfl,ho,hv⟩:=he;exact ⟨v,older,rfl,ho,Gz.kU hz hv.1,Gz.R hR hc hz hv.2⟩
    |_=>exact he.elim
 ·rcases Xw id b h with ⟨g1,g2⟩|⟨s,g1,g2,g3⟩
  ·exact ⟨by omega,(hR.dom id b g2).2⟩
  ·have:=(List.getElem?_eq_some_iff.1 g1).1
   exact ⟨by omega,(hR.dom s b g3).2⟩
 ·obtain ⟨k1,e1⟩:=Option.isSome_iff_exists.1 jw
  obtain ⟨k2,e2⟩:=Option.isSome_iff_exists.1 mL
  obtain ⟨s1,a1,a2,a3⟩:=Rf i k1 b e1 hi
  obtain ⟨s2,b1,b2,b3⟩:=Rf j k2 b e2 hj
  have:=hR.inj s1 s2 b a1 b1 a2 b2
  rw[this,b3] at a3
  exact (Option.some.inj a3).symm
 ·have hblk:∀{s:Nat}{k1:aP},bK s=some b→Y.find H1 s=some k1→Gu H1 H.length src k1 k→jI (jh bK H.length src) (Own (jh bK H.length src) H2) w1 k b:=by
   intro s k1 g1 g2 ⟨z1,z2,z3,z4⟩
   rcases hR.blk s b k1 g1 g2 with ⟨h0,c1,c2,a1,a2,a3,a4,a5,a6⟩|⟨h0,ht,bU,clock,a1,a2,a3,a4⟩|⟨h0,ht,r,ts,tm,e,a1,a2⟩|⟨h0,ht,bU,clock,x,r,e,a1,a2,a3,a4,a5⟩|⟨h0,ht,bm,clock,seen,a1,a2⟩
   ·refine .inl ⟨by rw[z1];exact h0,c1,c2,by rw[z2];exact a1,by rw[z1];exact a2,by rw[z4.len];exact a3,fun h=>by rw[z4.len];exact a4 (z3 h),a5,?_⟩
    rw[z1]
    exact dt.Rl hR hc z4 a6
   ·exact .inr (.inl ⟨by rw[z1];exact h0,by rw[z2];exact ht,bU,clock,a1,a2,a3,dt.RE hR hc z4 a4⟩)
   ·rw[e] at z4
    generalize mc:k.es=es at z4
    cases z4 with
    |cons zx zr =>
     cases zx with
     |same hi=>exact .inr (.inr (.inl ⟨by rw[z1];exact h0,by rw[z2];exact ht,r,_,tm,mc,a1,dt.Rt hR hc zr a2⟩))
   ·rw[e] at z4
    generalize mc:k.es=es at z4
    cases z4 with
    |cons zx zr=>exact .inr (.inr (.inr (.inl ⟨by rw[z1];exact h0,by rw[z2];exact ht,bU,clock,_,_,mc,a1,a2,a3,⟨Gz.kU zx a4.1,Gz.R hR hc zx a4.2⟩,dt.RE hR hc zr a5⟩)))
   ·exact .inr (.inr (.inr (.inr ⟨by rw[z1];exact h0,by rw[z2];exact ht,bm,clock,seen,a1,dt.Rt hR hc z4 a2⟩)))
  rcases Xw id b h1 with ⟨g1,g2⟩|⟨s,g1,g2,g3⟩
  ·rcases hold id k g1 h2 with ⟨h3,h4⟩|⟨k1,h3,h4⟩
   ·have h5:φ id=some b:=by rw[←hS.old id g1];exact g2
    have uJ:=AV.eU (q:=fun i=>cP H.length src i=some i) (fun i ⟨b',hb'⟩=>s7 (Ir.dom i b' hb').1) _ (Ir.blk id b k h5 h3).ids
    exact (hR.blk id b k g2 h4).later (Dm hc) rfl uJ
   ·exact hblk g2 h3 h4
  ·obtain ⟨k1,h3,h4⟩:=uh (id-H.length) s k g1 (by rw[show H.length+(id-H.length)=id from by omega];exact h2)
   exact hblk g3 h3 h4
 ·have h4:=(Ir.dom id b h).1
  unfold jh
  rw[if_pos h4,hS.old id h4]
  exact h
 ·unfold jh
  rw[if_pos hid]
  exact hS.old id hid
mutual
inductive Le:AV→AV→Prop where
 | refl {x:AV}:Le x x
 | am {k:Nat}{xs ys:List AV}{room:Option (List AV)}:pd xs ys→Le (.am k xs room) (.am k ys none)
 | nil {k k':Nat}{room:Option (List AV)}:Le (.am k [] room) (.am k' [] none)
 | agg {xs ys:List AV}:pd xs ys→Le (.agg xs) (.agg ys)
 | aD {k id off n:Nat}{c:Option Nat}:Le (.aD k id off n c) (.aD k id off n none)
inductive pd:List AV→List AV→Prop where
 | nil:pd [] []
 | cons {x y:AV}{r s:List AV}:Le x y→pd r s→pd (x::r) (y::s)
end
theorem pd.refl:∀{l:List AV},pd l l
 |[]=>.nil
 |_::_=>.cons .refl pd.refl
theorem pd.len:∀{xs ys:List AV},pd xs ys→ys.length=xs.length
 |_,_,.nil=>rfl
 |_,_,.cons _ h=>by simp[h.len]
theorem Le.isAgg{x y:AV}(h:Le x y):y.isAgg=x.isAgg∧y.az=x.az:=by
 cases h with
 |agg h=>exact ⟨rfl,h.len⟩
 |_=>exact ⟨rfl,rfl⟩
theorem Le.kU{x y:AV}(h:Le x y){u:Value}(hk:kU x u):kU y u:=by
 cases h with
 |agg h=>obtain ⟨us,h1,h2⟩:=hk;exact ⟨us,h1,by rw[h2,h.len]⟩
 |_=>exact hk
section
variable {φ:aU}{O:Nat→Prop}{w:World}
mutual
theorem Le.R:∀{x y:AV},Le x y→∀{g:Nat→Option Value},R φ O w x g→R φ O w y g
 |_,_,.refl,g,h=>h
 |_,_,.am hl,g,h=>by
  obtain ⟨a,c,h1,h2,h3,h4,h5,h6⟩:=h
  have pN:=hl.len
  refine ⟨a,c,by rw[pN];exact h1,by omega,h3,h4,fun hp=>?_,trivial⟩
  obtain ⟨b,off,e1,e2,e3,e4⟩:=h5 (by omega)
  exact ⟨b,off,e1,e2,e3,pd.Rl hl e4⟩
 |_,_,.nil,g,h=>by
  obtain ⟨a,c,h1,h2,h3,h4,h5,h6⟩:=h
  exact ⟨a,c,h1,h2,h3,h4,fun hp=>by simp at hp,trivial⟩
 |_,_,.agg hl,g,h=>pd.Rs hl h
 |_,_,.aD,g,h=>by
  obtain ⟨b,c',cur,e,fr,v1,v2,v3,v4,v5,v6,v7⟩:=h
  exact ⟨b,c',cur,e,fr,v1,v2,v3,v4,fun m hm=>by simp at hm,v6,v7⟩
theorem pd.Rl:∀{xs ys:List AV},pd xs ys→∀{b k off:Nat},Rl φ O w b k xs off→Rl φ O w b k ys off
 |_,_,.nil,b,k,off,_=>trivial
 |_,_,.cons hx hr,b,k,off,h=>⟨by rw[hx.isAgg.2];exact h.1,by rw[hx.isAgg.1];exact h.2.1,Le.R hx h.2.2.1,pd.Rl hr h.2.2.2⟩
theorem pd.Rs:∀{xs ys:List AV},pd xs ys→∀{g:Nat→Option Value},Rs φ O w xs g→Rs φ O w ys g
 |_,_,.nil,g,_=>trivial
 |_,_,.cons hx hr,g,h=>⟨by rw[hx.isAgg.1];exact h.1,Le.R hx h.2.1,h.2.2.1,pd.Rs hr h.2.2.2⟩
theorem pd.Rt:∀{xs ys:List AV},pd xs ys→∀{us:List Value},Rt φ O w xs us→Rt φ O w ys us
 |_,_,.nil,us,h=>h
 |_,_,.cons hx hr,us,h=>by
  obtain ⟨v,s,h1,h2,h3,h4⟩:=h
  exact ⟨v,s,h1,hx.kU h2,Le.R hx h3,pd.Rt hr h4⟩
end
end
theorem acT{P:Program}{f:FuncId}{args args':List AV}{H H':Y}{e:cH}(hl:pd args args')(h:D P f args' H e H'):D P f args H e H' :=
 ⟨h.1,fun φ w vs hR ha=>h.2 φ w vs hR (hl.Rt ha)⟩
inductive qQ(id:Nat)(blk:aP):List AV→List AV→Prop where
 | nil:qQ id blk [] []
 | keep {x:AV}{r s:List AV}:qQ id blk r s→qQ id blk (x::r) (x::s)
 | aD {k off n:Nat}{c:Option Nat}{r s:List AV}:blk.k=k→off+n≤blk.es.length→qQ id blk r s→qQ id blk (.aD k id off n c::r) (.am k ((blk.es.drop off).take n) none::s)
theorem Bq{φ:aU}{H:Y}{id:Nat}{w:World}:Later (fun _=>True) φ φ (Own φ H) (Own φ (Y.set H id none)) w w :=
 ⟨fun _ _ _ h=>h,Nat.le_refl _,fun b _ ho fN=>ho (FT fN),fun _ _ _=>rfl,fun _ _=>rfl⟩
theorem qQ.Rt{φ:aU}{H:Y}{w:World}(hR:Rel φ H w){id:Nat}{blk:aP}(hf:Y.find H id=some blk):∀{xs ys:List AV},qQ id blk xs ys→∀{us:List Value},Rt φ (Own φ H) w xs us→Rt φ (Own φ (Y.set H id none)) w ys us
 |_,_,.nil,us,h=>h
 |_,_,.keep hr,us,h=>by
  obtain ⟨v,s,h1,h2,h3,h4⟩:=h
  exact ⟨v,s,h1,h2,lg Bq _ _ _ (AV.lP _) (fun _ _ h=>h) h3,qQ.Rt hR hf hr h4⟩
 |_,_,.aD (k:=k) (off:=off) (n:=n) hk hn hr,us,h=>by
  obtain ⟨v,s,h1,h2,h3,h4⟩:=h
  refine ⟨v,s,h1,h2,?_,qQ.Rt hR hf hr h4⟩
  obtain ⟨b,c',cur,e,fr,v1,v2,v3,v4,v5,v6,v7⟩:=h3
  have l9:((blk.es.drop off).take n).length=n:=by simp;omega
  refine ⟨_,c',by rw[l9];exact v2,by omega,v4,fun h=>by simp at h,fun hp=>⟨b,off*k,rfl,?_,jH v6,?_⟩,trivial⟩
  ·rintro ⟨i,k2,g1,g2⟩
   obtain ⟨g3,g4⟩:=iV g2
   exact g3 (hR.inj i id b g1 v1 (by rw[g4];rfl) (by rw[hf];rfl))
  ·obtain ⟨_,uB,cap,a1,a2,a3,a4,a5,a6⟩:=(hR.blk id b blk v1 hf).jJ v6
   have h7:=jK (n:=n) (lm (f:=off) a6)
   rw[hk,Nat.zero_add] at h7
   exact rJ Bq b rfl _ _ _ (AV.cO _) h7
theorem aeC{P:Program}{f:FuncId}{args args':List AV}{H H':Y}{e:cH}{id:Nat}{blk:aP}(hf:Y.find H id=some blk)(hz:qQ id blk args args')(h:D P f args' (Y.set H id none) e H'):D P f args H e H' :=
 ⟨by have:=h.1;rwa [Y.af] at this,fun φ w vs hR ha=>by
  obtain ⟨r1,r2⟩:=hR.kill id
  exact (h.2 φ w vs r1 (hz.Rt hR hf ha)).mono fun en w' ⟨φ',h1,h2,h3⟩=>⟨φ',h1,h2,r2.trans h3⟩⟩
theorem aJ{H:Y}{b:Option aP}{i:Nat}(h:i=H.length):Y.find (b::H) i=b:=by subst h;exact Y.iv
theorem ai{H:Y}{b:Option aP}{i:Nat}(h:i<H.length):Y.find (b::H) i=Y.find H i:=Y.bA h
theorem IK{H:Y}{i j:Nat}{x:Option aP}(h:i=j)(hl:i<H.length):Y.find (Y.set H i x) j=x:=by subst h;exact Y.aC hl
theorem vY{H:Y}{i:Nat}{b x:Option aP}(h:i<H.length):Y.set (b::H) i x=b::Y.set H i x:=by
 show (if i=H.length then _ else _)=_
 rw[if_neg (by omega)]
theorem yP{H:Y}{i:Nat}{b x:Option aP}(h:i=H.length):Y.set (b::H) i x=x::H:=by
 show (if i=H.length then _ else _)=_
 rw[if_pos h]
theorem BT{H:Y}{i j:Nat}{x:Option aP}(h:j≠i):Y.find (Y.set H i x) j=Y.find H j:=Y.aj h
theorem D.agM{P:Program}{f:FuncId}{args:List AV}{H H1 H2:Y}{e1 e:cH}(h:D P f args H e1 H1)(hl:H.length≤H2.length)(hw:eB H e1 H1 e H2):D P f args H e H2 :=
 ⟨hl,fun φ w vs hR ha=>(h.2 φ w vs hR ha).mono fun en w' ⟨φ',h1,h2,h3⟩=>hw φ w φ' w' en hR h1 h2 h3⟩
def aW(k:Nat)(xs:List AV)(id:Nat):AV:=match xs with
 |[]=>.am 0 [] (some [])
 |_::_=>.aD k id 0 xs.length none
def bS(k:Nat)(ty:TypeId)(xs:List AV):Option aP:=match xs with
 |[]=>none
 |_::_=>some ⟨k,xs,false,ty⟩
def jR(xs:List AV)(id:Nat)(H:Y):Y:=match xs with
 |[]=>H
 |_::_=>Y.set H id none
section
variable {k id i:Nat}{ty:TypeId}{xs:List AV}{H:Y}
theorem ji(h:xs≠[]):aW k xs id = .aD k id 0 xs.length none:=by cases xs<;>first|exact (h rfl).elim|rfl
theorem bj(h:xs≠[]):bS k ty xs=some ⟨k,xs,false,ty⟩:=by cases xs<;>first|exact (h rfl).elim|rfl
theorem Tj(h:xs≠[]):jR xs id H=Y.set H id none:=by cases xs<;>first|exact (h rfl).elim|rfl
theorem bz:(jR xs id H).length=H.length:=by cases xs<;>simp[jR,Y.af]
theorem jS(h:i≠id):Y.find (jR xs id H) i=Y.find H i:=by
 cases xs with
 |nil=>rfl
 |cons x r=>exact Y.aj h
theorem KQ{b:Option aP}(h:id<H.length):jR xs id (b::H)=b::jR xs id H:=by
 cases xs with
 |nil=>rfl
 |cons x r=>exact vY h
theorem pY{b:aP}(h:bS k ty xs=some b):xs≠[]∧b=⟨k,xs,false,ty⟩:=by
 cases xs with
 |nil=>simp[bS] at h
 |cons x r=>simp[bS] at h;exact ⟨by simp,h.symm⟩
theorem nq:(aW k xs id).bT=false:=by cases xs<;>rfl
theorem s8:(aW k xs id).az=1:=by cases xs<;>rfl
theorem u0:(aW k xs id).isAgg=false:=by cases xs<;>rfl
theorem nT:(aW k xs id).cells=[aW k xs id]:=by cases xs<;>rfl
theorem Dn:pR (aW k xs id)=xs.length:=by cases xs<;>rfl
theorem Br:oy (aW k xs id)=True:=by cases xs<;>rfl
end
theorem Dp{H1:Y}{n0:Nat}{src:List Nat}{k id id':Nat}{xs:List AV}(h:xs≠[]→cP n0 src id=some id'):Gz H1 n0 src (aW k xs id) (aW k xs id'):=by
 cases xs with
 |nil=>exact .same ⟨trivial,trivial⟩
 |cons x r=>exact .Gt (h (by simp)) (.inl rfl)
theorem pZ{H1:Y}{n0:Nat}{src:List Nat}{k id:Nat}{ty:TypeId}{xs ys:List AV}(h:xs≠[]→cP n0 src id=none)(hf:xs≠[]→Y.find H1 id=bS k ty xs)(hz:dt H1 n0 src xs ys):Gz H1 n0 src (aW k xs id) (.am k ys none):=by
 cases xs with
 |nil =>
  cases hz
  exact .nil
 |cons x r =>
  refine .aD (h (by simp)) (hf (by simp)) rfl (by simp) ?_
  simpa using hz
theorem xg{n0 s:Nat}(h:n0≤s):cP n0 [s] s=some n0:=by
 unfold cP
 rw[if_neg (by omega)]
 simp
theorem qQ.refl{id:Nat}{blk:aP}:∀{l:List AV},qQ id blk l l
 |[]=>.nil
 |_::_=>.keep qQ.refl
theorem Xx{H:Y}{k:Nat}{ty:TypeId}{xs ys:List AV}{id:Nat}(hf:xs≠[]→Y.find H id=bS k ty xs)(hl:xs.length+ys.length≤100000000):gN H k ty ys (aW k xs id)∧(ys≠[]∨xs≠[]→lB H k ys (aW k xs id)=aW k (xs++ys) H.length∧jx H k ty ys (aW k xs id)=bS k ty (xs++ys)::jR xs id H)∧
  (ys=[]→xs=[]→lB H k ys (aW k xs id) = .am 0 [] (some [])∧jx H k ty ys (aW k xs id)=H):=by
 cases xs with
 |nil =>
  cases ys with
  |nil=>refine ⟨?_,fun h=>by simp at h,fun _ _=>⟨rfl,rfl⟩⟩;simp[gN,aW]
  |cons y s=>
   refine ⟨?_,fun _=>⟨?_,?_⟩,fun h=>by simp at h⟩
   ·simp[gN,aW] at hl ⊢;exact hl
   ·simp[lB,aW]
   ·simp[jx,aW,bS,jR]
 |cons x r =>
  have h1:Y.find H id=some ⟨k,x::r,false,ty⟩:=hf (by simp)
  refine ⟨?_,fun _=>⟨?_,?_⟩,fun _ h=>by simp at h⟩
  ·simp only[gN,aW,h1]
   simp at hl ⊢
   exact hl
  ·simp only[lB,aW,h1]
   simp
   omega
  ·simp only[jx,aW,h1]
   simp[bS,jR]
theorem aZ{P:Program}{c:IC}{K:Post}{ts:List AV}{H:Y}(I:List AV→Y→Prop)(μ:List AV→Y→Nat)(h0:I ts H)(h:∀ts H,I ts H→∀L:List AV→Y→Prop,(∀ts' H',I ts' H'→μ ts' H'<μ ts H→L ts' H')→ES P c (kW L K) ts H):ES P (.loop c) K ts H :=
 Dh I μ h0 fun ts H hI=>h ts H hI _ fun _ _ h1 h2=>⟨h1,h2⟩
mutual
inductive View(H:Y):AV→AV→Prop where
 | sc {v:Value}:View H (.sc v) (.sc v)
 | ub:View H .ub .ub
 | am {k:Nat}{xs ys:List AV}{room:Option (List AV)}:cJ H xs ys→View H (.am k xs room) (.am k ys none)
 | nil {k k':Nat}{room:Option (List AV)}:View H (.am k [] room) (.am k' [] none)
 | aD {k id off n:Nat}{c:Option Nat}{blk:aP}{ys:List AV}:Y.find H id=some blk→blk.k=k→off+n≤blk.es.length→cJ H ((blk.es.drop off).take n) ys→View H (.aD k id off n c) (.am k ys none)
 | ptr {k id j f:Nat}{blk:aP}{e y:AV}:Y.find H id=some blk→blk.es[j]? = some e→blk.k=k→0<k→View H e y→View H (.ptr k id j f) (.lp y f)
 | lp {x y:AV}{f:Nat}:View H x y→View H (.lp x f) (.lp y f)
 | agg {xs ys:List AV}:cJ H xs ys→View H (.agg xs) (.agg ys)
 | aO {xs ys:List AV}:cJ H xs ys→View H (.aO xs) (.aO ys)
 | eP {t:TypeId}{x y:AV}:View H x y→View H (.eP t x) (.eP t y)
 | fn {f:Fn}{a b a' b':List AV}:cJ H a a'→cJ H b b'→View H (.fn f a b) (.fn f a' b')
inductive cJ(H:Y):List AV→List AV→Prop where
 | nil:cJ H [] []
 | cons {x y:AV}{r s:List AV}:View H x y→cJ H r s→cJ H (x::r) (y::s)
end
section
variable {H:Y}
theorem cJ.len:∀{xs ys:List AV},cJ H xs ys→ys.length=xs.length
 |_,_,.nil=>rfl
 |_,_,.cons _ h=>by simp[h.len]
theorem View.isAgg{x y:AV}(h:View H x y):y.isAgg=x.isAgg∧y.az=x.az:=by
 cases h with
 |agg h=>exact ⟨rfl,h.len⟩
 |_=>exact ⟨rfl,rfl⟩
theorem View.kU{x y:AV}(h:View H x y){u:Value}(hk:kU x u):kU y u:=by
 cases h with
 |agg h=>obtain ⟨us,h1,h2⟩:=hk;exact ⟨us,h1,by rw[h2,h.len]⟩
 |_=>exact hk
theorem View.agN{x y:AV}(h:View H x y):y.isAgg=true→x.isAgg=true:=by
 cases h<;>simp[AV.isAgg]
end
section
variable {φ:aU}{H:Y}{w:World}
mutual
theorem View.R(hR:Rel φ H w):∀{x y:AV},View H x y→∀{g:Nat→Option Value},R φ (Own φ H) w x g→R gR O0 w y g
 |_,_,.sc,g,h=>h
 |_,_,.ub,g,h=>h
 |_,_,.am hl,g,h=>by
  obtain ⟨a,c,h1,h2,h3,h4,h5,h6⟩:=h
  have pN:=hl.len
  refine ⟨a,c,by rw[pN];exact h1,by omega,h3,h4,fun hp=>?_,trivial⟩
  obtain ⟨b,off,e1,e2,e3,e4⟩:=h5 (by omega)
  exact ⟨b,off,e1,tN,e3,cJ.Rl hR hl e4⟩
 |_,_,.nil,g,h=>by
  obtain ⟨a,c,h1,h2,h3,h4,h5,h6⟩:=h
  exact ⟨a,c,h1,h2,h3,h4,fun hp=>by simp at hp,trivial⟩
 |_,_,.aD (k:=k) (id:=id) (off:=off) (n:=n) (blk:=blk) h1 h2 h3 h4,g,h=>by
  obtain ⟨b,c',cur,e,fr,v1,v2,v3,v4,v5,v6,v7⟩:=h
  have l9:((blk.es.drop off).take n).length=n:=by simp;omega
  have pN:=h4.len
  rw[l9] at pN
  refine ⟨_,c',by rw[pN];exact v2,by omega,v4,fun h=>by simp at h,fun hp=>⟨b,off*k,rfl,tN,jH v6,?_⟩,trivial⟩
  obtain ⟨_,uB,cap,a1,a2,a3,a4,a5,a6⟩:=(hR.blk id b blk v1 h1).jJ v6
  have h7:=jK (n:=n) (lm (f:=off) a6)
  rw[h2,Nat.zero_add] at h7
  exact cJ.Rl hR h4 h7
 |_,_,.ptr (k:=k) (id:=id) (j:=j) (f:=f) (blk:=blk) (e:=e) h1 h2 h3 cE hv,g,h=>by
  obtain ⟨b,g1,g2⟩:=h
  obtain ⟨uB,cap,a1,a2,a3,a4,a5,a6⟩:=(hR.blk id b blk g1 h1).cells (by rw[h3];exact cE)
  rw[fJ cE] at g2
  obtain ⟨n1,n2,n3⟩:=yd a6 h2
  rw[h3,Nat.zero_add] at n2 n3
  refine ⟨b,j*k,by rw[g2],tN,jH a1,fun hx=>?_,View.R hR hv n3⟩
  have hxa:e.isAgg=false:=by
   cases hq:e.isAgg with
   |false=>rfl
   |true =>
    have:=hv.isAgg.1
    rw[hx,hq] at this
    simp at this
  exact n2 hxa
 |_,_,.lp hv,g,h=>by
  obtain ⟨b,off,h1,ho,hb,h3,h2⟩:=h
  refine ⟨b,off,h1,tN,hb,fun hx=>h3 ?_,View.R hR hv h2⟩
  rename_i x y f
  cases hq:x.isAgg with
  |false=>rfl
  |true =>
   have:=hv.isAgg.1
   rw[hx,hq] at this
   simp at this
 |_,_,.agg hl,g,h=>cJ.Rs hR hl h
 |_,_,.aO hl,g,h=>by
  obtain ⟨us,h1,h2⟩:=h
  exact ⟨us,h1,cJ.Rt hR hl h2⟩
 |_,_,.eP hx,g,h=>by
  obtain ⟨u,h1,h2,h3⟩:=h
  exact ⟨u,h1,hx.kU h2,View.R hR hx h3⟩
 |_,_,.fn ha hb,g,h=>by
  obtain ⟨us,ws,h1,h2,h3⟩:=h
  exact ⟨us,ws,h1,cJ.Rt hR ha h2,cJ.Rt hR hb h3⟩
theorem cJ.Rl(hR:Rel φ H w):∀{xs ys:List AV},cJ H xs ys→∀{b k off:Nat},Rl φ (Own φ H) w b k xs off→Rl gR O0 w b k ys off
 |_,_,.nil,b,k,off,_=>trivial
 |_,_,.cons (x:=x) (y:=y) hx hr,b,k,off,h=>by
  have he:=hx.isAgg
  exact ⟨by rw[he.2];exact h.1,by rw[he.1];exact h.2.1,View.R hR hx h.2.2.1,cJ.Rl hR hr h.2.2.2⟩
theorem cJ.Rs(hR:Rel φ H w):∀{xs ys:List AV},cJ H xs ys→∀{g:Nat→Option Value},Rs φ (Own φ H) w xs g→Rs gR O0 w ys g
 |_,_,.nil,g,_=>trivial
 |_,_,.cons (x:=x) (y:=y) hx hr,g,h=>by
  refine ⟨?_,View.R hR hx h.2.1,h.2.2.1,cJ.Rs hR hr h.2.2.2⟩
  cases hq:y.isAgg with
  |false=>rfl
  |true=>have:=hx.agN hq;rw[h.1] at this;simp at this
theorem cJ.Rt(hR:Rel φ H w):∀{xs ys:List AV},cJ H xs ys→∀{us:List Value},Rt φ (Own φ H) w xs us→Rt gR O0 w ys us
 |_,_,.nil,us,h=>h
 |_,_,.cons hx hr,us,h=>by
  obtain ⟨v,s,h1,h2,h3,h4⟩:=h
  exact ⟨v,s,h1,hx.kU h2,View.R hR hx h3,cJ.Rt hR hr h4⟩
end
end
inductive Plain:AV→Prop where
 | sc {v:Value}:Plain (.sc v)
 | ub:Plain .ub
 | nil {k:Nat}{room:Option (List AV)}:(room=none∨room=some [])→Plain (.am k [] room)
 | agO:Plain (.aO [])
 | aO {x:AV}{r:List AV}:Plain x→Plain (.aO r)→Plain (.aO (x::r))
theorem Plain.R{x:AV}(h:Plain x):∀{φ φ':aU}{O O':Nat→Prop}{w w':World}{g:Nat→Option Value},R φ O w x g→R φ' O' w' x g:=by
 induction h with
 |sc=>intro φ φ' O O' w w' g h;exact h
 |ub=>intro φ φ' O O' w w' g h;exact h
 |nil hr =>
  intro φ φ' O O' w w' g h
  obtain ⟨a,c,h1,h2,h3,h4,h5,h6⟩:=h
  refine ⟨a,c,h1,h2,h3,h4,fun hp=>by simp at hp,?_⟩
  rcases hr with rfl|rfl
  ·trivial
  ·exact ⟨h6.1,fun hp=>by simp at hp⟩
 |agO =>
  intro φ φ' O O' w w' g h
  obtain ⟨us,h1,h2⟩:=h
  exact ⟨us,h1,h2⟩
 |aO _ _ ih1 ih2 =>
  intro φ φ' O O' w w' g h
  obtain ⟨us,h1,v,s,h2,h3,h4,h5⟩:=h
  obtain ⟨us',e1,e2⟩:=ih2 (φ:=φ) (φ':=φ') (O:=O) (O':=O') (w:=w) (w':=w') (g:=fun _=>some (.tuple s.toArray)) ⟨s.toArray,rfl,h5⟩
  have:us'=s.toArray:=by simpa using e1.symm
  subst this
  exact ⟨us,h1,v,s,h2,h3,ih1 h4,e2⟩
theorem s9{P:Program}{f:FuncId}{args args':List AV}{v:AV}{H:Y}(hv:cJ H args args')(hp:Plain v)(h:D P f args' [] (.ret v) []):D P f args H (.ret v) H:=by
 refine ⟨Nat.le_refl _,fun φ w vs hR ha=>(h.2 gR w vs (Rb (hR.jB.less fun b ho=>(tN ho).elim)) (hv.Rt hR ha)).mono fun en w' ⟨φ',h1,h2,h3⟩=>?_⟩
 have hb:=pW h3
 refine ⟨φ,?_,hR.grow hb.size hb.block,grow_step hb.os hb.tape hb.output hb.size hb.block⟩
 cases en with
 |returned u=>exact ⟨h1.1,hp.R h1.2⟩
 |_=>exact h1.elim
theorem cJ.own{H:Y}{k id:Nat}{ty:TypeId}{xs ys:List AV}(hf:xs≠[]→Y.find H id=bS k ty xs)(hl:cJ H xs ys):View H (aW k xs id) (.am k ys none):=by
 cases xs with
 |nil=>cases hl;exact .nil
 |cons x r =>
  refine .aD (hf (by simp)) rfl (by simp) ?_
  simpa using hl
theorem cJ.Tk{H:Y}{α:Type}{f:α→Value}:∀{l:List α},cJ H (l.map fun a=>.sc (f a)) (l.map fun a=>.sc (f a))
 |[]=>.nil
 |_::_=>.cons .sc cJ.Tk
open Go Go.RowKit
set_option linter.defProp false
def kI(n:Int):X:=.k (.sc (.int .i64 n))
def kT:X:=.k (.sc (.bool true))
def kF:X:=.k (.sc (.bool false))
def bG:AV:=.am 0 [] (some [])
def xI(n:Int):PO:=.mv (kI n)
def xA(k s i:Nat):PO:=.gm k (.t s) (.t i)
def xL(s:Nat):PO:=.len (.t s)
def xB(op:BinOp)(a b:Nat):PO:=.aN op (.t a) (.t b)
def xN(a:Nat):PO:=.un .not (.t a)
def yD(k a:Nat):HO:=.load k false (.t a)
def yA(k a:Nat):HO:=.load k true (.t a)
def yC(f a b:Nat):HO:=.call f [.t a,.t b]
def iM(n a:Nat):cy:=⟨some n,none,.p (.mv (.t a))⟩
def iP(n:Nat)(p:PO):cy:=⟨some n,none,.p p⟩
def iH(n:Nat)(h:HO):cy:=⟨some n,none,.h h⟩
def iS(k a x:Nat):cy:=⟨none,none,.h (.store k (.t a) (.t x))⟩
def gM(n g:Nat)(b:Bool)(a:Nat):cy:=⟨some n,some (g,b),.p (.mv (.t a))⟩
def gP(n g:Nat)(b:Bool)(p:PO):cy:=⟨some n,some (g,b),.p p⟩
def gH(n g:Nat)(b:Bool)(h:HO):cy:=⟨some n,some (g,b),.h h⟩
theorem aeD:∀n,kI n = .k (.sc (.int .i64 n)):=fun _=>rfl
theorem aeE:kT = .k (.sc (.bool true)):=rfl
theorem aeF:kF = .k (.sc (.bool false)):=rfl
theorem abf:bG = .am 0 [] (some []):=rfl
theorem aeG:∀n,xI n = .mv (.k (.sc (.int .i64 n))):=fun _=>rfl
theorem aeH:∀k s i,xA k s i = .gm k (.t s) (.t i):=by intros;rfl
theorem aeI:∀s,xL s = .len (.t s):=fun _=>rfl
theorem aeJ:∀op a b,xB op a b = .aN op (.t a) (.t b):=by intros;rfl
theorem aeK:∀a,xN a = .un .not (.t a):=fun _=>rfl
theorem aeL:∀k a,yD k a = .load k false (.t a):=fun _ _=>rfl
theorem aeM:∀k a,yA k a = .load k true (.t a):=fun _ _=>rfl
theorem aeN:∀f a b,yC f a b = .call f [.t a,.t b]:=by intros;rfl
theorem aeO:∀n a,iM n a=⟨some n,none,.p (.mv (.t a))⟩:=fun _ _=>rfl
theorem aeP:∀n p,iP n p=⟨some n,none,.p p⟩:=fun _ _=>rfl
theorem aeQ:∀n h,iH n h=⟨some n,none,.h h⟩:=fun _ _=>rfl
theorem aeR:∀k a x,iS k a x=⟨none,none,.h (.store k (.t a) (.t x))⟩:=by intros;rfl
theorem aeS:∀n g b a,gM n g b a=⟨some n,some (g,b),.p (.mv (.t a))⟩:=by intros;rfl
theorem aeT:∀n g b p,gP n g b p=⟨some n,some (g,b),.p p⟩:=by intros;rfl
theorem aeU:∀n g b h,gH n g b h=⟨some n,some (g,b),.h h⟩:=by intros;rfl
def ux:=And.intro aeD<|And.intro aeE<|And.intro aeF<|And.intro abf<|And.intro aeG<|And.intro aeH<|And.intro aeI<|And.intro aeJ<|And.intro aeK<|And.intro aeL<|And.intro aeM<|And.intro aeN<|And.intro aeO<|And.intro aeP<|And.intro aeQ<|And.intro aeR<|And.intro aeS<|And.intro aeT aeU
def Dk(P:Program)(f:FuncId)(c:IC)(rs:List RV)(n:Nat):Prop :=
 ∀{args:List AV}{H:Y}{Kr:cH→Y→Prop},E P c (Ae rs Kr) (args++List.replicate (n-args.length) (.aO [])) H→DK P f args H Kr
theorem aV{P:Program}{f:FuncId}{fn:Func}{ic:IC}{rs:List RV}(hf:P.funcs[f]? = some fn)(hb:fn.body=some (fn.body.getD .skip):=by kernel_rfl)(hc:dU P [] (fn.body.getD .skip)=some ic:=by kernel_rfl)(hr:ow P fn.results.toList=some rs:=by kernel_rfl):Dk P f ic rs fn.ntmps :=
 fun h=>qN (bx:=[]) hf hb hc hr h
set_option maxHeartbeats 0
set_option maxRecDepth 1000000
inductive Over(H:Y):Y→Prop where
 | refl:Over H H
 | cons {b:Option aP}{G:Y}:Over H G→Over H (b::G)
theorem Over.split{H G:Y}(h:Over H G):∃A,G=A++H:=by
 induction h with
 |refl=>exact ⟨[],rfl⟩
 |@cons b G _ ih=>obtain ⟨A,rfl⟩:=ih;exact ⟨b::A,rfl⟩
theorem dD{H G:Y}{x y:AV}(h:Over H G)(hz:Fz G H.length x y):eB H (.ret x) G (.ret y) H:=by
 obtain ⟨A,rfl⟩:=h.split
 exact N8 hz
theorem bL{H G:Y}{v:Value}(h:Over H G):eB H (.ret (.sc v)) G (.ret (.sc v)) H:=dD h (.same trivial)
inductive Fu where
 | o
 | s (f:Fu)
def Fu.num:Fu→Nat
 |.o=>0
 |.s f=>f.num+1
theorem Z{P:Program}{a b:IC}{K:Post}{ts:List AV}{H:Y}(h:∀L:List AV→Y→Prop,(∀ts H,ES P b K ts H→L ts H)→ES P a (kW L K) ts H):ES P (.seq a b) K ts H:=h _ (fun _ _ h=>h)
theorem nc2:((2:Nat):Int)=2:=rfl
theorem nc3:((3:Nat):Int)=3:=rfl
theorem nc4:((4:Nat):Int)=4:=rfl
theorem nc5:((5:Nat):Int)=5:=rfl
theorem nc6:((6:Nat):Int)=6:=rfl
theorem nc7:((7:Nat):Int)=7:=rfl
theorem nc8:((8:Nat):Int)=8:=rfl
theorem nc9:((9:Nat):Int)=9:=rfl
theorem agP:((10:Nat):Int)=10:=rfl
theorem agQ:((11:Nat):Int)=11:=rfl
theorem agR:((12:Nat):Int)=12:=rfl
theorem Xy{A:List (List Nat)}{i:Nat}{v:AV}:BR A i [] v=True:=by
 cases v<;>simp[BR]
theorem Tl{A:List (List Nat)}{i j:Nat}{H:Y}{hs:List (Nat×Y×Y)}{v:AV}:BR A i ((j,H,H)::hs) v=BR A i hs v:=by
 cases v<;>simp[BR]
theorem Tm{A:List (List Nat)}{i j:Nat}{H G:Y}{hs:List (Nat×Y×Y)}{k id a f:Nat}:BR A i ((j,H,G)::hs) (.ptr k id a f)=((ni A j i=true→id<H.length→Y.find G id=Y.find H id)∧BR A i hs (.ptr k id a f)):=by
 simp[BR]
theorem abg{A:List (List Nat)}{i:Nat}{hs:List (Nat×Y×Y)}{x:AV}{f:Nat}:BR A i hs (.lp x f)=True:=rfl
theorem Xz{A:List (List Nat)}{i:Nat}{H G:Y}:sW A i [] H G=True:=by simp[sW]
theorem Tn{A:List (List Nat)}{i j id:Nat}{ld:List (Nat×Nat)}{H G:Y}:sW A i ((j,id)::ld) H G=((ni A j i=true→Y.find G id=Y.find H id)∧sW A i ld H G):=by
 simp[sW]
theorem KR{n:Int}{r:List AV}:l8 (.sc (.int .u8 n)::r)=l8 r:=by simp[l8,pF]
theorem IL:l8 []=true:=rfl
def strs(l:List ByteArray):List AV:=l.map fun s=>.sc (.string s)
theorem dM(l:List ByteArray):(strs l).length=l.length:=by simp[strs]
theorem Tp:strs []=[]:=rfl
def nU(xs:List ByteArray)(k:Nat):ByteArray:=xs.getD k ByteArray.empty
theorem Ao{l:List ByteArray}{k:Nat}(h:k<l.length):(strs l).getD k .top = .sc (.string (nU l k)):=by
 simp[strs,nU,List.getD,h]
theorem str_inj{s t:ByteArray}(h:s.toList=t.toList):s=t:=by
 rw[ByteArray.toList_eq,ByteArray.toList_eq] at h
 cases s with
 |mk s=>cases t with
  |mk t =>
   have e:s=t:=Array.toList_inj.1 h
   subst e
   rfl
theorem u7(s t:ByteArray):(s.toList == t.toList)=decide (s=t):=by
 by_cases h:s=t
 ·subst h;simp
 ·rw[decide_eq_false h,beq_eq_false_iff_ne]
  exact fun e=>h (str_inj e)
theorem XA(a b:Int):(a == b)=decide (a=b):=by
 by_cases h:a=b<;>simp[h]
theorem XB{p:Prop} [Decidable p]:(!decide p)=decide (¬p):=by
 by_cases h:p<;>simp[h]
def Fr:List (Option AV)→List AV→Prop
 |[],[]=>True
 |some v::p,x::r=>x=v∧Fr p r
 |none::p,_::r=>Fr p r
 |_,_=>False
def mk:List (Option AV)→(Nat→AV)→List AV
 |[],_=>[]
 |some v::p,js=>v::mk p (fun i=>js (i+1))
 |none::p,js=>js 0::mk p (fun i=>js (i+1))
abbrev fg(l:List (Option AV)):List (Option AV):=none::none::none::none::l
abbrev ir(l:List (Option AV)):List (Option AV):=fg (fg l)
abbrev dL(l:List (Option AV)):List (Option AV):=ir (ir l)
abbrev bf(l:List (Option AV)):List (Option AV):=dL (dL l)
theorem Fr.opened:∀{p:List (Option AV)}{ts:List AV},Fr p ts→∃js,ts=mk p js
 |[],[],_=>⟨fun _=>.top,rfl⟩
 |some v::p,x::r,h=>by
  obtain ⟨js,e⟩:=Fr.opened h.2
  refine ⟨fun i=>js (i-1),?_⟩
  simp only[mk,h.1,Nat.add_sub_cancel]
  rw[e]
 |none::p,x::r,h=>by
  obtain ⟨js,e⟩:=Fr.opened (p:=p) (ts:=r) h
  refine ⟨fun i=>if i=0 then x else js (i-1),?_⟩
  simp only[mk,if_true,Nat.add_sub_cancel,Nat.add_eq_zero_iff,Nat.one_ne_zero,and_false,if_false]
  rw[e]
 |[],_::_,h=>h.elim
 |some _::_,[],h=>h.elim
 |none::_,[],h=>h.elim
theorem ak{a b:Prop}(x1:a)(x2:b):a∧b:=⟨x1,x2⟩
theorem gq{a b c:Prop}(x1:a)(x2:b)(x3:c):a∧b∧c:=⟨x1,x2,x3⟩
theorem ei{a b c d:Prop}(x1:a)(x2:b)(x3:c)(x4:d):a∧b∧c∧d:=⟨x1,x2,x3,x4⟩
theorem kY{a b c d e:Prop}(x1:a)(x2:b)(x3:c)(x4:d)(x5:e):a∧b∧c∧d∧e:=⟨x1,x2,x3,x4,x5⟩
theorem yQ{a b c d e f:Prop}(x1:a)(x2:b)(x3:c)(x4:d)(x5:e)(x6:f):a∧b∧c∧d∧e∧f:=⟨x1,x2,x3,x4,x5,x6⟩
theorem mM{a b c d e f i:Prop}(x1:a)(x2:b)(x3:c)(x4:d)(x5:e)(x6:f)(x7:i):a∧b∧c∧d∧e∧f∧i:=⟨x1,x2,x3,x4,x5,x6,x7⟩
theorem Dq{a b c d e f i j:Prop}(x1:a)(x2:b)(x3:c)(x4:d)(x5:e)(x6:f)(x7:i)(x8:j):a∧b∧c∧d∧e∧f∧i∧j:=⟨x1,x2,x3,x4,x5,x6,x7,x8⟩
theorem Fq{a b c d e f i j k:Prop}(x1:a)(x2:b)(x3:c)(x4:d)(x5:e)(x6:f)(x7:i)(x8:j)(x9:k):a∧b∧c∧d∧e∧f∧i∧j∧k:=⟨x1,x2,x3,x4,x5,x6,x7,x8,x9⟩
theorem XC{a b c d e f i j k l:Prop}(x1:a)(x2:b)(x3:c)(x4:d)(x5:e)(x6:f)(x7:i)(x8:j)(x9:k)(Ap:l):a∧b∧c∧d∧e∧f∧i∧j∧k∧l:=⟨x1,x2,x3,x4,x5,x6,x7,x8,x9,Ap⟩
theorem yR{a b c d e f i j k l m:Prop}(x1:a)(x2:b)(x3:c)(x4:d)(x5:e)(x6:f)(x7:i)(x8:j)(x9:k)(Ap:l)(Dr:m):a∧b∧c∧d∧e∧f∧i∧j∧k∧l∧m:=⟨x1,x2,x3,x4,x5,x6,x7,x8,x9,Ap,Dr⟩
theorem yS{a b c d e f i j k l m n:Prop}(x1:a)(x2:b)(x3:c)(x4:d)(x5:e)(x6:f)(x7:i)(x8:j)(x9:k)(Ap:l)(Dr:m)(IM:n):a∧b∧c∧d∧e∧f∧i∧j∧k∧l∧m∧n:=⟨x1,x2,x3,x4,x5,x6,x7,x8,x9,Ap,Dr,IM⟩
theorem Rg{a b c d e f i j k l m n o:Prop}(x1:a)(x2:b)(x3:c)(x4:d)(x5:e)(x6:f)(x7:i)(x8:j)(x9:k)(Ap:l)(Dr:m)(IM:n)(OG:o):a∧b∧c∧d∧e∧f∧i∧j∧k∧l∧m∧n∧o:=⟨x1,x2,x3,x4,x5,x6,x7,x8,x9,Ap,Dr,IM,OG⟩
theorem agS{a b c d e f i j k l m n o r:Prop}(x1:a)(x2:b)(x3:c)(x4:d)(x5:e)(x6:f)(x7:i)(x8:j)(x9:k)(Ap:l)(Dr:m)(IM:n)(OG:o)(XD:r):a∧b∧c∧d∧e∧f∧i∧j∧k∧l∧m∧n∧o∧r:=⟨x1,x2,x3,x4,x5,x6,x7,x8,x9,Ap,Dr,IM,OG,XD⟩
theorem XE{a b c d e f i j k l m n o r s:Prop}(x1:a)(x2:b)(x3:c)(x4:d)(x5:e)(x6:f)(x7:i)(x8:j)(x9:k)(Ap:l)(Dr:m)(IM:n)(OG:o)(XD:r)(x15:s):a∧b∧c∧d∧e∧f∧i∧j∧k∧l∧m∧n∧o∧r∧s:=⟨x1,x2,x3,x4,x5,x6,x7,x8,x9,Ap,Dr,IM,OG,XD,x15⟩
theorem agT{a b c d e f i j k l m n o r s t:Prop}(x1:a)(x2:b)(x3:c)(x4:d)(x5:e)(x6:f)(x7:i)(x8:j)(x9:k)(Ap:l)(Dr:m)(IM:n)(OG:o)(XD:r)(x15:s)(x16:t):a∧b∧c∧d∧e∧f∧i∧j∧k∧l∧m∧n∧o∧r∧s∧t:=⟨x1,x2,x3,x4,x5,x6,x7,x8,x9,Ap,Dr,IM,OG,XD,x15,x16⟩
theorem Tq:∀v_,AV.bT (AV.sc v_)=false:=fun _=>rfl
theorem Ts:∀v_,AV.isAgg (AV.sc v_)=false:=fun _=>rfl
theorem OH:∀v_,AV.az (AV.sc v_)=1:=fun _=>rfl
theorem Tt:∀v_,AV.cells (AV.sc v_)=[(AV.sc v_)]:=fun _=>rfl
theorem abh:∀v_ f0 x0,AV.lq (AV.sc v_) f0 x0=x0:=by intros;rfl
theorem OI:∀k_ kw r_,AV.bT (AV.am k_ kw r_)=false:=by intros;rfl
theorem OJ:∀k_ kw r_,AV.isAgg (AV.am k_ kw r_)=false:=by intros;rfl
theorem KS:∀k_ kw r_,AV.az (AV.am k_ kw r_)=1:=by intros;rfl
theorem OL:∀k_ kw r_,AV.cells (AV.am k_ kw r_)=[(AV.am k_ kw r_)]:=by intros;rfl
theorem XF:∀k_ kw r_ f0 x0,AV.lq (AV.am k_ kw r_) f0 x0=x0:=by intros;rfl
theorem OM:∀k_ i_ o_ n_ c_,AV.bT (AV.aD k_ i_ o_ n_ c_)=false:=by intros;rfl
theorem OO:∀k_ i_ o_ n_ c_,AV.isAgg (AV.aD k_ i_ o_ n_ c_)=false:=by intros;rfl
theorem KT:∀k_ i_ o_ n_ c_,AV.az (AV.aD k_ i_ o_ n_ c_)=1:=by intros;rfl
theorem OP:∀k_ i_ o_ n_ c_,AV.cells (AV.aD k_ i_ o_ n_ c_)=[(AV.aD k_ i_ o_ n_ c_)]:=by intros;rfl
theorem XG:∀k_ i_ o_ n_ c_ f0 x0,AV.lq (AV.aD k_ i_ o_ n_ c_) f0 x0=x0:=by intros;rfl
theorem OQ:∀k_ i_ j_ f_,AV.bT (AV.ptr k_ i_ j_ f_)=false:=by intros;rfl
theorem OS:∀k_ i_ j_ f_,AV.isAgg (AV.ptr k_ i_ j_ f_)=false:=by intros;rfl
theorem KU:∀k_ i_ j_ f_,AV.az (AV.ptr k_ i_ j_ f_)=1:=by intros;rfl
theorem OU:∀k_ i_ j_ f_,AV.cells (AV.ptr k_ i_ j_ f_)=[(AV.ptr k_ i_ j_ f_)]:=by intros;rfl
theorem XH:∀k_ i_ j_ f_ f0 x0,AV.lq (AV.ptr k_ i_ j_ f_) f0 x0=x0:=by intros;rfl
theorem Tu:∀x_ f_,AV.bT (AV.lp x_ f_)=false:=fun _ _=>rfl
theorem Tv:∀x_ f_,AV.isAgg (AV.lp x_ f_)=false:=fun _ _=>rfl
theorem OV:∀x_ f_,AV.az (AV.lp x_ f_)=1:=fun _ _=>rfl
theorem Tw:∀x_ f_,AV.cells (AV.lp x_ f_)=[(AV.lp x_ f_)]:=fun _ _=>rfl
theorem abi:∀x_ f_ f0 x0,AV.lq (AV.lp x_ f_) f0 x0=x0:=by intros;rfl
theorem OX:∀Aq,AV.bT (AV.agg Aq)=false:=fun _=>rfl
theorem OY:∀Aq,AV.isAgg (AV.agg Aq)=true:=fun _=>rfl
theorem KV:∀Aq,AV.az (AV.agg Aq)=Aq.length:=fun _=>rfl
theorem OZ:∀Aq,AV.cells (AV.agg Aq)=Aq:=fun _=>rfl
theorem XI:∀Aq f0 x0,AV.lq (AV.agg Aq) f0 x0=AV.agg (Aq.take f0++x0.cells++Aq.drop (f0+x0.az)):=by intros;rfl
theorem O1:∀Fs,AV.bT (AV.aO Fs)=true:=fun _=>rfl
theorem O3:∀Fs,AV.isAgg (AV.aO Fs)=false:=fun _=>rfl
theorem KW:∀Fs,AV.az (AV.aO Fs)=1:=fun _=>rfl
theorem O4:∀Fs,AV.cells (AV.aO Fs)=[(AV.aO Fs)]:=fun _=>rfl
theorem XJ:∀Fs f0 x0,AV.lq (AV.aO Fs) f0 x0=x0:=by intros;rfl
theorem Tx:∀f_ a_ b_,AV.bT (AV.fn f_ a_ b_)=false:=by intros;rfl
theorem Ty:∀f_ a_ b_,AV.isAgg (AV.fn f_ a_ b_)=false:=by intros;rfl
theorem O5:∀f_ a_ b_,AV.az (AV.fn f_ a_ b_)=1:=by intros;rfl
theorem Tz:∀f_ a_ b_,AV.cells (AV.fn f_ a_ b_)=[(AV.fn f_ a_ b_)]:=by intros;rfl
theorem abj:∀f_ a_ b_ f0 x0,AV.lq (AV.fn f_ a_ b_) f0 x0=x0:=by intros;rfl
theorem O6:∀t_ x_,AV.bT (AV.eP t_ x_)=false:=fun _ _=>rfl
theorem O7:∀t_ x_,AV.isAgg (AV.eP t_ x_)=false:=fun _ _=>rfl
theorem KX:∀t_ x_,AV.az (AV.eP t_ x_)=1:=fun _ _=>rfl
theorem O8:∀t_ x_,AV.cells (AV.eP t_ x_)=[(AV.eP t_ x_)]:=fun _ _=>rfl
theorem XK:∀t_ x_ f0 x0,AV.lq (AV.eP t_ x_) f0 x0=x0:=by intros;rfl
theorem TA:AV.bT (AV.ub)=false:=rfl
theorem TB:AV.isAgg (AV.ub)=false:=rfl
theorem O9:AV.az (AV.ub)=1:=rfl
theorem TC:AV.cells (AV.ub)=[(AV.ub)]:=rfl
theorem abk:∀f0 x0,AV.lq (AV.ub) f0 x0=x0:=fun  _ _=>rfl
theorem Pa:AV.bT (AV.top)=true:=rfl
theorem Pb:AV.isAgg (AV.top)=false:=rfl
theorem KY:AV.az (AV.top)=1:=rfl
theorem Pc:AV.cells (AV.top)=[(AV.top)]:=rfl
theorem XL:∀f0 x0,AV.lq (AV.top) f0 x0=x0:=fun  _ _=>rfl
theorem TD:∀k_ kw i_ f0 x0,AV.lq (aW k_ kw i_) f0 x0=x0:=fun k_ kw i_ f0 x0=>by cases kw<;>rfl
theorem TE:∀k_ kw r_,pR (.am k_ kw r_)=kw.length:=by intros;rfl
theorem TF:∀k_ i_ o_ n_ c_,pR (.aD k_ i_ o_ n_ c_)=n_:=by intros;rfl
theorem Pd:∀k_ kw r_,oy (.am k_ kw r_)=True:=by intros;rfl
theorem Pe:∀k_ i_ o_ n_ c_,oy (.aD k_ i_ o_ n_ c_)=True:=by intros;rfl
theorem Pf:oy (.sc (.slice none 0 0))=True:=rfl
theorem TG:pR (.sc (.slice none 0 0))=0:=rfl
theorem TH:∀H_ k_ dK jy r_,wH H_ k_ (.am dK jy r_)=(dK=k_∨jy=[]):=by intros;rfl
theorem TI:∀H_ k_ dK pe u9 n_ c_,wH H_ k_ (.aD dK pe u9 n_ c_)=match Y.find H_ pe with
 |some blk=>dK=k_∧blk.k=k_∧u9+n_≤blk.es.length
 |none=>False:=fun _ _ _ _ _ _ _=>rfl
theorem XM:∀H_ dK jy r_,pb H_ (.am dK jy r_)=jy:=by intros;rfl
theorem XN:∀H_ dK pe u9 n_ c_,pb H_ (.aD dK pe u9 n_ c_)=match Y.find H_ pe with
 |some blk=>(blk.es.drop u9).take n_
 |none=>[]:=fun _ _ _ _ _ _=>rfl
theorem TJ:∀H_ k_ tY jy dK kw,gN H_ k_ tY jy (.am dK kw (some []))=((dK=k_∨kw=[])∧kw.length+jy.length≤100000000):=by intros;rfl
theorem XO:∀H_ k_ tY jy dK pe u9 n_,gN H_ k_ tY jy (.aD dK pe u9 n_ none)=match Y.find H_ pe with
 |some blk=>(dK=k_∧blk.k=k_∧blk.ty=tY∧u9=0∧n_+jy.length≤100000000)∧blk.exact=false∧n_=blk.es.length
 |none=>False:=fun _ _ _ _ _ _ _ _=>rfl
theorem XP:∀H_ k_ tY jy dK pe u9 n_ m_,gN H_ k_ tY jy (.aD dK pe u9 n_ (some m_))=match Y.find H_ pe with
 |some blk=>(dK=k_∧blk.k=k_∧blk.ty=tY∧u9=0∧n_+jy.length≤100000000)∧((blk.exact=true∧m_=blk.es.length∧n_≤m_)∨(blk.exact=false∧n_≤blk.es.length))
 |none=>False:=fun _ _ _ _ _ _ _ _ _=>rfl
theorem TK:∀H_ k_ dK kw,lB H_ k_ [] (.am dK kw (some [])) = .am dK kw (some []):=by intros;rfl
theorem Gv:∀H_ k_ y_ jy dK kw,lB H_ k_ (y_::jy) (.am dK kw (some [])) = .aD k_ H_.length 0 (kw.length+(y_::jy).length) none:=by intros;rfl
theorem abl:∀H_ k_ jy dK pe o_ n_,lB H_ k_ jy (.aD dK pe o_ n_ none) = .aD k_ H_.length 0 (n_+jy.length) none:=by intros;rfl
theorem abm:∀H_ k_ jy dK pe o_ n_ m_,lB H_ k_ jy (.aD dK pe o_ n_ (some m_))=if n_+jy.length≤m_ then .aD k_ pe 0 (n_+jy.length) (some m_) else .aD k_ H_.length 0 (n_+jy.length) none:=by intros;rfl
theorem TL:∀H_ k_ tY dK kw,jx H_ k_ tY [] (.am dK kw (some []))=H_:=by intros;rfl
theorem Gw:∀H_ k_ tY y_ jy dK kw,jx H_ k_ tY (y_::jy) (.am dK kw (some []))=some ⟨k_,kw++(y_::jy),false,tY⟩::H_:=by intros;rfl
theorem abn:∀H_ k_ tY jy dK pe o_ n_,jx H_ k_ tY jy (.aD dK pe o_ n_ none)=match Y.find H_ pe with
 |some blk=>some ⟨k_,blk.es++jy,false,tY⟩::Y.set H_ pe none
 |none=>H_:=fun _ _ _ _ _ _ _ _=>rfl
theorem abo:∀H_ k_ tY jy dK pe o_ n_ m_,jx H_ k_ tY jy (.aD dK pe o_ n_ (some m_))=match Y.find H_ pe with
 |some blk=>if n_+jy.length≤m_ then Y.set H_ pe (some { blk with es:=blk.es.take n_++jy++blk.es.drop (n_+jy.length) }) else some ⟨k_,blk.es.take n_++jy,false,tY⟩::H_
 |none=>H_:=fun _ _ _ _ _ _ _ _ _=>rfl
theorem abp:∀H_ k_ i_ o_ n_ c_,GX.ok H_ .cap [.aD k_ i_ o_ n_ (some c_)]=True:=by intros;rfl
theorem abq:∀H_ k_ x_ y_,GX.ok H_ .cap [.am k_ x_ (some y_)]=True:=by intros;rfl
theorem aeV:∀H_ k_ d_ s_,GX.ok H_ (.copy k_) [d_,s_]=FU H_ k_ s_ d_:=by intros;rfl
theorem agU:∀H_ s_,GX.ok H_ .NH [.sc (.string s_)]=(s_.size≤100000000):=fun _ _=>rfl
theorem abr:∀H_ k_ i_ o_ n_ c_,GX.val H_ .cap [.aD k_ i_ o_ n_ (some c_)] = .sc (.int .i64 (c_:Nat)):=by intros;rfl
theorem abt:∀H_ k_ x_ y_,GX.val H_ .cap [.am k_ x_ (some y_)] = .sc (.int .i64 ((x_.length+y_.length:Nat):Int)):=by intros;rfl
theorem aeW:∀H_ k_ d_ s_,GX.val H_ (.copy k_) [d_,s_] = .sc (.int .i64 ((min (lQ s_) (lQ d_):Nat):Int)):=by intros;rfl
theorem agV:∀H_ s_,GX.val H_ .NH [.sc (.string s_)] = .am 1 (bO s_) none:=fun _ _=>rfl
theorem hcap:∀H_ l_,GX.heap H_ .cap l_=H_:=fun _ _=>rfl
theorem aeX:∀H_ k_ d_ s_,GX.heap H_ (.copy k_) [d_,s_]=NK H_ s_ d_:=by intros;rfl
theorem agW:∀H_ l_,GX.heap H_ .NH l_=H_:=fun _ _=>rfl
theorem abu:∀H_ k_ s_ dK i_ o_ n_ c_,FU H_ k_ s_ (.aD dK i_ o_ n_ c_)=match Y.find H_ i_ with
 |some blk=>dK=k_∧blk.k=k_∧o_≤blk.es.length∧(blk.exact=false∨o_+min (lQ s_) n_≤blk.es.length)∧Bj H_ k_ (min (lQ s_) n_) s_
 |none=>False:=fun _ _ _ _ _ _ _ _=>rfl
theorem abv:∀H_ k_ s_ dK r_,FU H_ k_ s_ (.am dK [] r_)=Bj H_ k_ 0 s_:=by intros;rfl
theorem aeY:∀H_ s_ dK i_ o_ n_ c_,NK H_ s_ (.aD dK i_ o_ n_ c_)=match Y.find H_ i_ with
 |some blk=>Y.set H_ i_ (some { blk with es:=blk.es.take o_++Sn H_ (min (lQ s_) n_) s_++blk.es.drop (o_+min (lQ s_) n_) })
 |none=>H_:=fun _ _ _ _ _ _ _=>rfl
theorem aeZ:∀H_ s_ dK r_,NK H_ s_ (.am dK [] r_)=H_:=by intros;rfl
theorem abw:∀H_ k_ m_ dK x_ r_,Bj H_ k_ m_ (.am dK x_ r_)=((dK=k_∨m_=0)∧m_≤x_.length):=by intros;rfl
theorem abx:∀H_ k_ m_ dK i_ o_ n_ c_,Bj H_ k_ m_ (.aD dK i_ o_ n_ c_)=match Y.find H_ i_ with
 |some blk=>dK=k_∧blk.k=k_∧m_≤n_∧o_+m_≤blk.es.length
 |none=>False:=fun _ _ _ _ _ _ _ _=>rfl
theorem ae0:∀H_ m_ dK x_ r_,Sn H_ m_ (.am dK x_ r_)=x_.take m_:=by intros;rfl
theorem ae1:∀H_ m_ dK i_ o_ n_ c_,Sn H_ m_ (.aD dK i_ o_ n_ c_)=match Y.find H_ i_ with
 |some blk=>(blk.es.drop o_).take m_
 |none=>[]:=fun _ _ _ _ _ _ _=>rfl
theorem aby:∀k_ x_ r_,lQ (.am k_ x_ r_)=x_.length:=by intros;rfl
theorem abz:∀k_ i_ o_ n_ c_,lQ (.aD k_ i_ o_ n_ c_)=n_:=by intros;rfl
theorem agX:∀H_ p_ a_ b_ c_ d_,GX.ok H_ (.rM p_ [none,none]) [.agg [.sc (.string a_),.sc (.string b_)],.agg [.sc (.string c_),.sc (.string d_)]]=True:=by intros;rfl
theorem ae2:∀H_ k_ a_ b_ c_ d_,GX.val H_ (.rM true k_) [.agg [.sc (.string a_),.sc (.string b_)],.agg [.sc (.string c_),.sc (.string d_)]] = .sc (.bool (decide (a_=c_∧b_=d_))):=fun _ _ a b c d=>by
 simp[GX.val,uq,beq_toListBytes,u7,Bool.decide_and]
theorem ae3:∀H_ k_ a_ b_ c_ d_,GX.val H_ (.rM false k_) [.agg [.sc (.string a_),.sc (.string b_)],.agg [.sc (.string c_),.sc (.string d_)]] = .sc (.bool (decide (¬(a_=c_∧b_=d_)))):=fun _ _ a b c d=>by
 simp[GX.val,uq,beq_toListBytes,u7]
theorem agY:∀H_ p_ k_ l_,GX.heap H_ (.rM p_ k_) l_=H_:=by intros;rfl
theorem ae4:∀H_ k_ t_ z_ dK i_ o_ n_ c_ q_ m_,GX.ok H_ (.qH k_ t_ z_) [.aD dK i_ o_ n_ (some c_),.sc (.int q_ m_)]=match Y.find H_ i_ with
 |some blk=>(dK=k_∧blk.k=k_∧o_=0∧n_≤blk.es.length)∧0<m_∧(c_:Int)<n_+m_∧(n_:Int)+m_≤100000000
 |none=>False:=fun _ _ _ _ _ _ _ _ _ _ _=>rfl
theorem ae5:∀H_ k_ t_ z_ dK i_ o_ n_ c_ q_ m_,GX.val H_ (.qH k_ t_ z_) [.aD dK i_ o_ n_ c_,.sc (.int q_ m_)] = .aD k_ H_.length 0 (n_+m_.toNat) none:=by intros;rfl
theorem ae6:∀H_ k_ t_ z_ dK i_ o_ n_ c_ q_ m_,GX.heap H_ (.qH k_ t_ z_) [.aD dK i_ o_ n_ c_,.sc (.int q_ m_)]=match Y.find H_ i_ with
 |some blk=>some ⟨k_,blk.es.take n_++List.replicate m_.toNat z_,false,t_⟩::H_
 |none=>H_:=fun _ _ _ _ _ _ _ _ _ _ _=>rfl
theorem ae7:∀H_ s_ c_,GX.ok H_ .Cy [.sc (.string s_),.sc (.int .u8 c_)]=True:=by intros;rfl
theorem ae8:∀H_ s_ k_ c_,GX.val H_ .Cy [.sc (.string s_),.sc (.int k_ c_)] = .sc (.int .i64 (firstIdx s_ c_.toNat.toUInt8)):=by intros;rfl
theorem ae9:∀H_ l_,GX.heap H_ .Cy l_=H_:=fun _ _=>rfl
theorem agZ:∀H_ k_ x_ y_ r_ dK i_ o_ n_ c_,GX.ok H_ .NI [.am k_ (x_::y_) r_,.aD dK i_ o_ n_ c_]=match Y.find H_ i_ with
 |some _=>0<k_
 |none=>False:=fun _ _ _ _ _ _ _ _ _ _=>rfl
theorem ag0:∀H_ l_,GX.val H_ .NI l_ = .sc (.bool false):=fun _ _=>rfl
theorem ag1:∀H_ l_,GX.heap H_ .NI l_=H_:=fun _ _=>rfl
theorem gmk:∀H_,GX.ok H_ .oh []=True:=fun _=>rfl
theorem gmg:∀H_ q_ z_ o_ i_ j_ k_,GX.ok H_ (.pK q_ z_ o_) [.ptr 0 i_ j_ 0,.sc k_]=(je q_ k_=true∧ur H_ i_ (fM q_)):=by intros;rfl
theorem gmp:∀H_ q_ i_ j_ k_ v_,GX.ok H_ (.gi q_) [.ptr 0 i_ j_ 0,.sc k_,v_]=(je q_ k_=true∧ur H_ i_ (fM q_)):=by intros;rfl
theorem gml:∀H_ i_ j_,GX.ok H_ .Bh [.ptr 0 i_ j_ 0]=ur H_ i_ (fun _=>True):=by intros;rfl
theorem gmd:∀H_ q_ i_ j_ k_,GX.ok H_ (.yh q_) [.ptr 0 i_ j_ 0,.sc k_]=(je q_ k_=true∧ur H_ i_ (fM q_)):=by intros;rfl
theorem vmk:∀H_,GX.val H_ .oh [] = .ptr 0 H_.length 0 0:=fun _=>rfl
theorem ag2:∀H_ q_ z_ a_ i_ j_ f_ k_,GX.val H_ (.pK q_ z_ true) [.ptr a_ i_ j_ f_,.sc k_] = .aO [nQ k_ z_ (mZ H_ i_),.sc (.bool (decide (fy k_ (mZ H_ i_)<(mZ H_ i_).length)))]:=by intros;rfl
theorem ag3:∀H_ q_ z_ a_ i_ j_ f_ k_,GX.val H_ (.pK q_ z_ false) [.ptr a_ i_ j_ f_,.sc k_]=nQ k_ z_ (mZ H_ i_):=by intros;rfl
theorem vmp:∀H_ q_ l_,GX.val H_ (.gi q_) l_ = .top:=by intros;rfl
theorem vml:∀H_ a_ i_ j_ f_,GX.val H_ .Bh [.ptr a_ i_ j_ f_] = .sc (.int .i64 ((mZ H_ i_).length:Nat)):=by intros;rfl
theorem vmd:∀H_ q_ l_,GX.val H_ (.yh q_) l_ = .aO []:=by intros;rfl
theorem ag4:∀H_ l_,GX.heap H_ .oh l_=some ⟨0,[],true,0⟩::H_:=fun _ _=>rfl
theorem ag5:∀H_ q_ z_ o_ l_,GX.heap H_ (.pK q_ z_ o_) l_=H_:=by intros;rfl
theorem ag6:∀H_ q_ a_ i_ j_ f_ k_ v_,GX.heap H_ (.gi q_) [.ptr a_ i_ j_ f_,.sc k_,v_]=ut H_ i_ (qJ k_ v_ (mZ H_ i_)):=by intros;rfl
theorem ag7:∀H_ l_,GX.heap H_ .Bh l_=H_:=fun _ _=>rfl
theorem ag8:∀H_ q_ a_ i_ j_ f_ k_,GX.heap H_ (.yh q_) [.ptr a_ i_ j_ f_,.sc k_]=ut H_ i_ (JN k_ (mZ H_ i_)):=by intros;rfl
theorem abA:∀H_ i_ p_,ur H_ i_ p_=match Y.find H_ i_ with
 |some blk=>(blk.k=0∧blk.ty=0)∧p_ blk.es
 |none=>False:=fun _ _ _=>rfl
theorem abB:∀H_ i_,mZ H_ i_=match Y.find H_ i_ with
 |some blk=>blk.es
 |none=>[]:=fun _ _=>rfl
theorem XQ:∀H_ i_ e_,ut H_ i_ e_=match Y.find H_ i_ with
 |some blk=>Y.set H_ i_ (some { blk with es:=e_ })
 |none=>H_:=fun _ _ _=>rfl
theorem afa:∀s_,je none (.string s_)=true:=fun _=>rfl
theorem afb:∀k_ n_,je (some k_) (.int k_ n_)=true:=fun k_ _=>by cases k_<;>rfl
theorem KZ:∀q_,fM q_ []=True:=fun q_=>by simp[fM]
theorem IP:∀q_ k_ v_ r_,fM q_ (.aO [.sc k_,v_]::r_)=(je q_ k_=true∧fM q_ r_):=fun q_ k_ v_ r_=>by simp[fM,Cz]
theorem XS:∀a_ b_,ol (.string a_) (.string b_)=decide (a_=b_):=fun _ _=>rfl
theorem XT:∀k_ q_ a_ b_,ol (.int k_ a_) (.int q_ b_)=decide (a_=b_):=by intros;rfl
theorem abC:∀H_ k_ i_ o_ n_ c_ s_,GX.ok H_ .ri [.aD k_ i_ o_ n_ c_,.sc (.string s_)]=match Y.find H_ i_ with
 |some blk=>k_=1∧blk.k=1∧o_+n_≤blk.es.length∧s_.size≤n_
 |none=>False:=fun _ _ _ _ _ _ _=>rfl
theorem abD:∀H_ d_ s_,GX.val H_ .ri [d_,.sc (.string s_)] = .sc (.int .i64 (s_.size:Nat)):=by intros;rfl
theorem abE:∀H_ k_ i_ o_ n_ c_ s_,GX.heap H_ .ri [.aD k_ i_ o_ n_ c_,.sc (.string s_)]=match Y.find H_ i_ with
 |some blk=>Y.set H_ i_ (some { blk with es:=blk.es.take o_++bO s_++blk.es.drop (o_+s_.size) })
 |none=>H_:=fun _ _ _ _ _ _ _=>rfl
theorem afc:∀H_ t_ d_ s_,GX.ok H_ (.rN t_) [d_,.sc (.string s_)]=FV H_ t_ s_ d_:=by intros;rfl
theorem afd:∀H_ t_ d_ s_,GX.val H_ (.rN t_) [d_,.sc (.string s_)]=NL H_ s_ d_:=by intros;rfl
theorem afe:∀H_ t_ d_ s_,GX.heap H_ (.rN t_) [d_,.sc (.string s_)]=JO H_ t_ s_ d_:=by intros;rfl
theorem abF:∀H_ t_ s_,FV H_ t_ s_ (.sc (.slice none 0 0))=(s_.size≤100000000):=by intros;rfl
theorem abG:∀H_ t_ s_ k_ i_ o_ n_ c_,FV H_ t_ s_ (.aD k_ i_ o_ n_ c_)=match Y.find H_ i_ with
  | some blk=>(k_=1∧blk.k=1∧blk.ty=t_∧o_=0∧n_+s_.size≤100000000)∧(match c_ with
   |none=>blk.exact=false∧n_=blk.es.length
   | some m=>(blk.exact=true∧m=blk.es.length∧n_≤m)∨(blk.exact=false∧n_≤blk.es.length))
  |none=>False:=fun _ _ _ _ _ _ _ _=>rfl
theorem aff:∀H_ s_ v_,NL H_ s_ (.sc v_)=if s_.size=0 then .sc v_ else .aD 1 H_.length 0 s_.size none:=by intros;rfl
theorem abH:∀H_ s_ k_ i_ o_ n_,NL H_ s_ (.aD k_ i_ o_ n_ none) = .aD 1 H_.length 0 (n_+s_.size) none:=by intros;rfl
theorem abI:∀H_ s_ k_ i_ o_ n_ m_,NL H_ s_ (.aD k_ i_ o_ n_ (some m_))=if n_+s_.size≤m_ then .aD 1 i_ 0 (n_+s_.size) (some m_) else .aD 1 H_.length 0 (n_+s_.size) none:=by intros;rfl
theorem afg:∀H_ t_ s_ v_,JO H_ t_ s_ (.sc v_)=if s_.size=0 then H_ else some ⟨1,bO s_,false,t_⟩::H_:=by intros;rfl
theorem abJ:∀H_ t_ s_ k_ i_ o_ n_,JO H_ t_ s_ (.aD k_ i_ o_ n_ none)=match Y.find H_ i_ with
 |some blk=>some ⟨1,blk.es++bO s_,false,t_⟩::Y.set H_ i_ none
 |none=>H_:=fun _ _ _ _ _ _ _=>rfl
theorem afh:∀H_ t_ p_ n_,GX.ok H_ (.wF t_) [p_,.sc (.int .i64 n_)]=FW H_ t_ n_ p_:=by intros;rfl
theorem afi:∀H_ t_ p_ k_ n_,GX.val H_ (.wF t_) [p_,.sc (.int k_ n_)] = .sc (.string (NM H_ n_ p_)):=by intros;rfl
theorem afj:∀H_ t_ p_ n_,GX.heap H_ (.wF t_) [p_,n_]=VN H_ p_:=by intros;rfl
theorem abK:∀H_ t_ n_,FW H_ t_ n_ (.sc (.pointer none))=(n_=0):=by intros;rfl
theorem abL:∀H_ t_ n_ k_ i_ j_ f_,FW H_ t_ n_ (.ptr k_ i_ j_ f_)=match Y.find H_ i_ with
 |some blk=>(k_=1∧blk.k=1∧blk.ty=t_∧j_=0∧f_=0∧0<n_∧n_.toNat≤blk.es.length)∧∃s,blk.es.take n_.toNat=bO s
 |none=>False:=fun _ _ _ _ _ _ _=>rfl
theorem afk:∀H_ n_ v_,NM H_ n_ (.sc v_)=⟨#[]⟩:=by intros;rfl
theorem afl:∀H_ n_ k_ i_ j_ f_,NM H_ n_ (.ptr k_ i_ j_ f_)=match Y.find H_ i_ with
 |some blk=>oY (blk.es.take n_.toNat)
 |none=>⟨#[]⟩:=fun _ _ _ _ _ _=>rfl
theorem afm:∀H_ v_,VN H_ (.sc v_)=H_:=fun _ _=>rfl
theorem afn:∀H_ k_ i_ j_ f_,VN H_ (.ptr k_ i_ j_ f_)=Y.set H_ i_ none:=by intros;rfl
theorem ag9:∀H_ k_ i_ o_ n_ c_,GX.ok H_ .pL [.aD k_ i_ o_ n_ c_]=(0<k_∧0<n_):=by intros;rfl
theorem aha:∀H_,GX.ok H_ .pL [.sc (.slice none 0 0)]=True:=fun _=>rfl
theorem ahb:∀H_ k_ i_ o_ n_ c_,GX.val H_ .pL [.aD k_ i_ o_ n_ c_] = .ptr k_ i_ o_ 0:=by intros;rfl
theorem ahc:∀H_ v_,GX.val H_ .pL [.sc v_] = .sc (.pointer none):=fun _ _=>rfl
theorem wz:∀H_ l_,GX.heap H_ .pL l_=H_:=fun _ _=>rfl
theorem afo:∀H_ p_ x_,GX.ok H_ (.qI p_) [x_]=CA x_:=by intros;rfl
theorem abM:∀H_ x_,GX.val H_ (.qI true) [x_] = .sc (.bool (mb x_)):=fun _ _=>rfl
theorem abN:∀H_ x_,GX.val H_ (.qI false) [x_] = .sc (.bool (!mb x_)):=fun _ _=>rfl
theorem afp:∀H_ p_ l_,GX.heap H_ (.qI p_) l_=H_:=by intros;rfl
theorem XU:∀k_ i_ j_ f_,CA (.ptr k_ i_ j_ f_)=(0<k_):=by intros;rfl
theorem XV:CA (.sc (.pointer none))=True:=rfl
theorem TM:∀k_ i_ j_ f_,mb (.ptr k_ i_ j_ f_)=false:=by intros;rfl
theorem TN:mb (.sc (.pointer none))=true:=rfl
theorem ahd:∀H_ p_ k_ i_ j_ f_ dK i2_ j2_ f2_,GX.ok H_ (.JM p_) [.ptr k_ i_ j_ f_,.ptr dK i2_ j2_ f2_]=((k_=dK∧i_=i2_∧j_=j2_∧f_=f2_)∧0<k_):=by intros;rfl
theorem ahe:∀H_ p_ l_,GX.val H_ (.JM p_) l_ = .sc (.bool p_):=by intros;rfl
theorem ahf:∀H_ p_ l_,GX.heap H_ (.JM p_) l_=H_:=by intros;rfl
theorem ahg:∀H_ k_ i_ j_ f_,GX.ok H_ .NJ [.ptr k_ i_ j_ f_]=match Y.find H_ i_ with
 |some blk=>blk.k=k_∧0<k_∧j_<blk.es.length∧f_<k_
 |none=>False:=fun _ _ _ _ _=>rfl
theorem ahh:∀H_ x_,GX.val H_ .NJ [x_]=x_:=fun _ _=>rfl
theorem ahi:∀H_ l_,GX.heap H_ .NJ l_=H_:=fun _ _=>rfl
theorem abO:∀H_ t_ k_ i_ j_ f_,GX.ok H_ (.wY t_) [.ptr k_ i_ j_ f_]=match Y.find H_ i_ with
 |some blk=>(k_=2∧blk.k=2∧j_=0∧f_=0∧blk.exact=true∧blk.es.length=1)∧t_.contains blk.ty=true
 |none=>False:=fun _ _ _ _ _ _=>rfl
theorem abP:∀H_ t_ x_,GX.val H_ (.wY t_) [x_]=x_:=by intros;rfl
theorem abQ:∀H_ t_ l_,GX.heap H_ (.wY t_) l_=H_:=by intros;rfl
theorem abR:∀H_ x_,GX.ok H_ .uo [x_]=True:=fun _ _=>rfl
theorem abS:∀H_ x_,GX.val H_ .uo [x_]=x_:=fun _ _=>rfl
theorem abT:∀H_ l_,GX.heap H_ .uo l_=H_:=fun _ _=>rfl
theorem afq:∀H_ s_ c_,GX.ok H_ .Bi [.sc (.string s_),.sc (.int .u8 c_)]=True:=by intros;rfl
theorem afr:∀H_ s_ k_ c_,GX.val H_ .Bi [.sc (.string s_),.sc (.int k_ c_)] = .sc (.int .i64 (Lib.countByte s_.data.toList c_.toNat.toUInt8:Nat)):=by intros;rfl
theorem afs:∀H_ l_,GX.heap H_ .Bi l_=H_:=fun _ _=>rfl
theorem aft:∀H_ k_ t_ z_ dK q_ m_,GX.ok H_ (.qH k_ t_ z_) [.am dK [] (some []),.sc (.int q_ m_)]=(0<m_∧m_≤100000000):=by intros;rfl
theorem afu:∀H_ k_ t_ z_ dK x_ r_ q_ m_,GX.val H_ (.qH k_ t_ z_) [.am dK x_ r_,.sc (.int q_ m_)] = .aD k_ H_.length 0 m_.toNat none:=by intros;rfl
theorem afv:∀H_ k_ t_ z_ dK x_ r_ m_,GX.heap H_ (.qH k_ t_ z_) [.am dK x_ r_,m_]=some ⟨k_,[],false,t_⟩::H_:=by intros;rfl
def vu:=ak Pf<|ak TG<|ak @aft<|ak @afu<|ak @afv<|ak @abC<|ak @abD<|ak @abE<|ak @afc<|ak @afd<|ak @afe<|ak @abF<|ak @abG<|ak @aff<|ak @abH<|ak @abI<|ak @afg<|ak @abJ<|ak @afh<|ak @afi<|ak @afj<|ak @abK<|ak @abL<|ak @afk<|ak @afl<|ak @afm<|ak @afn<|ak @ag9<|ak @aha<|ak @ahb<|ak @ahc<|ak @wz<|ak @afo<|ak @abM<|ak @abN<|ak @afp<|ak @XU<|ak @XV<|ak @TM<|ak @TN<|ak @ahd<|ak @ahe<|ak @ahf<|ak @ahg<|ak @ahh<|ak @ahi<|ak @abO<|ak @abP<|ak @abQ<|ak @abR<|ak @abS<|ak @abT<|ak @afq<|ak @afr<|@afs
theorem hmc:∀H_ t_ k_ i_ j_ f_,GX.heap H_ .vT [.eP t_ (.ptr k_ i_ j_ f_)]=some ⟨0,mZ H_ i_,true,0⟩::H_:=by intros;rfl
theorem hnm:∀H_ p_ l_,GX.heap H_ (.Bg p_) l_=H_:=by intros;rfl
def vg:=ak @gmk<|ak @gmg<|ak @gmp<|ak @gml<|ak @gmd<|ak @vmk<|ak @ag2<|ak @ag3<|ak @vmp<|ak @vml<|ak @vmd<|ak @ag4<|ak @ag5<|ak @ag6<|ak @ag7<|ak @ag8<|ak @abA<|ak @abB<|ak @XQ<|ak @afa<|ak @afb<|ak @KZ<|ak @IP<|ak @XS<|ak @XT<|ak @ae7<|ak @ae8<|ak @ae9<|ak @agZ<|ak @ag0<|ak @ag1<|ak @agX<|ak @ae2<|ak @ae3<|ak @agY<|ak @ae4<|ak @ae5<|ak @ae6<|ak @WZ<|ak @Tb<|ak @abp<|ak @abq<|ak @aeV<|ak @agU<|ak @abr<|ak @abt<|ak @aeW<|ak @agV<|ak @hcap<|ak @aeX<|ak @agW<|ak @abu<|ak @abv<|ak @aeY<|ak @aeZ<|ak @abw<|ak @abx<|ak @ae0<|ak @ae1<|ak @aby<|@abz
theorem onf:∀Ds p_ x_,PO.ok Ds (.uf p_ x_)=Iv (Ds x_):=by intros;rfl
theorem vnf:∀Ds p_ x_,PO.val Ds (.uf p_ x_)=Oe p_ (Ds x_):=by intros;rfl
theorem otp:∀Ds t_ x_,PO.ok Ds (.wD t_ x_)=Iw t_ (Ds x_):=by intros;rfl
theorem vtp:∀Ds t_ x_,PO.val Ds (.wD t_ x_)=Og (Ds x_):=by intros;rfl
def vf:=ak @onf<|ak @vnf<|ak @otp<|ak @vtp<|ak @Iv.eq_def<|ak @Oe.eq_def<|ak @Iw.eq_def<|@Og.eq_def
def vk:=ak @ite_true.{1}<|ak @ite_false.{1}<|ak @eq_self.{1}<|ak @forall_const.{1}<|@implies_true.{1}
def vl:=ak @Y.af<|ak @bz<|ak @List.length_cons.{0}<|@List.length_nil.{0}
def va:=ak @S3<|ak @aa3<|ak @Om<|ak @Ku<|ak @S4<|ak @S5<|ak @Oo<|ak @Kv<|ak @Oq<|ak @S7<|ak @S6<|ak @Ot<|ak @Kw<|ak @Kx<|ak @S8<|ak @W0<|ak @W2<|ak @W3<|ak @W4<|ak @S9<|ak @Ov<|ak @W5<|ak @Ky<|ak @Iy<|ak @Ow<|ak @Ox<|ak @Kz<|ak @Iz<|ak @KA<|ak @Oy<|ak @KB<|ak @IA<|ak @KC<|ak @Oz<|ak @W6<|ak @W7<|ak @W8<|ak @W9<|ak @Tc<|ak @Ta<|ak @Xa<|ak @aa4<|ak @Xb<|ak @Ra<|ak @KD<|ak @Gn<|ak @Xc<|ak @aa5<|ak @KE<|ak @KF<|ak @Xd<|ak @Xe<|ak @Xf<|ak @Xg<|ak @Td<|ak @Gp<|ak @Te<|ak @Tf<|ak @Xh<|ak @Xi<|ak @Xj<|ak @Xq<|ak @aa8<|ak @aa9<|ak @aba<|ak @abb<|ak @Xr<|ak @Xs<|ak @Xt<|ak @Ti<|ak @abc<|ak @abd<|ak @abe<|ak @iY.eq_1<|ak @iY.eq_2<|ak @iY.eq_3<|ak @kO.eq_1<|ak @kO.eq_2<|ak @kO.eq_3<|ak @oneOf.eq_def<|ak @PO.ok.eq_1<|ak @PO.ok.eq_2<|ak @PO.ok.eq_3<|ak @PO.ok.eq_4<|ak @PO.ok.eq_5<|ak @PO.ok.eq_6<|ak @PO.ok.eq_7<|ak @PO.ok.eq_8<|ak @PO.ok.eq_9<|ak @PO.ok.eq_10<|ak @PO.ok.eq_11<|ak @PO.ok.eq_12<|ak @PO.ok.eq_13<|ak @PO.ok.eq_14<|ak @PO.ok.eq_15<|ak @PO.ok.eq_16<|ak @PO.ok.eq_17<|ak @PO.ok.eq_18<|ak @PO.ok.eq_19<|ak @PO.ok.eq_20<|ak @PO.ok.eq_21<|ak @PO.ok.eq_22<|ak @PO.ok.eq_23<|ak @PO.ok.eq_24<|ak @PO.ok.eq_25<|ak @PO.ok.eq_26<|ak @PO.ok.eq_27<|ak @PO.ok.eq_28<|ak @PO.val.eq_1<|ak @PO.val.eq_2<|ak @PO.val.eq_3<|ak @PO.val.eq_4<|ak @PO.val.eq_5<|ak @PO.val.eq_6<|ak @PO.val.eq_7<|ak @PO.val.eq_8<|ak @PO.val.eq_9<|ak @PO.val.eq_10<|ak @PO.val.eq_11<|ak @PO.val.eq_12<|ak @PO.val.eq_13<|ak @PO.val.eq_14<|ak @PO.val.eq_15<|ak @PO.val.eq_16<|ak @PO.val.eq_17<|ak @PO.val.eq_18<|ak @PO.val.eq_19<|ak @PO.val.eq_20<|ak @PO.val.eq_21<|ak @PO.val.eq_22<|ak @PO.val.eq_23<|ak @PO.val.eq_24<|ak @PO.val.eq_25<|ak @PO.val.eq_26<|ak @PO.val.eq_27<|ak @PO.val.eq_28<|ak @N9.eq_def<|ak @WM.eq_def<|ak @WN.eq_def<|ak @shF.eq_def<|ak @WO.eq_def<|ak @unF.eq_def<|ak @Oa.eq_def<|ak @acO.eq_def<|ak @WP.eq_def<|ak @acP.eq_def<|ak @Q3.eq_def<|ak @WQ.eq_def<|ak @Q4.eq_def<|ak @WR.eq_def<|ak @Q6.eq_def<|ak @Kl.eq_def<|ak @Q5.eq_def<|ak @KR<|ak @IL<|ak @WT.eq_def<|ak @C9.eq_def<|ak @Da.eq_def<|ak @Q7.eq_def<|ak @Km.eq_def<|ak @uN.eq_def<|ak @Q8.eq_def<|ak @Ag.eq_def<|ak @Kn.eq_def<|ak @Ch.eq_def<|ak @WU.eq_def<|ak @Iu.eq_def<|ak @WV.eq_def<|ak @ox.eq_1<|ak @ox.eq_2<|ak @gK.eq_1<|ak @gK.eq_2<|ak @Db.eq_def<|ak @Ko.eq_def<|ak @Ob.eq_def<|ak @Dc.eq_def<|ak @WW.eq_def<|ak @mmF.eq_def<|ak @Oc.eq_def<|ak @acQ.eq_def<|ak @Q9.eq_def<|ak @Od.eq_def<|ak @qO.eq_1<|ak @qO.eq_2<|ak @xc.eq_1<|ak @xc.eq_2<|ak @wC.eq_def<|ak @NB.eq_def<|ak @JC.eq_def<|ak @wG.eq_def<|ak @Fm.eq_def<|ak @Bo.eq_def<|ak @yK.eq_def<|ak @nn.eq_1<|ak @nn.eq_2<|ak @rT.eq_1<|ak @rT.eq_2<|ak @qP.eq_def<|ak @aM.eq_def<|ak @WY.eq_def<|ak @X.ev.eq_1<|ak @X.ev.eq_2<|ak @cz.eq_1<|ak @cz.eq_2<|ak @AV.sub.eq_def<|ak @AV.jv.eq_def<|ak @List.getD_cons_succ.{0}<|ak @List.getD_cons_zero.{0}<|ak @List.set_cons_succ.{0}<|ak @List.set_cons_zero.{0}<|ak @List.length_cons.{0}<|ak @List.length_nil.{0}<|ak @List.replicate.eq_1.{0}<|ak @List.replicate.eq_2.{0}<|ak @List.cons_append.{0}<|ak @List.nil_append.{0}<|ak @List.append_nil.{0}<|ak @List.append_assoc.{0}<|ak @List.map_cons.{0,0}<|ak @List.map_nil.{0,0}<|ak @List.drop_succ_cons.{0}<|ak @List.drop_zero.{0}<|ak @List.take_succ_cons.{0}<|ak @List.take_zero.{0}<|ak @List.drop_nil.{0}<|ak @List.take_nil.{0}<|ak @List.getD_nil.{0}<|ak @Nat.zero_add<|ak @Nat.add_zero<|ak @Nat.add_left_cancel_iff<|ak @Nat.add_right_cancel_iff<|ak @Nat.left_eq_add<|ak @Nat.add_eq_left<|ak @Nat.add_eq_zero_iff<|ak @Nat.succ_ne_self<|ak @Option.isSome_some.{0}<|ak @Option.isSome_none.{0}<|ak @Option.getD_some.{0}<|ak @Option.getD_none.{0}<|ak @Option.map_some.{0,0}<|ak @Option.map_none.{0,0}<|ak @Bool.not_true<|ak @Bool.not_false<|ak @Bool.or_true<|ak @Bool.true_or<|ak @Bool.or_false<|ak @Bool.false_or<|ak @Bool.not_eq_true<|ak @true_and<|ak @and_true<|ak @false_and<|ak @and_false<|ak @true_or<|ak @or_true<|ak @or_false<|ak @false_or<|ak @and_self<|ak @Bool.false_eq_true<|ak @not_true<|ak @not_false_iff<|ak @decide_true<|ak @decide_false<|ak @beq_self_eq_true.{0}<|ak @nc2<|ak @nc3<|ak @nc4<|ak @nc5<|ak @nc6<|ak @nc7<|ak @nc8<|ak @nc9<|ak @agP<|ak @agQ<|ak @agR<|ak @Int.natCast_zero<|ak @Int.natCast_one<|ak @Xy<|ak @Tl<|ak @Tm<|ak @abg<|ak @Xz<|ak @Tn<|ak @ni.eq_def<|ak @l4.eq_def<|ak @false_implies<|ak @Bool.not_eq_eq_eq_not<|ak @List.contains_cons.{0}<|ak @List.contains_nil.{0}<|ak @Bool.and_self<|ak @Bool.true_and<|ak @Bool.and_true<|ak @Bool.false_and<|ak @Bool.and_false<|ak @true_implies<|ak @Nat.add_assoc<|ak @u7<|ak @Int.toNat_natCast<|ak @dM<|ak @Tp<|ak @XA<|ak @XB<|ak @bne.eq_def.{0}<|@wrap_i64
def vs:=ak ux<|ak @TE<|ak @TF<|ak @Pd<|ak @Pe<|ak @TH<|ak @TI<|ak @XM<|ak @XN<|ak @TJ<|ak @XO<|ak @XP<|ak @TK<|ak @Gv<|ak @abl<|ak @abm<|ak @TL<|ak @Gw<|ak @abn<|ak @abo<|ak @Tq<|ak @Ts<|ak @OH<|ak @Tt<|ak @abh<|ak @OI<|ak @OJ<|ak @KS<|ak @OL<|ak @XF<|ak @OM<|ak @OO<|ak @KT<|ak @OP<|ak @XG<|ak @OQ<|ak @OS<|ak @KU<|ak @OU<|ak @XH<|ak @Tu<|ak @Tv<|ak @OV<|ak @Tw<|ak @abi<|ak @OX<|ak @OY<|ak @KV<|ak @OZ<|ak @XI<|ak @O1<|ak @O3<|ak @KW<|ak @O4<|ak @XJ<|ak @Tx<|ak @Ty<|ak @O5<|ak @Tz<|ak @abj<|ak @O6<|ak @O7<|ak @KX<|ak @O8<|ak @XK<|ak @TA<|ak @TB<|ak @O9<|ak @TC<|ak @abk<|ak @Pa<|ak @Pb<|ak @KY<|ak @Pc<|@XL
def vh:=ak @Y.find.eq_1<|ak @Y.find.eq_2<|ak @Y.set.eq_1<|@Y.set.eq_2
def vw:=ak @aJ<|ak @ai<|ak @IK<|ak @BT<|ak @vY<|ak @yP<|ak @Y.af<|ak @jS<|ak @KQ<|ak @bz<|ak @nq<|ak @s8<|ak @u0<|ak @nT<|ak @TD<|ak @Dn<|@Br
theorem fh{P Q:Prop}(q:Q)(h:P=Q:=by simp -implicitDefEqProofs (maxSteps:=99999999) (disch:=first|omega|(simp only[vl]<;>omega)) only[va,vg,vs,vw,vk,simprocAttr]<;>rfl):P:=h.symm▸q
theorem eQ{a P Q:Prop}(x:a)(q:Q)(h:a→P=Q:=by intro x;simp -implicitDefEqProofs (maxSteps:=99999999) (disch:=first|omega|(simp only[vl]<;>omega)) only[x,va,vg,vs,vw,vk,simprocAttr]<;>rfl):P:=(h x).symm▸q
theorem aw{P Q:Prop}(q:Q)(h:P=Q:=by simp -implicitDefEqProofs (maxSteps:=99999999) (disch:=first|omega|(simp only[vl]<;>omega)) only[vu,va,vg,vs,vw,vk,simprocAttr]<;>rfl):P:=h.symm▸q
theorem aI{a P Q:Prop}(x:a)(q:Q)(h:a→P=Q:=by intro x;simp -implicitDefEqProofs (maxSteps:=99999999) (disch:=first|omega|(simp only[vl]<;>omega)) only[x,vu,va,vg,vs,vw,vk,simprocAttr]<;>rfl):P:=(h x).symm▸q
theorem zD0{P Q:Prop}(q:Q)(h:P=Q:=by simp -implicitDefEqProofs (maxSteps:=99999999) (disch:=omega) only[va,vg,vs,vh,vk,simprocAttr]<;>rfl):P:=h.symm▸q
theorem yT{a P Q:Prop}(x:a)(q:Q)(h:a→P=Q:=by intro x;simp -implicitDefEqProofs (maxSteps:=99999999) (disch:=omega) only[x,va,vg,vs,vh,vk,simprocAttr]<;>rfl):P:=(h x).symm▸q
theorem zE0{P Q:Prop}(q:Q)(h:P=Q:=by simp -implicitDefEqProofs (maxSteps:=99999999) (disch:=omega) only[vu,va,vg,vs,vh,vk,simprocAttr]<;>rfl):P:=h.symm▸q
theorem yU{P Q:Prop}(q:Q)(h:P=Q:=by simp -implicitDefEqProofs (maxSteps:=99999999) (disch:=first|omega|(simp only[vl]<;>omega)) only[mk,va,vg,vs,vw,vk,simprocAttr]<;>rfl):P:=h.symm▸q
theorem df{a P Q:Prop}(x:a)(q:Q)(h:a→P=Q:=by intro x;simp -implicitDefEqProofs (maxSteps:=99999999) (disch:=first|omega|(simp only[vl]<;>omega)) only[x,mk,va,vg,vs,vw,vk,simprocAttr]<;>rfl):P:=(h x).symm▸q
theorem zG0{P Q:Prop}(q:Q)(h:P=Q:=by simp -implicitDefEqProofs (maxSteps:=99999999) (disch:=first|omega|(simp only[vl]<;>omega)) only[mk,vu,va,vg,vs,vw,vk,simprocAttr]<;>rfl):P:=h.symm▸q
theorem fB{a P Q:Prop}(x:a)(q:Q)(h:a→P=Q:=by intro x;simp -implicitDefEqProofs (maxSteps:=99999999) (disch:=first|omega|(simp only[vl]<;>omega)) only[x,mk,vu,va,vg,vs,vw,vk,simprocAttr]<;>rfl):P:=(h x).symm▸q
theorem zI0{P Q:Prop}(q:Q)(h:P=Q:=by simp -implicitDefEqProofs (maxSteps:=99999999) (disch:=omega) only[mk,va,vg,vs,vh,vk,simprocAttr]<;>rfl):P:=h.symm▸q
theorem zI1{a P Q:Prop}(x:a)(q:Q)(h:a→P=Q:=by intro x;simp -implicitDefEqProofs (maxSteps:=99999999) (disch:=omega) only[x,mk,va,vg,vs,vh,vk,simprocAttr]<;>rfl):P:=(h x).symm▸q
def nl(s:ByteArray):Int:=Lib.indexByte s.data.toList 10
def abU(s:ByteArray):Bool:=decide (s≠ByteArray.empty) && (decide (nl s<0)|| decide ((s.size:Int)-1≤nl s))
def good(xs:List ByteArray)(k:Nat):Bool:=abU (nU xs k) && (!decide (nl (nU xs k)<0)|| decide (k+1=xs.length))
def ai5(xs:List ByteArray):Prop:=xs.length≤100000000∧∀s∈xs,s.size≤100000000
structure Hk where
 at_:Int
 old:List ByteArray
 new:List ByteArray
abbrev hkr(h:Hk)(ro rn:Option (List AV)):AV:=.agg [.sc (.int .i64 h.at_),.am 1 (strs h.old) ro,.am 1 (strs h.new) rn]
abbrev hk(h:Hk):AV:=hkr h none none
section
variable {α:Type}
def mI(q:IntKind)(f:α→AV)(M:List (Int×α)):List AV:=M.map fun p=>.aO [.sc (.int q p.1),f p.2]
theorem xh(q:IntKind)(f:α→AV)(M:List (Int×α)):(mI q f M).length=M.length:=by simp[mI]
theorem afw(q:IntKind)(f:α→AV)(M:List (Int×α)):fM (some q) (mI q f M):=fun x hx=>by
 obtain ⟨p,_,rfl⟩:=List.mem_map.1 hx
 simp[Cz,je]
theorem abV(q:IntKind)(f:α→AV)(M:List (Int×α)):fM (some q) (mI q f M)=True:=by simp[afw]
def Dt(k:Int):List (Int×α)→Nat
 |[]=>0
 |p::r=>if k=p.1 then 0 else Dt k r+1
def kQ(k:Int):List (Int×α)→Option α
 |[]=>none
 |p::r=>if k=p.1 then some p.2 else kQ k r
def xj(k:Int)(a:α):List (Int×α)→List (Int×α)
 |[]=>[(k,a)]
 |p::r=>if k=p.1 then (k,a)::r else p::xj k a r
theorem yV{q:IntKind}{f:α→AV}{k:Int}:∀{M:List (Int×α)},fy (.int q k) (mI q f M)=Dt k M
 |[]=>rfl
 |p::r=>by
  show (if sJ _ _=true then 0 else fy _ (mI q f r)+1)=_
  rw[yV (M:=r)]
  simp[sJ,ol,Dt]
theorem K0{k:Int}:∀{M:List (Int×α)},(decide (Dt k M<M.length))=(kQ k M).isSome
 |[]=>rfl
 |p::r=>by
  have ih:=K0 (k:=k) (M:=r)
  unfold Dt kQ
  by_cases h:k=p.1
  ·simp[h]
  ·simp only[if_neg h,List.length_cons,Nat.add_lt_add_iff_right,ih]
theorem K1{q:IntKind}{f:α→AV}{k:Int}{z:AV}:∀{M:List (Int×α)},nQ (.int q k) z (mI q f M)=((kQ k M).map f).getD z
 |[]=>rfl
 |p::r=>by
  have ih:=K1 (q:=q) (f:=f) (k:=k) (z:=z) (M:=r)
  unfold nQ at ih ⊢
  rw[yV,xh] at ih ⊢
  unfold Dt kQ
  by_cases h:k=p.1
  ·simp[h,mI,VM]
  ·simp only[if_neg h,List.length_cons,Nat.add_lt_add_iff_right] at ih ⊢
   rw[←ih]
   rfl
theorem Du{q:IntKind}{f:α→AV}{k:Int}{a:α}:∀{M:List (Int×α)},qJ (.int q k) (f a) (mI q f M)=mI q f (xj k a M)
 |[]=>rfl
 |p::r=>by
  have ih:=Du (q:=q) (f:=f) (k:=k) (a:=a) (M:=r)
  unfold qJ at ih ⊢
  rw[yV,xh] at ih ⊢
  unfold Dt xj
  by_cases h:k=p.1
  ·simp[h,mI]
  ·simp only[if_neg h,List.length_cons,Nat.add_lt_add_iff_right]
   split
   ·rename_i hlt
    rw[if_pos hlt] at ih
    show _::(mI q f r).set _ _=_::mI q f _
    rw[←ih]
   ·rename_i hlt
    rw[if_neg hlt] at ih
    show _::(mI q f r++_)=_::mI q f _
    rw[←ih]
theorem Gx{k:Int}:∀{M:List (Int×α)},k∈M.map (·.1)↔(kQ k M).isSome=true
 |[]=>by simp[kQ]
 |p::r=>by
  have ih:=Gx (k:=k) (M:=r)
  unfold kQ
  by_cases h:k=p.1
  ·simp[h]
  ·simp only[List.map_cons,List.mem_cons,h,false_or,if_neg,not_false_iff,ih]
end
def XW:IC:=(.seq (.ops [iH 1 (.box 4 25 (.t 0)),iP 2 (xI 0)]) (.seq (.ops [iH 3 (.alloc (.sc (.int .i64 0)) 3),⟨none,none,(.h (.store 1 (.t 3) (kI 0)))⟩]) (.seq (.ops [iP 4 (.oP (.func 171) [] [(.t 3)]),iH 5 (yA 4 1),⟨(some 6),none,(.h (.ep 4 25 (.agg [(.sc (.int .u8 0)),(.sc (.string ⟨#[]⟩)),(.sc (.int .i64 0)),bG]) 1 [(0,(.t 5))]))⟩,iH 7 (yC 115 4 6)]) (.seq (.ops [iH 8 (yD 1 3),iM 2 8]) .ret))))
theorem afx:Dk Tryz.prog 112 XW [(.t 2)] 9:=aV Tryz.func112
def acU:IC:=(.seq (.ops [iP 6 (.mv kF)]) (.seq (.ops [iM 10 0,iH 11 (.call 69 [(.t 10)]),iM 9 11,iP 12 (.ext (.t 9) 0),iP 13 (.ext (.t 9) 1),iH 7 (.alloc (.agg [bG,(.sc (.bool false))]) 116),iS 2 7 12,iM 8 13]) (.seq (.block 0 (.seq (.ops [iM 15 2,iP 16 (.aN .lss (.t 15) (kI 0)),iM 14 16]) (.cond (.t 14) (.seq (.ops [iP 6 (.mv kF)]) .ret) (.seq (.ops [iP 18 (.an 1 (.t 7)),iH 19 (yD 1 18),iM 17 19]) (.cond (.t 17) (.seq (.ops [iM 20 1,iP 21 (.an 0 (.t 7)),iH 22 (yD 1 21),iP 23 (.gm 1 (.t 22) (kI 0)),iH 24 (yD 1 23),iH 25 (yC 127 20 24),iM 6 25]) .ret) .skip))))) (.seq (.ops [iM 26 2,iP 27 (.an 0 (.t 7)),iH 28 (yD 1 27),iP 29 (xL 28),iP 30 (xB .lss 26 29),iM 31 30,gM 32 31 true 1,gP 33 31 true (.an 0 (.t 7)),gH 34 31 true (yD 1 33),gM 35 31 true 2,gP 36 31 true (xA 1 34 35),gH 37 31 true (yD 1 36),gH 38 31 true (yC 127 32 37),iP 39 (.pick (.t 31) (.t 38) kF),iM 6 39]) .ret))))
theorem ahj:Dk Tryz.prog 71 acU [(.t 6)] 40:=aV Tryz.func71
def acV:IC:=(.seq (.ops [iH 1 (.box 4 25 (.t 0)),iP 2 (.mv kF)]) (.seq (.ops [iH 3 (.alloc (.sc .nilFunc) 113)]) (.seq (.ops [iP 4 (.oP (.func 68) [] [(.t 3)]),iS 1 3 4]) (.seq (.ops [iH 5 (yD 1 3),iH 6 (yA 4 1),iH 7 (.cq (.t 5) [(.t 6),(kI 1)]),iM 2 7]) .ret))))
theorem ahk:Dk Tryz.prog 40 acV [(.t 2)] 8:=aV Tryz.func40
def XX:IC:=(.seq (.ops [iM 6 1,iP 7 (xL 6),iP 8 (xI 0)]) (.block 0 (.loop (.seq (.ops [iP 9 (xB .lss 8 7)]) (.seq (.cond (.t 9) .skip (.exit 0)) (.seq (.block 1 (.seq (.ops [iP 10 (xA 4 6 8),iH 11 (yA 4 10),⟨(some 5),none,(.h (.alloc (.agg [(.sc (.int .u8 0)),(.sc (.string ⟨#[]⟩)),(.sc (.int .i64 0)),bG]) 25))⟩,iS 4 5 11]) (.seq (.ops [iM 12 0,iH 13 (yA 4 5),iH 14 (.cq (.t 12) [(.t 13)])]) (.ops [iM 15 0,iP 16 (.an 3 (.t 5)),iH 17 (yD 1 16),iH 18 (yC 115 15 17)])))) (.ops [iP 19 (.aN .add (.t 8) (kI 1)),iM 8 19])))))))
theorem afy:Dk Tryz.prog 115 XX [] 20:=aV Tryz.func115
def XY:IC:=(.seq (.ops [iH 2 (.box 4 25 (.t 0))]) (.ops [iH 3 (yD 1 1),iP 4 (.aN .add (.t 3) (kI 1)),iS 1 1 4]))
theorem afz:Dk Tryz.prog 171 XY [] 5:=aV Tryz.func171
def XZ:IC:=(.seq (.ops [iP 2 (.mv kF)]) (.seq (.ops [iH 3 (.ep 1 22 (.sc (.int .u8 0)) 5 [(0,(.k (.sc (.int .u8 2)))),(1,(.k (.sc (.int .u8 4)))),(2,(.k (.sc (.int .u8 6)))),(3,(.k (.sc (.int .u8 22)))),(4,(.k (.sc (.int .u8 25))))]),iM 4 0,iH 5 (yC 121 3 4),iM 2 5]) .ret))
theorem afA:Dk Tryz.prog 117 XZ [(.t 2)] 6:=aV Tryz.func117
def X0:IC:=(.seq (.ops [iP 4 (.mv kF)]) (.seq (.seq (.ops [iM 5 1]) (.block 0 (.seq (.ops [iP 7 (.aN .eql (.t 5) (.k (.sc (.int .u8 200)))),iM 6 7]) (.cond (.t 6) (.seq (.ops [iM 8 0,iP 9 (.aN .geq (.t 8) (.k (.sc (.int .u8 20)))),iM 10 9,gM 11 10 true 0,gP 12 10 true (.aN .leq (.t 11) (.k (.sc (.int .u8 29)))),iP 13 (.pick (.t 10) (.t 12) kF),iM 4 13]) .ret) (.seq (.ops [iP 15 (.aN .eql (.t 5) (.k (.sc (.int .u8 201)))),iM 14 15]) (.cond (.t 14) (.seq (.ops [iM 16 0,iP 17 (.aN .geq (.t 16) (.k (.sc (.int .u8 6)))),iM 18 17,gM 19 18 true 0,gP 20 18 true (.aN .leq (.t 19) (.k (.sc (.int .u8 12)))),iP 21 (.pick (.t 18) (.t 20) kF),iM 22 21,gM 23 22 false 0,gP 24 22 false (.aN .eql (.t 23) (.k (.sc (.int .u8 5)))),iP 25 (.pick (.t 22) kT (.t 24)),iM 4 25]) .ret) (.seq (.ops [iP 27 (.aN .eql (.t 5) (.k (.sc (.int .u8 202)))),iM 26 27]) (.cond (.t 26) (.seq (.ops [iM 28 0,iP 29 (.aN .eql (.t 28) (.k (.sc (.int .u8 22)))),iM 30 29,gM 31 30 false 0,gP 32 30 false (.aN .eql (.t 31) (.k (.sc (.int .u8 26)))),iP 33 (.pick (.t 30) kT (.t 32)),iM 4 33]) .ret) .skip)))))))) (.seq (.ops [iM 34 0,iM 35 1,iP 36 (xB .eql 34 35),iM 4 36]) .ret)))
theorem afB:Dk Tryz.prog 127 X0 [(.t 4)] 37:=aV Tryz.func127
def acW:IC:=(.seq (.ops [iH 3 (.box 4 25 (.t 0)),iP 5 (.mv kF)]) (.seq (.ops [iP 11 (.an 0 (.t 3)),iH 12 (yD 1 11),iH 13 (.call 69 [(.t 12)]),iM 10 13,iP 14 (.ext (.t 10) 0),iP 15 (.ext (.t 10) 1),iH 6 (.alloc (.agg [bG,(.sc (.bool false))]) 116),iS 2 6 14,iM 7 15]) (.seq (.seq (.ops [iM 16 7,iP 17 (xN 16),iM 18 17,gM 19 18 false 1,gP 20 18 false (.aN .gtr (.t 19) (kI 40)),iP 21 (.pick (.t 18) kT (.t 20)),iM 22 21,gH 23 22 false (yA 4 3),gH 24 22 false (.call 70 [(.t 23)]),gP 25 22 false (xN 24),iP 26 (.pick (.t 22) kT (.t 25)),iM 27 26,gP 28 27 false (.an 1 (.t 6)),gH 29 27 false (yD 1 28),gP 30 27 false (xN 29),gM 31 27 false 30,gP 32 31 true (.an 3 (.t 3)),gH 33 31 true (yD 1 32),gP 34 31 true (xL 33),gP 35 31 true (.an 0 (.t 6)),gH 36 31 true (yD 1 35),gP 37 31 true (xL 36),gP 38 31 true (xB .neq 34 37),gP 39 27 false (.pick (.t 31) (.t 38) kF),iP 40 (.pick (.t 27) kT (.t 39))]) (.cond (.t 40) (.seq (.ops [iP 5 (.mv kF)]) .ret) .skip)) (.seq (.seq (.ops [iP 41 (.an 3 (.t 3)),iH 42 (yD 1 41),iP 43 (xL 42),iP 44 (xI 0)]) (.block 0 (.loop (.seq (.ops [iP 45 (xB .lss 44 43)]) (.seq (.cond (.t 45) .skip (.exit 0)) (.seq (.block 1 (.seq (.ops [iM 46 44,iP 47 (xA 4 42 44),iH 48 (yA 4 47),⟨(some 9),none,(.h (.alloc (.agg [(.sc (.int .u8 0)),(.sc (.string ⟨#[]⟩)),(.sc (.int .i64 0)),bG]) 25))⟩,iM 8 46,iS 4 9 48]) (.seq (.ops [iP 49 (.an 0 (.t 3)),iH 50 (yD 1 49),iP 51 (.an 0 (.t 9)),iH 52 (yD 1 51),iM 53 8,iH 54 (.call 71 [(.t 50),(.t 52),(.t 53)]),iP 55 (xN 54),iM 56 55,gH 57 56 false (yD 1 2),gH 58 56 false (yA 4 9),gM 59 56 false 1,gP 60 56 false (.aN .add (.t 59) (kI 1)),gH 61 56 false (.cq (.t 57) [(.t 58),(.t 60)]),gP 62 56 false (xN 61),iP 63 (.pick (.t 56) kT (.t 62))]) (.cond (.t 63) (.seq (.ops [iP 5 (.mv kF)]) .ret) .skip)))) (.ops [iP 64 (.aN .add (.t 44) (kI 1)),iM 44 64]))))))) (.seq (.ops [iP 65 (.an 0 (.t 3)),iH 66 (yD 1 65),iP 67 (.aN .neq (.t 66) (.k (.sc (.int .u8 7)))),iM 68 67,gP 69 68 false (.an 3 (.t 3)),gH 70 68 false (yD 1 69),gP 71 68 false (.gm 4 (.t 70) (kI 0)),gP 72 68 false (.an 0 (.t 71)),gH 73 68 false (yD 1 72),gP 74 68 false (.aN .eql (.t 73) (.k (.sc (.int .u8 22)))),iP 75 (.pick (.t 68) kT (.t 74)),iM 76 75,gP 77 76 false (.an 3 (.t 3)),gH 78 76 false (yD 1 77),gP 79 76 false (.gm 4 (.t 78) (kI 0)),gP 80 76 false (.an 3 (.t 79)),gH 81 76 false (yD 1 80),gP 82 76 false (.gm 4 (.t 81) (kI 0)),gP 83 76 false (.an 0 (.t 82)),gH 84 76 false (yD 1 83),gP 85 76 false (.aN .eql (.t 84) (.k (.sc (.int .u8 22)))),iP 86 (.pick (.t 76) kT (.t 85)),iM 5 86]) .ret)))))
theorem ahl:Dk Tryz.prog 68 acW [(.t 5)] 87:=aV Tryz.func68
def acX:IC:=(.seq (.ops [iH 1 (.box 4 25 (.t 0)),iP 2 (.mv kF)]) (.seq (.ops [iP 4 (.oP (.func 125) [] [(.t 1)]),iM 3 4]) (.seq (.block 0 (.seq (.ops [iP 6 (.an 0 (.t 1)),iH 7 (yD 1 6),iP 8 (.aN .eql (.t 7) (.k (.sc (.int .u8 20)))),iM 5 8]) (.cond (.t 5) (.seq (.ops [iP 9 (.an 1 (.t 1)),iH 10 (yD 1 9),⟨(some 11),none,(.p (.aN .eql (.t 10) (.k (.sc (.string ⟨#[]⟩)))))⟩,iM 12 11,gP 13 12 true (.an 2 (.t 1)),gH 14 12 true (yD 1 13),gP 15 12 true (.aN .geq (.t 14) (kI 0)),iP 16 (.pick (.t 12) (.t 15) kF),iM 2 16]) .ret) (.seq (.ops [iP 18 (.an 0 (.t 1)),iH 19 (yD 1 18),iP 20 (.aN .eql (.t 19) (.k (.sc (.int .u8 21)))),iM 17 20]) (.cond (.t 17) (.seq (.ops [iP 21 (.an 1 (.t 1)),iH 22 (yD 1 21),⟨(some 23),none,(.p (.aN .eql (.t 22) (.k (.sc (.string ⟨#[]⟩)))))⟩,iM 24 23,gP 25 24 true (.an 2 (.t 1)),gH 26 24 true (yD 1 25),gP 27 24 true (.E3 .shr (.t 26) (.k (.sc (.int .u64 1)))),gP 28 24 true (.aN .eql (.t 27) (kI 0)),iP 29 (.pick (.t 24) (.t 28) kF),iM 2 29]) .ret) (.seq (.ops [iP 31 (.an 2 (.t 1)),iH 32 (yD 1 31),iP 33 (.aN .neq (.t 32) (kI 0)),iM 30 33]) (.cond (.t 30) (.seq (.ops [iP 2 (.mv kF)]) .ret) (.seq (.ops [iP 35 (.an 0 (.t 1)),iH 36 (yD 1 35),iH 37 (.call 117 [(.t 36)]),iM 34 37]) (.cond (.t 34) (.seq (.ops [iP 38 (.an 1 (.t 1)),iH 39 (yD 1 38),iH 40 (.call 43 [(.t 39)]),iM 2 40]) .ret) (.seq (.ops [iP 42 (.an 0 (.t 1)),iH 43 (yD 1 42),iP 44 (.aN .eql (.t 43) (.k (.sc (.int .u8 23)))),iM 41 44]) (.cond (.t 41) (.seq (.ops [iM 45 3,⟨(some 46),none,(.h (.cq (.t 45) [(.k (.sc (.string ⟨#[45,32,33]⟩)))]))⟩,iM 2 46]) .ret) (.seq (.ops [iP 48 (.an 0 (.t 1)),iH 49 (yD 1 48),iP 50 (.aN .eql (.t 49) (.k (.sc (.int .u8 24)))),iM 47 50]) (.cond (.t 47) (.seq (.ops [iM 51 3,⟨(some 52),none,(.h (.cq (.t 51) [(.k (.sc (.string ⟨#[124,124,32,38,38,32,61,61,32,33,61,32,60,32,60,61,32,62,32,62,61,32,43,32,45,32,42,32,47,32,37]⟩)))]))⟩,iM 2 52]) .ret) .skip))))))))))))) (.seq (.ops [iP 53 (.an 1 (.t 1)),iH 54 (yD 1 53),⟨(some 55),none,(.p (.aN .eql (.t 54) (.k (.sc (.string ⟨#[]⟩)))))⟩,iM 2 55]) .ret))))
theorem ahm:Dk Tryz.prog 70 acX [(.t 2)] 56:=aV Tryz.func70
def X3:IC:=(.seq (.ops [iP 3 (.mv kF)]) (.seq (.di [iP 4 (.an 1 (.t 1)),iH 5 (yD 1 4),⟨(some 6),none,(.p (.aN .neq (.t 5) (.k (.sc (.string ⟨#[]⟩)))))⟩,iM 7 6,gM 8 7 true 0,gH 9 7 true (.call 126 [(.t 8)]),gP 10 7 true (.an 1 (.t 1)),gH 11 7 true (yD 1 10),gH 12 7 true (yC 59 9 11),iP 13 (.pick (.t 7) (.t 12) kF),iM 3 13] [[],[0],[1,0],[2,1,0],[3,2,1,0],[4,3,2,1,0],[3,2,1,0],[6,3,2,1,0],[5,4,3,2,1,0,7,6],[3,2,1,0,8,5,4,7,6],[9,3,2,1,0,8,5,4,7,6]]) .ret))
theorem afC:Dk Tryz.prog 125 X3 [(.t 3)] 14:=aV Tryz.func125
def X4:IC:=(.seq (.ops [iH 2 (.alloc (.agg [bG,(.sc (.bool false))]) 116)]) (.seq (.ops [iM 3 0,iP 4 (.build [bG,(.sc (.bool false))] [(0,1,(.t 3))]),iS 2 2 4]) .ret))
theorem afD:Dk Tryz.prog 123 X4 [(.c 2 2 true)] 5:=aV Tryz.func123
def X5:IC:=(.seq (.ops [iH 2 (.alloc (.agg [bG,(.sc (.bool false))]) 116)]) (.seq (.ops [iM 3 0,iH 4 (.ep 1 22 (.sc (.int .u8 0)) 1 [(0,(.t 3))]),iP 5 (.build [bG,(.sc (.bool false))] [(0,1,(.t 4)),(1,1,kT)]),iS 2 2 5]) .ret))
theorem afE:Dk Tryz.prog 124 X5 [(.c 2 2 true)] 6:=aV Tryz.func124
def X6:IC:=(.seq (.ops [iP 6 (.mv kF)]) (.seq (.seq (.ops [iM 10 0,iP 11 (xL 10),iM 12 1,iP 13 (xL 12),iP 14 (xB .neq 11 13)]) (.cond (.t 14) (.seq (.ops [iP 6 (.mv kF)]) .ret) .skip)) (.seq (.seq (.ops [iM 15 0,iP 16 (xL 15),iP 17 (xI 0)]) (.block 0 (.loop (.seq (.ops [iP 18 (xB .lss 17 16)]) (.seq (.cond (.t 18) .skip (.exit 0)) (.seq (.block 1 (.seq (.ops [iM 19 17,iP 20 (xA 4 15 17),iH 21 (yA 4 20),⟨(some 8),none,(.h (.alloc (.agg [(.sc (.int .u8 0)),(.sc (.string ⟨#[]⟩)),(.sc (.int .i64 0)),bG]) 25))⟩,iM 7 19,iS 4 8 21]) (.seq (.ops [iM 22 1,iM 23 7,iP 24 (xA 4 22 23),iH 25 (yA 4 24),⟨(some 9),none,(.h (.alloc (.agg [(.sc (.int .u8 0)),(.sc (.string ⟨#[]⟩)),(.sc (.int .i64 0)),bG]) 25))⟩,iS 4 9 25]) (.seq (.ops [iM 26 2,iH 27 (yA 4 8),iH 28 (yA 4 9),iH 29 (.cq (.t 26) [(.t 27),(.t 28)]),iP 30 (xN 29)]) (.cond (.t 30) (.seq (.ops [iP 6 (.mv kF)]) .ret) .skip))))) (.ops [iP 31 (.aN .add (.t 17) (kI 1)),iM 17 31]))))))) (.seq (.ops [iP 6 (.mv kT)]) .ret))))
theorem afF:Dk Tryz.prog 122 X6 [(.t 6)] 32:=aV Tryz.func122
def X7:IC:=(.seq (.ops [iP 4 (.mv kF)]) (.seq (.ops [iM 5 0,iM 6 1,iH 7 (yC 178 5 6),iP 8 (.aN .geq (.t 7) (kI 0)),iM 4 8]) .ret))
theorem afG:Dk Tryz.prog 121 X7 [(.t 4)] 9:=aV Tryz.func121
def X8:IC:=(.seq (.ops [iP 4 (xI 0)]) (.seq (.seq (.ops [iM 6 0,iP 7 (xL 6),iP 8 (xI 0)]) (.block 0 (.loop (.seq (.ops [iP 9 (xB .lss 8 7)]) (.seq (.cond (.t 9) .skip (.exit 0)) (.seq (.block 1 (.seq (.ops [iM 10 8,iM 5 10]) (.seq (.ops [iM 11 1,iM 12 0,iM 13 5,iP 14 (xA 1 12 13),iH 15 (yD 1 14),iP 16 (xB .eql 11 15)]) (.cond (.t 16) (.seq (.ops [iM 17 5,iM 4 17]) .ret) .skip)))) (.ops [iP 18 (.aN .add (.t 8) (kI 1)),iM 8 18]))))))) (.seq (.ops [iP 4 (xI (-1))]) .ret)))
theorem afH:Dk Tryz.prog 178 X8 [(.t 4)] 19:=aV Tryz.func178
def acY:IC:=(.seq (.ops [iH 2 (.alloc (.agg [bG,(.sc (.bool false))]) 116),iP 3 (.mv kF)]) (.seq (.ops [iP 4 (.mv (.k (.fn (.func 123) [] [])))]) (.seq (.ops [iP 5 (.mv (.k (.fn (.func 124) [] [])))]) (.seq (.ops [iH 9 (.gx .oh []),iM 10 5,iH 11 (.cq (.t 10) [(.k (.sc (.int .u8 2)))]),⟨none,none,(.h (.gx (.gi (some .u8)) [(.t 9),(.k (.sc (.int .u8 1))),(.t 11)]))⟩,iM 12 4,iH 13 (.ep 1 22 (.sc (.int .u8 0)) 2 [(0,(.k (.sc (.int .u8 3)))),(1,(.k (.sc (.int .u8 5))))]),iH 14 (.cq (.t 12) [(.t 13)]),⟨none,none,(.h (.gx (.gi (some .u8)) [(.t 9),(.k (.sc (.int .u8 2))),(.t 14)]))⟩,iM 15 5,iH 16 (.cq (.t 15) [(.k (.sc (.int .u8 4)))]),⟨none,none,(.h (.gx (.gi (some .u8)) [(.t 9),(.k (.sc (.int .u8 3))),(.t 16)]))⟩,iM 17 4,iH 18 (.cq (.t 17) [(.k bG)]),⟨none,none,(.h (.gx (.gi (some .u8)) [(.t 9),(.k (.sc (.int .u8 4))),(.t 18)]))⟩,iM 19 5,iH 20 (.cq (.t 19) [(.k (.sc (.int .u8 201)))]),⟨none,none,(.h (.gx (.gi (some .u8)) [(.t 9),(.k (.sc (.int .u8 5))),(.t 20)]))⟩,iM 21 4,iH 22 (.ep 1 22 (.sc (.int .u8 0)) 1 [(0,(.k (.sc (.int .u8 200))))]),iH 23 (.cq (.t 21) [(.t 22)]),⟨none,none,(.h (.gx (.gi (some .u8)) [(.t 9),(.k (.sc (.int .u8 6))),(.t 23)]))⟩,iM 24 4,iH 25 (.ep 1 22 (.sc (.int .u8 0)) 2 [(0,(.k (.sc (.int .u8 202)))),(1,(.k (.sc (.int .u8 200))))]),iH 26 (.cq (.t 24) [(.t 25)]),⟨none,none,(.h (.gx (.gi (some .u8)) [(.t 9),(.k (.sc (.int .u8 7))),(.t 26)]))⟩,iM 27 4,iH 28 (.ep 1 22 (.sc (.int .u8 0)) 3 [(0,(.k (.sc (.int .u8 200)))),(1,(.k (.sc (.int .u8 5)))),(2,(.k (.sc (.int .u8 5))))]),iH 29 (.cq (.t 27) [(.t 28)]),⟨none,none,(.h (.gx (.gi (some .u8)) [(.t 9),(.k (.sc (.int .u8 8))),(.t 29)]))⟩,iM 30 4,iH 31 (.ep 1 22 (.sc (.int .u8 0)) 2 [(0,(.k (.sc (.int .u8 200)))),(1,(.k (.sc (.int .u8 5))))]),iH 32 (.cq (.t 30) [(.t 31)]),⟨none,none,(.h (.gx (.gi (some .u8)) [(.t 9),(.k (.sc (.int .u8 9))),(.t 32)]))⟩,iM 33 4,iH 34 (.ep 1 22 (.sc (.int .u8 0)) 1 [(0,(.k (.sc (.int .u8 200))))]),iH 35 (.cq (.t 33) [(.t 34)]),⟨none,none,(.h (.gx (.gi (some .u8)) [(.t 9),(.k (.sc (.int .u8 10))),(.t 35)]))⟩,iM 36 4,iH 37 (.ep 1 22 (.sc (.int .u8 0)) 1 [(0,(.k (.sc (.int .u8 200))))]),iH 38 (.cq (.t 36) [(.t 37)]),⟨none,none,(.h (.gx (.gi (some .u8)) [(.t 9),(.k (.sc (.int .u8 11))),(.t 38)]))⟩,iM 39 4,iH 40 (.ep 1 22 (.sc (.int .u8 0)) 1 [(0,(.k (.sc (.int .u8 25))))]),iH 41 (.cq (.t 39) [(.t 40)]),⟨none,none,(.h (.gx (.gi (some .u8)) [(.t 9),(.k (.sc (.int .u8 12))),(.t 41)]))⟩,iM 42 4,iH 43 (.cq (.t 42) [(.k bG)]),⟨none,none,(.h (.gx (.gi (some .u8)) [(.t 9),(.k (.sc (.int .u8 20))),(.t 43)]))⟩,iM 44 4,iH 45 (.cq (.t 44) [(.k bG)]),⟨none,none,(.h (.gx (.gi (some .u8)) [(.t 9),(.k (.sc (.int .u8 21))),(.t 45)]))⟩,iM 46 4,iH 47 (.cq (.t 46) [(.k bG)]),⟨none,none,(.h (.gx (.gi (some .u8)) [(.t 9),(.k (.sc (.int .u8 22))),(.t 47)]))⟩,iM 48 4,iH 49 (.ep 1 22 (.sc (.int .u8 0)) 1 [(0,(.k (.sc (.int .u8 200))))]),iH 50 (.cq (.t 48) [(.t 49)]),⟨none,none,(.h (.gx (.gi (some .u8)) [(.t 9),(.k (.sc (.int .u8 23))),(.t 50)]))⟩,iM 51 4,iH 52 (.ep 1 22 (.sc (.int .u8 0)) 2 [(0,(.k (.sc (.int .u8 200)))),(1,(.k (.sc (.int .u8 200))))]),iH 53 (.cq (.t 51) [(.t 52)]),⟨none,none,(.h (.gx (.gi (some .u8)) [(.t 9),(.k (.sc (.int .u8 24))),(.t 53)]))⟩,iM 54 5,iH 55 (.cq (.t 54) [(.k (.sc (.int .u8 200)))]),⟨none,none,(.h (.gx (.gi (some .u8)) [(.t 9),(.k (.sc (.int .u8 25))),(.t 55)]))⟩,iM 56 4,iH 57 (.ep 1 22 (.sc (.int .u8 0)) 2 [(0,(.k (.sc (.int .u8 200)))),(1,(.k (.sc (.int .u8 200))))]),iH 58 (.cq (.t 56) [(.t 57)]),⟨none,none,(.h (.gx (.gi (some .u8)) [(.t 9),(.k (.sc (.int .u8 26))),(.t 58)]))⟩,iM 59 4,iH 60 (.ep 1 22 (.sc (.int .u8 0)) 2 [(0,(.k (.sc (.int .u8 200)))),(1,(.k (.sc (.int .u8 200))))]),iH 61 (.cq (.t 59) [(.t 60)]),⟨none,none,(.h (.gx (.gi (some .u8)) [(.t 9),(.k (.sc (.int .u8 27))),(.t 61)]))⟩,iM 62 4,iH 63 (.ep 1 22 (.sc (.int .u8 0)) 1 [(0,(.k (.sc (.int .u8 200))))]),iH 64 (.cq (.t 62) [(.t 63)]),⟨none,none,(.h (.gx (.gi (some .u8)) [(.t 9),(.k (.sc (.int .u8 28))),(.t 64)]))⟩,iM 65 4,iH 66 (.cq (.t 65) [(.k bG)]),⟨none,none,(.h (.gx (.gi (some .u8)) [(.t 9),(.k (.sc (.int .u8 29))),(.t 66)]))⟩,iM 67 9,iM 68 0,iH 69 (.gx (.pK (some .u8) (.agg [bG,(.sc (.bool false))]) true) [(.t 67),(.t 68)]),iM 8 69,iP 70 (.ext (.t 8) 0),iP 71 (.ext (.t 8) 1),iH 6 (.alloc (.agg [bG,(.sc (.bool false))]) 116),iS 2 6 70,iM 7 71]) (.seq (.ops [iH 72 (yA 2 6),iM 73 7,iS 2 2 72,iM 3 73]) .ret)))))
theorem ahn:Dk Tryz.prog 69 acY [(.c 2 2 true),(.t 3)] 74:=aV Tryz.func69
def acZ:IC:=(.seq (.ops [iP 4 (.mv kF)]) (.seq (.ops [iM 5 0,iM 6 1,iH 7 (yC 114 5 6),iP 8 (.aN .geq (.t 7) (kI 0)),iM 4 8]) .ret))
theorem aho:Dk Tryz.prog 59 acZ [(.t 4)] 9:=aV Tryz.func59
def X9:IC:=(.seq (.ops [iP 4 (xI 0)]) (.seq (.seq (.ops [iM 6 0,iP 7 (xL 6),iP 8 (xI 0)]) (.block 0 (.loop (.seq (.ops [iP 9 (xB .lss 8 7)]) (.seq (.cond (.t 9) .skip (.exit 0)) (.seq (.block 1 (.seq (.ops [iM 10 8,iM 5 10]) (.seq (.ops [iM 11 1,iM 12 0,iM 13 5,iP 14 (xA 1 12 13),iH 15 (yD 1 14),iP 16 (xB .eql 11 15)]) (.cond (.t 16) (.seq (.ops [iM 17 5,iM 4 17]) .ret) .skip)))) (.ops [iP 18 (.aN .add (.t 8) (kI 1)),iM 8 18]))))))) (.seq (.ops [iP 4 (xI (-1))]) .ret)))
theorem afI:Dk Tryz.prog 114 X9 [(.t 4)] 19:=aV Tryz.func114
def Ya:IC:=(.seq (.ops [⟨(some 2),none,(.p (.mv (.k (.sc (.string ⟨#[]⟩)))))⟩]) (.seq (.ops [iM 3 0,iH 4 (.call 175 [(.t 3)]),iM 2 4]) .ret))
theorem afJ:Dk Tryz.prog 118 Ya [(.t 2)] 5:=aV Tryz.func118
def Yb:IC:=(.seq (.ops [⟨(some 2),none,(.p (.mv (.k (.sc (.string ⟨#[]⟩)))))⟩]) (.seq (.seq (.ops [iM 4 0,iP 5 (.nN (.t 4)),iP 6 (.aN .eql (.t 5) (kI 0))]) (.cond (.t 6) (.seq (.ops [⟨(some 2),none,(.p (.mv (.k (.sc (.string ⟨#[]⟩)))))⟩]) .ret) .skip)) (.seq (.ops [iM 7 0,iP 8 (.nN (.t 7)),iH 9 (.jM 1 5 (.sc (.int .u8 0)) (.t 8) (.t 8)),iM 3 9]) (.seq (.ops [iM 10 3,iM 11 0,iH 12 (.gx .ri [(.t 10),(.t 11)])]) (.seq (.ops [iM 13 3,iP 14 (.gm 1 (.t 13) (kI 0)),iM 15 3,iP 16 (xL 15),iH 17 (.gx (.wF 5) [(.t 14),(.t 16)]),iM 2 17]) .ret)))))
theorem afK:Dk Tryz.prog 175 Yb [(.t 2)] 18:=aV Tryz.func175
def ac0:IC:=(.seq (.ops [iP 2 (.mv kF)]) (.seq (.seq (.ops [iM 4 0,⟨(some 5),none,(.p (.aN .eql (.t 4) (.k (.sc (.string ⟨#[]⟩)))))⟩,iM 6 5,gM 7 6 false 0,gP 8 6 false (.nN (.t 7)),gP 9 6 false (.aN .gtr (.t 8) (kI 24)),iP 10 (.pick (.t 6) kT (.t 9)),iM 11 10,gM 12 11 false 0,gP 13 11 false (.kK (.t 12) (kI 0)),gH 14 11 false (.call 72 [(.t 13)]),gP 15 11 false (xN 14),iP 16 (.pick (.t 11) kT (.t 15)),iM 17 16,gH 18 17 false (.call 73 []),gM 19 17 false 0,gH 20 17 false (yC 59 18 19),iP 21 (.pick (.t 17) kT (.t 20))]) (.cond (.t 21) (.seq (.ops [iP 2 (.mv kF)]) .ret) .skip)) (.seq (.seq (.ops [iM 22 0,iP 23 (.nN (.t 22)),iP 24 (xI 0)]) (.block 0 (.loop (.seq (.ops [iP 25 (xB .lss 24 23)]) (.seq (.cond (.t 25) .skip (.exit 0)) (.seq (.block 1 (.seq (.ops [iM 26 24,iM 3 26]) (.seq (.ops [iM 27 0,iM 28 3,iP 29 (.kK (.t 27) (.t 28)),iH 30 (.call 74 [(.t 29)]),iP 31 (xN 30)]) (.cond (.t 31) (.seq (.ops [iP 2 (.mv kF)]) .ret) .skip)))) (.ops [iP 32 (.aN .add (.t 24) (kI 1)),iM 24 32]))))))) (.seq (.ops [iP 2 (.mv kT)]) .ret))))
theorem ahp:Dk Tryz.prog 43 ac0 [(.t 2)] 33:=aV Tryz.func43
def ac1:IC:=(.seq (.ops [iP 2 (.mv kF)]) (.seq (.ops [iM 3 0,iP 4 (.aN .or (.t 3) (.k (.sc (.int .u8 32)))),iP 5 (.aN .geq (.t 4) (.k (.sc (.int .u8 97)))),iM 6 5,gM 7 6 true 0,gP 8 6 true (.aN .or (.t 7) (.k (.sc (.int .u8 32)))),gP 9 6 true (.aN .leq (.t 8) (.k (.sc (.int .u8 122)))),iP 10 (.pick (.t 6) (.t 9) kF),iM 11 10,gM 12 11 false 0,gP 13 11 false (.aN .eql (.t 12) (.k (.sc (.int .u8 95)))),iP 14 (.pick (.t 11) kT (.t 13)),iM 2 14]) .ret))
theorem ahq:Dk Tryz.prog 72 ac1 [(.t 2)] 15:=aV Tryz.func72
def ac2:IC:=(.seq (.ops [iP 0 (.mv (.k bG))]) (.seq (.ops [⟨(some 1),none,(.h (.call 126 [(.k (.sc (.string ⟨#[102,117,110,99,32,118,97,114,32,105,102,32,101,108,115,101,32,119,104,105,108,101,32,114,101,116,117,114,110,32,112,114,105,110,116,32,116,114,117,101,32,102,97,108,115,101,32,108,101,110,32,114,101,97,100]⟩)))]))⟩,iM 0 1]) .ret))
theorem ahr:Dk Tryz.prog 73 ac2 [(.t 0)] 2:=aV Tryz.func73
def ac3:IC:=(.seq (.ops [iP 2 (.mv kF)]) (.seq (.ops [iM 3 0,iH 4 (.call 72 [(.t 3)]),iM 5 4,gM 6 5 false 0,gP 7 5 false (.aN .geq (.t 6) (.k (.sc (.int .u8 48)))),gM 8 5 false 7,gM 9 8 true 0,gP 10 8 true (.aN .leq (.t 9) (.k (.sc (.int .u8 57)))),gP 11 5 false (.pick (.t 8) (.t 10) kF),iP 12 (.pick (.t 5) kT (.t 11)),iM 2 12]) .ret))
theorem ahs:Dk Tryz.prog 74 ac3 [(.t 2)] 13:=aV Tryz.func74
def Yc:IC:=(.seq (.ops [iP 6 (.mv kF)]) (.seq (.ops [iM 8 0,iH 9 (.call 131 [(.t 8)]),iM 7 9]) (.seq (.seq (.ops [iM 10 2,iP 11 (.aN .lss (.t 10) (kI 0)),iM 12 11,gM 13 12 false 7,gP 14 12 false (.aN .geq (.t 13) (kI 0)),gM 15 12 false 14,gM 16 15 true 2,gM 17 15 true 7,gP 18 15 true (xB .geq 16 17),gP 19 12 false (.pick (.t 15) (.t 18) kF),iP 20 (.pick (.t 12) kT (.t 19))]) (.cond (.t 20) (.seq (.ops [iP 6 (.mv kF)]) .ret) .skip)) (.seq (.seq (.ops [iM 21 0]) (.block 0 (.seq (.ops [iP 23 (.aN .eql (.t 21) (.k (.sc (.int .u8 1)))),iM 22 23]) (.cond (.t 22) (.seq (.ops [iM 24 1,iP 25 (.aN .eql (.t 24) (.k (.sc (.int .u8 2)))),iM 6 25]) .ret) (.seq (.ops [iP 27 (.aN .eql (.t 21) (.k (.sc (.int .u8 2)))),iM 26 27]) (.cond (.t 26) (.seq (.ops [iM 28 2,iP 29 (.aN .eql (.t 28) (kI 0)),iM 30 29,gM 31 30 true 1,gP 32 30 true (.aN .eql (.t 31) (.k (.sc (.int .u8 3)))),iP 33 (.pick (.t 30) (.t 32) kF),iM 34 33,gM 35 34 false 2,gP 36 34 false (.aN .eql (.t 35) (kI 1)),gM 37 34 false 36,gM 38 37 true 1,gP 39 37 true (.aN .eql (.t 38) (.k (.sc (.int .u8 5)))),gP 40 34 false (.pick (.t 37) (.t 39) kF),iP 41 (.pick (.t 34) kT (.t 40)),iM 6 41]) .ret) (.seq (.ops [iP 43 (.aN .eql (.t 21) (.k (.sc (.int .u8 3)))),iM 42 43]) (.cond (.t 42) (.seq (.ops [iM 44 1,iP 45 (.aN .eql (.t 44) (.k (.sc (.int .u8 4)))),iM 6 45]) .ret) (.seq (.ops [iP 47 (.aN .eql (.t 21) (.k (.sc (.int .u8 5)))),iM 46 47]) (.cond (.t 46) (.seq (.ops [iM 48 1,iH 49 (.call 183 [(.t 48)]),iM 6 49]) .ret) (.seq (.ops [iP 51 (.aN .eql (.t 21) (.k (.sc (.int .u8 7)))),iM 50 51]) (.cond (.t 50) (.seq (.ops [iM 52 2,iP 53 (.aN .eql (.t 52) (kI 0)),iM 54 53,gM 55 54 true 1,gP 56 54 true (.aN .eql (.t 55) (.k (.sc (.int .u8 22)))),gM 57 54 true 56,gM 58 57 false 1,gP 59 57 false (.aN .eql (.t 58) (.k (.sc (.int .u8 26)))),gP 60 54 true (.pick (.t 57) kT (.t 59)),iP 61 (.pick (.t 54) (.t 60) kF),iM 62 61,gM 63 62 false 2,gP 64 62 false (.aN .eql (.t 63) (kI 1)),gM 65 62 false 64,gM 66 65 true 1,gH 67 65 true (.call 130 [(.t 66)]),gP 68 62 false (.pick (.t 65) (.t 67) kF),iP 69 (.pick (.t 62) kT (.t 68)),iM 6 69]) .ret) (.seq (.seq (.ops [iP 71 (.aN .eql (.t 21) (.k (.sc (.int .u8 8)))),iM 70 71]) (.cond (.t 70) .skip (.ops [iP 72 (.aN .eql (.t 21) (.k (.sc (.int .u8 9)))),iM 70 72]))) (.cond (.t 70) (.seq (.ops [iM 73 2,iP 74 (.aN .eql (.t 73) (kI 0)),iM 75 74,gM 76 75 true 1,gH 77 75 true (.call 130 [(.t 76)]),iP 78 (.pick (.t 75) (.t 77) kF),iM 79 78,gM 80 79 false 2,gP 81 79 false (.aN .gtr (.t 80) (kI 0)),gM 82 79 false 81,gM 83 82 true 1,gP 84 82 true (.aN .eql (.t 83) (.k (.sc (.int .u8 5)))),gP 85 79 false (.pick (.t 82) (.t 84) kF),iP 86 (.pick (.t 79) kT (.t 85)),iM 6 86]) .ret) (.seq (.ops [iP 88 (.aN .eql (.t 21) (.k (.sc (.int .u8 12)))),iM 87 88]) (.cond (.t 87) (.seq (.ops [iM 89 1,iP 90 (.aN .eql (.t 89) (.k (.sc (.int .u8 25)))),iM 6 90]) .ret) .skip)))))))))))))))) (.seq (.ops [iM 91 1,iH 92 (.call 130 [(.t 91)]),iM 6 92]) .ret)))))
theorem afL:Dk Tryz.prog 133 Yc [(.t 6)] 93:=aV Tryz.func133
def ac4:IC:=(.seq (.ops [iH 1 (.box 4 25 (.t 0)),iP 2 (.mv kF)]) (.seq (.ops [iH 3 (yA 4 1),iH 4 (.call 77 [(.t 3),(kI 40)]),iM 2 4]) .ret))
theorem aht:Dk Tryz.prog 46 ac4 [(.t 2)] 5:=aV Tryz.func46
def Yd:IC:=(.seq (.ops [iP 2 (xI 0)]) (.seq (.seq (.ops [iM 3 0]) (.block 0 (.seq (.seq (.ops [iP 5 (.aN .eql (.t 3) (.k (.sc (.int .u8 1)))),iM 4 5]) (.cond (.t 4) .skip (.seq (.ops [iP 6 (.aN .eql (.t 3) (.k (.sc (.int .u8 3)))),iM 4 6]) (.cond (.t 4) .skip (.seq (.ops [iP 7 (.aN .eql (.t 3) (.k (.sc (.int .u8 5)))),iM 4 7]) (.cond (.t 4) .skip (.ops [iP 8 (.aN .eql (.t 3) (.k (.sc (.int .u8 25)))),iM 4 8]))))))) (.cond (.t 4) (.seq (.ops [iP 2 (xI (-1))]) .ret) (.seq (.seq (.ops [iP 10 (.aN .eql (.t 3) (.k (.sc (.int .u8 2)))),iM 9 10]) (.cond (.t 9) .skip (.seq (.ops [iP 11 (.aN .eql (.t 3) (.k (.sc (.int .u8 7)))),iM 9 11]) (.cond (.t 9) .skip (.seq (.ops [iP 12 (.aN .eql (.t 3) (.k (.sc (.int .u8 9)))),iM 9 12]) (.cond (.t 9) .skip (.seq (.ops [iP 13 (.aN .eql (.t 3) (.k (.sc (.int .u8 24)))),iM 9 13]) (.cond (.t 9) .skip (.seq (.ops [iP 14 (.aN .eql (.t 3) (.k (.sc (.int .u8 26)))),iM 9 14]) (.cond (.t 9) .skip (.ops [iP 15 (.aN .eql (.t 3) (.k (.sc (.int .u8 27)))),iM 9 15]))))))))))) (.cond (.t 9) (.seq (.ops [iP 2 (xI 2)]) .ret) (.seq (.ops [iP 17 (.aN .eql (.t 3) (.k (.sc (.int .u8 8)))),iM 16 17]) (.cond (.t 16) (.seq (.ops [iP 2 (xI 3)]) .ret) (.seq (.seq (.ops [iP 19 (.aN .eql (.t 3) (.k (.sc (.int .u8 6)))),iM 18 19]) (.cond (.t 18) .skip (.seq (.ops [iP 20 (.aN .eql (.t 3) (.k (.sc (.int .u8 10)))),iM 18 20]) (.cond (.t 18) .skip (.seq (.ops [iP 21 (.aN .eql (.t 3) (.k (.sc (.int .u8 11)))),iM 18 21]) (.cond (.t 18) .skip (.seq (.ops [iP 22 (.aN .eql (.t 3) (.k (.sc (.int .u8 23)))),iM 18 22]) (.cond (.t 18) .skip (.seq (.ops [iP 23 (.aN .eql (.t 3) (.k (.sc (.int .u8 28)))),iM 18 23]) (.cond (.t 18) .skip (.ops [iP 24 (.aN .eql (.t 3) (.k (.sc (.int .u8 12)))),iM 18 24]))))))))))) (.cond (.t 18) (.seq (.ops [iP 2 (xI 1)]) .ret) .skip)))))))))) (.seq (.ops [iP 2 (xI 0)]) .ret)))
theorem afM:Dk Tryz.prog 131 Yd [(.t 2)] 25:=aV Tryz.func131
def Ye:IC:=(.seq (.ops [iP 2 (.mv kF)]) (.seq (.ops [iM 3 0,iP 4 (.aN .geq (.t 3) (.k (.sc (.int .u8 6)))),iM 5 4,gM 6 5 true 0,gP 7 5 true (.aN .leq (.t 6) (.k (.sc (.int .u8 12)))),iP 8 (.pick (.t 5) (.t 7) kF),iM 9 8,gM 10 9 false 0,gP 11 9 false (.aN .eql (.t 10) (.k (.sc (.int .u8 5)))),iP 12 (.pick (.t 9) kT (.t 11)),iM 2 12]) .ret))
theorem afN:Dk Tryz.prog 183 Ye [(.t 2)] 13:=aV Tryz.func183
def Yf:IC:=(.seq (.ops [iP 2 (.mv kF)]) (.seq (.ops [iM 3 0,iP 4 (.aN .geq (.t 3) (.k (.sc (.int .u8 20)))),iM 5 4,gM 6 5 true 0,gP 7 5 true (.aN .leq (.t 6) (.k (.sc (.int .u8 29)))),iP 8 (.pick (.t 5) (.t 7) kF),iM 2 8]) .ret))
theorem afO:Dk Tryz.prog 130 Yf [(.t 2)] 9:=aV Tryz.func130
def ac5:IC:=(.seq (.ops [iH 2 (.box 4 25 (.t 0)),iP 4 (.mv kF)]) (.seq (.ops [iP 9 (.an 0 (.t 2)),iH 10 (yD 1 9),iP 11 (.aN .geq (.t 10) (.k (.sc (.int .u8 1)))),iM 12 11,gP 13 12 true (.an 0 (.t 2)),gH 14 12 true (yD 1 13),gP 15 12 true (.aN .leq (.t 14) (.k (.sc (.int .u8 12)))),iP 16 (.pick (.t 12) (.t 15) kF),iM 17 16,gP 18 17 false (.an 0 (.t 2)),gH 19 17 false (yD 1 18),gH 20 17 false (.call 130 [(.t 19)]),iP 21 (.pick (.t 17) kT (.t 20)),iM 5 21]) (.seq (.ops [iP 22 (.an 2 (.t 2)),iH 23 (yD 1 22),iP 24 (.aN .eql (.t 23) (kI 0)),iM 25 24,gP 26 25 false (.an 0 (.t 2)),gH 27 25 false (yD 1 26),gP 28 25 false (.aN .eql (.t 27) (.k (.sc (.int .u8 20)))),gM 29 25 false 28,gP 30 29 true (.an 2 (.t 2)),gH 31 29 true (yD 1 30),gP 32 29 true (.aN .gtr (.t 31) (kI 0)),gP 33 25 false (.pick (.t 29) (.t 32) kF),iP 34 (.pick (.t 25) kT (.t 33)),iM 35 34,gP 36 35 false (.an 0 (.t 2)),gH 37 35 false (yD 1 36),gP 38 35 false (.aN .eql (.t 37) (.k (.sc (.int .u8 21)))),gM 39 35 false 38,gP 40 39 true (.an 2 (.t 2)),gH 41 39 true (yD 1 40),gP 42 39 true (.aN .eql (.t 41) (kI 1)),gP 43 35 false (.pick (.t 39) (.t 42) kF),iP 44 (.pick (.t 35) kT (.t 43)),iM 6 44]) (.seq (.ops [iP 45 (.an 0 (.t 2)),iH 46 (yD 1 45),iH 47 (.call 131 [(.t 46)]),iM 7 47]) (.seq (.seq (.ops [iM 48 1,iP 49 (.aN .lss (.t 48) (kI 1)),iM 50 49,gM 51 50 false 5,gP 52 50 false (xN 51),iP 53 (.pick (.t 50) kT (.t 52)),iM 54 53,gM 55 54 false 6,gP 56 54 false (xN 55),iP 57 (.pick (.t 54) kT (.t 56)),iM 58 57,gH 59 58 false (yA 4 2),gH 60 58 false (.call 132 [(.t 59)]),gP 61 58 false (xN 60),iP 62 (.pick (.t 58) kT (.t 61)),iM 63 62,gM 64 63 false 7,gP 65 63 false (.aN .geq (.t 64) (kI 0)),gM 66 63 false 65,gP 67 66 true (.an 3 (.t 2)),gH 68 66 true (yD 1 67),gP 69 66 true (xL 68),gM 70 66 true 7,gP 71 66 true (xB .neq 69 70),gP 72 63 false (.pick (.t 66) (.t 71) kF),iP 73 (.pick (.t 63) kT (.t 72))]) (.cond (.t 73) (.seq (.ops [iP 4 (.mv kF)]) .ret) .skip)) (.seq (.seq (.ops [iP 8 (xI 0)]) (.block 0 (.loop (.seq (.seq (.ops [iM 74 8,iP 75 (.an 3 (.t 2)),iH 76 (yD 1 75),iP 77 (xL 76),iP 78 (xB .lss 74 77)]) (.cond (.t 78) .skip (.exit 0))) (.seq (.block 1 (.seq (.di [iP 81 (.an 0 (.t 2)),iH 82 (yD 1 81),iP 83 (.an 3 (.t 2)),iH 84 (yD 1 83),iM 85 8,iP 86 (xA 4 84 85),iP 87 (.an 0 (.t 86)),iH 88 (yD 1 87),iM 89 8,iH 90 (.call 133 [(.t 82),(.t 88),(.t 89)]),iP 91 (xN 90),iM 92 91,gP 93 92 false (.an 3 (.t 2)),gH 94 92 false (yD 1 93),gM 95 92 false 8,gP 96 92 false (xA 4 94 95),gH 97 92 false (yA 4 96),gM 98 92 false 1,gP 99 92 false (.aN .sub (.t 98) (kI 1)),gH 100 92 false (yC 77 97 99),gP 101 92 false (xN 100),iP 102 (.pick (.t 92) kT (.t 101))] [[],[0],[],[2],[],[3,2,4],[5,3,2,4],[6,5,3,2,4],[],[1,0,7,6,5,3,2,4,8],[9,1,0,7,6,5,3,2,4,8],[10,9,1,0,7,6,5,3,2,4,8],[11,10,9,1,0,7,6,5,3,2,4,8],[12,11,10,9,1,0,7,6,5,3,2,4,8],[11,10,9,1,0,7,6,5,3,2,4,8],[13,12,11,10,9,1,0,7,6,5,3,2,4,8,14],[15,13,12,11,10,9,1,0,7,6,5,3,2,4,8,14],[11,10,9,1,0,7,6,5,3,2,4,8],[17,11,10,9,1,0,7,6,5,3,2,4,8],[16,15,13,12,11,10,9,1,0,7,6,5,3,2,4,8,14,18,17],[19,16,15,13,12,11,10,9,1,0,7,6,5,3,2,4,8,14,18,17],[11,10,9,1,0,7,6,5,3,2,4,8,20,19,16,15,13,12,14,18,17]]) (.cond (.t 102) (.seq (.ops [iP 4 (.mv kF)]) .ret) .skip))) (.ops [iM 79 8,iP 80 (.aN .add (.t 79) (kI 1)),iM 8 80])))))) (.seq (.ops [iP 103 (.an 0 (.t 2)),iH 104 (yD 1 103),iP 105 (.aN .neq (.t 104) (.k (.sc (.int .u8 7)))),iM 106 105,gP 107 106 false (.an 3 (.t 2)),gH 108 106 false (yD 1 107),gP 109 106 false (.gm 4 (.t 108) (kI 0)),gP 110 106 false (.an 0 (.t 109)),gH 111 106 false (yD 1 110),gP 112 106 false (.aN .neq (.t 111) (.k (.sc (.int .u8 26)))),iP 113 (.pick (.t 106) kT (.t 112)),iM 114 113,gP 115 114 false (.an 3 (.t 2)),gH 116 114 false (yD 1 115),gP 117 114 false (.gm 4 (.t 116) (kI 0)),gP 118 114 false (.an 3 (.t 117)),gH 119 114 false (yD 1 118),gP 120 114 false (.gm 4 (.t 119) (kI 0)),gP 121 114 false (.an 0 (.t 120)),gH 122 114 false (yD 1 121),gP 123 114 false (.aN .eql (.t 122) (.k (.sc (.int .u8 22)))),iP 124 (.pick (.t 114) kT (.t 123)),iM 4 124]) .ret)))))))
theorem ahu:Dk Tryz.prog 77 ac5 [(.t 4)] 125:=aV Tryz.func77
def Yg:IC:=(.seq (.ops [iH 1 (.box 4 25 (.t 0)),iP 2 (.mv kF)]) (.seq (.seq (.ops [iP 5 (.an 0 (.t 1)),iH 6 (yD 1 5),iH 7 (.call 182 [(.t 6)])]) (.cond (.t 7) (.seq (.ops [iP 8 (.an 1 (.t 1)),iH 9 (yD 1 8),iH 10 (.call 47 [(.t 9)]),iM 2 10]) .ret) .skip)) (.seq (.seq (.ops [iP 11 (.an 0 (.t 1)),iH 12 (yD 1 11),iP 13 (.aN .eql (.t 12) (.k (.sc (.int .u8 23))))]) (.cond (.t 13) (.seq (.ops [iP 14 (.an 1 (.t 1)),iH 15 (yD 1 14),⟨(some 16),none,(.p (.aN .eql (.t 15) (.k (.sc (.string ⟨#[45]⟩)))))⟩,iM 17 16,gP 18 17 false (.an 1 (.t 1)),gH 19 17 false (yD 1 18),⟨(some 20),(some (17,false)),(.p (.aN .eql (.t 19) (.k (.sc (.string ⟨#[33]⟩)))))⟩,iP 21 (.pick (.t 17) kT (.t 20)),iM 2 21]) .ret) .skip)) (.seq (.seq (.ops [iP 22 (.an 0 (.t 1)),iH 23 (yD 1 22),iP 24 (.aN .neq (.t 23) (.k (.sc (.int .u8 24))))]) (.cond (.t 24) (.seq (.ops [iP 25 (.an 1 (.t 1)),iH 26 (yD 1 25),⟨(some 27),none,(.p (.aN .eql (.t 26) (.k (.sc (.string ⟨#[]⟩)))))⟩,iM 2 27]) .ret) .skip)) (.seq (.ops [⟨(some 28),none,(.h (.ep 1 9 (.sc (.string ⟨#[]⟩)) 13 [(0,(.k (.sc (.string ⟨#[124,124]⟩)))),(1,(.k (.sc (.string ⟨#[38,38]⟩)))),(2,(.k (.sc (.string ⟨#[61,61]⟩)))),(3,(.k (.sc (.string ⟨#[33,61]⟩)))),(4,(.k (.sc (.string ⟨#[60]⟩)))),(5,(.k (.sc (.string ⟨#[60,61]⟩)))),(6,(.k (.sc (.string ⟨#[62]⟩)))),(7,(.k (.sc (.string ⟨#[62,61]⟩)))),(8,(.k (.sc (.string ⟨#[43]⟩)))),(9,(.k (.sc (.string ⟨#[45]⟩)))),(10,(.k (.sc (.string ⟨#[42]⟩)))),(11,(.k (.sc (.string ⟨#[47]⟩)))),(12,(.k (.sc (.string ⟨#[37]⟩))))]))⟩,iM 3 28]) (.seq (.seq (.ops [iP 4 (xI 0)]) (.block 0 (.loop (.seq (.seq (.ops [iM 29 4,iM 30 3,iP 31 (xL 30),iP 32 (xB .lss 29 31)]) (.cond (.t 32) .skip (.exit 0))) (.seq (.block 1 (.seq (.di [iP 35 (.an 1 (.t 1)),iH 36 (yD 1 35),iM 37 3,iM 38 4,iP 39 (xA 1 37 38),iH 40 (yD 1 39),iP 41 (xB .eql 36 40)] [[],[0],[],[],[2,3],[4,2,3],[1,0,5,4,2,3]]) (.cond (.t 41) (.seq (.ops [iP 2 (.mv kT)]) .ret) .skip))) (.ops [iM 33 4,iP 34 (.aN .add (.t 33) (kI 1)),iM 4 34])))))) (.seq (.ops [iP 2 (.mv kF)]) .ret)))))))
theorem afP:Dk Tryz.prog 132 Yg [(.t 2)] 42:=aV Tryz.func132
def Yh:IC:=(.seq (.ops [iP 2 (.mv kF)]) (.seq (.ops [iM 3 0,iP 4 (.aN .eql (.t 3) (.k (.sc (.int .u8 2)))),iM 5 4,gM 6 5 false 0,gP 7 5 false (.aN .eql (.t 6) (.k (.sc (.int .u8 4)))),iP 8 (.pick (.t 5) kT (.t 7)),iM 9 8,gM 10 9 false 0,gP 11 9 false (.aN .eql (.t 10) (.k (.sc (.int .u8 6)))),iP 12 (.pick (.t 9) kT (.t 11)),iM 13 12,gM 14 13 false 0,gP 15 13 false (.aN .eql (.t 14) (.k (.sc (.int .u8 22)))),iP 16 (.pick (.t 13) kT (.t 15)),iM 17 16,gM 18 17 false 0,gP 19 17 false (.aN .eql (.t 18) (.k (.sc (.int .u8 25)))),iP 20 (.pick (.t 17) kT (.t 19)),iM 2 20]) .ret))
theorem afQ:Dk Tryz.prog 182 Yh [(.t 2)] 21:=aV Tryz.func182
def ac6:IC:=(.seq (.ops [iP 2 (.mv kF)]) (.seq (.seq (.ops [iM 4 0,⟨(some 5),none,(.p (.aN .eql (.t 4) (.k (.sc (.string ⟨#[]⟩)))))⟩,iM 6 5,gM 7 6 false 0,gP 8 6 false (.nN (.t 7)),gP 9 6 false (.aN .gtr (.t 8) (kI 24)),iP 10 (.pick (.t 6) kT (.t 9)),iM 11 10,gM 12 11 false 0,gP 13 11 false (.kK (.t 12) (kI 0)),gH 14 11 false (.call 78 [(.t 13)]),gP 15 11 false (xN 14),iP 16 (.pick (.t 11) kT (.t 15)),iM 17 16,gM 18 17 false 0,gH 19 17 false (.call 80 []),gH 20 17 false (yC 79 18 19),iP 21 (.pick (.t 17) kT (.t 20))]) (.cond (.t 21) (.seq (.ops [iP 2 (.mv kF)]) .ret) .skip)) (.seq (.seq (.ops [iP 3 (xI 0)]) (.block 0 (.loop (.seq (.seq (.ops [iM 22 3,iM 23 0,iP 24 (.nN (.t 23)),iP 25 (xB .lss 22 24)]) (.cond (.t 25) .skip (.exit 0))) (.seq (.block 1 (.seq (.ops [iM 28 0,iM 29 3,iP 30 (.kK (.t 28) (.t 29)),iH 31 (.call 78 [(.t 30)]),iP 32 (xN 31),iM 33 32,gM 34 33 true 0,gM 35 33 true 3,gP 36 33 true (.kK (.t 34) (.t 35)),gH 37 33 true (.call 81 [(.t 36)]),gP 38 33 true (xN 37),iP 39 (.pick (.t 33) (.t 38) kF)]) (.cond (.t 39) (.seq (.ops [iP 2 (.mv kF)]) .ret) .skip))) (.ops [iM 26 3,iP 27 (.aN .add (.t 26) (kI 1)),iM 3 27])))))) (.seq (.ops [iP 2 (.mv kT)]) .ret))))
theorem ahv:Dk Tryz.prog 47 ac6 [(.t 2)] 40:=aV Tryz.func47
def ac7:IC:=(.seq (.ops [iP 2 (.mv kF)]) (.seq (.ops [iM 3 0,iP 4 (.aN .geq (.t 3) (.k (.sc (.int .u8 97)))),iM 5 4,gM 6 5 true 0,gP 7 5 true (.aN .leq (.t 6) (.k (.sc (.int .u8 122)))),iP 8 (.pick (.t 5) (.t 7) kF),iM 9 8,gM 10 9 false 0,gP 11 9 false (.aN .geq (.t 10) (.k (.sc (.int .u8 65)))),gM 12 9 false 11,gM 13 12 true 0,gP 14 12 true (.aN .leq (.t 13) (.k (.sc (.int .u8 90)))),gP 15 9 false (.pick (.t 12) (.t 14) kF),iP 16 (.pick (.t 9) kT (.t 15)),iM 17 16,gM 18 17 false 0,gP 19 17 false (.aN .eql (.t 18) (.k (.sc (.int .u8 95)))),iP 20 (.pick (.t 17) kT (.t 19)),iM 2 20]) .ret))
theorem ahw:Dk Tryz.prog 78 ac7 [(.t 2)] 21:=aV Tryz.func78
def ac8:IC:=(.seq (.ops [iP 4 (.mv kF)]) (.seq (.seq (.ops [iP 5 (xI 0)]) (.block 0 (.loop (.seq (.seq (.ops [iM 6 5,iM 7 1,iP 8 (xL 7),iP 9 (xB .lss 6 8)]) (.cond (.t 9) .skip (.exit 0))) (.seq (.block 1 (.seq (.ops [iM 12 1,iM 13 5,iP 14 (xA 1 12 13),iH 15 (yD 1 14),iM 16 0,iP 17 (xB .eql 15 16)]) (.cond (.t 17) (.seq (.ops [iP 4 (.mv kT)]) .ret) .skip))) (.ops [iM 10 5,iP 11 (.aN .add (.t 10) (kI 1)),iM 5 11])))))) (.seq (.ops [iP 4 (.mv kF)]) .ret)))
theorem ahx:Dk Tryz.prog 79 ac8 [(.t 4)] 18:=aV Tryz.func79
def ac9:IC:=(.seq (.ops [iP 0 (.mv (.k bG))]) (.seq (.ops [⟨(some 1),none,(.h (.ep 1 9 (.sc (.string ⟨#[]⟩)) 11 [(0,(.k (.sc (.string ⟨#[102,117,110,99]⟩)))),(1,(.k (.sc (.string ⟨#[118,97,114]⟩)))),(2,(.k (.sc (.string ⟨#[105,102]⟩)))),(3,(.k (.sc (.string ⟨#[101,108,115,101]⟩)))),(4,(.k (.sc (.string ⟨#[119,104,105,108,101]⟩)))),(5,(.k (.sc (.string ⟨#[114,101,116,117,114,110]⟩)))),(6,(.k (.sc (.string ⟨#[112,114,105,110,116]⟩)))),(7,(.k (.sc (.string ⟨#[116,114,117,101]⟩)))),(8,(.k (.sc (.string ⟨#[102,97,108,115,101]⟩)))),(9,(.k (.sc (.string ⟨#[108,101,110]⟩)))),(10,(.k (.sc (.string ⟨#[114,101,97,100]⟩))))]))⟩,iM 0 1]) .ret))
theorem ahy:Dk Tryz.prog 80 ac9 [(.t 0)] 2:=aV Tryz.func80
def ada:IC:=(.seq (.ops [iP 2 (.mv kF)]) (.seq (.ops [iM 3 0,iP 4 (.aN .geq (.t 3) (.k (.sc (.int .u8 48)))),iM 5 4,gM 6 5 true 0,gP 7 5 true (.aN .leq (.t 6) (.k (.sc (.int .u8 57)))),iP 8 (.pick (.t 5) (.t 7) kF),iM 2 8]) .ret))
theorem ahz:Dk Tryz.prog 81 ada [(.t 2)] 9:=aV Tryz.func81
inductive Nd where
 | mk (kind:Int)(text:ByteArray)(num:Int)(kids:List Nd)
def Nd.kind:Nd→Int|⟨k,_,_,_⟩=>k
def Nd.text:Nd→ByteArray|⟨_,s,_,_⟩=>s
def Nd.num:Nd→Int|⟨_,_,n,_⟩=>n
def Nd.kids:Nd→List Nd|⟨_,_,_,l⟩=>l
theorem Nd.eta(t:Nd):t=⟨t.kind,t.text,t.num,t.kids⟩:=by cases t;rfl
theorem Nd.ext'{a b:Nd}(h1:a.kind=b.kind)(h2:a.text=b.text)(h3:a.num=b.num)(h4:a.kids=b.kids):a=b:=by
 cases a;cases b
 simp only[Nd.kind,Nd.text,Nd.num,Nd.kids] at h1 h2 h3 h4
 subst h1 h2 h3 h4
 rfl
mutual
def Nd.size:Nd→Nat
 |⟨_,_,_,l⟩=>1+Nd.ay l
def Nd.ay:List Nd→Nat
 |[]=>0
 |t::r=>t.size+Nd.ay r
end
theorem Nd.size_eq(t:Nd):t.size=1+Nd.ay t.kids:=by cases t;simp[Nd.size,Nd.kids]
theorem Nd.size_pos(t:Nd):0<t.size:=by rw[Nd.size_eq];omega
theorem Nd.de{l:List Nd}{t:Nd}(h:t∈l):t.size≤Nd.ay l:=by
 induction l with
 |nil=>cases h
 |cons x r ih =>
  rcases List.mem_cons.1 h with rfl|h
  ·simp only[Nd.ay];omega
  ·have:=ih h;simp only[Nd.ay];omega
theorem Nd.pf{t k:Nd}(h:k∈t.kids):k.size<t.size:=by
 have:=Nd.de h
 rw[Nd.size_eq t]
 omega
theorem Nd.wL(a b:List Nd):Nd.ay (a++b)=Nd.ay a+Nd.ay b:=by
 induction a with
 |nil=>simp[Nd.ay]
 |cons x r ih=>simp only[List.cons_append,Nd.ay,ih];omega
theorem Nd.ind{p:Nd→Prop}(h:∀t,(∀k∈t.kids,p k)→p t)(t:Nd):p t:=by
 have key:∀n:Nat,∀t:Nd,t.size≤n→p t:=by
  intro n
  induction n with
  |zero=>intro t ht;have:=t.size_pos;omega
  |succ n ih=>intro t ht;exact h t fun k hk=>ih k (by have:=Nd.pf hk;omega)
 exact key _ t (Nat.le_refl _)
mutual
def eu:Nd→AV
 |⟨k,s,n,l⟩=>.agg [.sc (.int .u8 k),.sc (.string s),.sc (.int .i64 n),.am 4 (bh l) none]
def bh:List Nd→List AV
 |[]=>[]
 |t::r=>eu t::bh r
end
theorem ew(t:Nd):eu t = .agg [.sc (.int .u8 t.kind),.sc (.string t.text),.sc (.int .i64 t.num),.am 4 (bh t.kids) none]:=by cases t;simp[eu,Nd.kind,Nd.text,Nd.num,Nd.kids]
theorem qa(l:List Nd):bh l=l.map eu:=by
 induction l with
 |nil=>rfl
 |cons x r ih=>simp[bh,ih]
theorem aH(l:List Nd):(bh l).length=l.length:=by simp[qa]
theorem TQ(t:Nd)(l:List Nd):bh (t::l)=eu t::bh l:=by simp[bh]
def Nd.none:Nd:=⟨0,⟨#[]⟩,0,[]⟩
def aE(l:List Nd)(k:Nat):Nd:=l.getD k Nd.none
theorem eH{l:List Nd}{k:Nat}(h:k<l.length):aE l k=l[k]:=by simp[aE,List.getD,h]
theorem eJ{l:List Nd}{k:Nat}(h:k<l.length):aE l k∈l:=by rw[eH h];exact List.getElem_mem _
theorem TR{l:List Nd}{k:Nat}(h:k<l.length):(bh l).getD k .top=eu (aE l k):=by simp[qa,aE,List.getD,h]
theorem dG{l:List Nd}{k:Nat}(h:k<l.length):(bh l).getD k .top = .agg [.sc (.int .u8 (aE l k).kind),.sc (.string (aE l k).text),.sc (.int .i64 (aE l k).num),.am 4 (bh (aE l k).kids) none]:=by rw[TR h,ew]
def dZ(t:Nd)(ro:Option (List AV)):AV:=.agg [.sc (.int .u8 t.kind),.sc (.string t.text),.sc (.int .i64 t.num),.am 4 (bh t.kids) ro]
theorem aQ(t:Nd)(ro:Option (List AV)):dZ t ro = .agg [.sc (.int .u8 t.kind),.sc (.string t.text),.sc (.int .i64 t.num),.am 4 (bh t.kids) ro]:=rfl
theorem kx(t:Nd):dZ t none=eu t:=(ew t).symm
mutual
def nr:Nd→Nd→Bool
 |⟨k,s,n,l⟩,⟨k',s',n',l'⟩=>decide (k=k') && decide (s=s') && decide (n=n') && oz l l'
def oz:List Nd→List Nd→Bool
 |[],[]=>true
 |a::r,b::q=>nr a b && oz r q
 |_,_=>false
end
theorem Gy(l:List Nd)(ih:∀a∈l,∀b,nr a b=true↔a=b):∀m,oz l m=true↔l=m:=by
 induction l with
 |nil=>intro m;cases m<;>simp[oz]
 |cons x r fC =>
  intro m
  cases m with
  |nil=>simp[oz]
  |cons y q =>
   simp only[oz,Bool.and_eq_true,List.cons.injEq]
   rw[ih x (by simp),fC (fun a ha=>ih a (by simp[ha]))]
theorem xk(a b:Nd):nr a b=true↔a=b:=by
 revert b
 induction a using Nd.ind with
 |_ a ih =>
  intro b
  cases a with
  |mk k s n l =>
   cases b with
   |mk k' s' n' l' =>
    simp only[nr,Bool.and_eq_true,decide_eq_true_eq,Nd.mk.injEq]
    rw[Gy l ih]
    constructor
    ·rintro ⟨⟨⟨a,b⟩,c⟩,d⟩;exact ⟨a,b,c,d⟩
    ·rintro ⟨a,b,c,d⟩;exact ⟨⟨⟨a,b⟩,c⟩,d⟩
theorem xl(l m:List Nd):oz l m=true↔l=m:=Gy l (fun a _=>xk a) m
theorem qR(a:Nd):nr a a=true:=(xk a a).2 rfl
theorem TS(a b:Nd):nr a b=(decide (a.kind=b.kind) && decide (a.text=b.text) && decide (a.num=b.num) && oz a.kids b.kids):=by cases a;cases b;rfl
def jz:List (Int×(List Int×Bool)):=[(1,[2],true),(2,[3,5],false),(3,[4],true),(4,[],false),(5,[201],true),(6,[200],false),(7,[202,200],false),(8,[200,5,5],false),(9,[200,5],false),(10,[200],false),(11,[200],false),(12,[25],false),(20,[],false),(21,[],false),(22,[],false),(23,[200],false),(24,[200,200],false),(25,[200],true),(26,[200,200],false),(27,[200,200],false),(28,[200],false),(29,[],false)]
def mu(k:Int):Option (List Int×Bool):=kQ k jz
def eY(k:Int):Bool:=decide (20≤k) && decide (k≤29)
def oA(k:Int):Bool:=decide (6≤k) && decide (k≤12)|| decide (k=5)
def yW(k f:Int):Bool:=if f=200 then eY k else if f=201 then oA k else if f=202 then decide (k=22)|| decide (k=26) else decide (k=f)
def xm(p k at_:Int):Bool :=
 if at_<0 then false
 else if ((mu p).getD ([],false)).2 then yW k (((mu p).getD ([],false)).1.getD 0 0)
 else decide (at_<((mu p).getD ([],false)).1.length) && yW k (((mu p).getD ([],false)).1.getD at_.toNat 0)
def eM(k:Int):Bool:=decide (k=2)|| decide (k=4)|| decide (k=6)|| decide (k=22)|| decide (k=25)
def eZ(k:Int):Int :=
 if k=1∨k=3∨k=5∨k=25 then -1
 else if k=2∨k=7∨k=9∨k=24∨k=26∨k=27 then 2
 else if k=8 then 3
 else if k=6∨k=10∨k=11∨k=23∨k=28∨k=12 then 1
 else 0
def eA(p k at_:Int):Bool :=
 if at_<0∨(eZ p≥0∧at_≥eZ p) then false
 else if p=1 then decide (k=2)
 else if p=2 then decide (at_=0∧k=3)|| decide (at_=1∧k=5)
 else if p=3 then decide (k=4)
 else if p=5 then oA k
 else if p=7 then decide (at_=0∧(k=22∨k=26))|| (decide (at_=1) && eY k)
 else if p=8∨p=9 then (decide (at_=0) && eY k)|| decide (at_ > 0∧k=5)
 else if p=12 then decide (k=25)
 else eY k
theorem vb(p:Int):(mu p=none∧∀x∈jz,p≠x.1)∨p∈jz.map (·.1):=by
 by_cases h:p∈jz.map (·.1)
 ·exact .inr h
 ·refine .inl ⟨?_,fun x hx e=>h (List.mem_map.2 ⟨x,hx,e.symm⟩)⟩
  cases hr:mu p with
  |none=>rfl
  |some v=>exact absurd (Gx.2 (by unfold mu at hr;rw[hr];rfl)) h
theorem Pg(p k at_:Int):xm p k at_=eA p k at_:=by
 rcases vb p with ⟨h,hn⟩|h
 ·have e:xm p k at_=false:=by
   unfold xm
   rw[h]
   split
   ·rfl
   ·simp
    intro h1;omega
  rw[e]
  have h0:eZ p=0:=by
   have g:∀n:Int,n∈jz.map (·.1)→p≠n:=fun n hm=>by
    obtain ⟨x,hx,rfl⟩:=List.mem_map.1 hm
    exact hn x hx
   have g1:=fun n=>g n
   unfold eZ
   rw[if_neg,if_neg,if_neg (g 8 (by decide)),if_neg]
   ·rintro (h|h|h|h|h|h)
    ·exact g 6 (by decide) h
    ·exact g 10 (by decide) h
    ·exact g 11 (by decide) h
    ·exact g 23 (by decide) h
    ·exact g 28 (by decide) h
    ·exact g 12 (by decide) h
   ·rintro (h|h|h|h|h|h)
    ·exact g 2 (by decide) h
    ·exact g 7 (by decide) h
    ·exact g 9 (by decide) h
    ·exact g 24 (by decide) h
    ·exact g 26 (by decide) h
    ·exact g 27 (by decide) h
   ·rintro (h|h|h|h)
    ·exact g 1 (by decide) h
    ·exact g 3 (by decide) h
    ·exact g 5 (by decide) h
    ·exact g 25 (by decide) h
  unfold eA
  rw[h0,if_pos (by omega)]
 ·by_cases c:at_<0
  ·unfold xm eA
   rw[if_pos c,if_pos (.inl c)]
  obtain ⟨a,rfl⟩:∃a:Nat,at_=a:=⟨at_.toNat,by omega⟩
  simp only[jz,List.map_cons,List.map_nil,List.mem_cons,List.not_mem_nil,or_false] at h
  have q0:∀a:Nat,¬((a:Int)+1+1+1<0):=fun a=>by omega
  have q1:∀a:Nat,¬((a:Int)+1+1+1<1):=fun a=>by omega
  have q2:∀a:Nat,¬((a:Int)+1+1+1<2):=fun a=>by omega
  have q3:∀a:Nat,¬((a:Int)+1+1+1<3):=fun a=>by omega
  have q4:∀a:Nat,0≤(a:Int)+1+1+1:=fun a=>by omega
  have r1:∀a:Nat,1≤(a:Int)+1+1+1:=fun a=>by omega
  have r2:∀a:Nat,2≤(a:Int)+1+1+1:=fun a=>by omega
  have r3:∀a:Nat,3≤(a:Int)+1+1+1:=fun a=>by omega
  have r4:∀a:Nat,¬(a:Int)+1+1+1=0:=fun a=>by omega
  have r5:∀a:Nat,0<(a:Int)+1+1+1:=fun a=>by omega
  rcases h with rfl|rfl|rfl|rfl|rfl|rfl|rfl|rfl|rfl|rfl|rfl|rfl|rfl|rfl|rfl|rfl|rfl|rfl|rfl|rfl|rfl|rfl <;>
   rcases a with _|_|_|a<;>simp[xm,eA,eZ,mu,jz,kQ,yW,eY,oA]<;>simp only[q0,q1,q2,q3,q4,r1,r2,r3,r4,r5,decide_false,decide_true,Bool.not_false,Bool.not_true,Bool.false_and,Bool.true_and,Bool.and_false]
theorem aq{F H:Y}(h:Over H F){a b:Bool}(e:a=b):eB H (.ret (.sc (.bool a))) F (.ret (.sc (.bool b))) H:=by
 subst e
 exact dD h (.same trivial)
def Ph(x:AV):AV:=x
theorem gB(q:IntKind)(k:Int)(v:AV)(M:List (Int×AV)):qJ (.int q k) v (mI q Ph M)=mI q Ph (xj k v M):=Du (f:=Ph) (a:=v)
theorem eN(q:IntKind)(k:Int)(v:AV):qJ (.int q k) v []=mI q Ph [(k,v)]:=Du (f:=Ph) (a:=v) (M:=[])
theorem cW(k:Int)(v:AV):xj k v ([]:List (Int×AV))=[(k,v)]:=rfl
theorem cG(k j:Int)(v u:AV)(r:List (Int×AV)):xj k v ((j,u)::r)=if k=j then (k,v)::r else (j,u)::xj k v r:=rfl
def yX(l:List Int):AV:=if l=[] then .am 0 [] (some []) else .am 1 (l.map fun n=>.sc (.int .u8 n)) (some [])
def K3(r:List Int×Bool):AV:=.agg [yX r.1,.sc (.bool r.2)]
def xn:List (Int×AV):=jz.map fun p=>(p.1,K3 p.2)
theorem Ar{α β:Type}(g:α→β)(k:Int):∀(M:List (Int×α)),kQ k (M.map fun p=>(p.1,g p.2))=(kQ k M).map g
 |[]=>rfl
 |p::r=>by
  have ih:=Ar g k r
  simp only[List.map_cons,kQ]
  split
  ·rfl
  ·exact ih
def mR(k:Int):List Int×Bool:=(mu k).getD ([],false)
theorem TT(k:Int):(kQ k xn).getD (.agg [.am 0 [] (some []),.sc (.bool false)])=K3 (mR k):=by
 unfold xn mR mu
 rw[Ar]
 cases kQ k jz<;>rfl
theorem Pj(k:Int):(kQ k xn).isSome=(mu k).isSome:=by
 unfold xn mu
 rw[Ar]
 cases kQ k jz<;>rfl
theorem afR(x:AV)(H:Y)(h1:x.bT=false∧x.isAgg=false∧x.az=1∧x.cells=[x])(h2:x.ids (· < H.length)):D Tryz.prog 123 [x] H (.ret (.agg [x,.sc (.bool false)])) H:=by
 obtain ⟨a1,a2,a3,a4⟩:=h1
 refine aG (Nat.le_refl _) (afD (aA ?_))
 simp only[X4,ux]
 refine eQ (ei a1 a2 a3 a4) ?_
 exact dD (.cons .refl) (.same ⟨h2,trivial,trivial⟩)
theorem abW(k:Int)(H:Y):D Tryz.prog 124 [.sc (.int .u8 k)] H (.ret (.agg [.am 1 [.sc (.int .u8 k)] (some []),.sc (.bool true)])) H:=by
 refine aG (Nat.le_refl _) (afE (aA ?_))
 simp only[X5,ux]
 refine aw ?_
 exact dD (.cons .refl) (.same ⟨⟨⟨trivial,trivial⟩,trivial⟩,trivial,trivial⟩)
theorem TU{q:IntKind}{k:Int}{z:AV}{M:List (Int×AV)}:nQ (.int q k) z (mI q Ph M)=(kQ k M).getD z:=by
 rw[K1]
 cases kQ k M<;>rfl
theorem TV{q:IntKind}{k:Int}{M:List (Int×AV)}:(decide (fy (.int q k) (mI q Ph M)<M.length))=(kQ k M).isSome:=by rw[yV];exact K0
theorem Rh(k:Int)(H:Y):D Tryz.prog 69 [.sc (.int .u8 k)] H (.ret (.aO [K3 (mR k),.sc (.bool (mu k).isSome)])) H:=by
 have ok:=abV (α:=AV)
 have g1:=fun (n:Int)(H:Y)=>abW n H
 have g2:=fun (x:AV)(H:Y)=>afR x H
 have c1:cr Tryz.prog 123=true:=by kernel_rfl
 have c2:cr Tryz.prog 124=true:=by kernel_rfl
 refine aG (Nat.le_refl _) (ahn (aA ?_))
 simp only[acY,ux]
 refine Z fun L hL=>?_
 refine aw ?_
 refine hL _ _ ?_
 clear hL
 refine Z fun L hL=>?_
 refine aw ?_
 refine hL _ _ ?_
 clear hL
 refine Z fun L hL=>?_
 refine aw ?_
 refine hL _ _ ?_
 clear hL
 refine Z fun L hL=>?_
 refine aI (ak c1 c2) ?_
 refine ae (g1 _ _) ?_
 refine aI (mM c1 c2 ok @gB @eN @cG @cW) ?_
 refine ae (g2 _ _ ⟨rfl,rfl,rfl,rfl⟩ (by simp[AV.ids,AV.cV,AV.gF])) ?_
 refine aI (mM c1 c2 ok @gB @eN @cG @cW) ?_
 refine ae (g1 _ _) ?_
 refine aI (mM c1 c2 ok @gB @eN @cG @cW) ?_
 refine ae (g2 _ _ ⟨rfl,rfl,rfl,rfl⟩ (by simp[AV.ids,AV.cV,AV.gF])) ?_
 refine aI (mM c1 c2 ok @gB @eN @cG @cW) ?_
 refine ae (g1 _ _) ?_
 refine aI (mM c1 c2 ok @gB @eN @cG @cW) ?_
 refine ae (g2 _ _ ⟨rfl,rfl,rfl,rfl⟩ (by simp[AV.ids,AV.cV,AV.gF])) ?_
 refine aI (mM c1 c2 ok @gB @eN @cG @cW) ?_
 refine ae (g2 _ _ ⟨rfl,rfl,rfl,rfl⟩ (by simp[AV.ids,AV.cV,AV.gF])) ?_
 refine aI (mM c1 c2 ok @gB @eN @cG @cW) ?_
 refine ae (g2 _ _ ⟨rfl,rfl,rfl,rfl⟩ (by simp[AV.ids,AV.cV,AV.gF])) ?_
 refine aI (mM c1 c2 ok @gB @eN @cG @cW) ?_
 refine ae (g2 _ _ ⟨rfl,rfl,rfl,rfl⟩ (by simp[AV.ids,AV.cV,AV.gF])) ?_
 refine aI (mM c1 c2 ok @gB @eN @cG @cW) ?_
 refine ae (g2 _ _ ⟨rfl,rfl,rfl,rfl⟩ (by simp[AV.ids,AV.cV,AV.gF])) ?_
 refine aI (mM c1 c2 ok @gB @eN @cG @cW) ?_
 refine ae (g2 _ _ ⟨rfl,rfl,rfl,rfl⟩ (by simp[AV.ids,AV.cV,AV.gF])) ?_
 refine aI (mM c1 c2 ok @gB @eN @cG @cW) ?_
 refine ae (g2 _ _ ⟨rfl,rfl,rfl,rfl⟩ (by simp[AV.ids,AV.cV,AV.gF])) ?_
 refine aI (mM c1 c2 ok @gB @eN @cG @cW) ?_
 refine ae (g2 _ _ ⟨rfl,rfl,rfl,rfl⟩ (by simp[AV.ids,AV.cV,AV.gF])) ?_
 refine aI (mM c1 c2 ok @gB @eN @cG @cW) ?_
 refine ae (g2 _ _ ⟨rfl,rfl,rfl,rfl⟩ (by simp[AV.ids,AV.cV,AV.gF])) ?_
 refine aI (mM c1 c2 ok @gB @eN @cG @cW) ?_
 refine ae (g2 _ _ ⟨rfl,rfl,rfl,rfl⟩ (by simp[AV.ids,AV.cV,AV.gF])) ?_
 refine aI (mM c1 c2 ok @gB @eN @cG @cW) ?_
 refine ae (g2 _ _ ⟨rfl,rfl,rfl,rfl⟩ (by simp[AV.ids,AV.cV,AV.gF])) ?_
 refine aI (mM c1 c2 ok @gB @eN @cG @cW) ?_
 refine ae (g2 _ _ ⟨rfl,rfl,rfl,rfl⟩ (by simp[AV.ids,AV.cV,AV.gF])) ?_
 refine aI (mM c1 c2 ok @gB @eN @cG @cW) ?_
 refine ae (g1 _ _) ?_
 refine aI (mM c1 c2 ok @gB @eN @cG @cW) ?_
 refine ae (g2 _ _ ⟨rfl,rfl,rfl,rfl⟩ (by simp[AV.ids,AV.cV,AV.gF])) ?_
 refine aI (mM c1 c2 ok @gB @eN @cG @cW) ?_
 refine ae (g2 _ _ ⟨rfl,rfl,rfl,rfl⟩ (by simp[AV.ids,AV.cV,AV.gF])) ?_
 refine aI (mM c1 c2 ok @gB @eN @cG @cW) ?_
 refine ae (g2 _ _ ⟨rfl,rfl,rfl,rfl⟩ (by simp[AV.ids,AV.cV,AV.gF])) ?_
 refine aI (mM c1 c2 ok @gB @eN @cG @cW) ?_
 refine ae (g2 _ _ ⟨rfl,rfl,rfl,rfl⟩ (by simp[AV.ids,AV.cV,AV.gF])) ?_
 have mj:=TT k
 have hsome:=(TV (q:=.u8) (k:=k) (M:=xn)).trans (Pj k)
 rw[show xn.length=22 from rfl] at hsome
 obtain ⟨x,b,hR⟩:∃x b,K3 (mR k) = .agg [x,.sc (.bool b)]:=⟨_,_,rfl⟩
 have hx:x.ids (· < H.length)∧x.isAgg=false∧x.bT=false∧x.az=1∧x.cells=[x]:=by
  have e:x=yX (mR k).1:=by unfold K3 at hR;cases hR;rfl
  rw[e]
  unfold yX
  split
  ·exact ⟨⟨trivial,trivial⟩,rfl,rfl,rfl,rfl⟩
  ·exact ⟨⟨AV.rI.2 (by intro y hy;obtain ⟨n,_,rfl⟩:=List.mem_map.1 hy;trivial),trivial⟩,rfl,rfl,rfl,rfl⟩
 rw[hR] at mj
 generalize (mu k).isSome=s at *
 simp only[xn,jz,K3,yX,List.map_cons,List.map_nil,reduceCtorEq,if_false,if_true] at mj hsome
 refine aI (XE c1 c2 ok @gB @eN @cG @cW @TU @xh mj hsome hx.2.1 hx.2.2.1 hx.2.2.2.1 hx.2.2.2.2) ?_
 refine hL _ _ ?_
 clear hL
 refine aI (ei hx.2.1 hx.2.2.1 hx.2.2.2.1 hx.2.2.2.2) ?_
 rw[hR]
 refine dD (.cons (.cons (.cons .refl))) (.same ?_)
 exact ⟨⟨hx.1,trivial,trivial⟩,trivial,trivial⟩
def Dv(l:List Int):List AV:=l.map fun n=>.sc (.int .u8 n)
theorem lS(l:List Int):(Dv l).length=l.length:=by simp[Dv]
def tP(xs:List Int)(k:Nat):Int:=xs.getD k 0
theorem K4{l:List Int}{k:Nat}(h:k<l.length):(Dv l).getD k .top = .sc (.int .u8 (tP l k)):=by
 simp[Dv,tP,List.getD,h]
def yY(l:List Int)(s:Int):Bool:=l.any fun x=>decide (x=s)
def Dw(l:List Int)(s:Int):Int:=if yY l s=true then (l.findIdx (fun x=>decide (x=s)):Nat) else -1
theorem vZ{l:List Int}{k:Nat}(h:k<l.length):tP l k=l[k]:=by simp[tP,List.getD,h]
theorem Yi{l:List Int}{s:Int}{k:Nat}(h:k<l.length)(h1:tP l k=s):yY l s=true:=by
 rw[vZ h] at h1
 exact List.any_eq_true.2 ⟨l[k],List.getElem_mem h,by simp[h1]⟩
theorem Pk{l:List Int}{s:Int}(h2:∀j,j<l.length→¬tP l j=s):yY l s=false:=by
 cases h:yY l s
 ·rfl
 ·obtain ⟨x,hx,e⟩:=List.any_eq_true.1 h
  obtain ⟨j,hj,rfl⟩:=List.getElem_of_mem hx
  exact absurd (by rw[vZ hj];simpa using e) (h2 j hj)
theorem Yj{l:List Int}{s:Int}{k:Nat}(h:k<l.length)(h1:tP l k=s)(h2:∀j,j<k→¬tP l j=s):Dw l s=k:=by
 unfold Dw
 rw[if_pos (Yi h h1),(List.findIdx_eq h).2 ⟨by rw[vZ h] at h1;simp[h1],fun j hj=>?_⟩]
 have:=h2 j hj
 rw[vZ (by omega)] at this
 simp[this]
theorem Pm{l:List Int}{s:Int}(h2:∀j,j<l.length→¬tP l j=s):Dw l s=-1:=by
 unfold Dw
 rw[Pk h2]
 rfl
theorem Yk(l:List Int)(s:Int):decide (Dw l s≥0)=yY l s:=by
 unfold Dw
 cases yY l s<;>simp
set_option maxHeartbeats 4000000 in
theorem TW(l:List Int)(ro:Option (List AV))(s:Int)(hl:l.length≤1000000)(H:Y):D Tryz.prog 178 [.am 1 (Dv l) ro,.sc (.int .u8 s)] H (.ret (.sc (.int .i64 (Dw l s)))) H:=by
 refine aG (Nat.le_refl _) (afH (aA ?_))
 simp only[X8,ux]
 refine Z fun L hL=>?_
 refine eQ @lS ?_
 refine hL _ _ ?_
 clear hL
 refine Z fun L hL=>?_
 refine eQ @lS ?_
 refine aZ (fun ts F=>∃k:Nat,(k≤l.length∧∀j,j<k→¬tP l j=s)∧F=H∧Fr (some (.am 1 (Dv l) ro)::some (.sc (.int .u8 s))::none::fg (some (.sc (.int .i64 l.length))::some (.sc (.int .i64 k))::none::none::ir [])) ts) (fun ts _=>l.length-(aM (ts.getD 8 .top)).toNat) ?_ ?_
 ·exact ⟨0,⟨Nat.zero_le _,fun j h=>absurd h (Nat.not_lt_zero _)⟩,rfl,by simp[Fr]⟩
 rintro ts F ⟨k,⟨hk,hp⟩,rfl,aX⟩ L2 bM
 obtain ⟨js,rfl⟩:=aX.opened
 clear aX
 by_cases hd:k<l.length
 ·have c1:(k:Int)<l.length:=by omega
  have hg:=K4 hd
  by_cases e:s=tP l k
  ·have hi:=Yj hd e.symm hp
   refine df (ei c1 hg @lS e.symm) ?_
   rw[hi]
   exact ⟨by omega,bL .refl⟩
  ·refine df (ei c1 hg @lS e) ?_
   refine ⟨by omega,bM _ _ ⟨k+1,⟨by omega,fun j hj=>?_⟩,rfl,by simp[Fr]⟩ (by simp[aM,mk];omega)⟩
   rcases Nat.lt_succ_iff_lt_or_eq.1 hj with h'|rfl
   ·exact hp j h'
   ·exact fun h=>e h.symm
 ·have c1:¬(k:Int)<l.length:=by omega
  have hi:=Pm fun j hj=>hp j (by omega)
  refine df c1 ?_
  refine hL _ _ ?_
  clear hL
  refine fh ?_
  rw[hi]
  exact bL .refl
theorem yZ(l:List Int)(ro:Option (List AV))(s:Int)(hl:l.length≤1000000)(H:Y):D Tryz.prog 121 [.am 1 (Dv l) ro,.sc (.int .u8 s)] H (.ret (.sc (.bool (yY l s)))) H:=by
 refine aG (Nat.le_refl _) (afG (aA ?_))
 have he:=Yk l s
 simp -implicitDefEqProofs (maxSteps:=99999999) (disch:=first|omega|(simp only[vl]<;>omega)) only[vu,X7,va,vg,vs,vw,vk,simprocAttr]
 refine ae (TW l ro s hl _) ?_
 refine aw ?_
 exact aq .refl he
def mS(l:List ByteArray)(s:ByteArray):Bool:=l.any fun x=>decide (x=s)
def kK(l:List ByteArray)(s:ByteArray):Int:=if mS l s=true then (l.findIdx (fun x=>decide (x=s)):Nat) else -1
theorem v8{l:List ByteArray}{k:Nat}(h:k<l.length):nU l k=l[k]:=by simp[nU,List.getD,h]
theorem Dx{l:List ByteArray}{s:ByteArray}{k:Nat}(h:k<l.length)(h1:nU l k=s):mS l s=true:=by
 rw[v8 h] at h1
 exact List.any_eq_true.2 ⟨l[k],List.getElem_mem h,by simp[h1]⟩
theorem xp{l:List ByteArray}{s:ByteArray}(h2:∀j,j<l.length→¬nU l j=s):mS l s=false:=by
 cases h:mS l s
 ·rfl
 ·obtain ⟨x,hx,e⟩:=List.any_eq_true.1 h
  obtain ⟨j,hj,rfl⟩:=List.getElem_of_mem hx
  exact absurd (by rw[v8 hj];simpa using e) (h2 j hj)
theorem Yl{l:List ByteArray}{s:ByteArray}{k:Nat}(h:k<l.length)(h1:nU l k=s)(h2:∀j,j<k→¬nU l j=s):kK l s=k:=by
 unfold kK
 rw[if_pos (Dx h h1),(List.findIdx_eq h).2 ⟨by rw[v8 h] at h1;simp[h1],fun j hj=>?_⟩]
 have:=h2 j hj
 rw[v8 (by omega)] at this
 simp[this]
theorem Pn{l:List ByteArray}{s:ByteArray}(h2:∀j,j<l.length→¬nU l j=s):kK l s=-1:=by
 unfold kK
 rw[xp h2]
 rfl
theorem Ym(l:List ByteArray)(s:ByteArray):decide (kK l s≥0)=mS l s:=by
 unfold kK
 cases mS l s<;>simp
set_option maxHeartbeats 4000000 in
theorem TX(l:List ByteArray)(ro:Option (List AV))(s:ByteArray)(hl:l.length≤1000000)(H:Y):D Tryz.prog 114 [.am 1 (strs l) ro,.sc (.string s)] H (.ret (.sc (.int .i64 (kK l s)))) H:=by
 refine aG (Nat.le_refl _) (afI (aA ?_))
 simp only[X9,ux]
 refine Z fun L hL=>?_
 refine eQ @dM ?_
 refine hL _ _ ?_
 clear hL
 refine Z fun L hL=>?_
 refine eQ @dM ?_
 refine aZ (fun ts F=>∃k:Nat,(k≤l.length∧∀j,j<k→¬nU l j=s)∧F=H∧Fr (some (.am 1 (strs l) ro)::some (.sc (.string s))::none::fg (some (.sc (.int .i64 l.length))::some (.sc (.int .i64 k))::none::none::ir [])) ts) (fun ts _=>l.length-(aM (ts.getD 8 .top)).toNat) ?_ ?_
 ·exact ⟨0,⟨Nat.zero_le _,fun j h=>absurd h (Nat.not_lt_zero _)⟩,rfl,by simp[Fr]⟩
 rintro ts F ⟨k,⟨hk,hp⟩,rfl,aX⟩ L2 bM
 obtain ⟨js,rfl⟩:=aX.opened
 clear aX
 by_cases hd:k<l.length
 ·have c1:(k:Int)<l.length:=by omega
  have hg:=Ao hd
  by_cases e:s=nU l k
  ·have hi:=Yl hd e.symm hp
   refine df (ei c1 hg @dM e.symm) ?_
   rw[hi]
   exact ⟨by omega,bL .refl⟩
  ·refine df (ei c1 hg @dM e) ?_
   refine ⟨by omega,bM _ _ ⟨k+1,⟨by omega,fun j hj=>?_⟩,rfl,by simp[Fr]⟩ (by simp[aM,mk];omega)⟩
   rcases Nat.lt_succ_iff_lt_or_eq.1 hj with h'|rfl
   ·exact hp j h'
   ·exact fun h=>e h.symm
 ·have c1:¬(k:Int)<l.length:=by omega
  have hi:=Pn fun j hj=>hp j (by omega)
  refine df c1 ?_
  refine hL _ _ ?_
  clear hL
  refine fh ?_
  rw[hi]
  exact bL .refl
theorem y2(l:List ByteArray)(ro:Option (List AV))(s:ByteArray)(hl:l.length≤1000000)(H:Y):D Tryz.prog 59 [.am 1 (strs l) ro,.sc (.string s)] H (.ret (.sc (.bool (mS l s)))) H:=by
 refine aG (Nat.le_refl _) (aho (aA ?_))
 have he:=Ym l s
 simp -implicitDefEqProofs (maxSteps:=99999999) (disch:=first|omega|(simp only[vl]<;>omega)) only[vu,acZ,va,vg,vs,vw,vk,simprocAttr]
 refine ae (TX l ro s hl _) ?_
 refine aw ?_
 exact aq .refl he
theorem K7{l:List Int}(h:l≠[]):yX l = .am 1 (Dv l) (some []):=if_neg h
theorem adb(k f:Int)(H:Y):D Tryz.prog 127 [.sc (.int .u8 k),.sc (.int .u8 f)] H (.ret (.sc (.bool (yW k f)))) H:=by
 refine aG (Nat.le_refl _) (afB (aA ?_))
 simp only[X0,ux]
 by_cases c1:f=200
 ·by_cases g1:k≥20
  ·refine aI (ak c1 g1) ?_
   exact aq .refl (by simp[yW,c1,eY];intro;omega)
  ·refine aI (ak c1 g1) ?_
   exact aq .refl (by simp[yW,c1,eY];omega)
 by_cases c2:f=201
 ·by_cases g1:k≥6
  ·by_cases g2:k≤12
   ·refine aI (gq c2 g1 g2) ?_
    exact aq .refl (by simp[yW,c2,oA];omega)
   ·refine aI (gq c2 g1 g2) ?_
    exact aq .refl (by simp[yW,c2,oA];omega)
  ·refine aI (ak c2 g1) ?_
   exact aq .refl (by simp[yW,c2,oA];omega)
 by_cases c3:f=202
 ·by_cases g1:k=22
  ·refine aI (ak c3 g1) ?_
   exact aq .refl (by simp[yW,c3,g1])
  ·refine aI (ak c3 g1) ?_
   exact aq .refl (by simp[yW,c3,g1])
 refine aI (gq c1 c2 c3) ?_
 exact aq .refl (by simp[yW,c1,c2,c3])
theorem GA{p:Int}(h:(mR p).2=true):(mR p).1≠[]:=by
 rcases vb p with ⟨hn,_⟩|hm
 ·unfold mR at h;rw[hn] at h;cases h
 ·simp only[jz,List.map_cons,List.map_nil,List.mem_cons,List.not_mem_nil,or_false] at hm
  rcases hm with rfl|rfl|rfl|rfl|rfl|rfl|rfl|rfl|rfl|rfl|rfl|rfl|rfl|rfl|rfl|rfl|rfl|rfl|rfl|rfl|rfl|rfl<;>first|(exact absurd h (by decide))|(simp[mR,mu,jz,kQ])
theorem K8(l:List Int):pR (yX l)=l.length∧oy (yX l)∧(yX l).bT=false∧(yX l).isAgg=false∧(yX l).az=1∧(yX l).cells=[yX l]:=by
 unfold yX
 split
 ·rename_i h;subst h;exact ⟨rfl,trivial,rfl,rfl,rfl,rfl⟩
 ·exact ⟨by simp[pR],trivial,rfl,rfl,rfl,rfl⟩
set_option maxHeartbeats 4000000 in
theorem abX(p k a:Int)(H:Y):D Tryz.prog 71 [.sc (.int .u8 p),.sc (.int .u8 k),.sc (.int .i64 a)] H (.ret (.sc (.bool (xm p k a)))) H:=by
 refine aG (Nat.le_refl _) (ahj (aA ?_))
 simp only[acU,ux]
 have hr:=Rh p
 unfold K3 at hr
 have hP:xm p k a=if a<0 then false else if (mR p).2 then yW k ((mR p).1.getD 0 0) else decide (a<(mR p).1.length) && yW k ((mR p).1.getD a.toNat 0):=rfl
 have hall:=GA (p:=p)
 generalize (mu p).isSome=s at *
 obtain ⟨l,b,hG⟩:∃l b,mR p=(l,b):=⟨_,_,rfl⟩
 rw[hG] at hr hP hall
 simp only at hr hP hall
 obtain ⟨k1,k2,k3,k4,k5,k6⟩:=K8 l
 refine Z fun L hL=>?_
 refine aw ?_
 refine hL _ _ ?_
 clear hL
 refine Z fun L hL=>?_
 refine aw ?_
 refine ae (hr _) ?_
 refine aI (ei k3 k4 k5 k6) ?_
 refine hL _ _ ?_
 clear hL
 refine Z fun L hL=>?_
 by_cases c1:a<0
 ·refine aI (kY c1 k3 k4 k5 k6) ?_
  exact aq (.cons .refl) (by rw[hP,if_pos c1])
 rw[if_neg c1] at hP
 cases b
 case true =>
  have hne:=hall rfl
  obtain ⟨x,r,rfl⟩:=List.exists_cons_of_ne_nil hne
  rw[K7 hne] at *
  simp -implicitDefEqProofs (maxSteps:=99999999) (disch:=first|omega|(simp only[vl]<;>omega)) only[vu,c1,lS,Dv,List.map_cons,va,vg,vs,vw,vk,simprocAttr]
  refine ⟨by omega,ae (adb _ _ _) ?_⟩
  refine aw ?_
  exact aq (.cons .refl) (by rw[hP];rfl)
 case false =>
  simp only[Bool.false_eq_true,if_false] at hP
  refine aI (kY c1 k3 k4 k5 k6) ?_
  refine hL _ _ ?_
  clear hL
  by_cases c2:a<l.length
  ·have hne:l≠[]:=fun e=>by rw[e] at c2;simp at c2;omega
   obtain ⟨n,rfl⟩:∃n:Nat,a=n:=⟨a.toNat,by omega⟩
   have hn:n<l.length:=by omega
   rw[K7 hne] at *
   simp -implicitDefEqProofs (maxSteps:=99999999) (disch:=first|omega|(simp only[vl]<;>omega)) only[vu,c2,lS,K4 hn,va,vg,vs,vw,vk,simprocAttr]
   refine ⟨by omega,ae (adb _ _ _) ?_⟩
   refine aw ?_
   exact aq (.cons .refl) (by rw[hP];simp[c2,hn,tP])
  ·refine aI (mM c2 k1 k2 k3 k4 k5 k6) ?_
   exact aq (.cons .refl) (by rw[hP];simp[c2])
theorem Dy(k:Int):yY [2,4,6,22,25] k=eM k:=by
 simp[yY,eM,eq_comm,Bool.or_assoc]
theorem K9(k:Int)(H:Y):D Tryz.prog 117 [.sc (.int .u8 k)] H (.ret (.sc (.bool (eM k)))) H:=by
 refine aG (Nat.le_refl _) (afA (aA ?_))
 simp only[XZ,ux]
 have hc:=yZ [2,4,6,22,25] (some []) k (by decide)
 rw[show Dv [2,4,6,22,25]=[.sc (.int .u8 2),.sc (.int .u8 4),.sc (.int .u8 6),.sc (.int .u8 22),.sc (.int .u8 25)] from rfl] at hc
 refine aw ?_
 refine ae (hc _) ?_
 refine aw ?_
 exact aq .refl (Dy k)
theorem eR{F H:Y}(h:Over H F){a b:Int}(e:a=b):eB H (.ret (.sc (.int .i64 a))) F (.ret (.sc (.int .i64 b))) H:=by
 subst e
 exact dD h (.same trivial)
theorem La(k:Int)(H:Y):D Tryz.prog 131 [.sc (.int .u8 k)] H (.ret (.sc (.int .i64 (eZ k)))) H:=by
 refine aG (Nat.le_refl _) (afM (aA ?_))
 simp only[Yd,ux]
 by_cases c1:k=1
 ·subst c1
  refine aw ?_
  exact eR .refl rfl
 by_cases c3:k=3
 ·subst c3
  refine aw ?_
  exact eR .refl rfl
 by_cases c5:k=5
 ·subst c5
  refine aw ?_
  exact eR .refl rfl
 by_cases qF:k=25
 ·subst qF
  refine aw ?_
  exact eR .refl rfl
 by_cases c2:k=2
 ·subst c2
  refine aw ?_
  exact eR .refl rfl
 by_cases c7:k=7
 ·subst c7
  refine aw ?_
  exact eR .refl rfl
 by_cases c9:k=9
 ·subst c9
  refine aw ?_
  exact eR .refl rfl
 by_cases c24:k=24
 ·subst c24
  refine aw ?_
  exact eR .refl rfl
 by_cases c26:k=26
 ·subst c26
  refine aw ?_
  exact eR .refl rfl
 by_cases c27:k=27
 ·subst c27
  refine aw ?_
  exact eR .refl rfl
 by_cases c8:k=8
 ·subst c8
  refine aw ?_
  exact eR .refl rfl
 by_cases c6:k=6
 ·subst c6
  refine aw ?_
  exact eR .refl rfl
 by_cases c10:k=10
 ·subst c10
  refine aw ?_
  exact eR .refl rfl
 by_cases c11:k=11
 ·subst c11
  refine aw ?_
  exact eR .refl rfl
 by_cases c23:k=23
 ·subst c23
  refine aw ?_
  exact eR .refl rfl
 by_cases c28:k=28
 ·subst c28
  refine aw ?_
  exact eR .refl rfl
 by_cases c12:k=12
 ·subst c12
  refine aw ?_
  exact eR .refl rfl
 simp -implicitDefEqProofs (maxSteps:=99999999) (disch:=first|omega|(simp only[vl]<;>omega)) only[vu,c1,c3,c5,qF,c2,c7,c9,c24,c26,c27,c8,c6,c10,c11,c23,c28,c12,va,vg,vs,vw,vk,simprocAttr]
 exact eR .refl (by simp[eZ,c1,c3,c5,qF,c2,c7,c9,c24,c26,c27,c8,c6,c10,c11,c23,c28,c12])
theorem GB(k:Int)(H:Y):D Tryz.prog 182 [.sc (.int .u8 k)] H (.ret (.sc (.bool (eM k)))) H:=by
 refine aG (Nat.le_refl _) (afQ (aA ?_))
 simp only[Yh,ux]
 by_cases c2:k=2
 ·subst c2
  refine aw ?_
  exact aq .refl rfl
 by_cases c4:k=4
 ·subst c4
  refine aw ?_
  exact aq .refl rfl
 by_cases c6:k=6
 ·subst c6
  refine aw ?_
  exact aq .refl rfl
 by_cases qG:k=22
 ·subst qG
  refine aw ?_
  exact aq .refl rfl
 by_cases qF:k=25
 ·subst qF
  refine aw ?_
  exact aq .refl rfl
 refine aI (kY c2 c4 c6 qG qF) ?_
 exact aq .refl (by simp[eM,c2,c4,c6,qG,qF])
theorem Yn(k:Int)(H:Y):D Tryz.prog 183 [.sc (.int .u8 k)] H (.ret (.sc (.bool (oA k)))) H:=by
 refine aG (Nat.le_refl _) (afN (aA ?_))
 simp only[Ye,ux]
 by_cases c5:k=5
 ·subst c5
  refine aw ?_
  exact aq .refl rfl
 by_cases g1:k≥6
 ·by_cases g2:k≤12
  ·refine aI (gq c5 g1 g2) ?_
   exact aq .refl (by simp[oA,c5];omega)
  ·refine aI (gq c5 g1 g2) ?_
   exact aq .refl (by simp[oA,c5];omega)
 ·refine aI (ak c5 g1) ?_
  exact aq .refl (by simp[oA,c5];omega)
theorem nV(k:Int)(H:Y):D Tryz.prog 130 [.sc (.int .u8 k)] H (.ret (.sc (.bool (eY k)))) H:=by
 refine aG (Nat.le_refl _) (afO (aA ?_))
 simp only[Yf,ux]
 by_cases g1:k≥20
 ·by_cases g2:k≤29
  ·refine aI (ak g1 g2) ?_
   exact aq .refl (by simp[eY];omega)
  ·refine aI (ak g1 g2) ?_
   exact aq .refl (by simp[eY];omega)
 ·refine aI g1 ?_
  exact aq .refl (by simp[eY];omega)
theorem Yo(p k a:Int)(H:Y):D Tryz.prog 133 [.sc (.int .u8 p),.sc (.int .u8 k),.sc (.int .i64 a)] H (.ret (.sc (.bool (eA p k a)))) H:=by
 refine aG (Nat.le_refl _) (afL (aA ?_))
 simp only[Yc,ux]
 obtain ⟨m,hm⟩:∃m,eZ p=m:=⟨_,rfl⟩
 refine Z fun L hL=>?_
 refine aw ?_
 refine hL _ _ ?_
 clear hL
 refine Z fun L hL=>?_
 refine aw ?_
 refine ae (La p _) ?_
 refine aI hm ?_
 refine hL _ _ ?_
 clear hL
 refine Z fun L hL=>?_
 by_cases c0:a<0
 ·have hq:eA p k a=false:=by unfold eA;rw[if_pos (.inl c0)]
  refine aI c0 ?_
  exact aq .refl hq.symm
 by_cases c1:m≥0∧a≥m
 ·have hq:eA p k a=false:=by unfold eA;rw[hm,if_pos (.inr c1)]
  refine aI (gq c0 c1.1 c1.2) ?_
  exact aq .refl hq.symm
 have hq:eA p k a=if p=1 then decide (k=2)
  else if p=2 then decide (a=0∧k=3)|| decide (a=1∧k=5)
  else if p=3 then decide (k=4)
  else if p=5 then oA k
  else if p=7 then decide (a=0∧(k=22∨k=26))|| (decide (a=1) && eY k)
  else if p=8∨p=9 then (decide (a=0) && eY k)|| decide (a > 0∧k=5)
  else if p=12 then decide (k=25)
  else eY k:=by
  unfold eA
  rw[if_neg (by rw[hm];exact fun h=>h.elim c0 c1)]
 suffices ∀b1 b2 b3 b4 b5 b6 b7 b8 b9 b10 b11,L ([.sc (.int .u8 p),.sc (.int .u8 k),.sc (.int .i64 a),.aO [],.aO [],.aO [],.sc (.bool false),.sc (.int .i64 m),.sc (.int .u8 p),.sc (.int .i64 m),b1,b2,b3,b4,b5,b6,b7,b8,b9,b10,b11,.aO [],.aO [],.aO [],.aO [],.aO [],.aO [],.aO [],.aO [],.aO [],.aO [],.aO [],.aO [],.aO [],.aO [],.aO [],.aO [],.aO [],.aO [],.aO [],.aO [],.aO [],.aO [],.aO [],.aO [],.aO [],.aO [],.aO [],.aO [],.aO [],.aO [],.aO [],.aO [],.aO [],.aO [],.aO [],.aO [],.aO [],.aO [],.aO [],.aO [],.aO [],.aO [],.aO [],.aO [],.aO [],.aO [],.aO [],.aO [],.aO [],.aO [],.aO [],.aO [],.aO [],.aO [],.aO [],.aO [],.aO [],.aO [],.aO [],.aO [],.aO [],.aO [],.aO [],.aO [],.aO [],.aO [],.aO [],.aO [],.aO [],.aO [],.aO [],.aO []]) H by
  by_cases c2:m≥0
  ·have c3:¬a≥m:=fun h=>c1 ⟨c2,h⟩
   refine aI (gq c0 c2 c3) ?_
   exact this _ _ _ _ _ _ _ _ _ _ _
  ·refine aI (ak c0 c2) ?_
   exact this _ _ _ _ _ _ _ _ _ _ _
 intro b1 b2 b3 b4 b5 b6 b7 b8 b9 b10 b11
 clear hm c1
 by_cases p1:p=1
 ·subst p1
  refine hL _ _ ?_
  clear hL
  refine Z fun L hL=>?_
  refine aw ?_
  exact aq .refl (by simp[hq])
 by_cases p2:p=2
 ·subst p2
  refine hL _ _ ?_
  clear hL
  refine Z fun L hL=>?_
  by_cases ca:a=0
  ·subst ca
   by_cases ck:k=3
   ·subst ck
    refine aw ?_
    exact aq .refl (by simp[hq])
   ·skip
    refine aI ck ?_
    exact aq .refl (by simp[hq,ck])
  by_cases cb:a=1
  ·subst cb
   refine aw ?_
   exact aq .refl (by simp[hq])
  refine aI (ak ca cb) ?_
  exact aq .refl (by simp[hq,ca,cb])
 by_cases p3:p=3
 ·subst p3
  refine hL _ _ ?_
  clear hL
  refine Z fun L hL=>?_
  refine aw ?_
  exact aq .refl (by simp[hq])
 by_cases p5:p=5
 ·subst p5
  refine hL _ _ ?_
  clear hL
  refine Z fun L hL=>?_
  refine aw ?_
  refine ae (Yn _ _) ?_
  refine aw ?_
  exact aq .refl (by simp[hq])
 by_cases p7:p=7
 ·subst p7
  refine hL _ _ ?_
  clear hL
  refine Z fun L hL=>?_
  by_cases ca:a=0
  ·subst ca
   by_cases ck:k=22
   ·subst ck
    refine aw ?_
    exact aq .refl (by simp[hq])
   by_cases cl:k=26
   ·subst cl
    refine aw ?_
    exact aq .refl (by simp[hq])
   simp -implicitDefEqProofs (maxSteps:=99999999) (disch:=first|omega|(simp only[vl]<;>omega)) only[vu,ck,cl,va,vg,vs,vw,vk,simprocAttr]
   exact aq .refl (by simp[hq,ck,cl])
  by_cases cb:a=1
  ·subst cb
   refine aw ?_
   refine ae (nV _ _) ?_
   refine aw ?_
   exact aq .refl (by simp[hq])
  refine aI (ak ca cb) ?_
  exact aq .refl (by simp[hq,ca,cb])
 by_cases p8:p=8
 ·subst p8
  refine hL _ _ ?_
  clear hL
  refine Z fun L hL=>?_
  by_cases ca:a=0
  ·subst ca
   cases hx:eY k
   ·refine aw ?_
    refine ae (nV _ _) ?_
    refine aI hx ?_
    exact aq .refl (by simp[hq,hx])
   ·refine aw ?_
    refine ae (nV _ _) ?_
    refine aI hx ?_
    exact aq .refl (by simp[hq,hx])
  by_cases cb:a > 0
  ·skip
   refine aI (ak ca cb) ?_
   exact aq .refl (by simp[hq,ca,cb])
  omega
 by_cases p9:p=9
 ·subst p9
  refine hL _ _ ?_
  clear hL
  refine Z fun L hL=>?_
  by_cases ca:a=0
  ·subst ca
   cases hx:eY k
   ·refine aw ?_
    refine ae (nV _ _) ?_
    refine aI hx ?_
    exact aq .refl (by simp[hq,hx])
   ·refine aw ?_
    refine ae (nV _ _) ?_
    refine aI hx ?_
    exact aq .refl (by simp[hq,hx])
  by_cases cb:a > 0
  ·skip
   refine aI (ak ca cb) ?_
   exact aq .refl (by simp[hq,ca,cb])
  omega
 by_cases p12:p=12
 ·subst p12
  refine hL _ _ ?_
  clear hL
  refine Z fun L hL=>?_
  refine aw ?_
  exact aq .refl (by simp[hq])
 refine hL _ _ ?_
 clear hL
 refine Z fun L hL=>?_
 refine aI (Dq p1 p2 p3 p5 p7 p8 p9 p12) ?_
 refine hL _ _ ?_
 clear hL
 refine aI (Dq p1 p2 p3 p5 p7 p8 p9 p12) ?_
 refine ae (nV _ _) ?_
 refine aw ?_
 exact aq .refl (by simp[hq,p1,p2,p3,p5,p7,p8,p9,p12])
def Bs(k:Int):Int:=IntKind.u8.wrap ↑(BitVec.ofInt IntKind.u8.bits k||| BitVec.ofInt IntKind.u8.bits 32).toNat
theorem y3(k:Int):IntKind.u8.wrap ↑(BitVec.ofInt IntKind.u8.bits k||| BitVec.ofInt IntKind.u8.bits 32).toNat=Bs k:=rfl
def wM(k:Int):Bool:=decide (97≤Bs k∧Bs k≤122)|| decide (k=95)
def qS(k:Int):Bool:=decide (97≤k∧k≤122)|| decide (65≤k∧k≤90)|| decide (k=95)
def vc(k:Int):Bool:=decide (48≤k∧k≤57)
theorem GC{k:Int}(h0:0≤k)(h1:k<256):wM k=qS k:=by
 have h:∀n:Fin 256,wM (n.val:Int)=qS (n.val:Int):=by decide +kernel
 have:=h ⟨k.toNat,by omega⟩
 rwa [show ((k.toNat:Nat):Int)=k by omega] at this
theorem Au(k:Int)(H:Y):D Tryz.prog 72 [.sc (.int .u8 k)] H (.ret (.sc (.bool (wM k)))) H:=by
 refine aG (Nat.le_refl _) (ahq (aA ?_))
 simp only[ac1,ux]
 by_cases g3:k=95
 ·subst g3
  have g1:Bs 95≥97:=by decide +kernel
  have g2:¬Bs 95≤122:=by decide +kernel
  refine aI (gq @y3 g1 g2) ?_
  exact aq .refl (by simp[wM])
 by_cases g1:Bs k≥97
 ·by_cases g2:Bs k≤122
  ·refine aI (gq @y3 g1 g2) ?_
   exact aq .refl (by simp[wM,g1,g2])
  ·refine aI (ei @y3 g1 g2 g3) ?_
   exact aq .refl (by simp[wM,g2,g3])
 ·have g2:¬97≤Bs k:=g1
  refine aI (gq @y3 g1 g3) ?_
  exact aq .refl (by simp[wM,g2,g3])
theorem Yp(k:Int)(H:Y):D Tryz.prog 74 [.sc (.int .u8 k)] H (.ret (.sc (.bool (wM k|| vc k)))) H:=by
 refine aG (Nat.le_refl _) (ahs (aA ?_))
 simp only[ac3,ux]
 refine aw ?_
 refine ae (Au _ _) ?_
 cases h:wM k
 ·by_cases g1:k≥48
  ·by_cases g2:k≤57
   ·refine aI (ak g1 g2) ?_
    exact aq .refl (by simp[vc,g2];omega)
   ·refine aI (ak g1 g2) ?_
    exact aq .refl (by simp[vc,g2])
  ·refine aI g1 ?_
   exact aq .refl (by simp[vc];omega)
 ·refine aw ?_
  exact aq .refl rfl
theorem xq(k:Int)(H:Y):D Tryz.prog 78 [.sc (.int .u8 k)] H (.ret (.sc (.bool (qS k)))) H:=by
 refine aG (Nat.le_refl _) (ahw (aA ?_))
 simp only[ac7,ux]
 by_cases g1:k≥97
 ·by_cases g2:k≤122
  ·refine aI (ak g1 g2) ?_
   exact aq .refl (by simp[qS,g2];omega)
  ·have g3:k≥65:=by omega
   have g4:¬k≤90:=by omega
   have g5:¬k=95:=by omega
   refine aI (kY g1 g2 g3 g4 g5) ?_
   exact aq .refl (by simp[qS,g2,g4,g5])
 ·by_cases g3:k≥65
  ·by_cases g4:k≤90
   ·refine aI (gq g1 g3 g4) ?_
    exact aq .refl (by simp[qS,g4];omega)
   ·by_cases g5:k=95
    ·refine aI (ei g1 g3 g4 g5) ?_
     exact aq .refl (by simp[qS,g5])
    ·refine aI (ei g1 g3 g4 g5) ?_
     exact aq .refl (by simp[qS,g4,g5];omega)
  ·have g5:¬k=95:=by omega
   refine aI (gq g1 g3 g5) ?_
   exact aq .refl (by simp[qS,g5];omega)
theorem TY(k:Int)(H:Y):D Tryz.prog 81 [.sc (.int .u8 k)] H (.ret (.sc (.bool (vc k)))) H:=by
 refine aG (Nat.le_refl _) (ahz (aA ?_))
 simp only[ada,ux]
 by_cases g1:k≥48
 ·by_cases g2:k≤57
  ·refine aI (ak g1 g2) ?_
   exact aq .refl (by simp[vc,g2];omega)
  ·refine aI (ak g1 g2) ?_
   exact aq .refl (by simp[vc,g2])
 ·refine aI g1 ?_
  exact aq .refl (by simp[vc];omega)
def qT:List ByteArray:=[⟨#[102,117,110,99]⟩,⟨#[118,97,114]⟩,⟨#[105,102]⟩,⟨#[101,108,115,101]⟩,⟨#[119,104,105,108,101]⟩,⟨#[114,101,116,117,114,110]⟩,⟨#[112,114,105,110,116]⟩,⟨#[116,114,117,101]⟩,⟨#[102,97,108,115,101]⟩,⟨#[108,101,110]⟩,⟨#[114,101,97,100]⟩]
theorem TZ(H:Y):D Tryz.prog 80 [] H (.ret (.am 1 (strs qT) (some []))) H:=by
 refine aG (Nat.le_refl _) (ahy (aA ?_))
 simp only[ac9,ux]
 refine aw ?_
 exact dD .refl (.same ⟨⟨trivial,trivial,trivial,trivial,trivial,trivial,trivial,trivial,trivial,trivial,trivial,trivial⟩,trivial⟩)
open Go.RowKit Go.Shelf
theorem Yq {φ : aU} {H : Y} {w : World} (h : BL φ H w) : Lib.TabIs Tryz.prog w "strings.asciiSpace" .u8 Lib.asciiSpaceTab := by
 obtain ⟨⟨e,fr,h1⟩,_⟩:=h _ (List.mem_cons_self ..)
 unfold Lib.TabIs World.var?
 have hg : Tryz.prog.globalNamed "strings.asciiSpace" = some 0 := by kernel_rfl
 rw[hg]
 simp only[Option.bind_some,h1]
 congr 2
theorem Lb{φ:aU}{O:Nat→Prop}{w:World}{b:Nat}:∀(l:List ByteArray)(off:Nat),(∀j (h:j<l.length),cX w b (off+j) 0=some (.string l[j]))→Rl φ O w b 1 (strs l) off
 |[],_,_=>trivial
 |x::r,off,h=>by
  have h0:=h 0 (by simp)
  simp only[Nat.add_zero,List.getElem_cons_zero] at h0
  refine ⟨rfl,fun _=>⟨_,h0,rfl⟩,h0,Lb r (off+1) fun j hj=>?_⟩
  have:=h (j+1) (by simp;omega)
  rw[show off+1+j=off+(j+1) by omega]
  simpa using this
theorem Av(s:ByteArray)(l:List ByteArray)(hl:(Lib.fields s.data.toList).map (fun x=>(⟨x.toArray⟩:ByteArray))=l)(hs:s.size<4294967281)(hascii:∀(j:Nat) b,s.data.toList[j]? = some b→b.toNat<128)(hn:l.length≤1000000)(H:Y):D Tryz.prog 126 [.sc (.string s)] H (.ret (.am 1 (strs l) none)) H:=by
 refine ⟨Nat.le_refl _,fun φ w vs hR ha=>?_⟩
 obtain ⟨a,r,e1,a1,a2,e3⟩:=ha
 have ea:a = .string s:=cw ⟨a1,a2⟩
 have e3':r=[]:=e3
 have hvs:vs=#[.string s]:=by
  cases vs
  simp only at e1
  rw[e1,ea,e3']
 rw[hvs]
 refine (Any.strings_Fields Vg (by kernel_rfl) (by kernel_rfl) s w hs hascii (Yq hR.jB)).mono fun en w' ⟨he,hw⟩=>?_
 have ef:(Lib.fields s.data.toList).length=l.length:=by rw[←hl];simp
 have hcells:((Lib.fields s.data.toList).map fun l=>Value.string ⟨l.toArray⟩)=l.map Value.string:=by rw[←hl];simp[Function.comp_def]
 rw[hcells] at hw
 rw[ef] at he
 have hold:∀b,b<w.heap.size→w'.heap[b]? = w.heap[b]?:=fun b hb=>by rw[hw];exact heap_alloc_old w _ hb
 have hsz:w'.heap.size=w.heap.size+1:=by rw[hw];exact World.size_alloc w _
 have hno:¬Own φ H w.heap.size:=by
  rintro ⟨id,k,g1,_⟩
  have:=(hR.dom id _ g1).2
  omega
 refine ⟨φ,?_,hR.grow (by omega) hold,grow_step (by rw[hw];rfl) (by rw[hw];rfl) (by rw[hw];rfl) (by omega) hold⟩
 rw[he]
 refine ⟨rfl,_,l.length,?_,?_,?_,fun h=>by simp at h,fun _=>⟨w.heap.size,0,rfl,hno,by omega,Lb l 0 fun j hj=>?_⟩,trivial⟩
 ·simp[fR,Value.cells,strs]
 ·simp[strs]
 ·unfold maxLen;omega
 ·unfold cX
  rw[hw,World.cell?_alloc_at _ _ _ _ rfl]
  rw[show 0+j+0=j by omega,List.getElem?_toArray,List.getElem?_map,List.getElem?_eq_getElem hj]
  rfl
def fY(s:ByteArray)(k:Nat):Int:=((s.data.getD k 0).toNat:Int)
theorem GD(s:ByteArray)(k:Nat):0≤fY s k:=by unfold fY;omega
theorem GF(s:ByteArray)(k:Nat):fY s k<256:=by
 unfold fY
 have:=(s.data.getD k 0).toNat_lt
 omega
def rA(k:Int):Bool:=qS k|| vc k
theorem afS(s:ByteArray)(k:Nat):(wM (fY s k)|| vc (fY s k))=rA (fY s k):=by
 rw[GC (GD s k) (GF s k)];rfl
def GG(s:ByteArray):Bool:=(List.range s.size).all fun k=>rA (fY s k)
theorem Ri{s:ByteArray}{k:Nat}(hk:¬k<s.size)(h:∀j,j<k→rA (fY s j)=true):GG s=true :=
 List.all_eq_true.2 fun j hj=>h j (by have:=List.mem_range.1 hj;omega)
theorem Rj{s:ByteArray}{k:Nat}(hk:k<s.size)(h:rA (fY s k)=false):GG s=false:=by
 cases e:GG s
 ·rfl
 ·have:=List.all_eq_true.1 e k (List.mem_range.2 hk)
  rw[h] at this
  cases this
def iZ(s:ByteArray):Bool:=!decide (s.size=0) && decide (s.size≤24) && qS (fY s 0) && !mS qT s && GG s
theorem Yr{s:ByteArray}(h:¬s=⟨#[]⟩):s.size≠0:=fun e=>h (by
 cases s with
 | mk d=>exact congrArg _ (Array.eq_empty_of_size_eq_zero e))
theorem Lc(H:Y):D Tryz.prog 73 [] H (.ret (.am 1 (strs qT) none)) H:=by
 have hf:=Av ⟨#[102,117,110,99,32,118,97,114,32,105,102,32,101,108,115,101,32,119,104,105,108,101,32,114,101,116,117,114,110,32,112,114,105,110,116,32,116,114,117,101,32,102,97,108,115,101,32,108,101,110,32,114,101,97,100]⟩ qT (by decide +kernel) (by decide +kernel) (fun j b h=>by
  have h2:∀b∈([102,117,110,99,32,118,97,114,32,105,102,32,101,108,115,101,32,119,104,105,108,101,32,114,101,116,117,114,110,32,112,114,105,110,116,32,116,114,117,101,32,102,97,108,115,101,32,108,101,110,32,114,101,97,100]:List UInt8),b.toNat<128:=by decide +kernel
  exact h2 b (List.mem_of_getElem? h)) (by decide)
 refine aG (Nat.le_refl _) (ahr (aA ?_))
 simp only[ac2,ux]
 refine aw ?_
 refine ae (hf _) ?_
 refine aw ?_
 exact dD .refl (.same ⟨⟨trivial,trivial,trivial,trivial,trivial,trivial,trivial,trivial,trivial,trivial,trivial,trivial⟩,trivial⟩)
set_option maxHeartbeats 4000000 in
theorem afT(l:List ByteArray)(ro:Option (List AV))(s:ByteArray)(hl:l.length≤1000000)(H:Y):D Tryz.prog 79 [.sc (.string s),.am 1 (strs l) ro] H (.ret (.sc (.bool (mS l s)))) H:=by
 refine aG (Nat.le_refl _) (ahx (aA ?_))
 simp only[ac8,ux]
 refine Z fun L hL=>?_
 refine eQ @dM ?_
 refine hL _ _ ?_
 clear hL
 refine Z fun L hL=>?_
 refine eQ @dM ?_
 refine aZ (fun ts F=>∃k:Nat,(k≤l.length∧∀j,j<k→¬nU l j=s)∧F=H∧Fr (some (.sc (.string s))::some (.am 1 (strs l) ro)::none::none::some (.sc (.bool false))::some (.sc (.int .i64 k))::fg (ir [])) ts) (fun ts _=>l.length-(aM (ts.getD 5 .top)).toNat) ?_ ?_
 ·exact ⟨0,⟨Nat.zero_le _,fun j h=>absurd h (Nat.not_lt_zero _)⟩,rfl,by simp[Fr]⟩
 rintro ts F ⟨k,⟨hk,hp⟩,rfl,aX⟩ L2 bM
 obtain ⟨js,rfl⟩:=aX.opened
 clear aX
 by_cases hd:k<l.length
 ·have c1:(k:Int)<l.length:=by omega
  have hg:=Ao hd
  by_cases e:nU l k=s
  ·have hi:=Dx hd e
   refine df (ei c1 hg @dM e) ?_
   rw[hi]
   exact ⟨by omega,bL .refl⟩
  ·refine df (ei c1 hg @dM e) ?_
   refine ⟨by omega,bM _ _ ⟨k+1,⟨by omega,fun j hj=>?_⟩,rfl,by simp[Fr]⟩ (by simp[aM,mk];omega)⟩
   rcases Nat.lt_succ_iff_lt_or_eq.1 hj with h'|rfl
   ·exact hp j h'
   ·exact e
 ·have c1:¬(k:Int)<l.length:=by omega
  have hi:=xp fun j hj=>hp j (by omega)
  refine df (ak c1 @dM) ?_
  refine hL _ _ ?_
  clear hL
  refine fh ?_
  rw[hi]
  exact bL .refl
set_option maxHeartbeats 4000000 in
theorem Ld(s:ByteArray)(H:Y):D Tryz.prog 47 [.sc (.string s)] H (.ret (.sc (.bool (iZ s)))) H:=by
 refine aG (Nat.le_refl _) (ahv (aA ?_))
 simp only[ac6,ux]
 have hb:((s.data.getD (0:Int).toNat 0).toNat:Int)=fY s 0:=rfl
 have jO:∀k:Nat,((s.data.getD (k:Int).toNat 0).toNat:Int)=fY s k:=fun k=>rfl
 have Lf:∀k:Nat,((s.data.getD k 0).toNat:Int)=fY s k:=fun k=>rfl
 refine Z fun L hL=>?_
 refine aw ?_
 refine hL _ _ ?_
 clear hL
 refine Z fun L hL=>?_
 by_cases c0:s=⟨#[]⟩
 ·subst c0
  refine aw ?_
  exact aq .refl rfl
 have z0:=Yr c0
 by_cases c1:(s.size:Int) > 24
 ·refine aI (ak c0 c1) ?_
  exact aq .refl (by unfold iZ;simp;omega)
 cases c2:qS (fY s 0)
 ·refine aI (kY c0 c1 hb jO Lf) ?_
  refine ⟨by omega,ae (xq _ _) ?_⟩
  refine aI c2 ?_
  exact aq .refl (by simp[iZ,c2])
 refine aI (kY c0 c1 hb jO Lf) ?_
 refine ⟨by omega,ae (xq _ _) ?_⟩
 refine aI c2 ?_
 refine ae (TZ _) ?_
 refine aI c2 ?_
 refine ae (afT qT _ s (by decide) _) ?_
 cases c3:mS qT s
 rotate_left
 ·refine aw ?_
  exact aq .refl (by simp[iZ,c3])
 refine aw ?_
 refine hL _ _ ?_
 clear hL
 refine Z fun L hL=>?_
 refine aw ?_
 have hs:s.size≤24:=by omega
 have hN:iZ s=GG s:=by simp[iZ,c2,c3,z0,hs]
 refine aZ (fun ts F=>∃k:Nat,(k≤s.size∧∀j,j<k→rA (fY s j)=true)∧F=H∧Fr (some (.sc (.string s))::none::some (.sc (.bool false))::some (.sc (.int .i64 k))::fg (bf [])) ts) (fun ts _=>s.size-(aM (ts.getD 3 .top)).toNat) ?_ ?_
 ·exact ⟨0,⟨Nat.zero_le _,fun j h=>absurd h (Nat.not_lt_zero _)⟩,rfl,by simp[Fr]⟩
 rintro ts F ⟨k,⟨hk,hp⟩,rfl,aX⟩ L2 bM
 obtain ⟨js,rfl⟩:=aX.opened
 clear aX
 by_cases hd:k<s.size
 ·have d1:(k:Int)<s.size:=by omega
  refine df (ei d1 hb jO Lf) ?_
  refine ⟨by omega,ae (xq _ _) ?_⟩
  cases e1:qS (fY s k)
  ·refine aI (ei e1 hb jO Lf) ?_
   refine ⟨by omega,ae (TY _ _) ?_⟩
   cases e2:vc (fY s k)
   ·refine aw ?_
    exact aq .refl (by rw[hN,Rj hd (by simp[rA,e1,e2])])
   ·refine aw ?_
    refine bM _ _ ⟨k+1,⟨by omega,fun j hj=>?_⟩,rfl,by simp[Fr]⟩ (by simp[aM,mk];omega)
    rcases Nat.lt_succ_iff_lt_or_eq.1 hj with h'|rfl
    ·exact hp j h'
    ·simp[rA,e1,e2]
  ·refine aI e1 ?_
   refine bM _ _ ⟨k+1,⟨by omega,fun j hj=>?_⟩,rfl,by simp[Fr]⟩ (by simp[aM,mk];omega)
   rcases Nat.lt_succ_iff_lt_or_eq.1 hj with h'|rfl
   ·exact hp j h'
   ·simp[rA,e1]
 ·have d1:¬(k:Int)<s.size:=by omega
  refine df d1 ?_
  refine hL _ _ ?_
  clear hL
  refine fh ?_
  exact aq .refl (by rw[hN,Ri hd hp])
set_option maxHeartbeats 4000000 in
theorem Rk(s:ByteArray)(H:Y):D Tryz.prog 43 [.sc (.string s)] H (.ret (.sc (.bool (iZ s)))) H:=by
 refine aG (Nat.le_refl _) (ahp (aA ?_))
 simp only[ac0,ux]
 have hb:((s.data.getD (0:Int).toNat 0).toNat:Int)=fY s 0:=rfl
 have jO:∀k:Nat,((s.data.getD (k:Int).toNat 0).toNat:Int)=fY s k:=fun k=>rfl
 have Lf:∀k:Nat,((s.data.getD k 0).toNat:Int)=fY s k:=fun k=>rfl
 refine Z fun L hL=>?_
 refine aw ?_
 refine hL _ _ ?_
 clear hL
 refine Z fun L hL=>?_
 by_cases c0:s=⟨#[]⟩
 ·subst c0
  refine aw ?_
  exact aq .refl rfl
 have z0:=Yr c0
 by_cases c1:(s.size:Int) > 24
 ·refine aI (ak c0 c1) ?_
  exact aq .refl (by unfold iZ;simp;omega)
 have og:=GC (GD s 0) (GF s 0)
 cases c2:qS (fY s 0)
 ·refine aI (kY c0 c1 hb jO Lf) ?_
  refine ⟨by omega,ae (Au _ _) ?_⟩
  refine aI (ak og c2) ?_
  exact aq .refl (by simp[iZ,c2])
 refine aI (kY c0 c1 hb jO Lf) ?_
 refine ⟨by omega,ae (Au _ _) ?_⟩
 refine aI (ak og c2) ?_
 refine ae (Lc _) ?_
 refine aI c2 ?_
 refine ae (y2 qT _ s (by decide) _) ?_
 cases c3:mS qT s
 rotate_left
 ·refine aw ?_
  exact aq .refl (by simp[iZ,c3])
 refine aw ?_
 refine hL _ _ ?_
 clear hL
 refine Z fun L hL=>?_
 refine aw ?_
 have hs:s.size≤24:=by omega
 have hN:iZ s=GG s:=by simp[iZ,c2,c3,z0,hs]
 refine aZ (fun ts F=>∃k:Nat,(k≤s.size∧∀j,j<k→rA (fY s j)=true)∧F=H∧Fr (some (.sc (.string s))::none::some (.sc (.bool false))::fg (dL (some (.sc (.int .i64 s.size))::some (.sc (.int .i64 k))::ir []))) ts) (fun ts _=>s.size-(aM (ts.getD 24 .top)).toNat) ?_ ?_
 ·exact ⟨0,⟨Nat.zero_le _,fun j h=>absurd h (Nat.not_lt_zero _)⟩,rfl,by simp[Fr]⟩
 rintro ts F ⟨k,⟨hk,hp⟩,rfl,aX⟩ L2 bM
 obtain ⟨js,rfl⟩:=aX.opened
 clear aX
 by_cases hd:k<s.size
 ·have d1:(k:Int)<s.size:=by omega
  have hw:=afS s k
  refine df (ei d1 hb jO Lf) ?_
  refine ⟨by omega,ae (Yp _ _) ?_⟩
  rw[hw]
  cases e1:rA (fY s k)
  ·refine aw ?_
   exact aq .refl (by rw[hN,Rj hd e1])
  ·refine aw ?_
   refine bM _ _ ⟨k+1,⟨by omega,fun j hj=>?_⟩,rfl,by simp[Fr]⟩ (by simp[aM,mk];omega)
   rcases Nat.lt_succ_iff_lt_or_eq.1 hj with h'|rfl
   ·exact hp j h'
   ·exact e1
 ·have d1:¬(k:Int)<s.size:=by omega
  refine df d1 ?_
  refine hL _ _ ?_
  clear hL
  refine fh ?_
  exact aq .refl (by rw[hN,Ri hd hp])
def tc(l:List ByteArray)(s:ByteArray):Bool:=!decide (s=⟨#[]⟩) && mS l s
def Dz:List ByteArray:=[⟨#[45]⟩,⟨#[33]⟩]
def rB:List ByteArray:=[⟨#[124,124]⟩,⟨#[38,38]⟩,⟨#[61,61]⟩,⟨#[33,61]⟩,⟨#[60]⟩,⟨#[60,61]⟩,⟨#[62]⟩,⟨#[62,61]⟩,⟨#[43]⟩,⟨#[45]⟩,⟨#[42]⟩,⟨#[47]⟩,⟨#[37]⟩]
def kZ(t:Nd):Bool :=
 if t.kind=20 then decide (t.text=⟨#[]⟩) && decide (t.num≥0)
 else if t.kind=21 then decide (t.text=⟨#[]⟩) && (decide (t.num=0)|| decide (t.num=1))
 else if ¬t.num=0 then false
 else if eM t.kind then iZ t.text
 else if t.kind=23 then tc Dz t.text
 else if t.kind=24 then tc rB t.text
 else decide (t.text=⟨#[]⟩)
theorem Lg(s:ByteArray)(l:List ByteArray)(hl:l.length≤1000000)(hf:∀H,D Tryz.prog 126 [.sc (.string s)] H (.ret (.am 1 (strs l) none)) H)(t:Nd)(ro:Option (List AV))(H:Y):D Tryz.prog 125 [.sc (.string s),.ptr 4 H.length 0 0] (some ⟨4,[dZ t ro],true,25⟩::H) (.ret (.sc (.bool (tc l t.text)))) (some ⟨4,[dZ t ro],true,25⟩::H):=by
 refine aG (Nat.le_refl _) (afC (aA ?_))
 simp only[X3,ux]
 rw[aQ]
 obtain ⟨k,tx,n,kids⟩:=t
 simp only[Nd.kind,Nd.text,Nd.num,Nd.kids]
 refine Z fun L hL=>?_
 refine aw ?_
 refine hL _ _ ?_
 clear hL
 refine Z fun L hL=>?_
 by_cases c0:tx=⟨#[]⟩
 ·subst c0
  refine aw ?_
  refine hL _ _ ?_
  clear hL
  refine aw ?_
  exact aq .refl (by simp[tc])
 ·refine aI c0 ?_
  refine aL (hf _) ?_
  refine aw ?_
  refine aL (y2 l none tx hl _) ?_
  refine aw ?_
  refine hL _ _ ?_
  clear hL
  refine aw ?_
  exact aq .refl (by simp[tc,c0])
theorem Ys(H:Y):D Tryz.prog 126 [.sc (.string ⟨#[45,32,33]⟩)] H (.ret (.am 1 (strs Dz) none)) H :=
 Av _ Dz (by decide +kernel) (by decide +kernel) (fun j b h=>by
  have h2:∀b∈([45,32,33]:List UInt8),b.toNat<128:=by decide +kernel
  exact h2 b (List.mem_of_getElem? h)) (by decide) H
theorem Yt(H:Y):D Tryz.prog 126 [.sc (.string ⟨#[124,124,32,38,38,32,61,61,32,33,61,32,60,32,60,61,32,62,32,62,61,32,43,32,45,32,42,32,47,32,37]⟩)] H (.ret (.am 1 (strs rB) none)) H :=
 Av _ rB (by decide +kernel) (by decide +kernel) (fun j b h=>by
  have h2:∀b∈([124,124,32,38,38,32,61,61,32,33,61,32,60,32,60,61,32,62,32,62,61,32,43,32,45,32,42,32,47,32,37]:List UInt8),b.toNat<128:=by decide +kernel
  exact h2 b (List.mem_of_getElem? h)) (by decide) H
theorem ahA(n:Int):decide (n.fdiv (2 ^ min 1 IntKind.i64.bits)=0)=(decide (n=0)|| decide (n=1)):=by
 rw[show min 1 IntKind.i64.bits=1 from rfl,show (2 ^ 1:Int)=2 from rfl,Int.fdiv_eq_ediv_of_nonneg _ (by omega),Bool.eq_iff_iff]
 simp
 omega
theorem abY(t:Nd)(ro:Option (List AV))(H:Y):D Tryz.prog 70 [dZ t ro] H (.ret (.sc (.bool (kZ t)))) H:=by
 have hA:=fun H=>Lg _ Dz (by decide) Ys t ro H
 have hB:=fun H=>Lg _ rB (by decide) Yt t ro H
 have cl:cr Tryz.prog 125=true:=by kernel_rfl
 refine aG (Nat.le_refl _) (ahm (aA ?_))
 simp only[acX,ux]
 rw[aQ] at *
 have hP:kZ t=kZ ⟨t.kind,t.text,t.num,t.kids⟩:=by rw[←t.eta]
 rw[hP]
 clear hP
 obtain ⟨k,tx,n,kids⟩:=t
 simp only[Nd.kind,Nd.text,Nd.num,Nd.kids] at hA hB ⊢
 refine Z fun L hL=>?_
 refine aw ?_
 refine hL _ _ ?_
 clear hL
 refine Z fun L hL=>?_
 simp -implicitDefEqProofs (maxSteps:=99999999) (disch:=first|omega|(simp only[vl]<;>omega)) only[vu,cl,va,vg,vs,vw,vk,simprocAttr]
 refine hL _ _ ?_
 clear hL
 refine Z fun L hL=>?_
 by_cases Lh:k=20
 ·subst Lh
  by_cases c0:tx=⟨#[]⟩
  ·subst c0
   refine aw ?_
   exact aq (.cons .refl) (by simp[kZ,Nd.kind,Nd.text,Nd.num])
  ·refine aI c0 ?_
   exact aq (.cons .refl) (by simp[kZ,Nd.kind,Nd.text,Nd.num,c0])
 by_cases Li:k=21
 ·subst Li
  by_cases c0:tx=⟨#[]⟩
  ·subst c0
   refine aw ?_
   exact aq (.cons .refl) (by simp[kZ,Nd.kind,Nd.text,Nd.num];exact ahA n)
  ·refine aI c0 ?_
   exact aq (.cons .refl) (by simp[kZ,Nd.kind,Nd.text,Nd.num,c0])
 by_cases n0:n=0
 rotate_left
 ·refine aI (gq Lh Li n0) ?_
  exact aq (.cons .refl) (by simp[kZ,Nd.kind,Nd.text,Nd.num,Lh,Li,n0])
 subst n0
 cases hn:eM k
 rotate_left
 ·refine aI (ak Lh Li) ?_
  refine ae (K9 _ _) ?_
  rw[hn]
  refine aI (ak Lh Li) ?_
  refine ae (Rk _ _) ?_
  refine aw ?_
  exact aq (.cons .refl) (by simp[kZ,Nd.kind,Nd.text,Nd.num,Lh,Li,hn])
 refine aI (ak Lh Li) ?_
 refine ae (K9 _ _) ?_
 rw[hn]
 by_cases Po:k=23
 ·subst Po
  refine aw ?_
  refine ⟨cl,ae (hA _) ?_⟩
  refine aw ?_
  exact aq (.cons .refl) (by simp[kZ,Nd.kind,Nd.text,Nd.num,hn])
 by_cases Pp:k=24
 ·subst Pp
  refine aw ?_
  refine ⟨cl,ae (hB _) ?_⟩
  refine aw ?_
  exact aq (.cons .refl) (by simp[kZ,Nd.kind,Nd.text,Nd.num,hn])
 refine aI (ak Po Pp) ?_
 refine hL _ _ ?_
 clear hL
 refine aw ?_
 exact aq (.cons .refl) (by rw[Bool.eq_iff_iff];simp[kZ,Nd.kind,Nd.text,Nd.num,hn,Lh,Li,Po,Pp];exact ⟨fun h=>decide_eq_true h,of_decide_eq_true⟩)
def lI(t:Nd):Bool :=
 if eM t.kind then iZ t.text
 else if t.kind=23 then decide (t.text=⟨#[45]⟩)|| decide (t.text=⟨#[33]⟩)
 else if ¬t.kind=24 then decide (t.text=⟨#[]⟩)
 else mS rB t.text
set_option maxHeartbeats 4000000 in
theorem abZ(t:Nd)(ro:Option (List AV))(H:Y):D Tryz.prog 132 [dZ t ro] H (.ret (.sc (.bool (lI t)))) H:=by
 refine aG (Nat.le_refl _) (afP (aA ?_))
 simp only[Yg,ux]
 rw[aQ] at *
 have hP:lI t=lI ⟨t.kind,t.text,t.num,t.kids⟩:=by rw[←t.eta]
 rw[hP]
 clear hP
 obtain ⟨k,tx,n,kids⟩:=t
 simp only[Nd.kind,Nd.text,Nd.num,Nd.kids]
 refine Z fun L hL=>?_
 refine aw ?_
 refine hL _ _ ?_
 clear hL
 refine Z fun L hL=>?_
 cases hn:eM k
 rotate_left
 ·refine aw ?_
  refine ae (GB _ _) ?_
  rw[hn]
  refine aw ?_
  refine ae (Ld _ _) ?_
  refine aw ?_
  exact aq (.cons .refl) (by simp[lI,Nd.kind,Nd.text,hn])
 refine aw ?_
 refine ae (GB _ _) ?_
 rw[hn]
 refine aw ?_
 refine hL _ _ ?_
 clear hL
 refine Z fun L hL=>?_
 by_cases Po:k=23
 ·subst Po
  by_cases c0:tx=⟨#[45]⟩
  ·subst c0
   refine aw ?_
   exact aq (.cons .refl) (by simp[lI,Nd.kind,Nd.text,hn])
  by_cases c1:tx=⟨#[33]⟩
  ·subst c1
   refine aI c0 ?_
   exact aq (.cons .refl) (by simp[lI,Nd.kind,Nd.text,hn])
  ·refine aI (ak c0 c1) ?_
   exact aq (.cons .refl) (by simp[lI,Nd.kind,Nd.text,hn,c0,c1])
 refine aI Po ?_
 refine hL _ _ ?_
 clear hL
 refine Z fun L hL=>?_
 by_cases Pp:k=24
 rotate_left
 ·refine aI Pp ?_
  exact aq (.cons .refl) (by rw[Bool.eq_iff_iff];simp[lI,Nd.kind,Nd.text,hn,Po,Pp];exact ⟨fun h=>decide_eq_true h,of_decide_eq_true⟩)
 subst Pp
 refine aw ?_
 refine hL _ _ ?_
 clear hL
 refine Z fun L hL=>?_
 refine aw ?_
 refine hL _ _ ?_
 clear hL
 refine Z fun L hL=>?_
 have ahB : [AV.sc (.string ⟨#[124,124]⟩),.sc (.string ⟨#[38,38]⟩),.sc (.string ⟨#[61,61]⟩),.sc (.string ⟨#[33,61]⟩),.sc (.string ⟨#[60]⟩),.sc (.string ⟨#[60,61]⟩),.sc (.string ⟨#[62]⟩),.sc (.string ⟨#[62,61]⟩),.sc (.string ⟨#[43]⟩),.sc (.string ⟨#[45]⟩),.sc (.string ⟨#[42]⟩),.sc (.string ⟨#[47]⟩),.sc (.string ⟨#[37]⟩)]=strs rB:=rfl
 have hq:lI ⟨24,tx,n,kids⟩=mS rB tx:=by simp[lI,Nd.kind,Nd.text,hn]
 rw[ahB,hq]
 have hlen:rB.length=13:=rfl
 generalize rB=l at *
 refine aw ?_
 refine aZ (fun ts F=>∃k:Nat,(k≤l.length∧∀j,j<k→¬nU l j=tx)∧F=some ⟨4,[.agg [.sc (.int .u8 24),.sc (.string tx),.sc (.int .i64 n),.am 4 (bh kids) ro]],true,25⟩::H∧Fr (none::some (.ptr 4 H.length 0 0)::some (.sc (.bool false))::some (.am 1 (strs l) (some []))::some (.sc (.int .i64 k))::none::fg (bf [])) ts) (fun ts _=>l.length-(aM (ts.getD 4 .top)).toNat) ?_ ?_
 ·exact ⟨0,⟨Nat.zero_le _,fun j h=>absurd h (Nat.not_lt_zero _)⟩,rfl,by simp[Fr]⟩
 rintro ts F ⟨k,⟨hk,hp⟩,rfl,aX⟩ L2 bM
 obtain ⟨js,rfl⟩:=aX.opened
 clear aX
 by_cases hd:k<l.length
 ·have c1:(k:Int)<l.length:=by omega
  have hg:=Ao hd
  by_cases e:tx=nU l k
  ·have hi:=Dx hd e.symm
   refine df (ei c1 hg @dM e.symm) ?_
   rw[hi]
   exact ⟨by omega,bL (.cons .refl)⟩
  ·refine df (ei c1 hg @dM e) ?_
   refine ⟨by omega,bM _ _ ⟨k+1,⟨by omega,fun j hj=>?_⟩,rfl,by simp[Fr]⟩ (by simp[aM,mk];omega)⟩
   rcases Nat.lt_succ_iff_lt_or_eq.1 hj with h'|rfl
   ·exact hp j h'
   ·exact fun h=>e h.symm
 ·have c1:¬(k:Int)<l.length:=by omega
  have hi:=xp fun j hj=>hp j (by omega)
  refine df (ak c1 @dM) ?_
  refine hL _ _ ?_
  clear hL
  refine fh ?_
  rw[hq,hi]
  exact bL (.cons .refl)
theorem ams(l:List ByteArray)(s:ByteArray)(h:mS l ⟨#[]⟩=false):tc l s=mS l s:=by
 unfold tc
 by_cases e:s=⟨#[]⟩
 ·rw[e,h];simp
 ·simp[e]
def Lj(t:Nd):Bool:=(mu t.kind).isSome && kZ t && ((mR t.kind).2|| decide (t.kids.length=(mR t.kind).1.length))
def jD(k:Int):Bool:=(decide (k≥1) && decide (k≤12))|| eY k
def nW(k n:Int):Bool:=decide (n=0)|| (decide (k=20) && decide (n > 0))|| (decide (k=21) && decide (n=1))
def qb(t:Nd):Bool:=jD t.kind && nW t.kind t.num && lI t && (decide (eZ t.kind<0)|| decide ((t.kids.length:Int)=eZ t.kind))
theorem GH(t:Nd):Lj t=qb t:=by
 obtain ⟨k,s,n,l⟩:=t
 unfold Lj qb
 simp only[Nd.kind,Nd.kids,Nd.num]
 rcases vb k with ⟨h,hn⟩|h
 ·have g:∀m:Int,m∈jz.map (·.1)→k≠m:=fun m hm=>by
   obtain ⟨x,hx,rfl⟩:=List.mem_map.1 hm
   exact hn x hx
  have e:jD k=false:=by
   have g1:=fun m (hm:m∈jz.map (·.1))=>g m hm
   simp only[jz,List.map_cons,List.map_nil] at g1
   have:=g1 1 (by decide);have:=g1 2 (by decide);have:=g1 3 (by decide);have:=g1 4 (by decide);have:=g1 5 (by decide);have:=g1 6 (by decide);have:=g1 7 (by decide);have:=g1 8 (by decide);have:=g1 9 (by decide);have:=g1 10 (by decide);have:=g1 11 (by decide);have:=g1 12 (by decide);have:=g1 20 (by decide);have:=g1 21 (by decide);have:=g1 22 (by decide);have:=g1 23 (by decide);have:=g1 24 (by decide);have:=g1 25 (by decide);have:=g1 26 (by decide);have:=g1 27 (by decide);have:=g1 28 (by decide);have:=g1 29 (by decide)
   unfold jD eY
   rw[←Bool.not_eq_true]
   simp
   omega
  rw[h,e]
  simp
 ·simp only[jz,List.map_cons,List.map_nil,List.mem_cons,List.not_mem_nil,or_false] at h
  have q1:decide ((l.length:Int)=1)=decide (l.length=1):=by rw[Bool.eq_iff_iff];simp;omega
  have q2:decide ((l.length:Int)=2)=decide (l.length=2):=by rw[Bool.eq_iff_iff];simp;omega
  have q3:decide ((l.length:Int)=3)=decide (l.length=3):=by rw[Bool.eq_iff_iff];simp;omega
  have q0:(decide (n=0)|| decide (0<n))=decide (0≤n):=by rw[Bool.eq_iff_iff];simp;omega
  have e1:=ams Dz s (by decide +kernel)
  have e2:=ams rB s (by decide +kernel)
  have e3:mS Dz s=(decide (s=⟨#[45]⟩)|| decide (s=⟨#[33]⟩)):=by
   simp[mS,Dz,eq_comm]
  rw[e3] at e1
  rcases h with rfl|rfl|rfl|rfl|rfl|rfl|rfl|rfl|rfl|rfl|rfl|rfl|rfl|rfl|rfl|rfl|rfl|rfl|rfl|rfl|rfl|rfl<;>simp[mR,mu,jz,kQ,jD,eY,nW,eZ,kZ,lI,Nd.kind,Nd.text,Nd.num,eM,e1,e2]
  all_goals first
   | (simp only[q1,q2,q3];done)
   | rfl
   | (simp only[q0];ac_rfl)
   | (simp only[q1,q2,q3];rfl)
   | ac_rfl
theorem Over.len{H G:Y}(h:Over H G):H.length≤G.length:=by
 obtain ⟨A,rfl⟩:=h.split
 simp
theorem Over.find{H G:Y}(h:Over H G){i:Nat}(hi:i<H.length):Y.find G i=Y.find H i:=by
 obtain ⟨A,rfl⟩:=h.split
 exact Y.bF hi
theorem Over.trans{A B C:Y}(h:Over A B)(k:Over B C):Over A C:=by
 induction k with
 |refl=>exact h
 |cons _ ih=>exact .cons ih
theorem Nd.fZ(l:List Nd):l.length≤Nd.ay l:=by
 induction l with
 |nil=>simp[Nd.ay]
 |cons x r ih=>have:=x.size_pos;simp only[List.length_cons,Nd.ay];omega
theorem Nd.Ll(t:Nd):t.kids.length<t.size:=by
 have:=Nd.fZ t.kids
 rw[Nd.size_eq]
 omega
def wN(k:Int)(l:List Nd):Bool:=!decide (k=7)|| !decide ((aE l 0).kind=26)|| decide ((aE (aE l 0).kids 0).kind=22)
mutual
def bH:Nd→Nat→Bool
 |⟨k,s,n,l⟩,m=>decide (1≤m) && qb ⟨k,s,n,l⟩ && mw k l 0 (m-1) && wN k l
def mw:Int→List Nd→Nat→Nat→Bool
 |_,[],_,_=>true
 |p,t::r,a,m=>eA p t.kind a && bH t m && mw p r (a+1) m
end
theorem nt(t:Nd)(m:Nat):bH t m=(decide (1≤m) && qb t && mw t.kind t.kids 0 (m-1) && wN t.kind t.kids):=by
 cases t
 simp only[bH,Nd.kind,Nd.kids]
theorem qU(p:Int)(m:Nat):∀(l:List Nd)(a:Nat),mw p l a m=true↔∀j,j<l.length→eA p (aE l j).kind (a+j:Nat)=true∧bH (aE l j) m=true
 |[],a=>by simp[mw]
 |t::r,a=>by
  have ih:=qU p m r (a+1)
  simp only[mw,Bool.and_eq_true,ih]
  constructor
  ·rintro ⟨⟨h1,h2⟩,h3⟩ j hj
   cases j with
   |zero=>exact ⟨h1,h2⟩
   |succ j =>
    have:=h3 j (by simpa using hj)
    rw[show a+(j+1)=a+1+j by omega]
    simpa [aE] using this
  ·intro h
   refine ⟨h 0 (by simp),fun j hj=>?_⟩
   have:=h (j+1) (by simpa using hj)
   rw[show a+(j+1)=a+1+j by omega] at this
   simpa [aE] using this
theorem wc{p:Int}{l:List Nd}{m k:Nat}(hk:k<l.length)(h:eA p (aE l k).kind k=false∨bH (aE l k) m=false):mw p l 0 m=false:=by
 cases e:mw p l 0 m
 ·rfl
 ·have:=(qU p m l 0).1 e k hk
  rw[Nat.zero_add] at this
  rcases h with h|h
  ·rw[h] at this;exact absurd this.1 (by simp)
  ·rw[h] at this;exact absurd this.2 (by simp)
theorem GI{p:Int}{l:List Nd}{m k:Nat}(hk:¬k<l.length)(h:∀j,j<k→eA p (aE l j).kind j=true∧bH (aE l j) m=true):mw p l 0 m=true :=
 (qU p m l 0).2 fun j hj=>by rw[Nat.zero_add];exact h j (by omega)
theorem Lm{t:Nd}(hk:t.kind=7)(h:qb t=true):t.kids.length=2:=by
 simp only[qb,hk,Bool.and_eq_true] at h
 have:=h.2
 simp[eZ] at this
 omega
theorem DA{t:Nd}{m:Nat}(hk:t.kind=26)(h:bH t m=true):t.kids.length=2:=by
 rw[nt] at h
 simp only[Bool.and_eq_true] at h
 have h:=h.1.1.2
 simp only[qb,hk,Bool.and_eq_true] at h
 have:=h.2
 simp[eZ] at this
 omega
theorem GJ{k:Int}(h:eA 7 k 0=true):k=22∨k=26:=by
 simp[eA,eZ] at h
 omega
theorem T1(t:Nd):∀(ro:Option (List AV))(m:Nat)(d:Int)(hd:d=41-m)(Yu:m≤41)(hz:t.size≤1000000)(id:Nat)(H:Y)(hf:Y.find H id=some ⟨1,[.fn (.func 68) [] [.ptr 1 id 0 0]],true,113⟩),D Tryz.prog 68 [dZ t ro,.sc (.int .i64 d),.ptr 1 id 0 0] H (.ret (.sc (.bool (bH t m)))) H:=by
 induction t using Nd.ind with
 |_ t ih =>
  intro ro m d hd Yu hz id H hf
  have mN:=Nd.Ll t
  have hid:id<H.length:=Y.ax hf
  have cl:cr Tryz.prog 68=true:=by kernel_rfl
  have hP:=nt t m
  rw[←GH] at hP
  unfold Lj at hP
  have CV:∀H,D Tryz.prog 70 [.agg [.sc (.int .u8 t.kind),.sc (.string t.text),.sc (.int .i64 t.num),.am 4 (bh t.kids) ro]] H (.ret (.sc (.bool (kZ t)))) H:=fun H=>abY t ro H
  have gJ:∀h:t.kind=7,qb t=true→t.kids.length=2:=fun h h2=>Lm h h2
  have hls:Lj t=qb t:=GH t
  unfold Lj at hls
  refine aG (Nat.le_refl _) (ahl (aA ?_))
  simp only[acW,ux]
  rw[aQ]
  have hr:=Rh t.kind
  unfold K3 at hr
  have hall:=GA (p:=t.kind)
  generalize (mu t.kind).isSome=s at *
  obtain ⟨l,b,hG⟩:∃l b,mR t.kind=(l,b):=⟨_,_,rfl⟩
  rw[hG] at hr hP hall hls
  simp only at hr hP hall hls
  obtain ⟨k1,k2,k3,k4,k5,k6⟩:=K8 l
  have hJ:∀H F:Y,Over H F→bH t m=false→eB H (.ret (.sc (.bool false))) F (.ret (.sc (.bool (bH t m)))) H:=fun H F h e=>by rw[e];exact bL h
  refine Z fun L hL=>?_
  refine aw ?_
  refine hL _ _ ?_
  clear hL
  refine Z fun L hL=>?_
  refine aw ?_
  refine ae (hr _) ?_
  refine aI (ei k3 k4 k5 k6) ?_
  refine hL _ _ ?_
  clear hL
  refine Z fun L hL=>?_
  cases s
  ·refine aw ?_
   exact hJ _ _ (.cons (.cons .refl)) (by rw[hP];simp)
  by_cases c1:d > 40
  ·refine aI c1 ?_
   exact hJ _ _ (.cons (.cons .refl)) (by rw[hP];simp;omega)
  refine aI c1 ?_
  refine ae (CV _) ?_
  cases hs:kZ t
  ·refine aw ?_
   exact hJ _ _ (.cons (.cons .refl)) (by rw[hP];simp[hs])
  by_cases c2:b=false∧¬t.kids.length=l.length
  ·obtain ⟨rfl,c2⟩:=c2
   have c3:¬(t.kids.length:Int)=l.length:=by omega
   refine aI (Dq c3 k1 k2 k3 k4 k5 k6 @aH) ?_
   exact hJ _ _ (.cons (.cons .refl)) (by rw[hP];simp[c2])
  have Yv:qb t=true:=by
   rw[←hls,hs]
   cases b
   ·simp only[Bool.true_and,Bool.false_or,decide_eq_true_eq]
    exact Decidable.byContradiction fun h=>c2 ⟨rfl,h⟩
   ·rfl
  have hm:1≤m:=by omega
  have DB:bH t m=(mw t.kind t.kids 0 (m-1) && wN t.kind t.kids):=by
   rw[nt,Yv]
   simp[hm]
  clear hP
  suffices key:∀ts,Fr (none::some (.sc (.int .i64 d))::some (.ptr 1 id 0 0)::some (.ptr 4 H.length 0 0)::none::some (.sc (.bool false))::none::dL (bf (bf []))) ts→L ts (some ⟨2,[.agg [yX l,.sc (.bool b)]],true,116⟩::some ⟨4,[.agg [.sc (.int .u8 t.kind),.sc (.string t.text),.sc (.int .i64 t.num),.am 4 (bh t.kids) ro]],true,25⟩::H) by
   cases b
   ·have c3:t.kids.length=l.length:=Decidable.byContradiction fun h=>c2 ⟨rfl,h⟩
    have c4:(t.kids.length:Int)=l.length:=by omega
    refine aI (Dq c4 k1 k2 k3 k4 k5 k6 @aH) ?_
    exact key _ (by simp[Fr])
   ·refine aI (mM k1 k2 k3 k4 k5 k6 @aH) ?_
    exact key _ (by simp[Fr])
  intro ts aX
  obtain ⟨js,rfl⟩:=aX.opened
  clear aX
  refine hL _ _ ?_
  clear hL
  refine Z fun L hL=>?_
  refine df @aH ?_
  have hnone:dZ=fun t ro=>AV.agg [.sc (.int .u8 t.kind),.sc (.string t.text),.sc (.int .i64 t.num),.am 4 (bh t.kids) ro]:=rfl
  refine aZ (fun ts F=>∃k:Nat,(k≤t.kids.length∧∀j,j<k→eA t.kind (aE t.kids j).kind j=true∧bH (aE t.kids j) (m-1)=true)∧(Over H F∧H.length<F.length∧Y.find F H.length=some ⟨4,[.agg [.sc (.int .u8 t.kind),.sc (.string t.text),.sc (.int .i64 t.num),.am 4 (bh t.kids) ro]],true,25⟩∧Y.find F id=some ⟨1,[.fn (.func 68) [] [.ptr 1 id 0 0]],true,113⟩)∧Fr (none::some (.sc (.int .i64 d))::some (.ptr 1 id 0 0)::some (.ptr 4 H.length 0 0)::none::some (.sc (.bool false))::fg (bf (some (.am 4 (bh t.kids) ro)::some (.sc (.int .i64 t.kids.length))::some (.sc (.int .i64 k))::none::none::ir (bf [])))) ts) (fun ts _=>t.kids.length-(aM (ts.getD 44 .top)).toNat) ?_ ?_
  ·refine ⟨0,⟨Nat.zero_le _,fun j h=>absurd h (Nat.not_lt_zero _)⟩,⟨.cons (.cons .refl),by simp only[List.length_cons];omega,?_,?_⟩,by simp[Fr]⟩
   ·rw[ai (by simp),aJ rfl]
   ·rw[ai (by simp;omega),ai hid,hf]
  rintro ts F ⟨k,⟨hk,hp⟩,⟨f1,f2,f3,f4⟩,aX⟩ L2 bM
  obtain ⟨js,rfl⟩:=aX.opened
  clear aX
  by_cases DC:k<t.kids.length
  ·have d1:(k:Int)<t.kids.length:=by omega
   have hg:=dG DC
   have dW:=eJ DC
   refine df (kY d1 hg f3 f4 @aH) ?_
   refine ⟨by omega,ae (abX _ _ _ _) ?_⟩
   rw[Pg]
   cases e1:eA t.kind (aE t.kids k).kind k
   ·refine aw ?_
    exact hJ _ _ (.cons f1) (by rw[DB,wc DC (.inl e1)];rfl)
   refine aI (ak f3 f4) ?_
   refine ⟨cl,ae (ih _ dW none (m-1) _ (by omega) (by omega) (by have:=Nd.pf dW;omega) id _ (by rw[ai (by omega),f4])) ?_⟩
   cases e2:bH (aE t.kids k) (m-1)
   ·refine aw ?_
    exact hJ _ _ (.cons f1) (by rw[DB,wc DC (.inr e2)];rfl)
   refine aw ?_
   refine bM _ _ ⟨k+1,⟨by omega,fun j hj=>?_⟩,⟨.cons f1,by simp;omega,by rw[ai (by omega),f3],by rw[ai (by omega),f4]⟩,by simp[Fr]⟩ (by simp[aM,mk];omega)
   rcases Nat.lt_succ_iff_lt_or_eq.1 hj with h'|rfl
   ·exact hp j h'
   ·exact ⟨e1,e2⟩
  ·have d1:¬(k:Int)<t.kids.length:=by omega
   have hR:=GI DC hp
   refine df (ak d1 f3) ?_
   refine hL _ _ ?_
   clear hL
   by_cases g7:t.kind=7
   ·have h2:=gJ g7 Yv
    have fx:¬k<2:=by omega
    have y4:=dG (l:=t.kids) (k:=0) (by omega)
    have rQ:=hp 0 (by omega)
    rw[g7] at rQ
    have h0:(0:Int)<(2:Nat):=by omega
    by_cases g22:(aE t.kids 0).kind=22
    ·rw[g22] at y4
     refine aI (yQ f3 g7 y4 @aH h2 h0) ?_
     exact aq f1 (by rw[DB,hR,g7];simp[wN,g22])
    ·have Pq:(aE t.kids 0).kind=26:=by
      rcases GJ rQ.1 with h|h
      ·exact absurd h g22
      ·exact h
     have i2:=DA Pq rQ.2
     have xu:=dG (l:=(aE t.kids 0).kids) (k:=0) (by omega)
     rw[Pq] at y4
     refine aI (Dq f3 g7 y4 xu @aH h2 i2 h0) ?_
     exact aq f1 (by rw[DB,hR,g7];simp[wN,Pq])
   ·refine aI (ak f3 g7) ?_
    exact aq f1 (by rw[DB,hR];simp[wN,g7])
theorem GK(t:Nd)(ro:Option (List AV))(hz:t.size≤1000000)(H:Y):D Tryz.prog 40 [dZ t ro] H (.ret (.sc (.bool (bH t 40)))) H:=by
 have cl:cr Tryz.prog 68=true:=by kernel_rfl
 have hr:=T1 t ro 40 1 rfl (by omega) hz
 rw[aQ] at hr ⊢
 refine aG (Nat.le_refl _) (ahk (aA ?_))
 simp only[acV,ux]
 refine Z fun L hL=>?_
 refine aw ?_
 refine hL _ _ ?_
 clear hL
 refine Z fun L hL=>?_
 refine aw ?_
 refine hL _ _ ?_
 clear hL
 refine Z fun L hL=>?_
 simp -implicitDefEqProofs (maxSteps:=99999999) (disch:=first|omega|(simp only[vl]<;>omega)) only[vu,cl,va,vg,vs,vw,vk,simprocAttr]
 refine hL _ _ ?_
 clear hL
 refine Z fun L hL=>?_
 refine aw ?_
 refine ⟨cl,ae (hr (H.length+1) _ (aJ (by simp))) ?_⟩
 refine aw ?_
 refine hL _ _ ?_
 clear hL
 refine aw ?_
 exact aq (.cons (.cons .refl)) rfl
section
variable {α:Type}
def mE(f:α→AV)(M:List (ByteArray×α)):List AV:=M.map fun p=>.aO [.sc (.string p.1),f p.2]
theorem DD(f:α→AV)(M:List (ByteArray×α)):(mE f M).length=M.length:=by simp[mE]
theorem afU(f:α→AV)(M:List (ByteArray×α)):fM none (mE f M):=fun x hx=>by
 obtain ⟨p,_,rfl⟩:=List.mem_map.1 hx
 rfl
theorem ab0(f:α→AV)(M:List (ByteArray×α)):fM none (mE f M)=True:=by simp[afU]
def Ln(k:ByteArray):List (ByteArray×α)→Nat
 |[]=>0
 |p::r=>if k=p.1 then 0 else Ln k r+1
def cL(k:ByteArray):List (ByteArray×α)→Option α
 |[]=>none
 |p::r=>if k=p.1 then some p.2 else cL k r
def fD(k:ByteArray)(a:α):List (ByteArray×α)→List (ByteArray×α)
 |[]=>[(k,a)]
 |p::r=>if k=p.1 then (k,a)::r else p::fD k a r
theorem DE{f:α→AV}{k:ByteArray}:∀{M:List (ByteArray×α)},fy (.string k) (mE f M)=Ln k M
 |[]=>rfl
 |p::r=>by
  show (if sJ _ _=true then 0 else fy _ (mE f r)+1)=_
  rw[DE (M:=r)]
  simp[sJ,ol,Ln]
theorem Lo{f:α→AV}{k:ByteArray}{z:AV}:∀{M:List (ByteArray×α)},nQ (.string k) z (mE f M)=((cL k M).map f).getD z
 |[]=>rfl
 |p::r=>by
  have ih:=Lo (f:=f) (k:=k) (z:=z) (M:=r)
  unfold nQ at ih ⊢
  rw[DE,DD] at ih ⊢
  unfold Ln cL
  by_cases h:k=p.1
  ·simp[h,mE,VM]
  ·simp only[if_neg h,List.length_cons,Nat.add_lt_add_iff_right] at ih ⊢
   rw[←ih]
   rfl
theorem Lp{f:α→AV}{k:ByteArray}{a:α}:∀{M:List (ByteArray×α)},qJ (.string k) (f a) (mE f M)=mE f (fD k a M)
 |[]=>rfl
 |p::r=>by
  have ih:=Lp (f:=f) (k:=k) (a:=a) (M:=r)
  unfold qJ at ih ⊢
  rw[DE,DD] at ih ⊢
  unfold Ln fD
  by_cases h:k=p.1
  ·simp[h,mE]
  ·simp only[if_neg h,List.length_cons,Nat.add_lt_add_iff_right]
   split
   ·rename_i hlt
    rw[if_pos hlt] at ih
    show _::(mE f r).set _ _=_::mE f _
    rw[←ih]
   ·rename_i hlt
    rw[if_neg hlt] at ih
    show _::(mE f r++_)=_::mE f _
    rw[←ih]
theorem jt{k k':ByteArray}{a:α}:∀{M:List (ByteArray×α)},cL k' (fD k a M)=if k'=k then some a else cL k' M
 |[]=>by by_cases h:k'=k<;>simp[fD,cL,h]
 |p::r=>by
  have ih:=jt (k:=k) (k':=k') (a:=a) (M:=r)
  unfold fD
  by_cases h:k=p.1
  ·by_cases h2:k'=k
   ·simp[h,cL,h2]
   ·have h3:¬k'=p.1:=fun e=>h2 (e.trans h.symm)
    simp[h,cL,h2,h3,if_neg]
  ·rw[if_neg h]
   by_cases h2:k'=p.1
   ·have h3:¬k'=k:=fun e=>h (e.symm.trans h2)
    simp only[cL,if_pos h2,if_neg h3]
   ·simp only[cL,if_neg h2,ih]
end
structure Bd where
 path:List Int
 name:ByteArray
 cZ:List (List Int)
 many:Int
def Bd.none:Bd:=⟨[],⟨#[]⟩,[],0⟩
def bq(bs:List Bd)(i:Nat):Bd:=bs.getD i Bd.none
abbrev bn:=List (ByteArray×Nat)
structure WS where
 bs:List Bd
 all:List Nat
 at_:Nat
abbrev jT:=Int×Nat
def dx(env:List bn)(ws:WS)(s:ByteArray)(p:List Int)(at_:Nat):Except jT (List bn×WS) :=
 match cL s (env.headD []) with
 |some _=>.error (110,at_)
 |none=>.ok (fD s ws.bs.length (env.headD [])::env.tail,{ ws with bs:=ws.bs++[⟨p,s,[],0⟩],all:=ws.all++[ws.bs.length] })
def cF:List bn→ByteArray→Option Nat
 |[],_=>none
 |f::r,x=>match cL x f with
  |some i=>some i
  |none=>cF r x
def jU(env:List bn)(ws:WS)(k:Int)(s:ByteArray)(n:Nat)(p:List Int)(at_:Nat):Except jT WS :=
 match cF env s with
 |none=>.error (111,at_)
 |some i=>if k=25∧¬(bq ws.bs i).many=n then .error (112,at_) else .ok { ws with bs:=ws.bs.set i { bq ws.bs i with cZ:=(bq ws.bs i).cZ++[p] } }
mutual
def bR(fu:bn):Nd→List bn→WS→List Int→Except jT (List bn×WS)
 |⟨k,s,_,l⟩,env,ws,p =>
  if k=2 then
   match bJ fu l ([]::env) { ws with at_:=ws.at_+1,all:=ws.all++[(cL s fu).getD 0] } p 0 with
   |.error e=>.error e
   |.ok r=>.ok (env,r.2)
  else if k=4 then
   match dx env { ws with at_:=ws.at_+1 } s p ws.at_ with
   |.error e=>.error e
   |.ok r=>bJ fu l r.1 r.2 p 0
  else if k=5 then
   match bJ fu l ([]::env) { ws with at_:=ws.at_+1 } p 0 with
   |.error e=>.error e
   |.ok r=>.ok (env,r.2)
  else if k=6 then
   if (cL s (env.headD [])).isSome=true then .error (110,ws.at_)
   else match bJ fu l env { ws with at_:=ws.at_+1 } p 0 with
    |.error e=>.error e
    |.ok r=>dx r.1 r.2 s p ws.at_
  else if k=22 then
   match jU env { ws with at_:=ws.at_+1 } k s l.length p ws.at_ with
   |.error e=>.error e
   |.ok w=>bJ fu l env w p 0
  else if k=25 then
   match jU [fu] { ws with at_:=ws.at_+1 } k s l.length p ws.at_ with
   |.error e=>.error e
   |.ok w=>bJ fu l env w p 0
  else bJ fu l env { ws with at_:=ws.at_+1 } p 0
def bJ(fu:bn):List Nd→List bn→WS→List Int→Nat→Except jT (List bn×WS)
 |[],env,ws,_,_=>.ok (env,ws)
 |t::r,env,ws,p,i =>
  match bR fu t env ws (p++[(i:Int)]) with
  |.error e=>.error e
  |.ok q=>bJ fu r q.1 q.2 p (i+1)
end
def gD:List Nd→Nat→bn→WS→Nat→Except jT (bn×WS)
 |[],_,fu,ws,_=>.ok (fu,ws)
 |f::r,k,fu,ws,at_ =>
  match dx [fu] ws f.text [(k:Int)] at_ with
  |.error e=>.error e
  |.ok q=>gD r (k+1) (q.1.headD []) { q.2 with bs:=q.2.bs.set ws.bs.length { bq q.2.bs ws.bs.length with many:=(aE f.kids 0).kids.length } } (at_+f.size)
def k7(n:Nd):Except jT WS :=
 match gD n.kids 0 [] ⟨[],[],0⟩ 1 with
 |.error e=>.error e
 |.ok q=>match bR q.1 n [[]] { q.2 with all:=[] } [] with
  |.error e=>.error e
  |.ok r=>.ok r.2
def ja(n:Nd):jT:=if n.kind=1∧bH n 40=true then (match k7 n with
 |.error e=>e
 | .ok _=>(0,0)) else (4,0)
abbrev ky:=List Int×ByteArray×List (List Int)
def bQ(n:Nd):List ky:=if (ja n).1=0 then (match k7 n with
 |.error _=>[]
 | .ok ws=>ws.all.map fun j=>((bq ws.bs j).path,(bq ws.bs j).name,(bq ws.bs j).cZ)) else []
structure Pl where
 n:Nd
 p:List Int
mutual
def bI:Nd→List Int→List Pl
 |⟨k,s,m,l⟩,p=>⟨⟨k,s,m,l⟩,p⟩::bZ l p 0
def bZ:List Nd→List Int→Nat→List Pl
 |[],_,_=>[]
 |t::r,p,i=>bI t (p++[(i:Int)])++bZ r p (i+1)
end
theorem cR(t:Nd)(p:List Int):bI t p=⟨t,p⟩::bZ t.kids p 0:=by cases t;simp[bI,Nd.kids]
def jj(p w:List Int):Bool:=decide (w.length≤p.length) && decide (p.take w.length=w)
def cM(b:Pl)(q:List Int):Bool:=if b.n.kind=4 then jj q (b.p.take (b.p.length-2)++[1]) else decide (b.p.length≤q.length) && (jj q (b.p.take (b.p.length-1)) && decide (q.getD (b.p.length-1) 0 > b.p.getD (b.p.length-1) 0))
def fH(b:Pl):Bool:=decide (b.n.kind=4)|| decide (b.n.kind=6)
def gj(b:Pl):Bool:=decide (b.n.kind=22)|| decide (b.n.kind=25)
def jV(x:ByteArray)(q:List Int):List Pl→Nat→Int→Int
 |[],_,f=>f
 |b::r,i,f=>jV x q r (i+1) (if b.n.text=x∧fH b=true∧cM b q=true then i else f)
def iz(x:ByteArray):List Pl→Nat→Int→Int
 |[],_,f=>f
 |b::r,i,f=>iz x r (i+1) (if b.n.text=x∧b.n.kind=2∧f<0 then i else f)
def bW(l:List Pl)(u:Pl):Int:=if u.n.kind=25 then iz u.n.text l 0 (-1) else jV u.n.text u.p l 0 (-1)
def au(l:List Pl)(i:Nat):Pl:=l.getD i ⟨Nd.none,[]⟩
def twin(a b:Pl):Bool:=decide (a.n.kind=b.n.kind) && (decide (a.n.text=b.n.text) && (decide (a.p.length=b.p.length) && jj a.p (b.p.take (b.p.length-1))))
def dm(l:List Pl)(i:Nat):Bool:=(l.take i).any fun a=>twin a (au l i)
def eD(l:List Pl)(i:Nat):Option jT:=if (au l i).n.kind=2∧dm l i=true then some (110,i) else none
def cN(l:List Pl)(i:Nat):Option jT :=
 if fH (au l i)=true∧dm l i=true then some (110,i)
 else if gj (au l i)=false then none
 else if bW l (au l i)<0 then some (111,i)
 else if (au l i).n.kind=25∧¬(aE (au l (bW l (au l i)).toNat).n.kids 0).kids.length=(au l i).n.kids.length then some (112,i)
 else none
def pg(g:Nat→Option jT):Nat→Nat→Option jT
 |0,_=>none
 |n+1,i=>match g i with
  |some e=>some e
  |none=>pg g n (i+1)
def jE(l:List Pl):jT:=match pg (eD l) l.length 0 with
 |some e=>e
 |none=>match pg (cN l) l.length 0 with
  |some e=>e
  |none=>(0,0)
def fp(n:Nd):jT:=if n.kind=1∧bH n 40=true then jE (bI n []) else (4,0)
def ga(b:Pl):Bool:=decide (b.n.kind=2)|| (decide (b.n.kind=4)|| decide (b.n.kind=6))
def e8(l pre:List Pl)(i:Nat):List (List Int):=(pre.filter fun u=>gj u && decide (bW l u=(i:Int))).map (·.p)
def eC(n:Nd):List ky:=if (fp n).1=0 then ((List.range (bI n []).length).filter fun i=>ga (au (bI n []) i)).map fun i=>((au (bI n []) i).p,(au (bI n []) i).n.text,e8 (bI n []) (bI n []) i) else []
end Go.Proofs.YtnoplgongieehaaGreatDoor
