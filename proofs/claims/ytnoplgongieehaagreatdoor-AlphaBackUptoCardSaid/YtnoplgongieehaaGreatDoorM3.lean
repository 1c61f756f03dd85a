import Derived.Test.YtnoplgongieehaaGreatDoorM2
import Derived.ChangeOld
import Derived.Below
import Derived.Carry
import Derived.OpenShut
import Derived.Recover
import Derived.Test.YtnoplgongieehaaGreatDoorProg
import Derived.KernelRfl
import Derived.Lib.Bytealg
import Derived.Test.YtnoplgongieehaaGreatDoorM1
namespace Go.Proofs.YtnoplgongieehaaGreatDoor
open Go.RowKit
set_option linter.unusedVariables false
set_option linter.unusedSimpArgs false
def eX(ev:X→Z)(d:Nat):Option X→Nat
 | none=>d
 | some x=>match ev x with
  | .sc (.int _ n)=>n.toNat
  | _=>0
def lM(ev:X→Z):Option X→Prop
 | none=>True
 | some x=>match ev x with
  | .sc (.int _ n)=>0≤n
  | _=>False
def tA(ev:X→Z):List Z→List (Nat×Nat×X)→List Z
 | zs,[]=>zs
 | zs,(off,n,x)::r=>tA ev (zs.take off++(ev x).cells++zs.drop (off+n)) r
def nx(ev:X→Z):List Z→List (Nat×Nat×X)→Prop
 | _,[]=>True
 | zs,(off,n,x)::r=>((ev x).bO=false∧(ev x).an=n∧off+n≤zs.length)∧nx ev (zs.take off++(ev x).cells++zs.drop (off+n)) r
theorem zU{ev:X→Z}{K:List Z→Prop}:∀{ps:List (Nat×Nat×X)}{zs:List Z},lB ev zs ps K↔nx ev zs ps∧K (tA ev zs ps)
 | [],zs=>by simp[lB,nx,tA]
 | (o,n,x)::r,zs=>by simp only[lB,nx,tA,zU (ps:=r),and_assoc]
theorem gN{ev:X→Z}{d:Nat}{K:Nat→Prop}{o:Option X}:jz ev d o K↔lM ev o∧K (eX ev d o):=by
 cases o with
 | none=>simp[jz,lM,eX]
 | some x =>
  simp only[jz,lM,eX]
  cases ev x with
  | sc v=>cases v<;>simp
  | _=>simp
def R9(op:BinOp):Z→Z→Z
 | .sc u,.sc v=>match sN op u v with
  | some r=>.sc r
  | none=>.top
 | _,_=>.top
def JE(op:BinOp):Z→Z→Prop
 | .sc u,.sc v=>(sN op u v).isSome=true
 | _,_=>False
def shF(op:BinOp):Z→Z→Z
 | .sc u,.sc v=>match I9 op u v with
  | some r=>.sc r
  | none=>.top
 | _,_=>.top
def Sa(op:BinOp):Z→Z→Prop
 | .sc u,.sc v=>(I9 op u v).isSome=true
 | _,_=>False
def unF(op:UnOp):Z→Z
 | .sc u=>match Fv op u with
  | some r=>.sc r
  | none=>.top
 | _=>.top
def Sb(op:UnOp):Z→Prop
 | .sc u=>(Fv op u).isSome=true
 | _=>False
def YU(pos:Bool):Z→Z→Z
 | .sc (.bool a),.sc (.bool b)=>.sc (.bool (if pos then a == b else !(a == b)))
 | _,_=>.top
def JF:Z→Z→Prop
 | .sc (.bool _),.sc (.bool _)=>True
 | _,_=>False
def YV(pos:Bool):Z→Z
 | .sc .nilIface=>.sc (.bool pos)
 | .dK _ _=>.sc (.bool !pos)
 | _=>.top
def Sc:Z→Prop
 | .sc .nilIface=>True
 | .dK _ _=>True
 | _=>False
def Sd(pos:Bool):Z→Z
 | .ak _ [] _=>.ub
 | .ak _ (_::_) _=>.sc (.bool !pos)
 | .aB _ _ _ _ _=>.sc (.bool !pos)
 | _=>.top
def Mv:Z→Prop
 | .ak _ _ _=>True
 | .aB _ _ _ _ _=>True
 | _=>False
def Se:Z→Z→Z→Z
 | .sc (.bool true),a,_=>a
 | .sc (.bool false),_,b=>b
 | _,_,_=>.top
def Mw:Z→Prop
 | .sc (.bool _)=>True
 | _=>False
def Sf(k:IntKind):Z→Z
 | .sc (.int _ n)=>.sc (.int k (k.wrap n))
 | _=>.top
def Mx:Z→Z
 | .ak _ xs _=>.sc (.string (lZ xs))
 | _=>.top
def Gk:Z→Prop
 | .ak k xs _=>k=1∧jA xs=true
 | _=>False
def My:Z→Prop
 | .sc (.int _ _)=>True
 | _=>False
def zV:Z→Prop
 | .ptr k _ _ f=>0<k∨0<f
 | .lp ..=>True
 | .fn (.func _) _ _=>True
 | _=>False
def Mz(off:Nat):Z→Z
 | .ptr k id j f=>.ptr k id j (f+off)
 | .lp y f=>.lp y (f+off)
 | _=>.top
def zW:Z→Prop
 | .ptr k _ _ _=>0<k
 | .lp ..=>True
 | _=>False
def Gl(off n:Nat)(ag:Bool):Z→Prop
 | .agg cs=>Z.gm (.agg cs) off n ag
 | _=>False
def MA(k:Nat):Z→Z→Z
 | .ak _ xs _,.sc (.int _ n)=>.lp (xs.getD n.toNat .top) 0
 | .aB _ id off _ _,.sc (.int _ n)=>.ptr k id (off+n.toNat) 0
 | _,_=>.top
def qW(k:Nat):Z→Z→Prop
 | .ak k' xs _,.sc (.int _ n)=>0≤n∧n<(xs.length:Int)∧k'=k
 | .aB k' _ _ m _,.sc (.int _ n)=>0≤n∧n<(m:Int)∧k'=k∧0<k
 | _,_=>False
def Gm(k:Nat):Z→Z→Z
 | .ptr k' id j f,.sc (.int _ n)=>.ptr k' id j (f+n.toNat*k)
 | .lp y f,.sc (.int _ n)=>.lp y (f+n.toNat*k)
 | _,_=>.top
def wA(ln:Nat):Z→Z→Prop
 | .ptr k _ _ _,.sc (.int _ n)=>0≤n∧n<(ln:Int)∧0<k
 | .lp _ _,.sc (.int _ n)=>0≤n∧n<(ln:Int)
 | _,_=>False
def Sg:Z→Z→Z
 | .sc (.string s),.sc (.int _ n)=>.sc (.int .u8 ((s.data.getD n.toNat 0).toNat:Int))
 | _,_=>.top
def yR:Z→Z→Prop
 | .sc (.string s),.sc (.int _ n)=>0≤n∧n<(s.size:Int)
 | _,_=>False
def Sh(n:Nat)(ag:Bool):Z→Z→Z
 | .agg cs,.sc (.int _ m)=>Z.sub (.agg cs) (m.toNat*n) n ag
 | _,_=>.top
def Ev(ln n:Nat)(ag:Bool):Z→Z→Prop
 | .agg cs,.sc (.int _ m)=>(0≤m∧m<(ln:Int))∧Z.gm (.agg cs) (m.toNat*n) n ag
 | _,_=>False
def Gn(k:Nat)(mx:Option Nat)(h l:Nat):Z→Z
 | .ak _ xs room=>match mx with
  | some m=>.ak k ((xs.take h).drop l) (some ((xs.take m).drop h))
  | none=>match room with
   | none=>.ak k ((xs.take h).drop l) none
   | some ys=>.ak k (((xs++ys).take h).drop l) (some ((xs++ys).drop h))
 | .aB _ id off _ c=>match c with
  | none=>if l<h then .aB k id (off+l) (h - l) none else .ak k [] none
  | some m=>if l<m then .aB k id (off+l) (h - l) (some (m - l)) else .ak k [] none
 | _=>.top
def zX(k:Nat)(mx:Option Nat)(hs:Bool)(h l:Nat):Z→Prop
 | .ak k' xs room=>(k'=k∨xs=[]∧room=some [])∧match mx with
  | some m=>hs=true∧l≤h∧h≤m∧m≤xs.length
  | none=>match room with
   | none=>l≤h∧h≤xs.length
   | some ys=>l≤h∧h≤xs.length+ys.length
 | .aB k' _ _ n c=>k'=k∧mx.isNone=true∧l≤h∧h≤c.getD n
 | _=>False
def p8:Z→Nat
 | .ak _ xs _=>xs.length
 | .aB _ _ _ n _=>n
 | _=>0
def nV:Z→Prop
 | .ak _ _ _=>True
 | .aB ..=>True
 | .sc (.slice none 0 0)=>True
 | _=>False
def JG:Z→Prop
 | .sc (.string _)=>True
 | _=>False
def zY:Z→ByteArray
 | .sc (.string s)=>s
 | _=>ByteArray.empty
def mmF(mx:Bool):Z→Z→Z
 | .sc (.int k a),.sc (.int _ b)=>.sc (.int k (if mx then (if b > a then b else a) else (if b<a then b else a)))
 | _,_=>.top
def Si:Z→Z→Prop
 | .sc (.int _ _),.sc (.int _ _)=>True
 | _,_=>False
def YW(i:Nat):Z→Z
 | .aK vs=>vs.getD i .top
 | _=>.top
def JH(i:Nat):Z→Prop
 | .aK vs=>i<vs.length
 | _=>False
def JI(t:TypeId)(z:Z):Z→Z
 | .dK u v=>if u=t then .aK [v,.sc (.bool true)] else .aK [z,.sc (.bool false)]
 | .sc .nilIface=>.aK [z,.sc (.bool false)]
 | _=>.top
def MB:Z→Prop
 | .dK _ _=>True
 | .sc .nilIface=>True
 | _=>False
def Ew:Z→Prop
 | .sc .nilFunc=>True
 | .fn _ _ _=>True
 | _=>False
def JJ(pos:Bool):Z→Z
 | .sc .nilFunc=>.sc (.bool pos)
 | .fn _ _ _=>.sc (.bool !pos)
 | _=>.top
def Ex(t:TypeId):Z→Prop
 | .dK u _=>u=t
 | _=>False
def JK:Z→Z
 | .dK _ v=>v
 | _=>.top
def PO.ok(ev:X→Z):PO→Prop
 | .mv _=>True
 | .pick c _ _=>Mw (ev c)
 | .bP op x y=>JE op (ev x) (ev y)
 | .BO op x y=>Sa op (ev x) (ev y)
 | .Fx _ x y=>JF (ev x) (ev y)
 | .D1 _ x=>Sc (ev x)
 | .um _ x=>Mv (ev x)
 | .un op x=>Sb op (ev x)
 | .conv _ x=>My (ev x)
 | .s8 x=>Gk (ev x)
 | .cI x=>zV (ev x)
 | .av _ x=>zW (ev x)
 | .field off n ag x=>Gl off n ag (ev x)
 | .gE k x i=>qW k (ev x) (ev i)
 | .oZ ln _ x i=>wA ln (ev x) (ev i)
 | .jy x i=>yR (ev x) (ev i)
 | .xx ln n ag x i=>Ev ln n ag (ev x) (ev i)
 | .yq k x lo hi mx=>lM ev lo∧lM ev hi∧lM ev mx∧zX k (match mx with | none=>none | some m=>some (eX ev 0 (some m))) hi.isSome (eX ev (match mx with | none=>p8 (ev x) | some _=>0) hi) (eX ev 0 lo) (ev x)
 | .oh x lo hi=>JG (ev x)∧lM ev lo∧lM ev hi∧eX ev 0 lo≤eX ev (zY (ev x)).size hi∧eX ev (zY (ev x)).size hi≤(zY (ev x)).size
 | .len x=>nV (ev x)
 | .my x=>JG (ev x)
 | .mm _ x y=>Si (ev x) (ev y)
 | .ext x i=>JH i (ev x)
 | .kZ _ _ _=>True
 | .xy _ _=>True
 | .xz _ _ x=>MB (ev x)
 | .build zs ps=>nx ev zs ps
 | .qw _ x=>Ew (ev x)
 | .sP t x=>Ex t (ev x)
def PO.val(ev:X→Z):PO→Z
 | .mv x=>ev x
 | .pick c a b=>Se (ev c) (ev a) (ev b)
 | .bP op x y=>R9 op (ev x) (ev y)
 | .BO op x y=>shF op (ev x) (ev y)
 | .Fx pos x y=>YU pos (ev x) (ev y)
 | .D1 pos x=>YV pos (ev x)
 | .um pos x=>Sd pos (ev x)
 | .un op x=>unF op (ev x)
 | .conv k x=>Sf k (ev x)
 | .s8 x=>Mx (ev x)
 | .cI x=>ev x
 | .av off x=>Mz off (ev x)
 | .field off n ag x=>Z.sub (ev x) off n ag
 | .gE k x i=>MA k (ev x) (ev i)
 | .oZ _ k x i=>Gm k (ev x) (ev i)
 | .jy x i=>Sg (ev x) (ev i)
 | .xx _ n ag x i=>Sh n ag (ev x) (ev i)
 | .yq k x lo hi mx=>Gn k (match mx with | none=>none | some m=>some (eX ev 0 (some m))) (eX ev (match mx with | none=>p8 (ev x) | some _=>0) hi) (eX ev 0 lo) (ev x)
 | .oh x lo hi=>.sc (.string ((zY (ev x)).extract (eX ev 0 lo) (eX ev (zY (ev x)).size hi)))
 | .len x=>.sc (.int .i64 (p8 (ev x)))
 | .my x=>.sc (.int .i64 (zY (ev x)).size)
 | .mm mx x y=>mmF mx (ev x) (ev y)
 | .ext x i=>YW i (ev x)
 | .kZ f a b=>.fn f (a.map ev) (b.map ev)
 | .xy t x=>.dK t (ev x)
 | .xz t z x=>JI t z (ev x)
 | .build zs ps=>.agg (tA ev zs ps)
 | .qw pos x=>JJ pos (ev x)
 | .sP _ x=>JK (ev x)
theorem PO.gw{ev:X→Z}{K:Z→Prop}:∀{q:PO},q.ok ev→K (q.val ev)→PO.aV ev K q:=by
 intro q h hk
 cases q with
 | build zs ps=>exact zU.2 ⟨h,hk⟩
 | pick c a b =>
  simp only[PO.ok,PO.val,PO.aV] at *
  cases hc:ev c<;>rw[hc] at h hk<;>try exact h.elim
  rename_i v
  cases v<;>try exact h.elim
  rename_i t
  cases t
  ·exact ⟨fun h=>by simp at h,fun _=>hk⟩
  ·exact ⟨fun _=>hk,fun h=>by simp at h⟩
 | bP op x y =>
  simp only[PO.ok,PO.val,PO.aV] at *
  cases hx:ev x<;>cases hy:ev y<;>rw[hx,hy] at h hk<;>try exact h.elim
  simp only[JE,R9] at h hk ⊢
  cases hb:sN op _ _ with
  | none=>rw[hb] at h;simp at h
  | some r=>rw[hb] at hk;exact ⟨r,rfl,hk⟩
 | BO op x y =>
  simp only[PO.ok,PO.val,PO.aV] at *
  cases hx:ev x<;>cases hy:ev y<;>rw[hx,hy] at h hk<;>try exact h.elim
  simp only[Sa,shF] at h hk ⊢
  cases hb:I9 op _ _ with
  | none=>rw[hb] at h;simp at h
  | some r=>rw[hb] at hk;exact ⟨r,rfl,hk⟩
 | un op x =>
  simp only[PO.ok,PO.val,PO.aV] at *
  cases hx:ev x<;>rw[hx] at h hk<;>try exact h.elim
  simp only[Sb,unF] at h hk ⊢
  cases hb:Fv op _ with
  | none=>rw[hb] at h;simp at h
  | some r=>rw[hb] at hk;exact ⟨r,rfl,hk⟩
 | oh x lo hi =>
  simp only[PO.ok,PO.val,PO.aV] at *
  cases hx:ev x<;>rw[hx] at h hk<;>try exact h.1.elim
  rename_i v
  cases v<;>try exact h.1.elim
  obtain ⟨_,h1,h2,h3,h4⟩:=h
  exact gN.2 ⟨h2,gN.2 ⟨h1,⟨h3,h4⟩,hk⟩⟩
 | yq k x lo hi mx =>
  simp only[PO.ok,PO.val,PO.aV] at *
  obtain ⟨h1,h2,h3,h4⟩:=h
  cases hx:ev x<;>rw[hx] at h4 hk<;>try exact h4.elim
  ·rename_i k' xs room
   refine ⟨h4.1,?_⟩
   cases mx with
   | some m=>exact gN.2 ⟨h3,gN.2 ⟨h2,gN.2 ⟨h1,h4.2,hk⟩⟩⟩
   | none =>
    cases room with
    | none=>exact gN.2 ⟨h2,gN.2 ⟨h1,h4.2,hk⟩⟩
    | some ys=>exact gN.2 ⟨h2,gN.2 ⟨h1,h4.2,hk⟩⟩
  ·rename_i k' id off n c
   obtain ⟨g1,g2,g3,g4⟩:=h4
   cases mx with
   | some m=>simp at g2
   | none =>
    refine ⟨g1,rfl,gN.2 ⟨h2,gN.2 ⟨h1,⟨g3,g4⟩,?_⟩⟩⟩
    cases c with
    | none =>
     have fB:K (if eX ev 0 lo<eX ev n hi then .aB k id (off+eX ev 0 lo) (eX ev n hi - eX ev 0 lo) none else .ak k [] none):=hk
     refine ⟨fun e=>?_,fun e=>?_⟩
     ·rw[if_pos e] at fB
      exact fB
     ·rw[if_neg (by omega)] at fB
      exact fB
    | some m =>
     have fB:K (if eX ev 0 lo<m then .aB k id (off+eX ev 0 lo) (eX ev n hi - eX ev 0 lo) (some (m - eX ev 0 lo)) else .ak k [] none):=hk
     refine ⟨fun e=>?_,fun e=>?_⟩
     ·rw[if_pos e] at fB
      exact fB
     ·rw[if_neg (by omega)] at fB
      exact fB
 | xz t z x =>
  simp only[PO.ok,PO.val,PO.aV] at *
  cases hx:ev x<;>rw[hx] at h hk<;>try exact h.elim
  ·rename_i v
   cases v<;>first | exact h.elim | exact hk
  ·simp only[JI] at hk
   exact ⟨fun e=>by rw[if_pos e] at hk;exact hk,fun e=>by rw[if_neg e] at hk;exact hk⟩
 | mv x=>exact hk
 | kZ f a b=>exact hk
 | xy t x=>exact hk
 | Fx pos x y =>
  simp only[PO.ok,PO.val,PO.aV,JF] at *
  split at h
  ·rename_i e1 e2
   rw[e1,e2] at hk
   rw[e1,e2]
   exact hk
  ·exact h.elim
 | gE k x i =>
  simp only[PO.ok,PO.val,PO.aV,qW] at *
  split at h
  ·rename_i e1 e2
   rw[e1,e2] at hk
   rw[e1,e2]
   exact ⟨h,hk⟩
  ·rename_i e1 e2
   rw[e1,e2] at hk
   rw[e1,e2]
   exact ⟨h,hk⟩
  ·exact h.elim
 | oZ ln k x i =>
  simp only[PO.ok,PO.val,PO.aV,wA] at *
  split at h
  ·rename_i e1 e2
   rw[e1,e2] at hk
   rw[e1,e2]
   exact ⟨h,hk⟩
  ·rename_i e1 e2
   rw[e1,e2] at hk
   rw[e1,e2]
   exact ⟨h,hk⟩
  ·exact h.elim
 | jy x i =>
  simp only[PO.ok,PO.val,PO.aV,yR] at *
  split at h
  ·rename_i e1 e2
   rw[e1,e2] at hk
   rw[e1,e2]
   exact ⟨h,hk⟩
  ·exact h.elim
 | xx ln n ag x i =>
  simp only[PO.ok,PO.val,PO.aV,Ev] at *
  split at h
  ·rename_i e1 e2
   rw[e1,e2] at hk
   rw[e1,e2]
   exact ⟨h.1,h.2,by rw[e1] at *;exact hk⟩
  ·exact h.elim
 | mm mx x y =>
  simp only[PO.ok,PO.val,PO.aV,Si] at *
  split at h
  ·rename_i e1 e2
   rw[e1,e2] at hk
   rw[e1,e2]
   exact hk
  ·exact h.elim
 | D1 pos x =>
  simp only[PO.ok,PO.val,PO.aV] at *
  cases hx:ev x<;>rw[hx] at h hk<;>try exact h.elim
  ·rename_i v;cases v<;>first | exact h.elim | exact hk
  ·exact hk
 | um pos x =>
  simp only[PO.ok,PO.val,PO.aV] at *
  cases hx:ev x<;>rw[hx] at h hk<;>try exact h.elim
  ·rename_i k xs room;cases xs<;>exact hk
  ·exact hk
 | conv k x =>
  simp only[PO.ok,PO.val,PO.aV] at *
  cases hx:ev x<;>rw[hx] at h hk<;>try exact h.elim
  rename_i v;cases v<;>first | exact h.elim | exact hk
 | s8 x =>
  simp only[PO.ok,PO.val,PO.aV] at *
  cases hx:ev x<;>rw[hx] at h hk<;>first | exact h.elim | exact ⟨h,hk⟩
 | cI x =>
  simp only[PO.ok,PO.val,PO.aV] at *
  cases hx:ev x<;>rw[hx] at h hk<;>first | exact h.elim | exact ⟨h,hk⟩ | exact hk | skip
  rename_i f a b;cases f<;>first | exact h.elim | exact hk
 | av off x =>
  simp only[PO.ok,PO.val,PO.aV] at *
  cases hx:ev x<;>rw[hx] at h hk<;>first | exact h.elim | exact ⟨h,hk⟩ | exact hk
 | field off n ag x =>
  simp only[PO.ok,PO.val,PO.aV] at *
  cases hx:ev x<;>rw[hx] at h hk<;>first | exact h.elim | exact ⟨h,hk⟩
 | len x =>
  simp only[PO.ok,PO.val,PO.aV] at *
  cases hx:ev x<;>rw[hx] at h hk<;>try first | exact h.elim | exact hk
  unfold nV at h
  split at h
  ·rename_i e0;cases e0
  ·rename_i e0;cases e0
  ·rename_i e0;cases e0;exact hk
  ·exact h.elim
 | my x =>
  simp only[PO.ok,PO.val,PO.aV] at *
  cases hx:ev x<;>rw[hx] at h hk<;>try exact h.elim
  rename_i v;cases v<;>first | exact h.elim | exact hk
 | ext x i =>
  simp only[PO.ok,PO.val,PO.aV] at *
  cases hx:ev x<;>rw[hx] at h hk<;>first | exact h.elim | exact ⟨h,hk⟩
 | qw pos x =>
  simp only[PO.ok,PO.val,PO.aV] at *
  cases hx:ev x<;>rw[hx] at h hk<;>try exact h.elim
  ·rename_i v;cases v<;>first | exact h.elim | exact hk
  ·exact hk
 | sP t x =>
  simp only[PO.ok,PO.val,PO.aV] at *
  cases hx:ev x<;>rw[hx] at h hk<;>first | exact h.elim | exact ⟨h,hk⟩
def sR(H:Y)(n:Nat)(ag:Bool):Z→Prop
 | .ptr k id j f=>match Y.find H id with
  | some blk=>blk.k=k∧j<blk.es.length∧Z.gm (blk.es.getD j .top) f n ag∧0<k
  | none=>False
 | .lp x f=>Z.gm x f n ag
 | _=>False
def B6(H:Y)(n:Nat)(ag:Bool):Z→Z
 | .ptr _ id j f=>match Y.find H id with
  | some blk=>Z.sub (blk.es.getD j .top) f n ag
  | none=>.top
 | .lp x f=>Z.sub x f n ag
 | _=>.top
def xQ(H:Y)(n:Nat):Z→Z→Prop
 | .ptr k id j f,x=>match Y.find H id with
  | some blk=>blk.k=k∧j<blk.es.length∧x.bO=false∧x.an=n∧f+n≤(blk.es.getD j .top).an∧((blk.es.getD j .top).isAgg || !x.isAgg)=true∧0<k
  | none=>False
 | _,_=>False
def uN(H:Y):Z→Z→Y
 | .ptr k id j f,x=>match Y.find H id with
  | some blk=>Y.set H id (some { blk with es:=blk.es.set j (Z.j6 (blk.es.getD j .top) f x) })
  | none=>H
 | _,_=>H
def oz(ev:X→Z):List Z→List (Nat×X)→List Z
 | es,[]=>es
 | es,(i,x)::r=>oz ev (es.set i (ev x)) r
def ki(ev:X→Z)(k:Nat):List Z→List (Nat×X)→Prop
 | _,[]=>True
 | es,(i,x)::r=>((ev x).bO=false∧(ev x).an=k∧i<es.length)∧ki ev k (es.set i (ev x)) r
theorem wB{ev:X→Z}{k:Nat}{K:List Z→Prop}:∀{ps:List (Nat×X)}{es:List Z},mJ ev k es ps K↔ki ev k es ps∧K (oz ev es ps)
 | [],es=>by simp[mJ,ki,oz]
 | (i,x)::r,es=>by simp only[mJ,ki,oz,wB (ps:=r),and_assoc]
def sS(H:Y)(k:Nat):Z→Prop
 | .ak k' ys _=>k'=k∨ys=[]
 | .aB k' id off n _=>match Y.find H id with
  | some blk=>k'=k∧blk.k=k∧off+n≤blk.es.length
  | none=>False
 | _=>False
def l7(H:Y):Z→List Z
 | .ak _ ys _=>ys
 | .aB _ id off n _=>match Y.find H id with
  | some blk=>(blk.es.drop off).take n
  | none=>[]
 | _=>[]
def bL:Z→Int
 | .sc (.int _ n)=>n
 | _=>0
def ny:Z→Prop
 | .sc (.int _ _)=>True
 | _=>False
def iv(H:Y)(k ty:Nat)(ys:List Z):Z→Prop
 | .ak k' xs (some [])=>(k'=k∨xs=[])∧xs.length+ys.length≤100000000
 | .aB k' id off n none=>match Y.find H id with
  | some blk=>(k'=k∧blk.k=k∧blk.ty=ty∧off=0∧n+ys.length≤100000000)∧blk.exact=false∧n=blk.es.length
  | none=>False
 | .aB k' id off n (some m)=>match Y.find H id with
  | some blk=>(k'=k∧blk.k=k∧blk.ty=ty∧off=0∧n+ys.length≤100000000)∧((blk.exact=true∧m=blk.es.length∧n≤m)∨(blk.exact=false∧n≤blk.es.length))
  | none=>False
 | _=>False
def nW(H:Y)(k:Nat)(ys:List Z):Z→Z
 | .ak k' xs (some [])=>match ys with
  | []=>.ak k' xs (some [])
  | _::_=>.aB k H.length 0 (xs.length+ys.length) none
 | .aB _ id _ n none=>.aB k H.length 0 (n+ys.length) none
 | .aB _ id _ n (some m)=>if n+ys.length≤m then .aB k id 0 (n+ys.length) (some m) else .aB k H.length 0 (n+ys.length) none
 | _=>.top
def kj(H:Y)(k ty:Nat)(ys:List Z):Z→Y
 | .ak _ xs (some [])=>match ys with
  | []=>H
  | _::_=>some ⟨k,xs++ys,false,ty⟩::H
 | .aB _ id _ n none=>match Y.find H id with
  | some blk=>some ⟨k,blk.es++ys,false,ty⟩::Y.set H id none
  | none=>H
 | .aB _ id _ n (some m)=>match Y.find H id with
  | some blk=>if n+ys.length≤m then Y.set H id (some { blk with es:=blk.es.take n++ys++blk.es.drop (n+ys.length) }) else some ⟨k,blk.es.take n++ys,false,ty⟩::H
  | none=>H
 | _=>H
def HO.B7(ev:X→Z)(H:Y):HO→Prop
 | .load n ag a=>sR H n ag (ev a)
 | .alloc _ _=>True
 | .box k _ x=>(ev x).bO=false∧(ev x).an=k
 | .eE k _ z ln ps=>ki ev k (List.replicate ln z) ps
 | .jC k _ z ln ps=>ki ev k (List.replicate ln z) ps
 | .store n a x=>xQ H n (ev a) (ev x)
 | .jD _ _ _ l c=>ny (ev l)∧ny (ev c)∧0≤bL (ev l)∧bL (ev l)≤bL (ev c)∧bL (ev c)≤100000000
 | .eN k ty s x=>sS H k (ev x)∧iv H k ty (l7 H (ev x)) (ev s)
 | .gx g xs=>g.ok H (xs.map ev)
 | _=>False
def HO.qX(ev:X→Z)(H:Y):HO→Z
 | .load n ag a=>B6 H n ag (ev a)
 | .alloc z _=>.ptr z.an H.length 0 0
 | .box k _ _=>.ptr k H.length 0 0
 | .eE k _ z ln ps=>.ak k (oz ev (List.replicate ln z) ps) (some [])
 | .jC k _ _ ln _=>.aB k H.length 0 ln (some ln)
 | .store _ _ _=>.top
 | .jD k _ _ l c=>.aB k H.length 0 (bL (ev l)).toNat (some (bL (ev c)).toNat)
 | .eN k _ s x=>nW H k (l7 H (ev x)) (ev s)
 | .gx g xs=>g.val H (xs.map ev)
 | _=>.top
def HO.mN(ev:X→Z)(H:Y):HO→Y
 | .alloc z ty=>some ⟨z.an,[z],true,ty⟩::H
 | .box k ty x=>some ⟨k,[ev x],true,ty⟩::H
 | .jC k ty z ln ps=>some ⟨k,oz ev (List.replicate ln z) ps,true,ty⟩::H
 | .store _ a x=>uN H (ev a) (ev x)
 | .jD k ty z _ c=>some ⟨k,List.replicate (bL (ev c)).toNat z,true,ty⟩::H
 | .eN k ty s x=>kj H k ty (l7 H (ev x)) (ev s)
 | .gx g xs=>g.heap H (xs.map ev)
 | _=>H
theorem qY{α:Type}{l:List α}{j:Nat}{d:α}(h:j<l.length):l[j]? = some (l.getD j d):=by simp[List.getD,h]
theorem HO.gw{P:Program}{ev:X→Z}{H:Y}{K Kp:Z→Y→Prop}:∀{q:HO},q.B7 ev H→K (q.qX ev H) (q.mN ev H)→HO.aV P ev H K Kp q:=by
 intro q h hk
 cases q with
 | load n ag a =>
  simp only[HO.B7,HO.qX,HO.mN,HO.aV] at *
  cases he:ev a<;>rw[he] at h hk<;>try exact h.elim
  ·simp only[sR,B6] at h hk
   cases hf:Y.find H _ with
   | none=>rw[hf] at h;exact h.elim
   | some blk=>rw[hf] at h hk;exact ⟨blk,_,hf,qY h.2.1,⟨h.1,h.2.2.1,h.2.2.2⟩,hk⟩
  ·exact ⟨h,hk⟩
 | alloc z ty=>exact hk
 | box k ty x=>exact ⟨h,hk⟩
 | eE k ty z ln ps=>exact wB.2 ⟨h,hk⟩
 | jC k ty z ln ps=>exact wB.2 ⟨h,hk⟩
 | store n a x =>
  simp only[HO.B7,HO.qX,HO.mN,HO.aV] at *
  cases he:ev a<;>rw[he] at h hk<;>try exact h.elim
  simp only[xQ,uN] at h hk
  cases hf:Y.find H _ with
  | none=>rw[hf] at h;exact h.elim
  | some blk =>
   rw[hf] at h hk
   obtain ⟨h1,h2,h3,h4,h5,h6,h7⟩:=h
   refine ⟨blk,_,hf,qY h2,⟨h1,h3,h4,h5,fun e=>?_,h7⟩,hk⟩
   rw[e] at h6
   simpa using h6
 | jD k ty z l c =>
  simp only[HO.B7,HO.qX,HO.mN,HO.aV] at *
  obtain ⟨h1,h2,h3⟩:=h
  cases he:ev l<;>rw[he] at h1<;>try exact h1.elim
  rename_i v
  cases v<;>try exact h1.elim
  cases hf:ev c<;>rw[hf] at h2<;>try exact h2.elim
  rename_i v2
  cases v2<;>try exact h2.elim
  rw[he,hf] at h3 hk
  exact ⟨h3,hk⟩
 | gx g xs=>exact ⟨h,hk⟩
 | eN k ty s x =>
  simp only[HO.B7,HO.qX,HO.mN,HO.aV] at *
  obtain ⟨h1,h2⟩:=h
  have hls:∀{K':List Z→Prop},K' (l7 H (ev x))→FJ H k (ev x) K':=by
   intro K' hk'
   cases hx:ev x<;>rw[hx] at h1 hk'<;>try exact h1.elim
   ·exact ⟨h1,hk'⟩
   ·simp only[sS,l7] at h1 hk'
    cases hf:Y.find H _ with
    | none=>rw[hf] at h1;exact h1.elim
    | some blk=>rw[hf] at h1 hk';exact ⟨blk,hf,h1,hk'⟩
  refine hls ?_
  cases hs:ev s<;>rw[hs] at h2 hk<;>try exact h2.elim
  ·rename_i k' xs room
   cases room with
   | none=>exact h2.elim
   | some zs =>
    cases zs with
    | cons _ _=>exact h2.elim
    | nil =>
     refine ⟨h2,fun e=>?_,fun e=>?_⟩
     ·rw[e] at hk;exact hk
     ·cases hy:l7 H (ev x) with
      | nil=>exact absurd hy e
      | cons a b=>rw[hy] at hk;exact hk
  ·rename_i k' id off n c
   cases c with
   | none =>
    simp only[iv,nW,kj] at h2 hk
    cases hf:Y.find H id with
    | none=>rw[hf] at h2;exact h2.elim
    | some blk=>rw[hf] at h2 hk;exact ⟨blk,hf,h2.1,h2.2,hk⟩
   | some m =>
    simp only[iv,nW,kj] at h2 hk
    cases hf:Y.find H id with
    | none=>rw[hf] at h2;exact h2.elim
    | some blk =>
     rw[hf] at h2 hk
     refine ⟨blk,hf,h2.1,h2.2,fun e=>?_,fun e=>?_⟩
     ·simp only[if_pos e] at hk;exact hk
     ·have:¬n+(l7 H (ev x)).length≤m:=by omega
      simp only[if_neg this] at hk;exact hk
 | _=>exact h.elim
def Gp(P:Program)(ev:X→Z)(H:Y)(C Cp:Z→Y→Prop):dR→Prop
 | .p q=>q.ok ev∧C (q.val ev) H
 | .h (.call f dS)=>DK P f (dS.map ev) H (fun e H'=>cm.post C Cp H' e)
 | .h (.bD f dS)=>match ev f with
  | .fn (.func g) a b=>bA P g=true∧DK P g (a++dS.map ev++b) H (fun e H'=>cm.post C Cp H' e)
  | _=>False
 | .h (.bu x)=>match ev x with
  | .dK t v=>Cp (.dK t v) H
  | _=>False
 | .h (.ot kd x)=>Jn C H kd (ev x)
 | .h q=>q.B7 ev H∧C (q.qX ev H) (q.mN ev H)
theorem mO {P : Program} {f : FuncId} (h : bA P f = true) : ∃ fn, P.funcs[f]? = some fn ∧ fn.body.isSome ∧ fn.name ≠ "runtime.NumGoroutine" := by
 unfold bA at h
 split at h
 case h_2=>simp at h
 rename_i fn hf
 simp only[Bool.and_eq_true,Bool.not_eq_true',beq_eq_false_iff_ne] at h
 exact ⟨fn,hf,h.1,h.2⟩
theorem Sj{P:Program}{ev:X→Z}{H:Y}{C Cp:Z→Y→Prop}{op:dR}(h:Gp P ev H C Cp op):RG P ev H C Cp op:=by
 cases op with
 | p q=>exact PO.gw (K:=fun v=>C v H) h.1 h.2
 | h q =>
  cases q with
  | call f dS=>exact h
  | bD f dS =>
   simp only[Gp,RG,HO.FW] at h ⊢
   split at h
   ·rename_i he;simp only[he];exact ⟨mO h.1,h.2⟩
   ·exact h.elim
  | bu x=>exact h
  | ot kd x=>exact h
  | _=>exact HO.gw (P:=P) (Kp:=Cp) h.1 h.2
theorem jl{ts:List Z}{p q p' q':Prop}{g:Option (Nat×Bool)}(h1:p→p')(h2:q→q')(h:bT ts p q g):bT ts p' q' g:=Gf h1 h2 h
def cG(P:Program)(K:List Z→Y→Prop)(Kp:Z→List Z→Y→Prop):List bG→List Z→Y→Prop
 | [],ts,H=>K ts H
 | o::r,ts,H=>bT ts (Gp P (X.ev ts) H (fun v H'=>cG P K Kp r (bJ ts o.dst v) H') (fun v H'=>Kp v ts H') o.op) (cG P K Kp r (bJ ts o.dst (.aK [])) H) o.guard
theorem CT{P:Program}{ev:X→Z}{H:Y}{C Cp C' Cp':Z→Y→Prop}{op:dR}(h1:∀v H,C v H→C' v H)(h2:∀v H,Cp v H→Cp' v H)(h:Gp P ev H C Cp op):Gp P ev H C' Cp' op:=by
 have tB:∀{e H'},cm.post C Cp H' e→cm.post C' Cp' H' e:=fun {e H'} h=>by
  cases e with
  | ret v=>exact h1 _ _ h
  | bu v=>exact h2 _ _ h
 cases op with
 | p q=>exact ⟨h.1,h1 _ _ h.2⟩
 | h q =>
  cases q with
  | call f dS=>exact h.mono fun e H' _ g=>tB g
  | bD f dS =>
   simp only[Gp] at h ⊢
   split at h
   ·exact ⟨h.1,h.2.mono fun e H' _ g=>tB g⟩
   ·exact h.elim
  | bu x =>
   simp only[Gp] at h ⊢
   split at h
   ·exact h2 _ _ h
   ·exact h.elim
  | ot kd x=>exact NC h1 h
  | _=>exact ⟨h.1,h1 _ _ h.2⟩
theorem fQ{P:Program}{K:List Z→Y→Prop}{Kp:Z→List Z→Y→Prop}:∀{l:List bG}{ts:List Z}{H:Y},cG P K Kp l ts H→fP P K Kp l ts H
 | [],_,_,h=>h
 | o::r,ts,H,h=>jl (fun h=>Sj (CT (fun v H h=>fQ h) (fun _ _ h=>h) h)) (fun h=>fQ h) h
def yx(A:List (List Nat))(i:Nat)(hs:List (Nat×Y×Y)):Z→Prop
 | .ptr _ id _ _=>∀c∈hs,kf A c.1 i=true→id<c.2.1.length→Y.find c.2.2 id=Y.find c.2.1 id
 | _=>True
def Sk(i:Nat)(ld:List (Nat×Nat)):Z→List (Nat×Nat)
 | .ptr _ id _ _=>(i,id)::ld
 | _=>ld
def pq(A:List (List Nat))(i:Nat)(ld:List (Nat×Nat))(H H':Y):Prop:=∀l∈ld,kf A l.1 i=true→Y.find H' l.2=Y.find H l.2
def Oc(P:Program)(A:List (List Nat))(n i:Nat)(ev:X→Z)(H:Y)(ld:List (Nat×Nat))(hs:List (Nat×Y×Y))(C:Z→Y→List (Nat×Nat)→List (Nat×Y×Y)→Prop)(Kp:Z→Y→Prop):dR→Prop
 | .p q=>q.ok ev∧C (q.val ev) H ld hs
 | .h (.load m ag a)=>yx A i hs (ev a)∧sR H m ag (ev a)∧C (B6 H m ag (ev a)) H (Sk i ld (ev a)) hs
 | .h (.call f dS)=>∃e H',D P f (dS.map ev) H e H'∧cm.post (fun v H'=>pq A i ld H H'∧C v H' ld ((i,H,H')::hs)) (fun v H'=>nS A n i=true∧Kp v H') H' e
 | .h (.bD f dS)=>match ev f with
  | .fn (.func g) a b=>bA P g=true∧∃e H',D P g (a++dS.map ev++b) H e H'∧cm.post (fun v H'=>pq A i ld H H'∧C v H' ld ((i,H,H')::hs)) (fun v H'=>nS A n i=true∧Kp v H') H' e
  | _=>False
 | .h (.bu x)=>False
 | .h (.store m a x)=>xQ H m (ev a) (ev x)∧pq A i ld H (uN H (ev a) (ev x))∧C .top (uN H (ev a) (ev x)) ld ((i,H,uN H (ev a) (ev x))::hs)
 | .h (.eN k ty s x)=>(sS H k (ev x)∧iv H k ty (l7 H (ev x)) (ev s))∧pq A i ld H (kj H k ty (l7 H (ev x)) (ev s))∧C (nW H k (l7 H (ev x)) (ev s)) (kj H k ty (l7 H (ev x)) (ev s)) ld ((i,H,kj H k ty (l7 H (ev x)) (ev s))::hs)
 | .h (.gx g xs)=>g.ok H (xs.map ev)∧pq A i ld H (g.heap H (xs.map ev))∧C (g.val H (xs.map ev)) (g.heap H (xs.map ev)) ld ((i,H,g.heap H (xs.map ev))::hs)
 | .h q=>q.B7 ev H∧C (q.qX ev H) (q.mN ev H) (HO.Jw i H ld q) hs
def cw(P:Program)(A:List (List Nat))(n:Nat)(K:List Z→Y→Prop)(Kp:Z→Y→Prop):Nat→List bG→List Z→Y→List (Nat×Nat)→List (Nat×Y×Y)→Prop
 | _,[],ts,H,_,_=>K ts H
 | i,o::r,ts,H,ld,hs=>bT ts (Oc P A n i (X.ev ts) H ld hs (fun v H' wk hs'=>cw P A n K Kp (i+1) r (bJ ts o.dst v) H' wk hs') Kp o.op) (cw P A n K Kp (i+1) r (bJ ts o.dst (.aK [])) H ld hs) o.guard
theorem JL{P:Program}{A:List (List Nat)}{n i:Nat}{ev:X→Z}{H:Y}{ld:List (Nat×Nat)}{hs:List (Nat×Y×Y)}{C C':Z→Y→List (Nat×Nat)→List (Nat×Y×Y)→Prop}{Kp:Z→Y→Prop}{op:dR}
  (hC:∀v H ld hs,C v H ld hs→C' v H ld hs)(h:Oc P A n i ev H ld hs C Kp op):Ek P A n i ev H ld hs C' Kp op:=by
 cases op with
 | p q=>exact PO.gw (K:=fun v=>C' v H ld hs) h.1 (hC _ _ _ _ h.2)
 | h q =>
  cases q with
  | load m ag a =>
   obtain ⟨h1,h2,h3⟩:=h
   simp only[Ek]
   split
   ·rename_i k id j f he
    rw[he] at h1 h2 h3
    refine ⟨h1,HO.gw (q:=.load m ag a) ?_ ?_⟩
    ·simp only[HO.B7];rw[he];exact h2
    ·simp only[HO.qX,HO.mN];rw[he];exact hC _ _ _ _ h3
   ·rename_i hne
    have hn:Sk i ld (ev a)=ld:=by
     cases he:ev a<;>first | rfl | (exact absurd he (hne _ _ _ _))
    rw[hn] at h3
    exact HO.gw (q:=.load m ag a) h2 (hC _ _ _ _ h3)
  | call f dS =>
   obtain ⟨e,H',h1,h2⟩:=h
   cases e with
   | ret v=>exact ⟨.ret v,H',h1,h2.1,hC _ _ _ _ h2.2⟩
   | bu v=>exact ⟨.bu v,H',h1,h2⟩
  | bD f dS =>
   have h':=h
   simp only[Oc] at h'
   show HO.aV P ev H _ _ (.bD f dS)
   simp only[HO.aV]
   split at h'
   ·rename_i he
    simp only[he]
    obtain ⟨h0,e,H',h1,h2⟩:=h'
    refine ⟨mO h0,e,H',h1,?_⟩
    cases e with
    | ret v=>exact ⟨h2.1,hC _ _ _ _ h2.2⟩
    | bu v=>exact h2
   ·exact h'.elim
  | bu x=>exact h.elim
  | store m a x=>exact HO.gw (P:=P) (K:=fun v H'=>(∀l∈ld,kf A l.1 i=true→Y.find H' l.2=Y.find H l.2)∧C' v H' ld ((i,H,H')::hs)) (Kp:=fun v H'=>nS A n i=true∧Kp v H') (q:=.store m a x) h.1 ⟨h.2.1,hC _ _ _ _ h.2.2⟩
  | eN k ty s x=>exact HO.gw (P:=P) (K:=fun v H'=>(∀l∈ld,kf A l.1 i=true→Y.find H' l.2=Y.find H l.2)∧C' v H' ld ((i,H,H')::hs)) (Kp:=fun v H'=>nS A n i=true∧Kp v H') (q:=.eN k ty s x) h.1 ⟨h.2.1,hC _ _ _ _ h.2.2⟩
  | gx g xs=>exact HO.gw (P:=P) (K:=fun v H'=>(∀l∈ld,kf A l.1 i=true→Y.find H' l.2=Y.find H l.2)∧C' v H' ld ((i,H,H')::hs)) (Kp:=fun v H'=>nS A n i=true∧Kp v H') (q:=.gx g xs) h.1 ⟨h.2.1,hC _ _ _ _ h.2.2⟩
  | alloc z ty=>exact HO.gw (P:=P) (K:=fun v H'=>C' v H' ((i,H.length)::ld) hs) (Kp:=fun _ _=>False) h.1 (hC _ _ _ _ h.2)
  | box k ty x=>exact HO.gw (P:=P) (K:=fun v H'=>C' v H' ((i,H.length)::ld) hs) (Kp:=fun _ _=>False) h.1 (hC _ _ _ _ h.2)
  | jC k ty z ln ps=>exact HO.gw (P:=P) (K:=fun v H'=>C' v H' ((i,H.length)::ld) hs) (Kp:=fun _ _=>False) h.1 (hC _ _ _ _ h.2)
  | jD k ty z l c=>exact HO.gw (P:=P) (K:=fun v H'=>C' v H' ((i,H.length)::ld) hs) (Kp:=fun _ _=>False) h.1 (hC _ _ _ _ h.2)
  | _=>exact HO.gw (P:=P) (K:=fun v H'=>C' v H' ld hs) (Kp:=fun _ _=>False) h.1 (hC _ _ _ _ h.2)
theorem qZ{P:Program}{A:List (List Nat)}{n:Nat}{K:List Z→Y→Prop}{Kp:Z→Y→Prop}:∀{l:List bG}{i:Nat}{ts:List Z}{H:Y}{ld:List (Nat×Nat)}{hs:List (Nat×Y×Y)},cw P A n K Kp i l ts H ld hs→mL P A n K Kp i l ts H ld hs
 | [],_,_,_,_,_,h=>h
 | o::r,i,ts,H,ld,hs,h=>jl (fun h=>JL (fun v H ld hs h=>qZ h) h) (fun h=>qZ h) h
def ES(P:Program):IC→Post→List Z→Y→Prop
 | .skip,K,ts,H=>K .normal ts H
 | .ops l,K,ts,H=>cG P (K .normal) (fun v ts' H'=>K (.bu v) ts' H') l ts H
 | .dL l A,K,ts,H=>cw P A l.length (K .normal) (fun v H'=>K (.bu v) (ig l ts) H') 0 l ts H [] []
 | .seq a b,K,ts,H=>ES P a (iC (ES P b K) K) ts H
 | .cond c a b,K,ts,H=>match c.ev ts with
  | .sc (.bool t)=>(t=true→ES P a K ts H)∧(t=false→ES P b K ts H)
  | .ub=>ES P a K ts H∧ES P b K ts H
  | _=>False
 | .block id c,K,ts,H=>ES P c (jI id K) ts H
 | .loop c,K,ts,H=>∃(I:List Z→Y→Prop)(μ:List Z→Y→Nat),I ts H∧∀ts H,I ts H→ES P c (iC (fun ts' H'=>I ts' H'∧μ ts' H'<μ ts H) K) ts H
 | .exit id,K,ts,H=>K (.exit id) ts H
 | .ret,K,ts,H=>K .ret ts H
 | .Wx l1 g y args d l2,K,ts,H=>cG P (fun fx H1=>bT fx (Ms P (fun v H2=>cG P (K .normal) (fun v ts' H'=>K (.bu v) ts' H') l2 (bJ fx d v) H2) (fun v H2=>K (.bu v) fx H2) (args.map (X.ev fx)) H1 (y.ev fx)) (cG P (K .normal) (fun v ts' H'=>K (.bu v) ts' H') l2 (bJ fx d (.aK [])) H1) g) (fun v ts' H'=>K (.bu v) ts' H') l1 ts H
 | .Wy g ps sH body,K,ts,H=>Gi P ps sH body K ts H (g.ev ts)
theorem zZ{P:Program}{K K' Kp z6:Z→Y→Prop}(h1:∀v H,K v H→K' v H)(h2:∀v H,Kp v H→z6 v H){args:List Z}{H:Y}{v:Z}(h:Ms P K Kp args H v):Ms P K' z6 args H v:=by
 cases v<;>try exact h.elim
 obtain ⟨h0,e,H',h3,h4⟩:=h
 refine ⟨h0,e,H',h3,?_⟩
 cases e with
 | ret u=>exact h1 _ _ h4
 | bu u=>exact h2 _ _ h4
theorem JM{K K':Post}(hk:∀x ts H,K x ts H→K' x ts H){ts:List Z}{H:Y}{c:Option Code}(h:Mt K ts H c):Mt K' ts H c:=by
 unfold Mt at h ⊢
 split at h<;>first | exact hk _ _ _ h | exact h.elim
theorem JN{P:Program}{ps:Array Tmp}{sH body:Code}{K K':Post}(hk:∀x ts H,K x ts H→K' x ts H){ts:List Z}{H:Y}{v:Z}(h:Gi P ps sH body K ts H v):Gi P ps sH body K' ts H v:=by
 unfold Gi at h ⊢
 split at h
 ·refine ⟨h.1,fun fn db=>?_⟩
  obtain ⟨v,H',r,ts',g1,g2,g3,g4⟩:=h.2 fn db
  exact ⟨v,H',r,ts',g1,g2,g3,JM hk g4⟩
 ·exact h.elim
theorem eY{P:Program}{K K':List Z→Y→Prop}{Kp z6:Z→List Z→Y→Prop}(h1:∀ts H,K ts H→K' ts H)(h2:∀v ts H,Kp v ts H→z6 v ts H):∀{l:List bG}{ts:List Z}{H:Y},cG P K Kp l ts H→cG P K' z6 l ts H
 | [],_,_,h=>h1 _ _ h
 | o::r,ts,H,h=>jl (fun h=>CT (fun v H h=>eY h1 h2 h) (fun v H h=>h2 _ _ _ h) h) (fun h=>eY h1 h2 h) h
theorem Od{P:Program}{A:List (List Nat)}{n i:Nat}{ev:X→Z}{H:Y}{ld:List (Nat×Nat)}{hs:List (Nat×Y×Y)}{C C':Z→Y→List (Nat×Nat)→List (Nat×Y×Y)→Prop}{Kp z6:Z→Y→Prop}{op:dR}
  (hC:∀v H ld hs,C v H ld hs→C' v H ld hs)(hK:∀v H,Kp v H→z6 v H)(h:Oc P A n i ev H ld hs C Kp op):Oc P A n i ev H ld hs C' z6 op:=by
 cases op with
 | p q=>exact ⟨h.1,hC _ _ _ _ h.2⟩
 | h q =>
  cases q with
  | load m ag a=>exact ⟨h.1,h.2.1,hC _ _ _ _ h.2.2⟩
  | call f dS =>
   obtain ⟨e,H',h1,h2⟩:=h
   cases e with
   | ret v=>exact ⟨.ret v,H',h1,h2.1,hC _ _ _ _ h2.2⟩
   | bu v=>exact ⟨.bu v,H',h1,h2.1,hK _ _ h2.2⟩
  | bD f dS =>
   simp only[Oc] at h ⊢
   split at h
   ·obtain ⟨h0,e,H',h1,h2⟩:=h
    refine ⟨h0,e,H',h1,?_⟩
    cases e with
    | ret v=>exact ⟨h2.1,hC _ _ _ _ h2.2⟩
    | bu v=>exact ⟨h2.1,hK _ _ h2.2⟩
   ·exact h.elim
  | bu x=>exact h.elim
  | store m a x=>exact ⟨h.1,h.2.1,hC _ _ _ _ h.2.2⟩
  | eN k ty s x=>exact ⟨h.1,h.2.1,hC _ _ _ _ h.2.2⟩
  | gx g xs=>exact ⟨h.1,h.2.1,hC _ _ _ _ h.2.2⟩
  | _=>exact ⟨h.1,hC _ _ _ _ h.2⟩
theorem q8{P:Program}{A:List (List Nat)}{n:Nat}{K K':List Z→Y→Prop}{Kp z6:Z→Y→Prop}(h1:∀ts H,K ts H→K' ts H)(h2:∀v H,Kp v H→z6 v H):∀{l:List bG}{i:Nat}{ts:List Z}{H:Y}{ld:List (Nat×Nat)}{hs:List (Nat×Y×Y)},cw P A n K Kp i l ts H ld hs→cw P A n K' z6 i l ts H ld hs
 | [],_,_,_,_,_,h=>h1 _ _ h
 | o::r,i,ts,H,ld,hs,h=>jl (fun h=>Od (fun v H ld hs h=>q8 h1 h2 h) h2 h) (fun h=>q8 h1 h2 h) h
theorem z7{P:Program}:∀{c:IC}{K K':Post},(∀x ts H,K x ts H→K' x ts H)→∀{ts:List Z}{H:Y},ES P c K ts H→ES P c K' ts H:=by
 intro c
 induction c with
 | skip=>intro K K' hk ts H h;exact hk _ _ _ h
 | ops l=>intro K K' hk ts H h;exact eY (fun _ _ h=>hk _ _ _ h) (fun _ _ _ h=>hk _ _ _ h) h
 | dL l A=>intro K K' hk ts H h;exact q8 (fun _ _ h=>hk _ _ _ h) (fun _ _ h=>hk _ _ _ h) h
 | seq a b uO wC =>
  intro K K' hk ts H h
  refine uO (fun x ts H h=>?_) h
  cases x<;>first | exact wC hk h | exact hk _ _ _ h
 | cond c a b uO wC =>
  intro K K' hk ts H h
  simp only[ES] at h ⊢
  split at h
  ·exact ⟨fun e=>uO hk (h.1 e),fun e=>wC hk (h.2 e)⟩
  ·exact ⟨uO hk h.1,wC hk h.2⟩
  ·exact h.elim
 | block id c ih =>
  intro K K' hk ts H h
  refine ih (fun x ts H h=>?_) h
  cases x<;>first | exact hk _ _ _ h | skip
  simp only[jI] at h ⊢
  split at h
  ·rename_i e;rw[if_pos e];exact hk _ _ _ h
  ·rename_i e;rw[if_neg e];exact hk _ _ _ h
 | loop c ih =>
  intro K K' hk ts H h
  obtain ⟨I,μ,h1,h2⟩:=h
  refine ⟨I,μ,h1,fun ts H hI=>ih (fun x ts' H' h=>?_) (h2 ts H hI)⟩
  cases x<;>first | exact h | exact hk _ _ _ h
 | exit id=>intro K K' hk ts H h;exact hk _ _ _ h
 | ret=>intro K K' hk ts H h;exact hk _ _ _ h
 | Wx l1 g y args d l2=>intro K K' hk ts H h;exact eY (fun _ _ h=>jl (fun h=>zZ (fun _ _ h=>eY (fun _ _ h=>hk _ _ _ h) (fun _ _ _ h=>hk _ _ _ h) h) (fun _ _ h=>hk _ _ _ h) h) (fun h=>eY (fun _ _ h=>hk _ _ _ h) (fun _ _ _ h=>hk _ _ _ h) h) h) (fun _ _ _ h=>hk _ _ _ h) h
 | Wy g ps sH body=>intro K K' hk ts H h;exact JN hk h
theorem Gq{P:Program}:∀{c:IC}{K:Post}{ts:List Z}{H:Y},ES P c K ts H→E P c K ts H:=by
 intro c
 induction c with
 | skip=>intro K ts H h;exact h
 | ops l=>intro K ts H h;exact fQ h
 | dL l A=>intro K ts H h;exact qZ h
 | seq a b uO wC =>
  intro K ts H h
  refine uO (z7 (fun x ts H h=>?_) h)
  cases x<;>first | exact wC h | exact h
 | cond c a b uO wC =>
  intro K ts H h
  simp only[ES,E] at h ⊢
  split at h
  ·rename_i he;simp only[he];exact ⟨fun e=>uO (h.1 e),fun e=>wC (h.2 e)⟩
  ·rename_i he;simp only[he];exact ⟨uO h.1,wC h.2⟩
  ·exact h.elim
 | block id c ih=>intro K ts H h;exact ih h
 | loop c ih =>
  intro K ts H h
  obtain ⟨I,μ,h1,h2⟩:=h
  exact ⟨I,μ,h1,fun ts H hI=>ih (h2 ts H hI)⟩
 | exit id=>intro K ts H h;exact h
 | ret=>intro K ts H h;exact h
 | Wx l1 g y args d l2=>intro K ts H h;exact fQ (eY (fun _ _ h=>jl (fun h=>zZ (fun _ _ h=>fQ h) (fun _ _ h=>h) h) (fun h=>fQ h) h) (fun _ _ _ h=>h) h)
 | Wy g ps sH body=>intro K ts H h;exact h
def Ey(want:Bool)(yes no:Prop):Z→Prop
 | .sc (.bool b)=>(b=want→yes)∧(b≠want→no)
 | .aK _=>no
 | _=>False
theorem CU{ts:List Z}{yes no:Prop}{g:Nat}{want:Bool}:bT ts yes no (some (g,want))=Ey want yes no (ts.getD g .top):=by
 simp only[bT]
 generalize ts.getD g .top=v
 cases v with
 | sc v=>cases v<;>rfl
 | _=>rfl
def tC(P:Program)(K:List Z→Y→Prop)(Kp:Z→List Z→Y→Prop)(d:Option Nat)(f:FuncId)(args:List Z)(r:List bG)(ts:List Z)(H:Y):Prop :=
 DK P f args H (fun e H'=>cm.post (fun v H'=>cG P K Kp r (bJ ts d v) H') (fun v H'=>Kp v ts H') H' e)
theorem af{P:Program}{K:List Z→Y→Prop}{Kp:Z→List Z→Y→Prop}{d:Option Nat}{f:FuncId}{args:List Z}{r:List bG}{ts:List Z}{H H':Y}{v:Z}(h:D P f args H (.ret v) H')(hk:cG P K Kp r (bJ ts d v) H'):tC P K Kp d f args r ts H:=h.dk.mono fun e H1 _ ⟨h1,h2⟩=>by subst h1 h2;exact hk
theorem mP{P:Program}{K:List Z→Y→Prop}{Kp:Z→List Z→Y→Prop}{d:Option Nat}{f:FuncId}{args:List Z}{r:List bG}{ts:List Z}{H H':Y}{v:Z}(h:D P f args H (.bu v) H')(hk:Kp v ts H'):tC P K Kp d f args r ts H:=h.dk.mono fun e H1 _ ⟨h1,h2⟩=>by subst h1 h2;exact hk
theorem gi{P:Program}{K:List Z→Y→Prop}{Kp:Z→List Z→Y→Prop}{d:Option Nat}{f:FuncId}{args:List Z}{r:List bG}{ts:List Z}{H:Y}{Kr:cm→Y→Prop}(h:DK P f args H Kr)(hk:∀e H',H.length≤H'.length→Kr e H'→cm.post (fun v H'=>cG P K Kp r (bJ ts d v) H') (fun v H'=>Kp v ts H') H' e):tC P K Kp d f args r ts H:=h.mono hk
theorem jd{P:Program}{K:List Z→Y→Prop}{Kp:Z→List Z→Y→Prop}{d:Option Nat}{f:FuncId}{args:List Z}{r:List bG}{ts:List Z}{H:Y}{Q:Z→Y→Prop}(h:DK P f args H (fun e H'=>∃v,e = .ret v∧Q v H'))(hk:∀v H',H.length≤H'.length→Q v H'→cG P K Kp r (bJ ts d v) H'):tC P K Kp d f args r ts H:=h.mono fun e H' hl ⟨v,he,hq⟩=>by subst he;exact hk v H' hl hq
def JO(P:Program)(K:List Z→Y→Prop)(Kp:Z→List Z→Y→Prop)(d:Option Nat)(f:Z)(args:List Z)(r:List bG)(ts:List Z)(H:Y):Prop :=
 match f with
 | .fn (.func g) a b=>bA P g=true∧tC P K Kp d g (a++args++b) r ts H
 | _=>False
def sU(P:Program)(K:List Z→Y→Prop)(Kp:Z→List Z→Y→Prop)(d:Option Nat)(op:dR)(want:Bool)(r:List bG)(ts:List Z)(H:Y)(v:Z):Prop :=
 match v with
 | .sc (.bool b)=>(b=want→cG P K Kp (⟨d,none,op⟩::r) ts H)∧(b≠want→cG P K Kp r (bJ ts d (.aK [])) H)
 | .aK _=>cG P K Kp r (bJ ts d (.aK [])) H
 | _=>False
section
variable {P:Program}{K:List Z→Y→Prop}{Kp:Z→List Z→Y→Prop}{d:Option Nat}{r:List bG}{ts:List Z}{H:Y}
theorem Oe:cG P K Kp [] ts H=K ts H:=rfl
theorem WA{q:PO}:cG P K Kp (⟨d,none,.p q⟩::r) ts H=(q.ok (X.ev ts)∧cG P K Kp r (bJ ts d (q.val (X.ev ts))) H):=rfl
theorem JP{n:Nat}{ag:Bool}{a:X}:cG P K Kp (⟨d,none,.h (.load n ag a)⟩::r) ts H=(sR H n ag (a.ev ts)∧cG P K Kp r (bJ ts d (B6 H n ag (a.ev ts))) H):=rfl
theorem Gr{z:Z}{ty:TypeId}:cG P K Kp (⟨d,none,.h (.alloc z ty)⟩::r) ts H=cG P K Kp r (bJ ts d (.ptr z.an H.length 0 0)) (some ⟨z.an,[z],true,ty⟩::H):=by
 show (True∧_)=_;rw[true_and];rfl
theorem Og{k:Nat}{ty:TypeId}{x:X}:cG P K Kp (⟨d,none,.h (.box k ty x)⟩::r) ts H=(((x.ev ts).bO=false∧(x.ev ts).an=k)∧cG P K Kp r (bJ ts d (.ptr k H.length 0 0)) (some ⟨k,[x.ev ts],true,ty⟩::H)):=rfl
theorem Oh{k:Nat}{ty:TypeId}{z:Z}{ln:Nat}{ps:List (Nat×X)}:cG P K Kp (⟨d,none,.h (.eE k ty z ln ps)⟩::r) ts H=(ki (X.ev ts) k (List.replicate ln z) ps∧cG P K Kp r (bJ ts d (.ak k (oz (X.ev ts) (List.replicate ln z) ps) (some []))) H):=rfl
theorem JQ{k:Nat}{ty:TypeId}{z:Z}{ln:Nat}{ps:List (Nat×X)}:cG P K Kp (⟨d,none,.h (.jC k ty z ln ps)⟩::r) ts H=(ki (X.ev ts) k (List.replicate ln z) ps∧cG P K Kp r (bJ ts d (.aB k H.length 0 ln (some ln))) (some ⟨k,oz (X.ev ts) (List.replicate ln z) ps,true,ty⟩::H)):=rfl
theorem Gs{n:Nat}{a x:X}:cG P K Kp (⟨d,none,.h (.store n a x)⟩::r) ts H=(xQ H n (a.ev ts) (x.ev ts)∧cG P K Kp r (bJ ts d .top) (uN H (a.ev ts) (x.ev ts))):=rfl
theorem JR{k:Nat}{ty:TypeId}{z:Z}{l c:X}:cG P K Kp (⟨d,none,.h (.jD k ty z l c)⟩::r) ts H=((ny (l.ev ts)∧ny (c.ev ts)∧0≤bL (l.ev ts)∧bL (l.ev ts)≤bL (c.ev ts)∧bL (c.ev ts)≤100000000)∧cG P K Kp r (bJ ts d (.aB k H.length 0 (bL (l.ev ts)).toNat (some (bL (c.ev ts)).toNat))) (some ⟨k,List.replicate (bL (c.ev ts)).toNat z,true,ty⟩::H)):=rfl
theorem Sl{g:GX}{xs:List X}:cG P K Kp (⟨d,none,.h (.gx g xs)⟩::r) ts H=(g.ok H (xs.map (X.ev ts))∧cG P K Kp r (bJ ts d (g.val H (xs.map (X.ev ts)))) (g.heap H (xs.map (X.ev ts)))):=rfl
theorem Oi{kd:Jm}{x:X}:cG P K Kp (⟨d,none,.h (.ot kd x)⟩::r) ts H=Jn (fun v H'=>cG P K Kp r (bJ ts d v) H') H kd (x.ev ts):=rfl
theorem Oj{k:Nat}{ty:TypeId}{s x:X}:cG P K Kp (⟨d,none,.h (.eN k ty s x)⟩::r) ts H=((sS H k (x.ev ts)∧iv H k ty (l7 H (x.ev ts)) (s.ev ts))∧cG P K Kp r (bJ ts d (nW H k (l7 H (x.ev ts)) (s.ev ts))) (kj H k ty (l7 H (x.ev ts)) (s.ev ts))):=rfl
theorem JS{f:FuncId}{dS:List X}:cG P K Kp (⟨d,none,.h (.call f dS)⟩::r) ts H=tC P K Kp d f (dS.map (X.ev ts)) r ts H:=rfl
theorem Gt{f:X}{dS:List X}:cG P K Kp (⟨d,none,.h (.bD f dS)⟩::r) ts H=JO P K Kp d (f.ev ts) (dS.map (X.ev ts)) r ts H:=by
 show (match f.ev ts with
  | .fn (.func g) a b=>bA P g=true∧DK P g (a++dS.map (X.ev ts)++b) H (fun e H'=>cm.post _ _ H' e)
  | _=>False)=_
 unfold JO
 cases f.ev ts<;>rfl
theorem Gu{g:FuncId}{a b dS:List Z}:JO P K Kp d (.fn (.func g) a b) dS r ts H=(bA P g=true∧tC P K Kp d g (a++dS++b) r ts H):=rfl
theorem Ol{g:Nat}{want:Bool}{op:dR}:cG P K Kp (⟨d,some (g,want),op⟩::r) ts H=sU P K Kp d op want r ts H (ts.getD g .top):=by
 have hg:∀{yes no:Prop}{v:Z},Ey want yes no v=(match v with
  | .sc (.bool b)=>(b=want→yes)∧(b≠want→no)
  | .aK _=>no
  | _=>False):=fun {_ _} {v}=>by cases v<;>rfl
 exact CU.trans hg
theorem Sm{op:dR}:sU P K Kp d op true r ts H (.sc (.bool true))=cG P K Kp (⟨d,none,op⟩::r) ts H:=by simp[sU]
theorem Sn{op:dR}:sU P K Kp d op false r ts H (.sc (.bool false))=cG P K Kp (⟨d,none,op⟩::r) ts H:=by simp[sU]
theorem Sp{op:dR}:sU P K Kp d op true r ts H (.sc (.bool false))=cG P K Kp r (bJ ts d (.aK [])) H:=by simp[sU]
theorem Sq{op:dR}:sU P K Kp d op false r ts H (.sc (.bool true))=cG P K Kp r (bJ ts d (.aK [])) H:=by simp[sU]
theorem Om{op:dR}{want:Bool}{vs:List Z}:sU P K Kp d op want r ts H (.aK vs)=cG P K Kp r (bJ ts d (.aK [])) H:=rfl
end
def z8(P:Program)(A:List (List Nat))(n:Nat)(K:List Z→Y→Prop)(Kp:Z→Y→Prop)(i:Nat)(d:Option Nat)(f:FuncId)(args:List Z)(r:List bG)(ts:List Z)(H:Y)(ld:List (Nat×Nat))(hs:List (Nat×Y×Y)):Prop :=
 ∃e H',D P f args H e H'∧cm.post (fun v H'=>pq A i ld H H'∧cw P A n K Kp (i+1) r (bJ ts d v) H' ld ((i,H,H')::hs)) (fun v H'=>nS A n i=true∧Kp v H') H' e
def JT(P:Program)(A:List (List Nat))(n:Nat)(K:List Z→Y→Prop)(Kp:Z→Y→Prop)(i:Nat)(d:Option Nat)(f:Z)(args:List Z)(r:List bG)(ts:List Z)(H:Y)(ld:List (Nat×Nat))(hs:List (Nat×Y×Y)):Prop :=
 match f with
 | .fn (.func g) a b=>bA P g=true∧z8 P A n K Kp i d g (a++args++b) r ts H ld hs
 | _=>False
def sV(P:Program)(A:List (List Nat))(n:Nat)(K:List Z→Y→Prop)(Kp:Z→Y→Prop)(i:Nat)(d:Option Nat)(op:dR)(want:Bool)(r:List bG)(ts:List Z)(H:Y)(ld:List (Nat×Nat))(hs:List (Nat×Y×Y))(v:Z):Prop :=
 match v with
 | .sc (.bool b)=>(b=want→cw P A n K Kp i (⟨d,none,op⟩::r) ts H ld hs)∧(b≠want→cw P A n K Kp (i+1) r (bJ ts d (.aK [])) H ld hs)
 | .aK _=>cw P A n K Kp (i+1) r (bJ ts d (.aK [])) H ld hs
 | _=>False
section
variable {P:Program}{A:List (List Nat)}{n i:Nat}{K:List Z→Y→Prop}{Kp:Z→Y→Prop}{d:Option Nat}{r:List bG}{ts:List Z}{H:Y}{ld:List (Nat×Nat)}{hs:List (Nat×Y×Y)}
theorem tD{f:FuncId}{args:List Z}{H':Y}{v:Z}(h:D P f args H (.ret v) H')(hc:pq A i ld H H')(hk:cw P A n K Kp (i+1) r (bJ ts d v) H' ld ((i,H,H')::hs)):z8 P A n K Kp i d f args r ts H ld hs:=⟨_,_,h,hc,hk⟩
theorem Oo:pq A i ld H H=True:=by simp[pq]
theorem aP{f:FuncId}{args:List Z}{v:Z}(h:D P f args H (.ret v) H)(hk:cw P A n K Kp (i+1) r (bJ ts d v) H ld ((i,H,H)::hs)):z8 P A n K Kp i d f args r ts H ld hs:=⟨_,_,h,by simp[pq],hk⟩
theorem JU:cw P A n K Kp i [] ts H ld hs=K ts H:=rfl
theorem Sr{q:PO}:cw P A n K Kp i (⟨d,none,.p q⟩::r) ts H ld hs=(q.ok (X.ev ts)∧cw P A n K Kp (i+1) r (bJ ts d (q.val (X.ev ts))) H ld hs):=rfl
theorem Gv{m:Nat}{ag:Bool}{a:X}:cw P A n K Kp i (⟨d,none,.h (.load m ag a)⟩::r) ts H ld hs=(yx A i hs (a.ev ts)∧sR H m ag (a.ev ts)∧cw P A n K Kp (i+1) r (bJ ts d (B6 H m ag (a.ev ts))) H (Sk i ld (a.ev ts)) hs):=rfl
theorem Ez{z:Z}{ty:TypeId}:cw P A n K Kp i (⟨d,none,.h (.alloc z ty)⟩::r) ts H ld hs=cw P A n K Kp (i+1) r (bJ ts d (.ptr z.an H.length 0 0)) (some ⟨z.an,[z],true,ty⟩::H) ((i,H.length)::ld) hs:=by
 show (True∧_)=_;rw[true_and];rfl
theorem JV{k:Nat}{ty:TypeId}{x:X}:cw P A n K Kp i (⟨d,none,.h (.box k ty x)⟩::r) ts H ld hs=(((x.ev ts).bO=false∧(x.ev ts).an=k)∧cw P A n K Kp (i+1) r (bJ ts d (.ptr k H.length 0 0)) (some ⟨k,[x.ev ts],true,ty⟩::H) ((i,H.length)::ld) hs):=rfl
theorem JW{k:Nat}{ty:TypeId}{z:Z}{ln:Nat}{ps:List (Nat×X)}:cw P A n K Kp i (⟨d,none,.h (.eE k ty z ln ps)⟩::r) ts H ld hs=(ki (X.ev ts) k (List.replicate ln z) ps∧cw P A n K Kp (i+1) r (bJ ts d (.ak k (oz (X.ev ts) (List.replicate ln z) ps) (some []))) H ld hs):=rfl
theorem Gw{k:Nat}{ty:TypeId}{z:Z}{ln:Nat}{ps:List (Nat×X)}:cw P A n K Kp i (⟨d,none,.h (.jC k ty z ln ps)⟩::r) ts H ld hs=(ki (X.ev ts) k (List.replicate ln z) ps∧cw P A n K Kp (i+1) r (bJ ts d (.aB k H.length 0 ln (some ln))) (some ⟨k,oz (X.ev ts) (List.replicate ln z) ps,true,ty⟩::H) ((i,H.length)::ld) hs):=rfl
theorem EA{m:Nat}{a x:X}:cw P A n K Kp i (⟨d,none,.h (.store m a x)⟩::r) ts H ld hs=(xQ H m (a.ev ts) (x.ev ts)∧pq A i ld H (uN H (a.ev ts) (x.ev ts))∧cw P A n K Kp (i+1) r (bJ ts d .top) (uN H (a.ev ts) (x.ev ts)) ld ((i,H,uN H (a.ev ts) (x.ev ts))::hs)):=rfl
theorem Gx{k:Nat}{ty:TypeId}{z:Z}{l c:X}:cw P A n K Kp i (⟨d,none,.h (.jD k ty z l c)⟩::r) ts H ld hs=((ny (l.ev ts)∧ny (c.ev ts)∧0≤bL (l.ev ts)∧bL (l.ev ts)≤bL (c.ev ts)∧bL (c.ev ts)≤100000000)∧cw P A n K Kp (i+1) r (bJ ts d (.aB k H.length 0 (bL (l.ev ts)).toNat (some (bL (c.ev ts)).toNat))) (some ⟨k,List.replicate (bL (c.ev ts)).toNat z,true,ty⟩::H) ((i,H.length)::ld) hs):=rfl
theorem Oq{g:GX}{xs:List X}:cw P A n K Kp i (⟨d,none,.h (.gx g xs)⟩::r) ts H ld hs=(g.ok H (xs.map (X.ev ts))∧pq A i ld H (g.heap H (xs.map (X.ev ts)))∧cw P A n K Kp (i+1) r (bJ ts d (g.val H (xs.map (X.ev ts)))) (g.heap H (xs.map (X.ev ts))) ld ((i,H,g.heap H (xs.map (X.ev ts)))::hs)):=rfl
theorem JX{k:Nat}{ty:TypeId}{s x:X}:cw P A n K Kp i (⟨d,none,.h (.eN k ty s x)⟩::r) ts H ld hs=((sS H k (x.ev ts)∧iv H k ty (l7 H (x.ev ts)) (s.ev ts))∧pq A i ld H (kj H k ty (l7 H (x.ev ts)) (s.ev ts))∧cw P A n K Kp (i+1) r (bJ ts d (nW H k (l7 H (x.ev ts)) (s.ev ts))) (kj H k ty (l7 H (x.ev ts)) (s.ev ts)) ld ((i,H,kj H k ty (l7 H (x.ev ts)) (s.ev ts))::hs)):=rfl
theorem Gy{f:FuncId}{dS:List X}:cw P A n K Kp i (⟨d,none,.h (.call f dS)⟩::r) ts H ld hs=z8 P A n K Kp i d f (dS.map (X.ev ts)) r ts H ld hs:=rfl
theorem EB{f:X}{dS:List X}:cw P A n K Kp i (⟨d,none,.h (.bD f dS)⟩::r) ts H ld hs=JT P A n K Kp i d (f.ev ts) (dS.map (X.ev ts)) r ts H ld hs:=by
 show (match f.ev ts with
  | .fn (.func g) a b=>bA P g=true∧∃e H',D P g (a++dS.map (X.ev ts)++b) H e H'∧cm.post _ _ H' e
  | _=>False)=_
 unfold JT
 cases f.ev ts<;>rfl
theorem GA{g:FuncId}{a b dS:List Z}:JT P A n K Kp i d (.fn (.func g) a b) dS r ts H ld hs=(bA P g=true∧z8 P A n K Kp i d g (a++dS++b) r ts H ld hs):=rfl
theorem JY{g:Nat}{want:Bool}{op:dR}:cw P A n K Kp i (⟨d,some (g,want),op⟩::r) ts H ld hs=sV P A n K Kp i d op want r ts H ld hs (ts.getD g .top):=by
 have hg:∀{yes no:Prop}{v:Z},Ey want yes no v=(match v with
  | .sc (.bool b)=>(b=want→yes)∧(b≠want→no)
  | .aK _=>no
  | _=>False):=fun {_ _} {v}=>by cases v<;>rfl
 exact CU.trans hg
theorem Ss{op:dR}:sV P A n K Kp i d op true r ts H ld hs (.sc (.bool true))=cw P A n K Kp i (⟨d,none,op⟩::r) ts H ld hs:=by simp[sV]
theorem Su{op:dR}:sV P A n K Kp i d op false r ts H ld hs (.sc (.bool false))=cw P A n K Kp i (⟨d,none,op⟩::r) ts H ld hs:=by simp[sV]
theorem Sv{op:dR}:sV P A n K Kp i d op true r ts H ld hs (.sc (.bool false))=cw P A n K Kp (i+1) r (bJ ts d (.aK [])) H ld hs:=by simp[sV]
theorem Sw{op:dR}:sV P A n K Kp i d op false r ts H ld hs (.sc (.bool true))=cw P A n K Kp (i+1) r (bJ ts d (.aK [])) H ld hs:=by simp[sV]
theorem Ot{op:dR}{want:Bool}{vs:List Z}:sV P A n K Kp i d op want r ts H ld hs (.aK vs)=cw P A n K Kp (i+1) r (bJ ts d (.aK [])) H ld hs:=rfl
end
def wD(P:Program)(a b:IC)(K:Post)(ts:List Z)(H:Y)(v:Z):Prop :=
 match v with
 | .sc (.bool t)=>(t=true→ES P a K ts H)∧(t=false→ES P b K ts H)
 | .ub=>ES P a K ts H∧ES P b K ts H
 | _=>False
section
variable {P:Program}{K:Post}{ts:List Z}{H:Y}
theorem Sx:ES P .skip K ts H=K .normal ts H:=rfl
theorem WB{l:List bG}:ES P (.ops l) K ts H=cG P (K .normal) (fun v ts' H'=>K (.bu v) ts' H') l ts H:=rfl
theorem Sy{l:List bG}{A:List (List Nat)}:ES P (.dL l A) K ts H=cw P A l.length (K .normal) (fun v H'=>K (.bu v) (ig l ts) H') 0 l ts H [] []:=rfl
theorem MC{a b:IC}:ES P (.seq a b) K ts H=ES P a (iC (ES P b K) K) ts H:=rfl
theorem GB{c:X}{a b:IC}:ES P (.cond c a b) K ts H=wD P a b K ts H (c.ev ts):=by
 simp only[ES]
 generalize c.ev ts=v
 cases v with
 | sc v=>cases v<;>rfl
 | _=>rfl
theorem CV{id:Nat}{c:IC}:ES P (.block id c) K ts H=ES P c (jI id K) ts H:=rfl
theorem Sz{id:Nat}:ES P (.exit id) K ts H=K (.exit id) ts H:=rfl
theorem WC:ES P .ret K ts H=K .ret ts H:=rfl
theorem GC{a b:IC}:wD P a b K ts H (.sc (.bool true))=ES P a K ts H:=by simp[wD]
theorem GD{a b:IC}:wD P a b K ts H (.sc (.bool false))=ES P b K ts H:=by simp[wD]
theorem ko{a b:IC}{p:Prop} [Decidable p](h1:p→ES P a K ts H)(h2:¬p→ES P b K ts H):wD P a b K ts H (.sc (.bool (decide p))):=⟨fun e=>h1 (of_decide_eq_true e),fun e=>h2 (of_decide_eq_false e)⟩
theorem SA{next:List Z→Y→Prop}:iC next K .normal ts H=next ts H:=rfl
theorem SB{next:List Z→Y→Prop}{i:Nat}:iC next K (.exit i) ts H=K (.exit i) ts H:=rfl
theorem SC{next:List Z→Y→Prop}:iC next K .ret ts H=K .ret ts H:=rfl
theorem SD{next:List Z→Y→Prop}{v:Z}:iC next K (.bu v) ts H=K (.bu v) ts H:=rfl
theorem Ou{id:Nat}:jI id K .normal ts H=K .normal ts H:=rfl
theorem CW{id i:Nat}:jI id K (.exit i) ts H=if i=id then K .normal ts H else K (.exit i) ts H:=rfl
theorem Ov{id:Nat}:jI id K .ret ts H=K .ret ts H:=rfl
theorem Ow{id:Nat}{v:Z}:jI id K (.bu v) ts H=K (.bu v) ts H:=rfl
theorem Aa{c:IC}(I:List Z→Y→Prop)(μ:List Z→Y→Nat)(h0:I ts H)(h:∀ts H,I ts H→ES P c (iC (fun ts' H'=>I ts' H'∧μ ts' H'<μ ts H) K) ts H):ES P (.loop c) K ts H:=⟨I,μ,h0,h⟩
end
def fR:List RV→List Z→Y→Prop
 | [],_,_=>True
 | .t _::r,ts,H=>fR r ts H
 | .c a n ag::r,ts,H=>(match ts.getD a .top with
  | .ptr k id j f=>sR H n ag (.ptr k id j f)
  | _=>False)∧fR r ts H
def iw:List RV→List Z→Y→List Z
 | [],_,_=>[]
 | .t n::r,ts,H=>ts.getD n .top::iw r ts H
 | .c a n ag::r,ts,H=>B6 H n ag (ts.getD a .top)::iw r ts H
theorem q9:∀{rs:List RV}{ts:List Z}{H:Y}{K:List Z→Prop},fR rs ts H→K (iw rs ts H)→qU rs ts H K
 | [],_,_,_,_,hk=>hk
 | .t n::r,ts,H,K,h,hk=>q9 (rs:=r) h hk
 | .c a n ag::r,ts,H,K,h,hk=>by
  obtain ⟨h1,h2⟩:=h
  simp only[iw] at hk
  simp only[qU]
  cases he:ts.getD a .top<;>rw[he] at h1 hk<;>try exact h1.elim
  simp only[sR,B6] at h1 hk
  cases hf:Y.find H _ with
  | none=>rw[hf] at h1;exact h1.elim
  | some blk =>
   rw[hf] at h1 hk
   exact ⟨blk,_,hf,qY h1.2.1,⟨h1.1,h1.2.2⟩,q9 h2 hk⟩
def pu(rs:List RV)(Kr:cm→Y→Prop):Post
 | .normal,ts,H=>fR rs ts H∧Kr (.ret (oneOf (iw rs ts H))) H
 | .ret,ts,H=>fR rs ts H∧Kr (.ret (oneOf (iw rs ts H))) H
 | .bu v,ts,H=>Kr (.bu v) H
 | .exit _,_,_=>False
theorem jJ{rs:List RV}{Kr:cm→Y→Prop}:∀x ts H,pu rs Kr x ts H→wy rs Kr x ts H
 | .normal,_,_,h=>q9 h.1 h.2
 | .ret,_,_,h=>q9 h.1 h.2
 | .bu _,_,_,h=>h
 | .exit _,_,_,h=>h
section
variable {rs:List RV}{Kr:cm→Y→Prop}{ts:List Z}{H:Y}
theorem SF:pu rs Kr .normal ts H=(fR rs ts H∧Kr (.ret (oneOf (iw rs ts H))) H):=rfl
theorem SG:pu rs Kr .ret ts H=(fR rs ts H∧Kr (.ret (oneOf (iw rs ts H))) H):=rfl
theorem SH{v:Z}:pu rs Kr (.bu v) ts H=Kr (.bu v) H:=rfl
end
theorem aE{P:Program}{ic:IC}{rs:List RV}{Kr:cm→Y→Prop}{ts:List Z}{H:Y}(h:ES P ic (pu rs Kr) ts H):E P ic (wy rs Kr) ts H:=Gq (z7 jJ h)
theorem wrap_i64{n:Int}(h1 : -9223372036854775808≤n)(h2:n≤9223372036854775807):IntKind.i64.wrap n=n:=by
 unfold IntKind.wrap
 simp[IntKind.signed,IntKind.bits]
 omega
def eZ:aC:=fun _=>none
abbrev O0:Nat→Prop:=Own eZ []
theorem p9{b:Nat}:¬Own eZ [] b:=by rintro ⟨id,blk,h,_⟩;simp[eZ] at h
theorem MF{w:World}(hg:yp eZ [] w):Rel eZ [] w:=⟨hg,fun id b h=>by simp[eZ] at h,fun i j b h=>by simp[eZ] at h,fun id b k h=>by simp[eZ] at h⟩
section
variable {φ:aC}{O:Nat→Prop}{w:World}
theorem rf{l:List Z}{g g':Nat→Option Value}(h:∀i v,g i=some v→g' i=some v)(hr:Rs φ O w l g):Rs φ O w l g' :=
 gf (ok:=fun _=>True) Later.refl l g g' (Z.b7 l) h hr
theorem WD{l m:List Z}:∀{g:Nat→Option Value},Rs φ O w l g→Rs φ O w m (fun i=>g (l.length+i))→Rs φ O w (l++m) g:=by
 induction l with
 | nil=>intro g _ h;simpa using h
 | cons x r ih =>
  intro g h1 h2
  refine ⟨h1.1,h1.2.1,h1.2.2.1,ih h1.2.2.2 ?_⟩
  refine rf (fun i v hv=>?_) h2
  rw[←hv]
  show g _=g _
  congr 1
  simp only[List.length_cons]
  omega
theorem uQ{x:Z}{g:Nat→Option Value}(ha:x.isAgg=false){u:Value}(hu:g 0=some u)(h1:u.oneCell'=true)(hr:R φ O w x g):Rs φ O w x.cells g:=by
 have:x.cells=[x]:=by cases x<;>first | rfl | (simp[Z.isAgg] at ha)
 rw[this]
 exact ⟨ha,hr,⟨u,hu,h1⟩,trivial⟩
theorem Ab{b k:Nat}:∀{l:List Z}{off:Nat},(∀i x,l[i]? = some x→x.an=k∧Rs φ O w x.cells (b6 w b (off+i*k)))→Rl φ O w b k l off
 | [],_,_=>trivial
 | x::r,off,h=>by
  obtain ⟨h1,h2⟩:=h 0 x rfl
  have h3:=uo (r:=[]) (by rw[List.append_nil];exact h2)
  simp only[Nat.zero_mul,Nat.add_zero] at h3
  refine ⟨h1,h3.2,h3.1,Ab fun i y hy=>?_⟩
  have:=h (i+1) y (by simpa using hy)
  rw[Nat.add_mul,Nat.one_mul,Nat.add_comm (i*k) k,←Nat.add_assoc] at this
  exact this
end
inductive nA{α β:Type}(p:α→β→Prop):List α→List β→Prop where
 | nil:nA p [] []
 | cons {a:α}{b:β}{r:List α}{s:List β}:p a b→nA p r s→nA p (a::r) (b::s)
theorem nA.length{α β:Type}{p:α→β→Prop}{l:List α}{m:List β}(h:nA p l m):l.length=m.length:=by
 induction h with
 | nil=>rfl
 | cons _ _ ih=>simp[ih]
theorem nA.MG{α β:Type}{p:α→β→Prop}:∀{l:List α}{m:List β},l.length=m.length→(∀(i:Nat)(a:α)(b:β),l[i]? = some a→m[i]? = some b→p a b)→nA p l m
 | [],[],_,_=>.nil
 | [],_::_,h,_=>by simp at h
 | _::_,[],h,_=>by simp at h
 | a::r,b::s,h,hp=>.cons (hp 0 a b rfl rfl) (nA.MG (by simpa using h) fun i x y hx hy=>hp (i+1) x y (by simpa using hx) (by simpa using hy))
theorem nA.mono{α β:Type}{p q:α→β→Prop}(hq:∀a b,p a b→q a b){l:List α}{m:List β}(h:nA p l m):nA q l m:=by
 induction h with
 | nil=>exact .nil
 | cons h1 _ ih=>exact .cons (hq _ _ h1) ih
theorem GF{α:Type}{p:Nat→α→Prop}:∀(n:Nat),(∀i,i<n→∃a,p i a)→∃l:List α,l.length=n∧∀i a,l[i]? = some a→p i a
 | 0,_=>⟨[],rfl,fun i a h=>by simp at h⟩
 | n+1,h=>by
  obtain ⟨l,h1,h2⟩:=GF n fun i hi=>h i (by omega)
  obtain ⟨a,ha⟩:=h n (by omega)
  refine ⟨l++[a],by simp[h1],fun i x hx=>?_⟩
  by_cases e:i<l.length
  ·rw[List.getElem?_append_left e] at hx
   exact h2 i x hx
  ·rw[List.getElem?_append_right (by omega)] at hx
   have:i - l.length=0:=by
    have:=(List.getElem?_eq_some_iff.1 hx).1
    simp at this
    omega
   rw[this] at hx
   simp at hx
   subst hx
   have:i=n:=by omega
   rw[this]
   exact ha
section
variable {Hh:Type}{enc:TypeId×Value→Hh}{P:Program}{w:World}{n:Nat}{t:TypeId}
def gQ(enc:TypeId×Value→Hh)(P:Program)(w:World)(n:Nat)(t:TypeId){α:Type}(en:α→Z)(good:α→DataW Hh→Prop):Prop :=
 ∀cs d ps,DataW.trod enc P w 0 (fun _=>true) true n t cs=some (d,ps)→∃a,cs.length=(en a).an∧Rs eZ O0 w (en a).cells (fun i=>cs[i]?)∧good a d
def rh(enc:TypeId×Value→Hh)(P:Program)(w:World)(n:Nat)(off:Nat)(fs:List Field){α:Type}(en:α→List Z)(good:α→List (DataW Hh)→Prop):Prop :=
 ∀(cs:List Value)(xs:List (DataW Hh×List MemPlace)),xs.length=fs.length→(∀(i:Nat)(f:Field),fs[i]? = some f→DataW.trod enc P w 0 (fun _=>true) true n f.type ((cs.drop f.offset).take (P.cellsOf f.type))=xs[i]?)→
  ∃a,Rs eZ O0 w (en a) (fun i=>cs[off+i]?)∧good a (xs.map (·.1))
theorem gQ.zero{α:Type}{en:α→Z}{good:α→DataW Hh→Prop}:gQ enc P w 0 t en good:=fun cs d ps h=>by simp[DataW.trod] at h
theorem gQ.map{α β:Type}{en:α→Z}{good:α→DataW Hh→Prop}(h:gQ enc P w n t en good)(f:α→β){en':β→Z}{SI:β→DataW Hh→Prop}(he:∀a d,good a d→en' (f a)=en a∧SI (f a) d):gQ enc P w n t en' SI:=by
 intro cs d ps hd
 obtain ⟨a,h1,h2,h3⟩:=h cs d ps hd
 obtain ⟨h4,h5⟩:=he a d h3
 exact ⟨f a,by rw[h4];exact h1,by rw[h4];exact h2,h5⟩
theorem gQ.int{k:IntKind}(ht:P.underlying t=some (.int k)):gQ enc P w n t (fun i:Int=>.sc (.int k i)) (fun i d=>d = .lit (.int k i)∧(Lit.int k i).wf=true):=by
 intro cs d ps h
 obtain ⟨a,rfl,h2,h3⟩:=DataW.trod_int ht h
 cases h2
 exact ⟨a,rfl,uQ rfl (u:=.int k a) rfl rfl rfl,rfl,h3⟩
theorem gQ.bool(ht:P.underlying t=some .bool):gQ enc P w n t (fun i:Bool=>.sc (.bool i)) (fun i d=>d = .lit (.bool i)):=by
 intro cs d ps h
 obtain ⟨a,rfl,h2⟩:=DataW.trod_bool ht h
 cases h2
 exact ⟨a,rfl,uQ rfl (u:=.bool a) rfl rfl rfl,rfl⟩
theorem gQ.str(ht:P.underlying t=some .string):gQ enc P w n t (fun s:ByteArray=>.sc (.string s)) (fun s d=>d = .lit (.string s.data.toList)):=by
 intro cs d ps h
 obtain ⟨a,rfl,h2,_⟩:=DataW.trod_string ht h
 cases h2
 exact ⟨a,rfl,uQ rfl (u:=.string a) rfl rfl rfl,rfl⟩
theorem rh.nil{off:Nat}:rh enc P w n off [] (fun _:Unit=>[]) (fun _ l=>l=[]):=fun cs xs hl _=>⟨(),trivial,by
 have:xs=[]:=List.length_eq_zero_iff.1 hl
 rw[this];rfl⟩
theorem rh.cons{off k:Nat}{f:Field}{fs:List Field}{α β:Type}{e1:α→Z}{g1:α→DataW Hh→Prop}{e2:β→List Z}{g2:β→List (DataW Hh)→Prop}(ho:f.offset=off)(hk:P.cellsOf f.type=k)(hn:∀a,(e1 a).an=k)
  (h1:gQ enc P w n f.type e1 g1)(h2:rh enc P w n (off+k) fs e2 g2):rh enc P w n off (f::fs) (fun p:α×β=>(e1 p.1).cells++e2 p.2) (fun p l=>∃d r,l=d::r∧g1 p.1 d∧g2 p.2 r):=by
 intro cs xs hl hf
 cases xs with
 | nil=>simp at hl
 | cons x xs =>
  have hx:=hf 0 f rfl
  rw[hk,ho] at hx
  obtain ⟨a,a1,a2,a3⟩:=h1 _ x.1 x.2 hx
  obtain ⟨b,b1,b2⟩:=h2 cs xs (by simpa using hl) fun i g hg=>by
   have:=hf (i+1) g (by simpa using hg)
   simpa using this
  refine ⟨(a,b),WD (rf (fun i v hv=>?_) a2) ?_,x.1,_,rfl,a3,b2⟩
  ·rw[List.getElem?_take] at hv
   split at hv
   ·rw[List.getElem?_drop] at hv;exact hv
   ·simp at hv
  ·have e:(e1 a).cells.length=k:=by rw[←Z.dQ,hn]
   rw[e]
   refine rf (fun i v hv=>?_) b1
   rw[←hv]
   show cs[off+(k+i)]? = cs[off+k+i]?
   rw[Nat.add_assoc]
theorem gQ.struct{fs:Array Field}{α:Type}{en:α→List Z}{good:α→List (DataW Hh)→Prop}(ht:P.underlying t=some (.struct fs))(hl:∀a,(en a).length=P.cellsOf t)(h:rh enc P w n 0 fs.toList en good) :
  gQ enc P w (n+1) t (fun a=>.agg (en a)) (fun a d=>∃l,d = .agg l∧good a l):=by
 intro cs d ps hd
 obtain ⟨xs,m,hm,hx,hc,hs,hf⟩:=DataW.trod_struct ht hd
 have hmn:m=n:=by omega
 subst hmn
 obtain ⟨a,a1,a2⟩:=h cs xs (by simpa using hs) fun i f hi=>hf i f (by simpa using hi)
 cases hx
 refine ⟨a,?_,?_,_,rfl,a2⟩
 ·show cs.length=(en a).length
  rw[hl,hc]
 ·refine rf (fun i v hv=>?_) a1
  simpa using hv
theorem gQ.slice{e:TypeId}{k:Nat}{α:Type}{en:α→Z}{good:α→DataW Hh→Prop}(ht:P.underlying t=some (.slice e))(hk:P.cellsOf e=k)(h0:0<k)(hn:∀a,(en a).an=k)(h:gQ enc P w n e en good) :
  gQ enc P w (n+1) t (fun l:List α=>.ak k (l.map en) none) (fun l d=>(d = .nil∧l=[])∨∃ds r,d = .slice ds r∧nA good l ds):=by
 intro cs d ps hd
 rcases DataW.trod_slice ht hd with ⟨rfl,h2⟩ | ⟨a,len,cap,elems,rest,m,hm,rfl,hx,_,hlc,hcm,hel,ab9,_,_⟩
 ·cases h2
  exact ⟨[],rfl,uQ rfl (u:=.slice none 0 0) rfl rfl ⟨none,0,rfl,Nat.le_refl _,by decide,fun _=>rfl,fun h=>by simp at h,trivial⟩,.inl ⟨rfl,rfl⟩⟩
 ·have hmn:m=n:=by omega
  subst hmn
  have hk':∀i,i<len→∃x:α,∃y cs',elems[i]? = some y∧w.cells? 0 (a.add (i*k)) k=some cs'∧cs'.length=(en x).an∧Rs eZ O0 w (en x).cells (fun j=>cs'[j]?)∧good x y.1:=by
   intro i hi
   have:=ab9 i hi
   rw[hk] at this
   have he:∃y,elems[i]? = some y:=⟨elems[i]'(by omega),by simp[hel,hi]⟩
   obtain ⟨y,hy⟩:=he
   rw[hy] at this
   obtain ⟨cs',c1,c2⟩:=Option.bind_eq_some_iff.1 this
   obtain ⟨x,x1,x2,x3⟩:=h cs' y.1 y.2 c2
   exact ⟨x,y,cs',hy,c1,x1,x2,x3⟩
  obtain ⟨l,l1,l2⟩:=GF len hk'
  cases hx
  refine ⟨l,rfl,uQ rfl (u:=.slice (some a) len cap) rfl rfl ⟨some a,cap,by simp[l1],by simpa [l1] using hlc,hcm,fun h=>by simp at h,fun hp=>?_,trivial⟩,.inr ⟨_,_,rfl,nA.MG (by simp[l1,hel]) fun i x y hx hy=>?_⟩⟩
  ·have hp':0<len:=by simpa [l1] using hp
   obtain ⟨x0,y0,cs0,_,c0,c1,_⟩:=hk' 0 hp'
   obtain ⟨b,off,spot⟩:=a
   obtain ⟨_,_,g2⟩:=World.cells?_some c0
   have hs:spot=none:=by
    have hc:w.cell? ((⟨b,off,spot⟩:Addr).add (0*k))=cs0[0]?:=by
     have:=g2 0 h0
     simpa [Addr.add] using this
    rw[hn] at c1
    rw[List.getElem?_eq_getElem (by omega:0<cs0.length)] at hc
    have:=World.cell?_spot hc
    simp only[Addr.add] at this
    split at this<;>simp_all
   subst hs
   refine ⟨b,off,rfl,p9,?_,Ab fun i x hx=>?_⟩
   ·have:=World.cells?_block c0 h0
    simpa [Addr.add] using this
   ·rw[List.getElem?_map] at hx
    obtain ⟨z,hz,rfl⟩:=Option.map_eq_some_iff.1 hx
    obtain ⟨y,cs',z1,z2,z3,z4,z5⟩:=l2 i z hz
    obtain ⟨_,q1,q2⟩:=World.cells?_some z2
    refine ⟨hn z,rf (fun j v hv=>?_) z4⟩
    have hj:j<k:=by
     have:=(List.getElem?_eq_some_iff.1 hv).1
     rw[z3,hn] at this
     exact this
    have:=q2 j hj
    rw[addr_add,addr_add] at this
    unfold b6
    rw[this]
    exact hv
  ·obtain ⟨y',cs',z1,z2,z3,z4,z5⟩:=l2 i x hx
   rw[List.getElem?_map,z1] at hy
   cases hy
   exact z5
theorem Ac{α:Type}{en:α→Z}{good:α→DataW Hh→Prop}(hr:∀n,gQ enc P w n t en good){v:Value}{d:DataW Hh}{ps:List MemPlace}(h:DataW.Trod enc P w 0 (fun _=>true) true t v d ps)(ha:∀a,(en a).isAgg=false)(ht:∀a,(en a).bO=false)(hv:v.oneCell'=true) :
  ∃a,VR eZ O0 w (en a) v∧good a d:=by
 obtain ⟨m,hm⟩:=h
 obtain ⟨a,h1,h2,h3⟩:=hr m _ _ _ hm
 refine ⟨a,⟨?_,?_⟩,h3⟩
 ·have e1:=ha a
  have e2:=ht a
  cases he:en a<;>rw[he] at e1 e2<;>first | exact hv | (simp[Z.isAgg] at e1;done) | (simp[Z.bO] at e2;done)
 ·have:=(uo (r:=[]) (by rw[List.append_nil];exact h2)).1
  have e:(fun i=>v.cells.toList[i]?)=dZ v:=by funext i;simp[dZ]
  rwa [e] at this
theorem SJ{α:Type}{en:α→List Z}{good:α→DataW Hh→Prop}(hr:∀n,gQ enc P w n t (fun a=>.agg (en a)) good){cs:Array Value}{d:DataW Hh}{ps:List MemPlace}(h:DataW.Trod enc P w 0 (fun _=>true) true t (.agg cs) d ps) :
  ∃a,VR eZ O0 w (.agg (en a)) (.agg cs)∧good a d:=by
 obtain ⟨m,hm⟩:=h
 obtain ⟨a,h1,h2,h3⟩:=hr m _ _ _ hm
 refine ⟨a,⟨⟨cs,rfl,by simpa [Value.cells,Z.an] using h1⟩,?_⟩,h3⟩
 have:=(uo (x:=.agg (en a)) (r:=[]) (by rw[List.append_nil];exact h2)).1
 have e:(fun i=>(Value.agg cs).cells.toList[i]?)=dZ (.agg cs):=by funext i;simp[dZ]
 rwa [e] at this
end
theorem ri{Hh:Type}{enc:TypeId×Value→Hh}{P:Program}{W W':World}(hl:laidOutB P=true)(hb:Below W.heap.size W W'):∀{ts:List TypeId}{vs:List Value}{ds:List (DataW Hh)}{ps:List MemPlace},(ts.all fun t=>P.readableRec t && decide (t<P.types.size))=true→
  DataW.TrodAll enc P W 0 (fun _=>true) true ts vs ds ps→DataW.TrodAll enc P W' 0 (fun b=>decide (b<W.heap.size)) true ts vs ds ps
 | [],vs,ds,ps,_,h=>by
  cases vs<;>cases ds<;>first | exact h | (simp[DataW.TrodAll] at h)
 | t::ts,vs,ds,ps,hr,h=>by
  obtain ⟨v,vs',d,ds',p,q,rfl,rfl,rfl,h1,h2⟩:=Go.ChangeShapes.trodAll_cons h
  simp only[List.all_cons,Bool.and_eq_true,decide_eq_true_eq] at hr
  have lt1:∀x∈p,x.block<W.heap.size:=by obtain ⟨m,hm⟩:=h1;exact DataW.trod_lt m _ _ _ hm
  exact ⟨p,q,Below.trod hl hr.1.1 hr.1.2 h1 hb lt1,ri hl hb hr.2 h2,rfl⟩
theorem mQ{w w':World}{φ:aC}(h:Step eZ [] w φ [] w'):Below w.heap.size w w':=⟨h.os,h.tape,h.output,h.size,fun k hk=>h.same k hk p9⟩
theorem GG{P:Program}{f:FuncId}{args:List Z}{b:Bool}(h:D P f args [] (.ret (.sc (.bool b))) []){w:World}{vs:Array Value}(ha:Rt eZ O0 w args vs.toList)(hg:yp eZ [] w:=by exact fun p hp=>absurd hp (by simp[Qs])):Calls P f vs w fun e w'=>e = .returned (.bool b)∧Below w.heap.size w w' :=
 (h.2 eZ w vs (MF hg) ha).mono fun e w' ⟨φ',h1,h2,h3⟩=>by
  cases e with
  | returned v=>exact ⟨by rw[bF h1],mQ h3⟩
  | panicked c=>exact h1.elim
  | outgrown=>exact h1.elim
theorem Ox{Hh:Type}{enc:TypeId×Value→Hh}{P:Program}{f:FuncId}{fn:Func}{W:World}{args:Array Value}{ds gs:List (DataW Hh)}{before:List MemPlace}{avs:List Z}{tb:TypeId}{s:ChangeSpec}(hl:laidOutB P=true)
  (hp:(fn.params.toList.all fun t=>P.readableRec t && decide (t<P.types.size))=true)(hres:fn.resultTypes=#[tb])(htb:P.underlying tb=some .bool)
  (hvars:s.vars=[])(hfn:s.fn Hh (ds++gs)={ results:=[.lit (.bool true)],args:=ds })
  (hW:DataW.Whole enc P fn.params.toList s.vars false W args.toList ds gs before)(ha:Rt eZ O0 W avs args.toList)(h:D P f avs [] (.ret (.sc (.bool true))) [])(hg:yp eZ [] W:=by exact fun p hp=>absurd hp (by simp[Qs])) :
  Calls P f args W fun e W'=>∃v,e = .returned v∧s.post enc P fn false true false false W args v W':=by
 refine (GG h ha hg).mono fun e W' ⟨he,bel⟩=>?_
 subst he
 have WG:=hW
 obtain ⟨p,q,hA,hV,rfl,hfz,hnd⟩:=hW
 rw[hvars] at hV
 obtain ⟨rfl,rfl⟩:=Go.ChangeShapes.trodVars_none hV
 refine ⟨_,rfl,ds,[],_,[],p,[],WG,?_,?_,?_,bel.frame _,fun h=>by cases h⟩
 ·rw[hfn,hres]
  exact Go.ChangeShapes.trodAll_mk1 (shut_bool htb _)
 ·rw[hfn]
  exact ri hl bel hp hA
 ·rw[hvars,hfn]
  rfl
def oA:List Oper→Option Nat
 | []=>none
 | [o]=>match o.op,o.dst,o.guard with
  | .defer { callee:=.value (.tmp t),args,.. },none,none=>if args.isEmpty then some t else none
  | _,_,_=>none
 | _::r=>oA r
def EC(P:Program)(aX:List Nat):Code→Option (List bG×Nat)
 | .region id ops false=>match oA ops.toList with
  | some t=>(dc P (aX.contains id) ops ops.toList.dropLast).map (·,t)
  | none=>none
 | _=>none
def rj(P:Program)(aX:List Nat):Code→Option (IC×Nat×IC)
 | .seq a b=>match EC P aX a with
  | some (l,t)=>(c6 P aX b).map fun ib=>(.ops l,t,ib)
  | none=>match c6 P aX a,rj P aX b with
   | some ia,some (pre,t,ib)=>some (.seq ia pre,t,ib)
   | _,_=>none
 | _=>none
theorem sW:∀{l:List Oper}{t:Nat},oA l=some t→∃(m:List Oper)(o:Oper)(args:Array Operand)(ats:Array TypeId),l=m++[o]∧o.op = .defer { callee:=.value (.tmp t),args:=args,argTypes:=ats }∧args.isEmpty=true∧o.dst=none∧o.guard=none
 | [],t,h=>by simp[oA] at h
 | [o],t,h=>by
  simp only[oA] at h
  split at h
  ·rename_i t' args ats e1 e2 e3
   split at h
   ·rename_i he
    cases h
    exact ⟨[],o,args,ats,rfl,e1,he,e2,e3⟩
   ·simp at h
  ·simp at h
 | x::y::r,t,h=>by
  simp only[oA] at h
  obtain ⟨m,o,args,ats,h1,h2⟩:=sW (l:=y::r) h
  exact ⟨x::m,o,args,ats,by rw[h1];rfl,h2⟩
section
variable {P:Program}
theorem l8{b:Bool}{ops:Array Oper}{Q:Exit→Act→World→Prop}{K:List Z→Y→Prop}{Kp:Z→List Z→Y→Prop}{tail:List Nat}:∀(n i:Nat)(l:List bG)(ts:List Z)(H:Y)(φ:aC)(w:World)(a:Act),
  i+n≤ops.size→dc P b ops ((ops.toList.drop i).take n)=some l→Rel φ H w→FR φ (Own φ H) w ts a→fP P K Kp l ts H→
  (∀ts' a' φ' H' w',K ts' H'→FR φ' (Own φ' H') w' ts' a'→Rel φ' H' w'→Step φ H w φ' H' w'→a'.defers=a.defers→wpOps P ops Q tail a' w')→j9 Q Kp φ H w a.defers→wpOps P ops Q (List.range' i n++tail) a w
 | 0,i,l,ts,H,φ,w,a,hi,hc,hR,hF,h,hk,hp=>by
  simp[dc] at hc
  subst hc
  exact hk _ _ _ _ _ h hF hR (Step.refl _ _ _) rfl
 | n+1,i,l,ts,H,φ,w,a,hi,hc,hR,hF,h,hk,hp=>by
  have hlt:i<ops.toList.length:=by simp;omega
  rw[List.drop_eq_getElem_cons hlt,List.take_succ_cons] at hc
  unfold dc at hc
  split at hc
  case h_2=>simp at hc
  rename_i x s hx hs
  cases hc
  have Jv:ops[i]? = some (ops.toList[i]):=by simp at hlt;simp[hlt]
  obtain ⟨hd,hg⟩:=tq hx
  simp only[fP] at h
  have zK:∀φ' H' w',Step φ H w φ' H' w'→∀a':Act,a'.defers=a.defers→(∀tt a2 cT H2 w2,K tt H2→FR cT (Own cT H2) w2 tt a2→Rel cT H2 w2→Step φ' H' w' cT H2 w2→a2.defers=a'.defers→wpOps P ops Q tail a2 w2)∧j9 Q Kp φ' H' w' a'.defers:=by
   intro φ' H' w' hst a' ha
   exact ⟨fun tt a2 cT H2 w2 k1 k2 k3 k4 k5=>hk tt a2 cT H2 w2 k1 k2 k3 (hst.trans k4) (by rw[k5,ha]),fun v u tt a2 cT H2 w2 k1 k2 k3 k4 k5 k6=>hp v u tt a2 cT H2 w2 k1 k2 k3 k4 (hst.trans k5) (by rw[k6,ha])⟩
  rw[show List.range' i (n+1)++tail=i::(List.range' (i+1) n++tail) from rfl]
  simp only[wpOps,Jv]
  rcases gh hg hF h with ⟨hw,hy⟩ | ⟨hw,hno⟩
  ·rw[if_pos hw]
   left
   refine Ej hx hR hF hy (fun v u φ' H' w' k1 k2 k3 k4=>?_) (fun v u φ' H' w' k1 k2 k3 k4=>?_)
   ·have wj:=(FR.step k4 hF).put (ops.toList[i]).dst k2
    rw[hd] at k1
    have:=zK φ' H' w' k4 (a.put (ops.toList[i]).dst u) (put_defers _ _ _)
    exact l8 n (i+1) s _ H' φ' w' _ (by omega) hs k3 wj k1 this.1 this.2
   ·exact hp v u ts a φ' H' w' k1 k2 (FR.step k4 hF) k3 k4 rfl
  ·rw[if_neg (by rw[hw];simp)]
   have wj:=hF.put (ops.toList[i]).dst (mq (φ:=φ) (O:=Own φ H) (w:=w))
   rw[hd] at hno
   have:=zK φ H w (Step.refl _ _ _) (a.put (ops.toList[i]).dst undef) (put_defers _ _ _)
   exact l8 n (i+1) s _ H φ w _ (by omega) hs hR wj hno this.1 this.2
def SK(φ:aC)(O:Nat→Prop)(w:World)(g:FuncId)(bW:List Z)(ds:List Deferred):Prop:=∃ws:Array Value,ds=[{ target:=.fn (.func g) ws,args:=#[] }]∧Rt φ O w bW ws.toList
def GH(g:FuncId)(K:List Z→List Z→Y→Prop)(t:Nat):List Z→Y→Prop:=fun ts H=>match ts.getD t .top with
 | .fn (.func f) [] bW=>f=g∧K bW ts H
 | _=>False
theorem B8{aX:List Nat}{c:Code}{l:List bG}{t:Nat}(hc:EC P aX c=some (l,t)){g:FuncId}{Q:Exit→Act→World→Prop}{K:List Z→List Z→Y→Prop}{Kp:Z→List Z→Y→Prop}{φ:aC}{H:Y}{w:World}{ts:List Z}{a:Act}
  (hR:Rel φ H w)(hF:FR φ (Own φ H) w ts a)(hd:a.defers=[])(h:fP P (GH g K t) Kp l ts H)(hk:∀bW ts' a' φ' H' w',K bW ts' H'→FR φ' (Own φ' H') w' ts' a'→Rel φ' H' w'→Step φ H w φ' H' w'→SK φ' (Own φ' H') w' g bW a'.defers→Q .normal a' w')(hp:j9 Q Kp φ H w a.defers):c.wp P Q a w:=by
 unfold EC at hc
 split at hc
 case h_2=>simp at hc
 rename_i id ops
 split at hc
 case h_2=>simp at hc
 rename_i t' hdo
 simp only[Option.map_eq_some_iff] at hc
 obtain ⟨l',hl,he⟩:=hc
 cases he
 obtain ⟨m,o,args,ats,hm,ho,hargs,uK,hgd⟩:=sW hdo
 have hsz:ops.size=m.length+1:=by rw[←Array.length_toList,hm];simp
 rw[hm,List.dropLast_concat] at hl
 refine wp_region ?_
 have ED:List.range ops.size=List.range' 0 m.length++[m.length]:=by rw[hsz,List.range_succ,List.range_eq_range']
 rw[ED]
 refine l8 m.length 0 l ts H φ w a (by omega) (by rw[hm];simpa using hl) hR hF h (fun ts' a' φ' H' w' k1 k2 k3 k4 k5=>?_) hp
 have Jv:ops[m.length]? = some o:=by
  rw[←Array.getElem?_toList,hm]
  simp
 simp only[wpOps,Jv]
 have hw:Region.wanted o (yielded ops a'.tmps)=true:=by unfold Region.wanted;rw[hgd]
 rw[if_pos hw]
 left
 have hv:=k2.2 t
 unfold GH at k1
 split at k1
 case h_2=>exact k1.elim
 rename_i f bW hf
 rw[hf] at hv
 obtain ⟨us,ws,hu,h1,h2⟩:=zb hv
 have WH:us=#[]:=by
  have:us.toList=[]:=h1
  cases us;simp_all
 subst WH
 unfold Oper.wp
 have WI:args=#[]:=by
  cases args with
  | mk l=>cases l<;>first | rfl | (simp at hargs)
 have hrun:(execOp a'.eval o).run P w' = .ok (.defer { target:=.fn (.func f) ws,args:=#[] }) w':=by
  have he:a'.eval (.tmp t) = .func (.func f) #[] ws:=hu
  simp[execOp,ho,resolve,he,Deferred.ofValue,WI]
 rw[hrun]
 show Q .normal ({ a' with defers:=_::a'.defers }.put o.dst undef) w'
 rw[uK]
 refine hk bW ts' _ φ' H' w' k1.2 ?_ k3 k4 ⟨ws,?_,h2⟩
 ·exact k2
 ·show _::a'.defers=_
  rw[k5,hd,k1.1]
def YX(P:Program)(g t:Nat)(ic:IC)(Kd:List Z→Post)(K:Post):Post
 | .normal,ts,H=>GH g (fun bW ts H=>E P ic (Kd bW) ts H) t ts H
 | x,ts,H=>K x ts H
def CKD(g:FuncId)(Kd:List Z→Post)(φ:aC)(H:Y)(w:World):Exit→Act→World→Prop:=fun e a' w' =>
 ∃bW x ts' H' φ',XR φ' (Own φ' H') w' x e∧Kd bW x ts' H'∧FR φ' (Own φ' H') w' ts' a'∧Rel φ' H' w'∧Step φ H w φ' H' w'∧SK φ' (Own φ' H') w' g bW a'.defers
theorem SK.step{φ φ':aC}{H H':Y}{w w':World}(hs:Step φ H w φ' H' w'){g:FuncId}{bW:List Z}{ds:List Deferred}(h:SK φ (Own φ H) w g bW ds):SK φ' (Own φ' H') w' g bW ds:=by
 obtain ⟨ws,h1,h2⟩:=h
 exact ⟨ws,h1,jX hs.toLater _ _ (Z.b7 _) h2⟩
theorem Oy{φ:aC}{O:Nat→Prop}{w:World}{x:AX}{e:Exit}(h:XR φ O w x e):(x = .normal∧e = .normal)∨(x≠.normal∧e≠.normal):=by
 cases x<;>cases e<;>first | exact h.elim | exact .inl ⟨rfl,rfl⟩ | exact .inr ⟨by simp,by simp⟩
theorem SL{e:Exit}{next:Act→World→Prop}{Q:Exit→Act→World→Prop}{a:Act}{w:World}(h:e≠.normal)(hq:Q e a w):Exit.then next Q e a w:=by
 cases e<;>first | exact (h rfl).elim | exact hq
theorem JZ{aX:List Nat}{g:FuncId}{Kd:List Z→Post}{K:Post}:∀(c:Code)(pre:IC)(t:Nat)(ic:IC),rj P aX c=some (pre,t,ic)→∀(φ:aC)(H:Y)(w:World)(ts:List Z)(a:Act),Rel φ H w→FR φ (Own φ H) w ts a→a.defers=[]→E P pre (YX P g t ic Kd K) ts H→
  c.wp P (fun e a' w'=>CKD g Kd φ H w e a' w'∨(e≠.normal∧CK K φ H w [] e a' w')) a w:=by
 intro c
 induction c with
 | seq x y R8 Oa =>
  intro pre t ic hc φ H w ts a hR hF hd h
  simp only[rj] at hc
  split at hc
  ·rename_i l t' acd
   simp only[Option.map_eq_some_iff] at hc
   obtain ⟨ib,hb,he⟩:=hc
   cases he
   refine wp_seq (B8 (g:=g) (K:=fun bW ts H=>E P ic (Kd bW) ts H) (Kp:=fun v ts' H'=>K (.bu v) ts' H') acd hR hF hd h (fun bW ts' a' φ' H' w' k1 k2 k3 k4 k5=>?_) (fun v u ts' a' φ' H' w' k1 k2 k3 k4 k5 k6=>.inr ⟨by simp,.bu v,ts',H',φ',k2,k1,k3,k4,k5,by rw[k6,hd]⟩))
   show y.wp P _ a' w'
   refine wp_mono (qT y ic hb _ φ' H' w' ts' a' k3 k2 k1) ?_
   rintro e a2 w2 ⟨x2,tt,H2,cT,m1,m2,m3,m4,m5,m6⟩
   exact .inl ⟨bW,x2,tt,H2,cT,m1,m2,m3,m4,k4.trans m5,by rw[m6];exact k5.step m5⟩
  ·split at hc
   case h_2=>simp at hc
   rename_i ia ace t' ib h1 h2
   cases hc
   refine wp_seq (wp_mono (qT x ia h1 _ φ H w ts a hR hF h) ?_)
   rintro e a' w' ⟨x',ts',H',φ',k1,k2,k3,k4,k5,k6⟩
   rcases Oy k1 with ⟨rfl,rfl⟩ | ⟨n1,n2⟩
   ·show y.wp P _ a' w'
    refine wp_mono (Oa ace t ic h2 φ' H' w' ts' a' k4 k3 (by rw[k6,hd]) k2) ?_
    rintro e2 a2 w2 (⟨bW,x2,tt,H2,cT,m1,m2,m3,m4,m5,m6⟩ | ⟨n,m⟩)
    ·exact .inl ⟨bW,x2,tt,H2,cT,m1,m2,m3,m4,k5.trans m5,m6⟩
    ·exact .inr ⟨n,m.step k5⟩
   ·refine SL n2 (.inr ⟨n2,x',ts',H',φ',k1,?_,k3,k4,k5,by rw[k6,hd]⟩)
    cases x'<;>first | exact (n1 rfl).elim | exact k2
 | _=>intro pre t ic hc;simp[rj] at hc
theorem wF{φ:aC}{H:Y}{w:World}{args:List Z}{vs:Array Value}{n:Nat}(ha:Rt φ (Own φ H) w args vs.toList):FR φ (Own φ H) w (args++List.replicate (n - args.length) (.aK [])) { tmps:=vs++Array.replicate (n - vs.size) undef,defers:=[] }:=by
 have hlen:=yN ha
 have hsz:vs.size=args.length:=by simpa using hlen
 refine ⟨by simp[hsz],fun i=>?_⟩
 by_cases h1:i<args.length
 ·obtain ⟨u,g1,g2⟩:=yM ha (i:=i) (x:=args[i]) (by simp[h1])
  have e1:(args++List.replicate (n - args.length) (Z.aK [])).getD i .top=args[i]:=by simp[List.getD,List.getElem?_append_left h1,h1]
  have e2:(vs++Array.replicate (n - vs.size) undef).getD i undef=u:=by
   rw[Array.getElem?_toList] at g1
   rw[Array.getD_eq_getD_getElem?,Array.getElem?_append_left (by omega),g1]
   rfl
  rw[e1,e2]
  exact g2
 ·by_cases h2:i<args.length+(n - args.length)
  ·have e1:(args++List.replicate (n - args.length) (Z.aK [])).getD i .top = .aK []:=by
    simp only[List.getD]
    rw[List.getElem?_append_right (by omega),List.getElem?_replicate,if_pos (by omega)]
    rfl
   have e2:(vs++Array.replicate (n - vs.size) undef).getD i undef=undef:=by
    rw[Array.getD_eq_getD_getElem?,Array.getElem?_append_right (by omega),Array.getElem?_replicate]
    split<;>rfl
   rw[e1,e2]
   exact mq
  ·have e1:(args++List.replicate (n - args.length) (Z.aK [])).getD i .top = .top:=by
    simp only[List.getD]
    rw[List.getElem?_eq_none (by simp;omega)]
    rfl
   rw[e1]
   exact kO _
inductive J0 where
 | ret
 | bu (v:Z)(met:Bool)
def px(φ:aC)(O:Nat→Prop)(w:World):J0→FrameMode→Prop
 | .ret,.returning=>True
 | .bu x r,.panicking c=>∃v older,c={ v:=v,recovered:=r }::older∧(∀p∈older,p.goexit=false)∧VR φ O w x v
 | _,_=>False
def EE:List Oper→Option Nat
 | o::_=>match o.op,o.dst,o.guard with
  | .call { callee:=.builtin .recover,args,.. },some d,none=>if args.isEmpty then some d else none
  | _,_,_=>none
 | []=>none
def uR(P:Program)(aX:List Nat):Code→Option (Nat×List bG×IC)
 | .seq (.region id ops false) b=>match EE ops.toList,dc P (aX.contains id) ops (ops.toList.drop 1),c6 P aX b with
  | some d,some l,some ib=>some (d,l,ib)
  | _,_,_=>none
 | _=>none
def Ad(Kr:Y→Prop)(Kq:Z→Y→Prop):Post
 | .normal,_,H=>Kr H
 | .ret,_,H=>Kr H
 | .bu v,_,H=>Kq v H
 | _,_,_=>False
theorem GI{l:List Oper}{d:Nat}(h:EE l=some d):∃(o:Oper)(r:List Oper)(ats:Array TypeId),l=o::r∧o.op = .call { callee:=.builtin .recover,args:=#[],argTypes:=ats }∧o.dst=some d∧o.guard=none:=by
 cases l with
 | nil=>simp[EE] at h
 | cons o r =>
  simp only[EE] at h
  split at h
  ·rename_i args ats d' e1 e2 e3
   split at h
   ·rename_i he
    cases h
    have:args=#[]:=by
     cases args with
     | mk l=>cases l<;>first | rfl | (simp at he)
    subst this
    exact ⟨o,r,ats,rfl,e1,e2,e3⟩
   ·simp at h
  ·simp at h
theorem J1{o:Oper}{a:Act}{next next':Act→World→Prop}{Q:Exit→Act→World→Prop}(hn:∀a w,next a w→next' a w){r:Result Next}(h:o.upon P a next Q r):o.upon P a next' Q r:=by
 unfold Oper.upon at h ⊢
 split at h
 ·exact hn _ _ h
 ·exact hn _ _ h
 ·exact hn _ _ h
 ·refine h.mono fun e w' he=>?_
  cases e<;>first | exact hn _ _ he | exact he
 ·exact h.mono fun v w' he=>hn _ _ he
 ·exact h
 ·exact h.elim
theorem J2{ops:Array Oper}{Q:Exit→Act→List Frame→World→Prop}{cs:List Frame}(hq:¬LetsOut (fun e a w=>Q e a cs w)):∀{l:List Nat}{a:Act}{w:World},wpOps P ops (fun e a w=>Q e a cs w) l a w→wpOpsS P ops Q l a cs w:=by
 intro l
 induction l with
 | nil=>intro a w h;exact h
 | cons i r ih =>
  intro a w h
  simp only[wpOps] at h
  simp only[wpOpsS]
  split at h
  ·rename_i e;simp only[e];exact ih h
  ·rename_i o e
   simp only[e]
   split at h
   ·rename_i hw
    rw[if_pos hw]
    rcases h with h | h
    ·unfold Oper.wp at h
     split
     ·rename_i w' hr
      rw[hr] at h
      exact h.elim
     ·exact J1 (fun a w h=>ih h) h
    ·exact (hq h.2).elim
   ·rename_i hw
    rw[if_neg hw]
    exact ih h
theorem J3{aX:List Nat}{g:FuncId}{fn:Func}{c:Code}{d:Nat}{l:List bG}{ib:IC}(hf:P.funcs[g]? = some fn)(hb:fn.body=some c)(hc:uR P aX c=some (d,l,ib))(hres:fn.results=#[]){bW:List Z}{φ:aC}{H:Y}{w:World}{ws:Array Value}(hR:Rel φ H w)(ha:Rt φ (Own φ H) w bW ws.toList)
  {M M':J0}{u:FrameMode}{x:Z}(hu:px φ (Own φ H) w M u)(hm:(M = .ret∧M' = .ret∧x = .sc .nilIface)∨(M = .bu x false∧M' = .bu x true)){Kr:Y→Prop}{Kq:Z→Y→Prop}
  (h:fP P (fun ts H=>E P ib (Ad Kr Kq) ts H) (fun v _ H=>Kq v H) l ((bW++List.replicate (fn.ntmps - bW.length) (Z.aK [])).set d x) H) :
  CallsD P g ws u w fun e u' w'=>∃H' φ',(((∃v,e = .returned v)∧Kr H')∨∃y c,e = .panicked c∧qi φ' (Own φ' H') w' y c∧Kq y H')∧px φ' (Own φ' H') w' M' u'∧Rel φ' H' w'∧Step φ H w φ' H' w':=by
 refine callsD_of_wpS hf hb fun c₀ cs hcm=>?_
 unfold uR at hc
 split at hc
 case h_2=>simp at hc
 rename_i id ops b
 split at hc
 case h_2=>simp at hc
 rename_i d' l' ib' h1 h2 h3
 cases hc
 obtain ⟨o,r,ats,SM,hop,uK,hgd⟩:=GI h1
 have hsz:ops.size=r.length+1:=by rw[←Array.length_toList,SM];simp
 refine wpS_seq (wpS_region ?_)
 have ED:List.range ops.size=0::List.range' 1 r.length:=by rw[hsz,List.range_eq_range'];rfl
 rw[ED]
 have Jv:ops[0]? = some o:=by rw[←Array.getElem?_toList,SM];rfl
 have hw:∀a:Act,Region.wanted o (yielded ops a.tmps)=true:=fun a=>by unfold Region.wanted;rw[hgd]
 have mR:FR φ (Own φ H) w (bW++List.replicate (fn.ntmps - bW.length) (Z.aK [])) { tmps:=ws++Array.replicate (fn.ntmps - ws.size) undef,defers:=[] }:=wF ha
 have hrun:∀a:Act,(execOp a.eval o).run P w = .ok .recover w:=fun a=>by
  simp only[execOp,hop]
  rfl
 simp only[wpOpsS,Jv,hw,if_true,hrun]
 have key:∃v u',VR φ (Own φ H) w x v∧px φ (Own φ H) w M' u'∧(match recoverD (c₀::cs) with | some (v',cs')=>v'=v∧cs'={ c₀ with mode:=u' }::cs | none=>v = .nilIface∧u'=u):=by
  rcases hm with ⟨rfl,rfl,rfl⟩ | ⟨rfl,rfl⟩
  ·refine ⟨.nilIface,u,⟨rfl,rfl⟩,hu,?_⟩
   cases u<;>first | exact hu.elim | skip
   simp[recoverD,hcm]
  ·cases u<;>first | exact hu.elim | skip
   obtain ⟨v,older,rfl,ol,hv⟩:=hu
   refine ⟨v,.panicking ({ v:=v,recovered:=true }::older),hv,⟨v,older,rfl,ol,hv⟩,?_⟩
   simp[recoverD,hcm]
 obtain ⟨v,u',hv,hM',CX⟩:=key
 have aae:({ c₀ with mode:=u }:Frame)=c₀:=by subst hcm;rfl
 have wG:∀cs',cs'={ c₀ with mode:=u' }::cs→wpOpsS P ops (Exit.thenS (b.wpS P (bodyPostS P fn c₀ cs fun e u' w'=>∃H' φ',(((∃v,e = .returned v)∧Kr H')∨∃y c,e = .panicked c∧qi φ' (Own φ' H') w' y c∧Kq y H')∧px φ' (Own φ' H') w' M' u'∧Rel φ' H' w'∧Step φ H w φ' H' w')) (bodyPostS P fn c₀ cs fun e u' w'=>∃H' φ',(((∃v,e = .returned v)∧Kr H')∨∃y c,e = .panicked c∧qi φ' (Own φ' H') w' y c∧Kq y H')∧px φ' (Own φ' H') w' M' u'∧Rel φ' H' w'∧Step φ H w φ' H' w'))
   (List.range' 1 r.length) (Act.put { tmps:=ws++Array.replicate (fn.ntmps - ws.size) undef,defers:=[] } o.dst v) cs' w:=by
  rintro cs' rfl
  refine J2 ?_ ?_
  ·rintro ⟨a,w',u2,H',φ',(⟨⟨v,hv⟩,_⟩ | ⟨y,c,hv,_⟩),_⟩
   ·simp at hv
   ·simp at hv
  ·have sI:FR φ (Own φ H) w ((bW++List.replicate (fn.ntmps - bW.length) (Z.aK [])).set d x) (Act.put { tmps:=ws++Array.replicate (fn.ntmps - ws.size) undef,defers:=[] } o.dst v):=by
    have:=mR.put o.dst hv
    rwa [uK] at this ⊢
   have hl:ops.toList.drop 1=r:=by rw[SM];rfl
   have SN:=l8 (P:=P) (ops:=ops) (tail:=[]) (K:=fun ts H=>E P ib (Ad Kr Kq) ts H) (Kp:=fun v _ H=>Kq v H) r.length 1 l _ H φ w _ (by omega) (by rw[hl,List.take_length];rw[hl] at h2;exact h2) hR sI h
    (Q:=fun e a w2=>Exit.thenS (b.wpS P (bodyPostS P fn c₀ cs fun e u' w'=>∃H' φ',(((∃v,e = .returned v)∧Kr H')∨∃y c,e = .panicked c∧qi φ' (Own φ' H') w' y c∧Kq y H')∧px φ' (Own φ' H') w' M' u'∧Rel φ' H' w'∧Step φ H w φ' H' w')) (bodyPostS P fn c₀ cs fun e u' w'=>∃H' φ',(((∃v,e = .returned v)∧Kr H')∨∃y c,e = .panicked c∧qi φ' (Own φ' H') w' y c∧Kq y H')∧px φ' (Own φ' H') w' M' u'∧Rel φ' H' w'∧Step φ H w φ' H' w') e a ({ c₀ with mode:=u' }::cs) w2)
   rw[List.append_nil] at SN
   have mS:∀{cT:aC}{H2:Y}{w2:World},Step φ H w cT H2 w2→px cT (Own cT H2) w2 M' u':=by
    intro cT H2 w2 hst
    cases M'<;>cases u'<;>first | exact hM'.elim | exact trivial | skip
    obtain ⟨v,older,e1,e3,e2⟩:=hM'
    exact ⟨v,older,e1,e3,hst.vr e2⟩
   refine SN (fun ts' a' φ' H' w' k1 k2 k3 k4 k5=>?_) (fun v c ts' a' φ' H' w' k1 k2 k3 k4 k5 k6=>⟨by rw[k6];exact put_defers _ _ _,u',rfl,H',φ',.inr ⟨v,c,rfl,k2,k1⟩,mS k5,k4,k5⟩)
   show b.wpS P _ a' _ w'
   refine wpS_of_wp (wp_mono (qT b ib h3 _ φ' H' w' ts' a' k3 k2 k1) ?_)
   rintro e a2 w2 ⟨x2,tt,H2,cT,m1,m2,m3,m4,m5,m6⟩
   have hd:a2.defers=[]:=by
    rw[m6,k5]
    exact put_defers _ _ _
   have hst:=k4.trans m5
   have hr:(results fn a2.tmps).run P w2 = .ok (.tuple #[]) w2:=by
    unfold results
    rw[hres]
    simp
   cases x2 with
   | normal =>
    cases e<;>try exact m1.elim
    exact ⟨hd,u',rfl,_,hr,H2,cT,.inl ⟨⟨_,rfl⟩,m2⟩,mS hst,m4,hst⟩
   | ret =>
    cases e<;>try exact m1.elim
    exact ⟨hd,u',rfl,_,hr,H2,cT,.inl ⟨⟨_,rfl⟩,m2⟩,mS hst,m4,hst⟩
   | exit i=>exact m2.elim
   | bu v =>
    cases e<;>try exact m1.elim
    exact ⟨hd,u',rfl,H2,cT,.inr ⟨v,_,rfl,m1,m2⟩,mS hst,m4,hst⟩
 cases hrd:recoverD (c₀::cs) with
 | none =>
  rw[hrd] at CX
  obtain ⟨rfl,rfl⟩:=CX
  rw[if_pos (hw { tmps:=ws++Array.replicate (fn.ntmps - ws.size) undef,defers:=[] })]
  exact wG _ (by rw[aae])
 | some p =>
  obtain ⟨v',cs'⟩:=p
  rw[hrd] at CX
  obtain ⟨rfl,rfl⟩:=CX
  rw[if_pos (hw { tmps:=ws++Array.replicate (fn.ntmps - ws.size) undef,defers:=[] })]
  exact wG _ rfl
theorem GJ{K K':List Z→Y→Prop}{Kp:Z→List Z→Y→Prop}(h:∀ts H,K ts H→K' ts H){l:List bG}{ts:List Z}{H:Y}(hr:cG P K Kp l ts H):cG P K' Kp l ts H:=eY h (fun _ _ _ h=>h) hr
def xR(P:Program)(d:Nat)(l:List bG)(ib:IC)(n:Nat)(bW:List Z)(x:Z)(Kr:Y→Prop)(Kq:Z→Y→Prop)(H:Y):Prop :=
 cG P (fun ts H=>ES P ib (Ad Kr Kq) ts H) (fun v _ H=>Kq v H) l ((bW++List.replicate (n - bW.length) (Z.aK [])).set d x) H
def wH(P:Program)(d:Nat)(l:List bG)(ib:IC)(n:Nat)(rs:List RV)(Kr:cm→Y→Prop)(bW:List Z):Post
 | .normal,ts,H=>xR P d l ib n bW (.sc .nilIface) (fun H'=>fR rs ts H'∧Kr (.ret (oneOf (iw rs ts H'))) H') (fun v H'=>Kr (.bu v) H') H
 | .ret,ts,H=>xR P d l ib n bW (.sc .nilIface) (fun H'=>fR rs ts H'∧Kr (.ret (oneOf (iw rs ts H'))) H') (fun v H'=>Kr (.bu v) H') H
 | .bu v,ts,H=>xR P d l ib n bW v (fun H'=>fR rs ts H'∧Kr (.ret (oneOf (iw rs ts H'))) H') (fun v H'=>Kr (.bu v) H') H
 | .exit _,_,_=>False
def CY(P:Program)(ic:IC)(Kd:List Z→Post)(g:Nat)(ts:List Z)(H:Y)(v:Z):Prop:=match v with
 | .fn (.func f) [] bW=>f=g∧ES P ic (Kd bW) ts H
 | _=>False
theorem SP{ic:IC}{Kd:List Z→Post}{g:Nat}{ts:List Z}{H:Y}{bW:List Z}:CY P ic Kd g ts H (.fn (.func g) [] bW)=ES P ic (Kd bW) ts H:=by simp[CY]
def CZ(P:Program)(g t:Nat)(ic:IC)(Kd:List Z→Post)(K:Post):Post
 | .normal,ts,H=>CY P ic Kd g ts H (ts.getD t .top)
 | x,ts,H=>K x ts H
section
variable {g t:Nat}{ic:IC}{Kd:List Z→Post}{K:Post}{ts:List Z}{H:Y}
theorem WJ:CZ P g t ic Kd K .normal ts H=CY P ic Kd g ts H (ts.getD t .top):=rfl
theorem WK{i:Nat}:CZ P g t ic Kd K (.exit i) ts H=K (.exit i) ts H:=rfl
theorem WL:CZ P g t ic Kd K .ret ts H=K .ret ts H:=rfl
theorem WM{v:Z}:CZ P g t ic Kd K (.bu v) ts H=K (.bu v) ts H:=rfl
end
section
variable {d n:Nat}{l:List bG}{ib:IC}{rs:List RV}{Kr:cm→Y→Prop}{bW ts:List Z}{H:Y}{x:Z}{Kh:Y→Prop}{Kq:Z→Y→Prop}
theorem SQ:wH P d l ib n rs Kr bW .normal ts H=xR P d l ib n bW (.sc .nilIface) (fun H'=>fR rs ts H'∧Kr (.ret (oneOf (iw rs ts H'))) H') (fun v H'=>Kr (.bu v) H') H:=rfl
theorem SR:wH P d l ib n rs Kr bW .ret ts H=xR P d l ib n bW (.sc .nilIface) (fun H'=>fR rs ts H'∧Kr (.ret (oneOf (iw rs ts H'))) H') (fun v H'=>Kr (.bu v) H') H:=rfl
theorem SS{v:Z}:wH P d l ib n rs Kr bW (.bu v) ts H=xR P d l ib n bW v (fun H'=>fR rs ts H'∧Kr (.ret (oneOf (iw rs ts H'))) H') (fun v H'=>Kr (.bu v) H') H:=rfl
theorem Oz:xR P d l ib n bW x Kh Kq H=cG P (fun ts H=>ES P ib (Ad Kh Kq) ts H) (fun v _ H=>Kq v H) l ((bW++List.replicate (n - bW.length) (Z.aK [])).set d x) H:=rfl
theorem WN:Ad Kh Kq .normal ts H=Kh H:=rfl
theorem WO:Ad Kh Kq .ret ts H=Kh H:=rfl
theorem WP{v:Z}:Ad Kh Kq (.bu v) ts H=Kq v H:=rfl
end
theorem GK{g:FuncId}(h:bA P g=true)(ws:Array Value)(w:World):(invoke (.fn (.func g) ws) #[]).run P w = .ok (.enter g ws) w:=by
 obtain ⟨fn,h1,h2,h3⟩:=mO h
 show (callFunc g (#[]++ws)).run P w=_
 rw[Array.empty_append]
 exact iW h1 h2 h3 ws w
theorem EF{f:FuncId}{fn:Func}{c:Code}{pre:IC}{t:Nat}{ic:IC}{rs:List RV}{aX SU:List Nat}(hf:P.funcs[f]? = some fn)(hb:fn.body=some c)(hc:rj P aX c=some (pre,t,ic))(hr:lK P fn.results.toList=some rs)
  {g:FuncId}{gn:Func}{gc:Code}{d:Nat}{l:List bG}{ib:IC}(hg:P.funcs[g]? = some gn)(hgb:gn.body=some gc)(hgc:uR P SU gc=some (d,l,ib))(WQ:gn.results=#[])(J4:bA P g=true){args:List Z}{H:Y}{Kr:cm→Y→Prop}
  (h:ES P pre (CZ P g t ic (wH P d l ib gn.ntmps rs Kr) (pu rs Kr)) (args++List.replicate (fn.ntmps - args.length) (.aK [])) H):DK P f args H Kr:=by
 intro φ w vs hR ha
 have hF:FR φ (Own φ H) w (args++List.replicate (fn.ntmps - args.length) (.aK [])) { tmps:=vs++Array.replicate (fn.ntmps - vs.size) undef,defers:=[] }:=wF ha
 have hE:E P pre (YX P g t ic (wH P d l ib gn.ntmps rs Kr) (wy rs Kr)) (args++List.replicate (fn.ntmps - args.length) (.aK [])) H:=by
  refine Gq (z7 (fun x ts H hx=>?_) h)
  cases x with
  | normal =>
   show GH g _ t ts H
   have hx':CY P ic _ g ts H (ts.getD t .top):=hx
   unfold CY at hx'
   unfold GH
   split at hx'
   ·rename_i he
    simp only[he]
    exact ⟨hx'.1,Gq hx'.2⟩
   ·exact hx'.elim
  | exit i=>exact jJ (rs:=rs) (Kr:=Kr) (.exit i) ts H hx
  | ret=>exact jJ (rs:=rs) (Kr:=Kr) .ret ts H hx
  | bu v=>exact jJ (rs:=rs) (Kr:=Kr) (.bu v) ts H hx
 refine calls_of_wp_defers hf hb (wp_mono (JZ (K:=wy rs Kr) c pre t ic hc φ H w _ _ hR hF rfl hE) ?_)
 rintro e a' w' (⟨bW,x,ts',H',φ',k1,k2,k3,k4,k5,k6⟩ | ⟨hn,x,ts',H',φ',k1,k2,k3,k4,k5,k6⟩)
 ·obtain ⟨ws,hds,hws⟩:=k6
  have main:∀{M M':J0}{u:FrameMode}{x:Z},u≠.run→px φ' (Own φ' H') w' M u→((M = .ret∧M' = .ret∧x = .sc .nilIface)∨(M = .bu x false∧M' = .bu x true))→xR P d l ib gn.ntmps bW x (fun H'=>fR rs ts' H'∧Kr (.ret (oneOf (iw rs ts' H'))) H') (fun v H'=>Kr (.bu v) H') H'→
    Leaves P fn a'.tmps (fun en w'=>∃e H' φ',xE φ' (Own φ' H') w' e en∧Kr e H'∧Rel φ' H' w'∧Step φ H w φ' H' w') a'.defers u w':=by
   intro M M' u x hu hm hM CX
   rw[hds]
   refine leaves_cons hu (GK J4 ws w') ?_
   refine (J3 hg hgb hgc WQ k4 hws hm hM (Kr:=fun H'=>fR rs ts' H'∧Kr (.ret (oneOf (iw rs ts' H'))) H') (Kq:=fun v H'=>Kr (.bu v) H') (fQ (GJ (fun ts H h=>Gq h) CX))).mono fun e u' w2 ⟨H2,cT,hend,mS,zA,D9⟩=>?_
   rcases hend with ⟨⟨v,hv⟩,hk⟩ | ⟨y,c,hv,hch,hk⟩
   ·subst hv
    show Leaves P fn a'.tmps _ [] (settle u') w2
    have jV:settle u' = .returning:=by
     rcases hM with ⟨_,rfl,_⟩ | ⟨_,rfl⟩
     ·cases u'<;>first | exact mS.elim | rfl
     ·cases u'<;>first | exact mS.elim | skip
      obtain ⟨v',older,rfl,ol,_⟩:=mS
      have hdw:∀l:List PanicEntry,(∀p∈l,p.goexit=false)→l.dropWhile (fun p=>!p.goexit)=[]:=by
       intro l hl
       induction l with
       | nil=>rfl
       | cons p r ih =>
        rw[List.dropWhile_cons,hl p (by simp)]
        simpa using ih fun q hq=>hl q (by simp[hq])
      simp only[settle,hdw older ol]
    rw[jV]
    have nX:FR cT (Own cT H2) w2 ts' a':=FR.step D9 k3
    obtain ⟨y,v2,g1,g2,g3⟩:=l6 zA nX hr (K:=fun y=>Kr (.ret y) H2) (q9 hk.1 hk.2)
    exact ⟨v2,g3,.ret y,H2,cT,g2,g1,zA,k5.trans D9⟩
   ·subst hv
    show Leaves P fn a'.tmps _ [] (raised u' c) w2
    obtain ⟨v',MH,zN,MI,NG⟩:=hch
    rcases hM with ⟨_,rfl,_⟩ | ⟨_,rfl⟩
    ·cases u'<;>first | exact mS.elim | skip
     exact ⟨.bu y,H2,cT,⟨v',MH,zN,MI,NG⟩,hk,zA,k5.trans D9⟩
    ·cases u'<;>first | exact mS.elim | skip
     obtain ⟨v1,older,rfl,ol,_⟩:=mS
     subst zN
     refine ⟨.bu y,H2,cT,⟨v',MH++({ v:=v1,recovered:=true }::older),by simp[raised],fun p hp=>?_,NG⟩,hk,zA,k5.trans D9⟩
     rcases List.mem_append.1 hp with hp | hp
     ·exact MI p hp
     ·rcases List.mem_cons.1 hp with rfl | hp
      ·rfl
      ·exact ol p hp
  cases x with
  | normal =>
   cases e<;>try exact k1.elim
   exact main (M:=.ret) (M':=.ret) (by simp) trivial (.inl ⟨rfl,rfl,rfl⟩) k2
  | ret =>
   cases e<;>try exact k1.elim
   exact main (M:=.ret) (M':=.ret) (by simp) trivial (.inl ⟨rfl,rfl,rfl⟩) k2
  | exit i=>exact k2.elim
  | bu v =>
   cases e<;>try exact k1.elim
   obtain ⟨u,older,rfl,ol,hu⟩:=k1
   exact main (M:=.bu v false) (M':=.bu v true) (by simp) ⟨u,older,rfl,ol,hu⟩ (.inr ⟨rfl,rfl⟩) k2
 ·cases x with
  | normal =>
   cases e<;>try exact k1.elim
   exact (hn rfl).elim
  | ret =>
   cases e<;>try exact k1.elim
   obtain ⟨y,v,g1,g2,g3⟩:=l6 k4 k3 hr (K:=fun x=>Kr (.ret x) H') k2
   show Leaves P fn a'.tmps _ a'.defers _ w'
   rw[k6]
   exact ⟨v,g3,.ret y,H',φ',g2,g1,k4,k5⟩
  | exit i=>exact k2.elim
  | bu v =>
   cases e<;>try exact k1.elim
   show Leaves P fn a'.tmps _ a'.defers _ w'
   rw[k6]
   exact ⟨.bu v,H',φ',k1,k2,k4,k5⟩
end
def dj(n0:Nat)(src:List Nat)(id:Nat):Option Nat:=if id<n0 then some id else (src.idxOf? id).map (n0+·)
mutual
inductive Gz(H1:Y)(n0:Nat)(src:List Nat):Z→Z→Prop where
 | same {x:Z}:x.ids (fun id=>dj n0 src id=some id)→Gz H1 n0 src x x
 | SV {k id id' off n:Nat}{c c':Option Nat}:dj n0 src id=some id'→(c'=c∨c'=none)→Gz H1 n0 src (.aB k id off n c) (.aB k id' off n c')
 | acf {k id id' j f:Nat}:dj n0 src id=some id'→Gz H1 n0 src (.ptr k id j f) (.ptr k id' j f)
 | aB {k id off n:Nat}{c:Option Nat}{blk:aD}{ys:List Z}:dj n0 src id=none→Y.find H1 id=some blk→blk.k=k→off+n≤blk.es.length→dB H1 n0 src ((blk.es.drop off).take n) ys→Gz H1 n0 src (.aB k id off n c) (.ak k ys none)
 | ak {k:Nat}{xs ys:List Z}{room:Option (List Z)}:dB H1 n0 src xs ys→Gz H1 n0 src (.ak k xs room) (.ak k ys none)
 | acg {k:Nat}{xs ys:List Z}:dB H1 n0 src xs ys→Gz H1 n0 src (.ak k xs (some [])) (.ak k ys (some []))
 | nil {k:Nat}{room:Option (List Z)}{k':Nat}:Gz H1 n0 src (.ak k' [] room) (.ak k [] none)
 | ach {k k':Nat}:Gz H1 n0 src (.ak k' [] (some [])) (.ak k [] (some []))
 | agg {xs ys:List Z}:dB H1 n0 src xs ys→Gz H1 n0 src (.agg xs) (.agg ys)
 | aK {xs ys:List Z}:dB H1 n0 src xs ys→Gz H1 n0 src (.aK xs) (.aK ys)
 | dK {t:TypeId}{x y:Z}:Gz H1 n0 src x y→Gz H1 n0 src (.dK t x) (.dK t y)
 | fn {f:Fn}{a b a' b':List Z}:dB H1 n0 src a a'→dB H1 n0 src b b'→Gz H1 n0 src (.fn f a b) (.fn f a' b')
inductive dB(H1:Y)(n0:Nat)(src:List Nat):List Z→List Z→Prop where
 | nil:dB H1 n0 src [] []
 | cons {x y:Z}{r s:List Z}:Gz H1 n0 src x y→dB H1 n0 src r s→dB H1 n0 src (x::r) (y::s)
end
section
variable {H1:Y}{n0:Nat}{src:List Nat}
theorem dB.len:∀{xs ys:List Z},dB H1 n0 src xs ys→ys.length=xs.length
 | _,_,.nil=>rfl
 | _,_,.cons _ h=>by simp[h.len]
theorem Gz.isAgg{x y:Z}(h:Gz H1 n0 src x y):y.isAgg=x.isAgg∧y.an=x.an:=by
 cases h with
 | agg h=>exact ⟨rfl,h.len⟩
 | _=>exact ⟨rfl,rfl⟩
theorem Gz.iA{x y:Z}(h:Gz H1 n0 src x y){u:Value}(hk:iA x u):iA y u:=by
 cases h with
 | agg h=>obtain ⟨us,h1,h2⟩:=hk;exact ⟨us,h1,by rw[h2,h.len]⟩
 | _=>exact hk
theorem tE{id:Nat}(h:id<n0):dj n0 src id=some id:=by unfold dj;rw[if_pos h]
end
def fY(bq:aC)(n0:Nat)(src:List Nat):aC:=fun i=>if i<n0 then bq i else (src[i - n0]?).bind bq
structure EG(bq:aC)(H1:Y)(n0:Nat)(src:List Nat)(H2:Y):Prop where
 nodup:src.Nodup
 aaf:∀s∈src,n0≤s
 len:H2.length=n0+src.length
 live:∀id k,Y.find H2 id=some k→(id<n0∧∃k1,Y.find H1 id=some k1)∨∃s,src[id - n0]? = some s∧n0≤id∧∃k1,Y.find H1 s=some k1
section
variable {bq:aC}{H1:Y}{n0:Nat}{src:List Nat}{H2:Y}
theorem GL{s:Nat}{i:Nat}{l:List Nat}(h:l.idxOf? s=some i):l[i]? = some s:=by
 induction l generalizing i with
 | nil=>simp at h
 | cons x r ih =>
  rw[List.idxOf?_cons] at h
  split at h
  ·rename_i e
   cases h
   simp at e
   simp[e]
  ·rw[Option.map_eq_some_iff] at h
   obtain ⟨j,h1,rfl⟩:=h
   simpa using ih h1
theorem rk{s:Nat}{i:Nat}{l:List Nat}(hn:l.Nodup)(h:l[i]? = some s):l.idxOf? s=some i:=by
 induction l generalizing i with
 | nil=>simp at h
 | cons x r ih =>
  rw[List.idxOf?_cons]
  cases i with
  | zero=>simp at h;simp[h]
  | succ i =>
   simp at h
   have hx:¬(x == s)=true:=by
    intro e
    have e':x=s:=by simpa using e
    have:=(List.nodup_cons.1 hn).1
    exact this (e'▸List.mem_of_getElem? h)
   rw[if_neg hx,ih (List.nodup_cons.1 hn).2 h]
   rfl
theorem wI{id id':Nat}(h:dj n0 src id=some id'):fY bq n0 src id'=bq id:=by
 unfold dj at h
 unfold fY
 split at h
 ·cases h;rw[if_pos (by assumption)]
 ·rw[Option.map_eq_some_iff] at h
  obtain ⟨i,h1,rfl⟩:=h
  rw[if_neg (by omega),show n0+i - n0=i from by omega,GL h1]
  rfl
theorem GM(hc:EG bq H1 n0 src H2){b:Nat}(h:Own (fY bq n0 src) H2 b):∃id,bq id=some b∧(∃k1,Y.find H1 id=some k1)∧dj n0 src id≠none:=by
 obtain ⟨id,k,h1,h2⟩:=h
 unfold fY at h1
 rcases hc.live id k h2 with ⟨g1,g2⟩ | ⟨s,g1,g2,g3⟩
 ·rw[if_pos g1] at h1
  exact ⟨id,h1,g2,by rw[tE g1];simp⟩
 ·rw[if_neg (by omega),g1] at h1
  refine ⟨s,h1,g3,?_⟩
  unfold dj
  rw[if_neg (by have:=hc.aaf s (List.mem_of_getElem? g1);omega),rk hc.nodup g1]
  simp
theorem oB(hc:EG bq H1 n0 src H2){b:Nat}(h:Own (fY bq n0 src) H2 b):Own bq H1 b:=by
 obtain ⟨id,h1,⟨k1,h2⟩,_⟩:=GM hc h
 exact ⟨id,k1,h1,h2⟩
theorem Ae(hc:EG bq H1 n0 src H2){w1:World}:Later (fun id=>dj n0 src id=some id) bq (fY bq n0 src) (Own bq H1) (Own (fY bq n0 src) H2) w1 w1 :=
 ⟨fun id b hid hm=>by rw[wI hid];exact hm,Nat.le_refl _,fun b hb ho eh=>ho (oB hc eh),fun _ _ _=>rfl,fun _ _=>rfl⟩
mutual
theorem Gz.R{w1:World}(hR:Rel bq H1 w1)(hc:EG bq H1 n0 src H2):∀{x y:Z},Gz H1 n0 src x y→∀{g:Nat→Option Value},R bq (Own bq H1) w1 x g→R (fY bq n0 src) (Own (fY bq n0 src) H2) w1 y g
 | _,_,.same hi,g,h=>iO (Ae hc) _ _ _ hi (fun _ _ h=>h) h
 | _,_,.SV hi fw,g,h=>by
  obtain ⟨b,c',cur,e,fr,v1,v2,v3,v4,v5,v6,v7⟩:=h
  refine ⟨b,c',cur,e,fr,by rw[wI hi];exact v1,v2,v3,v4,fun m hm=>?_,v6,v7⟩
  rcases fw with rfl | rfl
  ·exact v5 m hm
  ·simp at hm
 | _,_,.acf hi,g,h=>by
  obtain ⟨b,h1,h2⟩:=h
  exact ⟨b,by rw[wI hi];exact h1,h2⟩
 | _,_,.aB (k:=k) (id:=id) (off:=off) (n:=n) (c:=c) (blk:=blk) (ys:=ys) h1 h2 h3 h4 h5,g,h=>by
  obtain ⟨b,c',cur,e,fr,v1,v2,v3,v4,v5,v6,v7⟩:=h
  have sD:((blk.es.drop off).take n).length=n:=by simp;omega
  have mK:ys.length=n:=by rw[h5.len,sD]
  refine ⟨_,c',by rw[mK];exact v2,by omega,v4,fun h=>by simp at h,fun hp=>⟨b,off*k,rfl,?_,fG v6,?_⟩,trivial⟩
  ·intro ho
   obtain ⟨id',g1,⟨k1,g2⟩,g3⟩:=GM hc ho
   have:=hR.inj id' id b g1 v1 (by rw[g2];rfl) (by rw[h2];rfl)
   rw[this] at g3
   exact g3 h1
  ·obtain ⟨_,ow,cap,a1,a2,a3,a4,a5,a6⟩:=(hR.blk id b blk v1 h2).gC v6
   have h7:=gG (n:=n) (iU (f:=off) a6)
   rw[h3,Nat.zero_add] at h7
   exact dB.Rl hR hc h5 h7
 | _,_,.ak (k:=k) (xs:=xs) (ys:=ys) hl,g,h=>by
  obtain ⟨a,c,h1,h2,h3,h4,h5,h6⟩:=h
  have mK:=hl.len
  refine ⟨a,c,by rw[mK];exact h1,by omega,h3,h4,fun hp=>?_,trivial⟩
  obtain ⟨b,off,e1,e2,e3,e4⟩:=h5 (by omega)
  exact ⟨b,off,e1,fun ho=>e2 (oB hc ho),e3,dB.Rl hR hc hl e4⟩
 | _,_,.acg (k:=k) (xs:=xs) (ys:=ys) hl,g,h=>by
  obtain ⟨a,c,h1,h2,h3,h4,h5,h6⟩:=h
  have mK:=hl.len
  refine ⟨a,c,by rw[mK];exact h1,by omega,h3,h4,fun hp=>?_,by rw[mK];exact h6.1,fun hp=>by simp at hp⟩
  obtain ⟨b,off,e1,e2,e3,e4⟩:=h5 (by omega)
  exact ⟨b,off,e1,fun ho=>e2 (oB hc ho),e3,dB.Rl hR hc hl e4⟩
 | _,_,.nil,g,h=>by
  obtain ⟨a,c,h1,h2,h3,h4,h5,h6⟩:=h
  exact ⟨a,c,h1,h2,h3,h4,fun hp=>by simp at hp,trivial⟩
 | _,_,.ach,g,h=>by
  obtain ⟨a,c,h1,h2,h3,h4,h5,h6⟩:=h
  exact ⟨a,c,h1,h2,h3,h4,fun hp=>by simp at hp,h6.1,fun hp=>by simp at hp⟩
 | _,_,.agg hl,g,h=>dB.Rs hR hc hl h
 | _,_,.aK hl,g,h=>by
  obtain ⟨us,h1,h2⟩:=h
  exact ⟨us,h1,dB.Rt hR hc hl h2⟩
 | _,_,.dK hx,g,h=>by
  obtain ⟨u,h1,h2,h3⟩:=h
  exact ⟨u,h1,hx.iA h2,Gz.R hR hc hx h3⟩
 | _,_,.fn ha hb,g,h=>by
  obtain ⟨us,ws,h1,h2,h3⟩:=h
  exact ⟨us,ws,h1,dB.Rt hR hc ha h2,dB.Rt hR hc hb h3⟩
theorem dB.Rl{w1:World}(hR:Rel bq H1 w1)(hc:EG bq H1 n0 src H2):∀{xs ys:List Z},dB H1 n0 src xs ys→∀{b k off:Nat},Rl bq (Own bq H1) w1 b k xs off→Rl (fY bq n0 src) (Own (fY bq n0 src) H2) w1 b k ys off
 | _,_,.nil,b,k,off,_=>trivial
 | _,_,.cons hx hr,b,k,off,h=>⟨by rw[hx.isAgg.2];exact h.1,by rw[hx.isAgg.1];exact h.2.1,Gz.R hR hc hx h.2.2.1,dB.Rl hR hc hr h.2.2.2⟩
theorem dB.Rs{w1:World}(hR:Rel bq H1 w1)(hc:EG bq H1 n0 src H2):∀{xs ys:List Z},dB H1 n0 src xs ys→∀{g:Nat→Option Value},Rs bq (Own bq H1) w1 xs g→Rs (fY bq n0 src) (Own (fY bq n0 src) H2) w1 ys g
 | _,_,.nil,g,_=>trivial
 | _,_,.cons hx hr,g,h=>⟨by rw[hx.isAgg.1];exact h.1,Gz.R hR hc hx h.2.1,h.2.2.1,dB.Rs hR hc hr h.2.2.2⟩
theorem dB.Rt{w1:World}(hR:Rel bq H1 w1)(hc:EG bq H1 n0 src H2):∀{xs ys:List Z},dB H1 n0 src xs ys→∀{us:List Value},Rt bq (Own bq H1) w1 xs us→Rt (fY bq n0 src) (Own (fY bq n0 src) H2) w1 ys us
 | _,_,.nil,us,h=>h
 | _,_,.cons hx hr,us,h=>by
  obtain ⟨v,s,h1,h2,h3,h4⟩:=h
  exact ⟨v,s,h1,hx.iA h2,Gz.R hR hc hx h3,dB.Rt hR hc hr h4⟩
end
end
theorem dB.RE{bq:aC}{H1 H2:Y}{n0:Nat}{src:List Nat}{w1:World}(hR:Rel bq H1 w1)(hc:EG bq H1 n0 src H2):∀{xs ys:List Z},dB H1 n0 src xs ys→∀{es:List MapEntry},RE bq (Own bq H1) w1 xs es→RE (fY bq n0 src) (Own (fY bq n0 src) H2) w1 ys es
 | _,_,.nil,_,h=>h
 | _,_,.cons hx hr,_,h=>by
  obtain ⟨e,s,h1,h2,h3⟩:=h
  exact ⟨e,s,h1,⟨hx.iA h2.1,Gz.R hR hc hx h2.2⟩,dB.RE hR hc hr h3⟩
def C1(H1:Y)(n0:Nat)(src:List Nat)(k1 k:aD):Prop:=k.k=k1.k∧k.ty=k1.ty∧(k.exact=true→k1.exact=true)∧dB H1 n0 src k1.es k.es
def aci(H1:Y)(n0:Nat)(src:List Nat):cm→cm→Prop
 | .ret x,.ret y=>Gz H1 n0 src x y
 | .bu x,.bu y=>Gz H1 n0 src x y
 | _,_=>False
theorem mr{H H1 H2:Y}(src:List Nat){e1 e:cm}(hl:H2.length=H.length+src.length)(hn:src.Nodup)(ha:∀s∈src,H.length≤s)
  (hold:∀id k,id<H.length→Y.find H2 id=some k→(Y.find H id=some k∧Y.find H1 id=some k)∨∃k1,Y.find H1 id=some k1∧C1 H1 H.length src k1 k)
  (qy:∀i s k,src[i]? = some s→Y.find H2 (H.length+i)=some k→∃k1,Y.find H1 s=some k1∧C1 H1 H.length src k1 k)
  (hz:aci H1 H.length src e1 e):eJ H e1 H1 e H2:=by
 intro φ w bq w1 en Eu he hR hS
 have hc:EG bq H1 H.length src H2:=by
  refine ⟨hn,ha,hl,fun id k hk=>?_⟩
  by_cases hid:id<H.length
  ·left
   rcases hold id k hid hk with ⟨_,h2⟩ | ⟨k1,h2,_⟩
   ·exact ⟨hid,k,h2⟩
   ·exact ⟨hid,k1,h2⟩
  ·right
   have hlt:=Y.am hk
   have hi:id - H.length<src.length:=by omega
   have hs:src[id - H.length]? = some src[id - H.length]:=by simp[hi]
   obtain ⟨k1,h1,_⟩:=qy _ _ k hs (by rw[show H.length+(id - H.length)=id from by omega];exact hk)
   exact ⟨_,hs,by omega,k1,h1⟩
 have SW:∀id b,fY bq H.length src id=some b→(id<H.length∧bq id=some b)∨∃s,src[id - H.length]? = some s∧H.length≤id∧bq s=some b:=by
  intro id b h
  unfold fY at h
  split at h
  ·exact .inl ⟨by assumption,h⟩
  ·rw[Option.bind_eq_some_iff] at h
   obtain ⟨s,h1,h2⟩:=h
   exact .inr ⟨s,h1,by omega,h2⟩
 have MJ:∀id k b,Y.find H2 id=some k→fY bq H.length src id=some b→∃s,bq s=some b∧(Y.find H1 s).isSome∧dj H.length src s=some id:=by
  intro id k b h1 h2
  rcases SW id b h2 with ⟨g1,g2⟩ | ⟨s,g1,g2,g3⟩
  ·refine ⟨id,g2,?_,tE g1⟩
   rcases hc.live id k h1 with ⟨_,k1,g⟩ | ⟨s,_,g,_⟩
   ·rw[g];rfl
   ·omega
  ·refine ⟨s,g3,?_,?_⟩
   ·rcases hc.live id k h1 with ⟨g,_⟩ | ⟨s',g4,_,k1,g5⟩
    ·omega
    ·rw[g1] at g4;cases g4;rw[g5];rfl
   ·unfold dj
    rw[if_neg (by have:=ha s (List.mem_of_getElem? g1);omega),rk hn g1]
    simp only[Option.map_some]
    congr 1
    omega
 refine ⟨fY bq H.length src,?_,⟨hR.gD.less fun b ho=>oB hc ho,fun id b h=>?_,fun i j b hi hj gp jR=>?_,fun id b k h1 h2=>?_⟩,⟨⟨fun id b _ h=>?_,hS.size,fun b hb ho eh=>hS.own b hb ho (oB hc eh),hS.same,hS.shape⟩,hS.os,hS.tape,hS.output,by omega,fun id hid=>?_⟩⟩
 ·cases e1 with
  | ret x =>
   cases e with
   | bu y=>exact hz.elim
   | ret y =>
    cases en with
    | returned v=>exact ⟨Gz.iA hz he.1,Gz.R hR hc hz he.2⟩
    | _=>exact he.elim
  | bu x =>
   cases e with
   | ret y=>exact hz.elim
   | bu y =>
    cases en with
    | panicked c=>obtain ⟨v,older,rfl,ho,hv⟩:=he;exact ⟨v,older,rfl,ho,Gz.iA hz hv.1,Gz.R hR hc hz hv.2⟩
    | _=>exact he.elim
 ·rcases SW id b h with ⟨g1,g2⟩ | ⟨s,g1,g2,g3⟩
  ·exact ⟨by omega,(hR.dom id b g2).2⟩
  ·have:=(List.getElem?_eq_some_iff.1 g1).1
   exact ⟨by omega,(hR.dom s b g3).2⟩
 ·obtain ⟨k1,e1⟩:=Option.isSome_iff_exists.1 gp
  obtain ⟨k2,e2⟩:=Option.isSome_iff_exists.1 jR
  obtain ⟨s1,a1,a2,a3⟩:=MJ i k1 b e1 hi
  obtain ⟨s2,b1,b2,b3⟩:=MJ j k2 b e2 hj
  have:=hR.inj s1 s2 b a1 b1 a2 b2
  rw[this,b3] at a3
  exact (Option.some.inj a3).symm
 ·have hblk:∀{s:Nat}{k1:aD},bq s=some b→Y.find H1 s=some k1→C1 H1 H.length src k1 k→gB (fY bq H.length src) (Own (fY bq H.length src) H2) w1 k b:=by
   intro s k1 g1 g2 ⟨z1,z2,z3,z4⟩
   rcases hR.blk s b k1 g1 g2 with ⟨h0,c1,c2,a1,a2,a3,a4,a5,a6⟩ | ⟨h0,ht,bz,clock,a1,a2,a3,a4⟩ | ⟨h0,ht,r,ts,tm,e,a1,a2⟩ | ⟨h0,ht,bz,clock,x,r,e,a1,a2,a3,a4,a5⟩ | ⟨h0,ht,bm,clock,seen,a1,a2⟩
   ·refine .inl ⟨by rw[z1];exact h0,c1,c2,by rw[z2];exact a1,by rw[z1];exact a2,by rw[z4.len];exact a3,fun h=>by rw[z4.len];exact a4 (z3 h),a5,?_⟩
    rw[z1]
    exact dB.Rl hR hc z4 a6
   ·exact .inr (.inl ⟨by rw[z1];exact h0,by rw[z2];exact ht,bz,clock,a1,a2,a3,dB.RE hR hc z4 a4⟩)
   ·rw[e] at z4
    generalize j7:k.es=es at z4
    cases z4 with
    | cons zx zr =>
     cases zx with
     | same hi=>exact .inr (.inr (.inl ⟨by rw[z1];exact h0,by rw[z2];exact ht,r,_,tm,j7,a1,dB.Rt hR hc zr a2⟩))
   ·rw[e] at z4
    generalize j7:k.es=es at z4
    cases z4 with
    | cons zx zr=>exact .inr (.inr (.inr (.inl ⟨by rw[z1];exact h0,by rw[z2];exact ht,bz,clock,_,_,j7,a1,a2,a3,⟨Gz.iA zx a4.1,Gz.R hR hc zx a4.2⟩,dB.RE hR hc zr a5⟩)))
   ·exact .inr (.inr (.inr (.inr ⟨by rw[z1];exact h0,by rw[z2];exact ht,bm,clock,seen,a1,dB.Rt hR hc z4 a2⟩)))
  rcases SW id b h1 with ⟨g1,g2⟩ | ⟨s,g1,g2,g3⟩
  ·rcases hold id k g1 h2 with ⟨h3,h4⟩ | ⟨k1,h3,h4⟩
   ·have h5:φ id=some b:=by rw[←hS.old id g1];exact g2
    have R6:=Z.eH (q:=fun i=>dj H.length src i=some i) (fun i ⟨b',hb'⟩=>tE (Eu.dom i b' hb').1) _ (Eu.blk id b k h5 h3).ids
    exact (hR.blk id b k g2 h4).later (Ae hc) rfl R6
   ·exact hblk g2 h3 h4
  ·obtain ⟨k1,h3,h4⟩:=qy (id - H.length) s k g1 (by rw[show H.length+(id - H.length)=id from by omega];exact h2)
   exact hblk g3 h3 h4
 ·have h4:=(Eu.dom id b h).1
  unfold fY
  rw[if_pos h4,hS.old id h4]
  exact h
 ·unfold fY
  rw[if_pos hid]
  exact hS.old id hid
mutual
inductive Le:Z→Z→Prop where
 | refl {x:Z}:Le x x
 | ak {k:Nat}{xs ys:List Z}{room:Option (List Z)}:mT xs ys→Le (.ak k xs room) (.ak k ys none)
 | nil {k k':Nat}{room:Option (List Z)}:Le (.ak k [] room) (.ak k' [] none)
 | agg {xs ys:List Z}:mT xs ys→Le (.agg xs) (.agg ys)
 | aB {k id off n:Nat}{c:Option Nat}:Le (.aB k id off n c) (.aB k id off n none)
inductive mT:List Z→List Z→Prop where
 | nil:mT [] []
 | cons {x y:Z}{r s:List Z}:Le x y→mT r s→mT (x::r) (y::s)
end
theorem mT.refl:∀{l:List Z},mT l l
 | []=>.nil
 | _::_=>.cons .refl mT.refl
theorem mT.len:∀{xs ys:List Z},mT xs ys→ys.length=xs.length
 | _,_,.nil=>rfl
 | _,_,.cons _ h=>by simp[h.len]
theorem Le.isAgg{x y:Z}(h:Le x y):y.isAgg=x.isAgg∧y.an=x.an:=by
 cases h with
 | agg h=>exact ⟨rfl,h.len⟩
 | _=>exact ⟨rfl,rfl⟩
theorem Le.iA{x y:Z}(h:Le x y){u:Value}(hk:iA x u):iA y u:=by
 cases h with
 | agg h=>obtain ⟨us,h1,h2⟩:=hk;exact ⟨us,h1,by rw[h2,h.len]⟩
 | _=>exact hk
section
variable {φ:aC}{O:Nat→Prop}{w:World}
mutual
theorem Le.R:∀{x y:Z},Le x y→∀{g:Nat→Option Value},R φ O w x g→R φ O w y g
 | _,_,.refl,g,h=>h
 | _,_,.ak hl,g,h=>by
  obtain ⟨a,c,h1,h2,h3,h4,h5,h6⟩:=h
  have mK:=hl.len
  refine ⟨a,c,by rw[mK];exact h1,by omega,h3,h4,fun hp=>?_,trivial⟩
  obtain ⟨b,off,e1,e2,e3,e4⟩:=h5 (by omega)
  exact ⟨b,off,e1,e2,e3,mT.Rl hl e4⟩
 | _,_,.nil,g,h=>by
  obtain ⟨a,c,h1,h2,h3,h4,h5,h6⟩:=h
  exact ⟨a,c,h1,h2,h3,h4,fun hp=>by simp at hp,trivial⟩
 | _,_,.agg hl,g,h=>mT.Rs hl h
 | _,_,.aB,g,h=>by
  obtain ⟨b,c',cur,e,fr,v1,v2,v3,v4,v5,v6,v7⟩:=h
  exact ⟨b,c',cur,e,fr,v1,v2,v3,v4,fun m hm=>by simp at hm,v6,v7⟩
theorem mT.Rl:∀{xs ys:List Z},mT xs ys→∀{b k off:Nat},Rl φ O w b k xs off→Rl φ O w b k ys off
 | _,_,.nil,b,k,off,_=>trivial
 | _,_,.cons hx hr,b,k,off,h=>⟨by rw[hx.isAgg.2];exact h.1,by rw[hx.isAgg.1];exact h.2.1,Le.R hx h.2.2.1,mT.Rl hr h.2.2.2⟩
theorem mT.Rs:∀{xs ys:List Z},mT xs ys→∀{g:Nat→Option Value},Rs φ O w xs g→Rs φ O w ys g
 | _,_,.nil,g,_=>trivial
 | _,_,.cons hx hr,g,h=>⟨by rw[hx.isAgg.1];exact h.1,Le.R hx h.2.1,h.2.2.1,mT.Rs hr h.2.2.2⟩
theorem mT.Rt:∀{xs ys:List Z},mT xs ys→∀{us:List Value},Rt φ O w xs us→Rt φ O w ys us
 | _,_,.nil,us,h=>h
 | _,_,.cons hx hr,us,h=>by
  obtain ⟨v,s,h1,h2,h3,h4⟩:=h
  exact ⟨v,s,h1,hx.iA h2,Le.R hx h3,mT.Rt hr h4⟩
end
end
inductive oC(id:Nat)(blk:aD):List Z→List Z→Prop where
 | nil:oC id blk [] []
 | keep {x:Z}{r s:List Z}:oC id blk r s→oC id blk (x::r) (x::s)
 | aB {k off n:Nat}{c:Option Nat}{r s:List Z}:blk.k=k→off+n≤blk.es.length→oC id blk r s→oC id blk (.aB k id off n c::r) (.ak k ((blk.es.drop off).take n) none::s)
theorem xS{φ:aC}{H:Y}{id:Nat}{w:World}:Later (fun _=>True) φ φ (Own φ H) (Own φ (Y.set H id none)) w w :=
 ⟨fun _ _ _ h=>h,Nat.le_refl _,fun b _ ho eh=>ho (Cx eh),fun _ _ _=>rfl,fun _ _=>rfl⟩
theorem oC.Rt{φ:aC}{H:Y}{w:World}(hR:Rel φ H w){id:Nat}{blk:aD}(hf:Y.find H id=some blk):∀{xs ys:List Z},oC id blk xs ys→∀{us:List Value},Rt φ (Own φ H) w xs us→Rt φ (Own φ (Y.set H id none)) w ys us
 | _,_,.nil,us,h=>h
 | _,_,.keep hr,us,h=>by
  obtain ⟨v,s,h1,h2,h3,h4⟩:=h
  exact ⟨v,s,h1,h2,iO xS _ _ _ (Z.jj _) (fun _ _ h=>h) h3,oC.Rt hR hf hr h4⟩
 | _,_,.aB (k:=k) (off:=off) (n:=n) hk hn hr,us,h=>by
  obtain ⟨v,s,h1,h2,h3,h4⟩:=h
  refine ⟨v,s,h1,h2,?_,oC.Rt hR hf hr h4⟩
  obtain ⟨b,c',cur,e,fr,v1,v2,v3,v4,v5,v6,v7⟩:=h3
  have sD:((blk.es.drop off).take n).length=n:=by simp;omega
  refine ⟨_,c',by rw[sD];exact v2,by omega,v4,fun h=>by simp at h,fun hp=>⟨b,off*k,rfl,?_,fG v6,?_⟩,trivial⟩
  ·rintro ⟨i,k2,g1,g2⟩
   obtain ⟨g3,g4⟩:=gJ g2
   exact g3 (hR.inj i id b g1 v1 (by rw[g4];rfl) (by rw[hf];rfl))
  ·obtain ⟨_,ow,cap,a1,a2,a3,a4,a5,a6⟩:=(hR.blk id b blk v1 hf).gC v6
   have h7:=gG (n:=n) (iU (f:=off) a6)
   rw[hk,Nat.zero_add] at h7
   exact oe xS b rfl _ _ _ (Z.b7 _) h7
theorem aN{H:Y}{b:Option aD}{i:Nat}(h:i=H.length):Y.find (b::H) i=b:=by subst h;exact Y.gZ
theorem ai{H:Y}{b:Option aD}{i:Nat}(h:i<H.length):Y.find (b::H) i=Y.find H i:=Y.cz h
theorem EH{H:Y}{i j:Nat}{x:Option aD}(h:i=j)(hl:i<H.length):Y.find (Y.set H i x) j=x:=by subst h;exact Y.ay hl
theorem si{H:Y}{i:Nat}{b x:Option aD}(h:i<H.length):Y.set (b::H) i x=b::Y.set H i x:=by
 show (if i=H.length then _ else _)=_
 rw[if_neg (by omega)]
theorem Af{H:Y}{i:Nat}{b x:Option aD}(h:i=H.length):Y.set (b::H) i x=x::H:=by
 show (if i=H.length then _ else _)=_
 rw[if_pos h]
theorem yy{H:Y}{i j:Nat}{x:Option aD}(h:j≠i):Y.find (Y.set H i x) j=Y.find H j:=Y.ah h
def aW(k:Nat)(xs:List Z)(id:Nat):Z:=match xs with
 | []=>.ak 0 [] (some [])
 | _::_=>.aB k id 0 xs.length none
def cA(k:Nat)(ty:TypeId)(xs:List Z):Option aD:=match xs with
 | []=>none
 | _::_=>some ⟨k,xs,false,ty⟩
def jK(xs:List Z)(id:Nat)(H:Y):Y:=match xs with
 | []=>H
 | _::_=>Y.set H id none
section
variable {k id i:Nat}{ty:TypeId}{xs:List Z}{H:Y}
theorem lc(h:xs≠[]):aW k xs id = .aB k id 0 xs.length none:=by cases xs<;>first | exact (h rfl).elim | rfl
theorem bC(h:xs≠[]):cA k ty xs=some ⟨k,xs,false,ty⟩:=by cases xs<;>first | exact (h rfl).elim | rfl
theorem bQ:(jK xs id H).length=H.length:=by cases xs<;>simp[jK,Y.aj]
theorem nB(h:i≠id):Y.find (jK xs id H) i=Y.find H i:=by
 cases xs with
 | nil=>rfl
 | cons x r=>exact Y.ah h
theorem GN{b:Option aD}(h:id<H.length):jK xs id (b::H)=b::jK xs id H:=by
 cases xs with
 | nil=>rfl
 | cons x r=>exact si h
theorem py{b:aD}(h:cA k ty xs=some b):xs≠[]∧b=⟨k,xs,false,ty⟩:=by
 cases xs with
 | nil=>simp[cA] at h
 | cons x r=>simp[cA] at h;exact ⟨by simp,h.symm⟩
theorem oD:(aW k xs id).bO=false:=by cases xs<;>rfl
theorem EI:(aW k xs id).an=1:=by cases xs<;>rfl
theorem GP:(aW k xs id).isAgg=false:=by cases xs<;>rfl
theorem nC:(aW k xs id).cells=[aW k xs id]:=by cases xs<;>rfl
theorem Ag:p8 (aW k xs id)=xs.length:=by cases xs<;>rfl
theorem xT:nV (aW k xs id)=True:=by cases xs<;>rfl
end
theorem GQ{H1:Y}{n0:Nat}{src:List Nat}{k id id':Nat}{xs:List Z}(h:xs≠[]→dj n0 src id=some id'):Gz H1 n0 src (aW k xs id) (aW k xs id'):=by
 cases xs with
 | nil=>exact .same ⟨trivial,trivial⟩
 | cons x r=>exact .SV (h (by simp)) (.inl rfl)
theorem Ah{H1:Y}{n0:Nat}{src:List Nat}{k id:Nat}{ty:TypeId}{xs ys:List Z}(h:xs≠[]→dj n0 src id=none)(hf:xs≠[]→Y.find H1 id=cA k ty xs)(hz:dB H1 n0 src xs ys):Gz H1 n0 src (aW k xs id) (.ak k ys none):=by
 cases xs with
 | nil =>
  cases hz
  exact .nil
 | cons x r =>
  refine .aB (h (by simp)) (hf (by simp)) rfl (by simp) ?_
  simpa using hz
theorem oC.refl{id:Nat}{blk:aD}:∀{l:List Z},oC id blk l l
 | []=>.nil
 | _::_=>.keep oC.refl
theorem SX{H:Y}{k:Nat}{ty:TypeId}{xs ys:List Z}{id:Nat}(hf:xs≠[]→Y.find H id=cA k ty xs)(hl:xs.length+ys.length≤100000000):iv H k ty ys (aW k xs id)∧(ys≠[]∨xs≠[]→nW H k ys (aW k xs id)=aW k (xs++ys) H.length∧kj H k ty ys (aW k xs id)=cA k ty (xs++ys)::jK xs id H)∧
  (ys=[]→xs=[]→nW H k ys (aW k xs id) = .ak 0 [] (some [])∧kj H k ty ys (aW k xs id)=H):=by
 cases xs with
 | nil =>
  cases ys with
  | nil=>refine ⟨?_,fun h=>by simp at h,fun _ _=>⟨rfl,rfl⟩⟩;simp[iv,aW]
  | cons y s=>
   refine ⟨?_,fun _=>⟨?_,?_⟩,fun h=>by simp at h⟩
   ·simp[iv,aW] at hl ⊢;exact hl
   ·simp[nW,aW]
   ·simp[kj,aW,cA,jK]
 | cons x r =>
  have h1:Y.find H id=some ⟨k,x::r,false,ty⟩:=hf (by simp)
  refine ⟨?_,fun _=>⟨?_,?_⟩,fun _ h=>by simp at h⟩
  ·simp only[iv,aW,h1]
   simp at hl ⊢
   exact hl
  ·simp only[nW,aW,h1]
   simp
   omega
  ·simp only[kj,aW,h1]
   simp[cA,jK]
theorem cO{P:Program}{c:IC}{K:Post}{ts:List Z}{H:Y}(I:List Z→Y→Prop)(μ:List Z→Y→Nat)(h0:I ts H)(h:∀ts H,I ts H→∀L:List Z→Y→Prop,(∀ts' H',I ts' H'→μ ts' H'<μ ts H→L ts' H')→ES P c (iC L K) ts H):ES P (.loop c) K ts H :=
 Aa I μ h0 fun ts H hI=>h ts H hI _ fun _ _ h1 h2=>⟨h1,h2⟩
mutual
inductive View(H:Y):Z→Z→Prop where
 | sc {v:Value}:View H (.sc v) (.sc v)
 | ub:View H .ub .ub
 | ak {k:Nat}{xs ys:List Z}{room:Option (List Z)}:cq H xs ys→View H (.ak k xs room) (.ak k ys none)
 | nil {k k':Nat}{room:Option (List Z)}:View H (.ak k [] room) (.ak k' [] none)
 | aB {k id off n:Nat}{c:Option Nat}{blk:aD}{ys:List Z}:Y.find H id=some blk→blk.k=k→off+n≤blk.es.length→cq H ((blk.es.drop off).take n) ys→View H (.aB k id off n c) (.ak k ys none)
 | ptr {k id j f:Nat}{blk:aD}{e y:Z}:Y.find H id=some blk→blk.es[j]? = some e→blk.k=k→0<k→View H e y→View H (.ptr k id j f) (.lp y f)
 | lp {x y:Z}{f:Nat}:View H x y→View H (.lp x f) (.lp y f)
 | agg {xs ys:List Z}:cq H xs ys→View H (.agg xs) (.agg ys)
 | aK {xs ys:List Z}:cq H xs ys→View H (.aK xs) (.aK ys)
 | dK {t:TypeId}{x y:Z}:View H x y→View H (.dK t x) (.dK t y)
 | fn {f:Fn}{a b a' b':List Z}:cq H a a'→cq H b b'→View H (.fn f a b) (.fn f a' b')
inductive cq(H:Y):List Z→List Z→Prop where
 | nil:cq H [] []
 | cons {x y:Z}{r s:List Z}:View H x y→cq H r s→cq H (x::r) (y::s)
end
section
variable {H:Y}
theorem cq.len:∀{xs ys:List Z},cq H xs ys→ys.length=xs.length
 | _,_,.nil=>rfl
 | _,_,.cons _ h=>by simp[h.len]
theorem View.isAgg{x y:Z}(h:View H x y):y.isAgg=x.isAgg∧y.an=x.an:=by
 cases h with
 | agg h=>exact ⟨rfl,h.len⟩
 | _=>exact ⟨rfl,rfl⟩
theorem View.iA{x y:Z}(h:View H x y){u:Value}(hk:iA x u):iA y u:=by
 cases h with
 | agg h=>obtain ⟨us,h1,h2⟩:=hk;exact ⟨us,h1,by rw[h2,h.len]⟩
 | _=>exact hk
theorem View.acj{x y:Z}(h:View H x y):y.isAgg=true→x.isAgg=true:=by
 cases h<;>simp[Z.isAgg]
end
section
variable {φ:aC}{H:Y}{w:World}
mutual
theorem View.R(hR:Rel φ H w):∀{x y:Z},View H x y→∀{g:Nat→Option Value},R φ (Own φ H) w x g→R eZ O0 w y g
 | _,_,.sc,g,h=>h
 | _,_,.ub,g,h=>h
 | _,_,.ak hl,g,h=>by
  obtain ⟨a,c,h1,h2,h3,h4,h5,h6⟩:=h
  have mK:=hl.len
  refine ⟨a,c,by rw[mK];exact h1,by omega,h3,h4,fun hp=>?_,trivial⟩
  obtain ⟨b,off,e1,e2,e3,e4⟩:=h5 (by omega)
  exact ⟨b,off,e1,p9,e3,cq.Rl hR hl e4⟩
 | _,_,.nil,g,h=>by
  obtain ⟨a,c,h1,h2,h3,h4,h5,h6⟩:=h
  exact ⟨a,c,h1,h2,h3,h4,fun hp=>by simp at hp,trivial⟩
 | _,_,.aB (k:=k) (id:=id) (off:=off) (n:=n) (blk:=blk) h1 h2 h3 h4,g,h=>by
  obtain ⟨b,c',cur,e,fr,v1,v2,v3,v4,v5,v6,v7⟩:=h
  have sD:((blk.es.drop off).take n).length=n:=by simp;omega
  have mK:=h4.len
  rw[sD] at mK
  refine ⟨_,c',by rw[mK];exact v2,by omega,v4,fun h=>by simp at h,fun hp=>⟨b,off*k,rfl,p9,fG v6,?_⟩,trivial⟩
  obtain ⟨_,ow,cap,a1,a2,a3,a4,a5,a6⟩:=(hR.blk id b blk v1 h1).gC v6
  have h7:=gG (n:=n) (iU (f:=off) a6)
  rw[h2,Nat.zero_add] at h7
  exact cq.Rl hR h4 h7
 | _,_,.ptr (k:=k) (id:=id) (j:=j) (f:=f) (blk:=blk) (e:=e) h1 h2 h3 bV hv,g,h=>by
  obtain ⟨b,g1,g2⟩:=h
  obtain ⟨ow,cap,a1,a2,a3,a4,a5,a6⟩:=(hR.blk id b blk g1 h1).cells (by rw[h3];exact bV)
  rw[ed bV] at g2
  obtain ⟨n1,n2,n3⟩:=rZ a6 h2
  rw[h3,Nat.zero_add] at n2 n3
  refine ⟨b,j*k,by rw[g2],p9,fG a1,fun hx=>?_,View.R hR hv n3⟩
  have hxa:e.isAgg=false:=by
   cases hq:e.isAgg with
   | false=>rfl
   | true =>
    have:=hv.isAgg.1
    rw[hx,hq] at this
    simp at this
  exact n2 hxa
 | _,_,.lp hv,g,h=>by
  obtain ⟨b,off,h1,ho,hb,h3,h2⟩:=h
  refine ⟨b,off,h1,p9,hb,fun hx=>h3 ?_,View.R hR hv h2⟩
  rename_i x y f
  cases hq:x.isAgg with
  | false=>rfl
  | true =>
   have:=hv.isAgg.1
   rw[hx,hq] at this
   simp at this
 | _,_,.agg hl,g,h=>cq.Rs hR hl h
 | _,_,.aK hl,g,h=>by
  obtain ⟨us,h1,h2⟩:=h
  exact ⟨us,h1,cq.Rt hR hl h2⟩
 | _,_,.dK hx,g,h=>by
  obtain ⟨u,h1,h2,h3⟩:=h
  exact ⟨u,h1,hx.iA h2,View.R hR hx h3⟩
 | _,_,.fn ha hb,g,h=>by
  obtain ⟨us,ws,h1,h2,h3⟩:=h
  exact ⟨us,ws,h1,cq.Rt hR ha h2,cq.Rt hR hb h3⟩
theorem cq.Rl(hR:Rel φ H w):∀{xs ys:List Z},cq H xs ys→∀{b k off:Nat},Rl φ (Own φ H) w b k xs off→Rl eZ O0 w b k ys off
 | _,_,.nil,b,k,off,_=>trivial
 | _,_,.cons (x:=x) (y:=y) hx hr,b,k,off,h=>by
  have he:=hx.isAgg
  exact ⟨by rw[he.2];exact h.1,by rw[he.1];exact h.2.1,View.R hR hx h.2.2.1,cq.Rl hR hr h.2.2.2⟩
theorem cq.Rs(hR:Rel φ H w):∀{xs ys:List Z},cq H xs ys→∀{g:Nat→Option Value},Rs φ (Own φ H) w xs g→Rs eZ O0 w ys g
 | _,_,.nil,g,_=>trivial
 | _,_,.cons (x:=x) (y:=y) hx hr,g,h=>by
  refine ⟨?_,View.R hR hx h.2.1,h.2.2.1,cq.Rs hR hr h.2.2.2⟩
  cases hq:y.isAgg with
  | false=>rfl
  | true=>have:=hx.acj hq;rw[h.1] at this;simp at this
theorem cq.Rt(hR:Rel φ H w):∀{xs ys:List Z},cq H xs ys→∀{us:List Value},Rt φ (Own φ H) w xs us→Rt eZ O0 w ys us
 | _,_,.nil,us,h=>h
 | _,_,.cons hx hr,us,h=>by
  obtain ⟨v,s,h1,h2,h3,h4⟩:=h
  exact ⟨v,s,h1,hx.iA h2,View.R hR hx h3,cq.Rt hR hr h4⟩
end
end
inductive Plain:Z→Prop where
 | sc {v:Value}:Plain (.sc v)
 | ub:Plain .ub
 | nil {k:Nat}{room:Option (List Z)}:(room=none∨room=some [])→Plain (.ak k [] room)
 | ack:Plain (.aK [])
 | aK {x:Z}{r:List Z}:Plain x→Plain (.aK r)→Plain (.aK (x::r))
theorem Plain.R{x:Z}(h:Plain x):∀{φ φ':aC}{O O':Nat→Prop}{w w':World}{g:Nat→Option Value},R φ O w x g→R φ' O' w' x g:=by
 induction h with
 | sc=>intro φ φ' O O' w w' g h;exact h
 | ub=>intro φ φ' O O' w w' g h;exact h
 | nil hr =>
  intro φ φ' O O' w w' g h
  obtain ⟨a,c,h1,h2,h3,h4,h5,h6⟩:=h
  refine ⟨a,c,h1,h2,h3,h4,fun hp=>by simp at hp,?_⟩
  rcases hr with rfl | rfl
  ·trivial
  ·exact ⟨h6.1,fun hp=>by simp at hp⟩
 | ack =>
  intro φ φ' O O' w w' g h
  obtain ⟨us,h1,h2⟩:=h
  exact ⟨us,h1,h2⟩
 | aK _ _ ih1 ih2 =>
  intro φ φ' O O' w w' g h
  obtain ⟨us,h1,v,s,h2,h3,h4,h5⟩:=h
  obtain ⟨us',e1,e2⟩:=ih2 (φ:=φ) (φ':=φ') (O:=O) (O':=O') (w:=w) (w':=w') (g:=fun _=>some (.tuple s.toArray)) ⟨s.toArray,rfl,h5⟩
  have:us'=s.toArray:=by simpa using e1.symm
  subst this
  exact ⟨us,h1,v,s,h2,h3,ih1 h4,e2⟩
theorem yS{P:Program}{f:FuncId}{args args':List Z}{v:Z}{H:Y}(hv:cq H args args')(hp:Plain v)(h:D P f args' [] (.ret v) []):D P f args H (.ret v) H:=by
 refine ⟨Nat.le_refl _,fun φ w vs hR ha=>(h.2 eZ w vs (MF (hR.gD.less fun b ho=>(p9 ho).elim)) (hv.Rt hR ha)).mono fun en w' ⟨φ',h1,h2,h3⟩=>?_⟩
 have hb:=mQ h3
 refine ⟨φ,?_,hR.grow hb.size hb.block,grow_step hb.os hb.tape hb.output hb.size hb.block⟩
 cases en with
 | returned u=>exact ⟨h1.1,hp.R h1.2⟩
 | _=>exact h1.elim
theorem cq.own{H:Y}{k id:Nat}{ty:TypeId}{xs ys:List Z}(hf:xs≠[]→Y.find H id=cA k ty xs)(hl:cq H xs ys):View H (aW k xs id) (.ak k ys none):=by
 cases xs with
 | nil=>cases hl;exact .nil
 | cons x r =>
  refine .aB (hf (by simp)) rfl (by simp) ?_
  simpa using hl
theorem cq.WR{H:Y}{α:Type}{f:α→Value}:∀{l:List α},cq H (l.map fun a=>.sc (f a)) (l.map fun a=>.sc (f a))
 | []=>.nil
 | _::_=>.cons .sc cq.WR
open Go Go.RowKit
set_option linter.defProp false
def kI(n:Int):X:=.k (.sc (.int .i64 n))
def kT:X:=.k (.sc (.bool true))
def kF:X:=.k (.sc (.bool false))
def cJ:Z:=.ak 0 [] (some [])
def xI(n:Int):PO:=.mv (kI n)
def xA(k s i:Nat):PO:=.gE k (.t s) (.t i)
def xL(s:Nat):PO:=.len (.t s)
def xB(op:BinOp)(a b:Nat):PO:=.bP op (.t a) (.t b)
def xN(a:Nat):PO:=.un .not (.t a)
def yD(k a:Nat):HO:=.load k false (.t a)
def yA(k a:Nat):HO:=.load k true (.t a)
def yC(f a b:Nat):HO:=.call f [.t a,.t b]
def iM(n a:Nat):bG:=⟨some n,none,.p (.mv (.t a))⟩
def iP(n:Nat)(p:PO):bG:=⟨some n,none,.p p⟩
def iH(n:Nat)(h:HO):bG:=⟨some n,none,.h h⟩
def iS(k a x:Nat):bG:=⟨none,none,.h (.store k (.t a) (.t x))⟩
def gM(n g:Nat)(b:Bool)(a:Nat):bG:=⟨some n,some (g,b),.p (.mv (.t a))⟩
def gP(n g:Nat)(b:Bool)(p:PO):bG:=⟨some n,some (g,b),.p p⟩
def gH(n g:Nat)(b:Bool)(h:HO):bG:=⟨some n,some (g,b),.h h⟩
theorem aag:∀n,kI n = .k (.sc (.int .i64 n)):=fun _=>rfl
theorem aah:kT = .k (.sc (.bool true)):=rfl
theorem aai:kF = .k (.sc (.bool false)):=rfl
theorem WT:cJ = .ak 0 [] (some []):=rfl
theorem aaj:∀n,xI n = .mv (.k (.sc (.int .i64 n))):=fun _=>rfl
theorem aak:∀k s i,xA k s i = .gE k (.t s) (.t i):=fun _ _ _=>rfl
theorem aal:∀s,xL s = .len (.t s):=fun _=>rfl
theorem aam:∀op a b,xB op a b = .bP op (.t a) (.t b):=fun _ _ _=>rfl
theorem aan:∀a,xN a = .un .not (.t a):=fun _=>rfl
theorem aao:∀k a,yD k a = .load k false (.t a):=fun _ _=>rfl
theorem aap:∀k a,yA k a = .load k true (.t a):=fun _ _=>rfl
theorem aaq:∀f a b,yC f a b = .call f [.t a,.t b]:=fun _ _ _=>rfl
theorem aar:∀n a,iM n a=⟨some n,none,.p (.mv (.t a))⟩:=fun _ _=>rfl
theorem aas:∀n p,iP n p=⟨some n,none,.p p⟩:=fun _ _=>rfl
theorem aat:∀n h,iH n h=⟨some n,none,.h h⟩:=fun _ _=>rfl
theorem aau:∀k a x,iS k a x=⟨none,none,.h (.store k (.t a) (.t x))⟩:=fun _ _ _=>rfl
theorem aav:∀n g b a,gM n g b a=⟨some n,some (g,b),.p (.mv (.t a))⟩:=fun _ _ _ _=>rfl
theorem aaw:∀n g b p,gP n g b p=⟨some n,some (g,b),.p p⟩:=fun _ _ _ _=>rfl
theorem aax:∀n g b h,gH n g b h=⟨some n,some (g,b),.h h⟩:=fun _ _ _ _=>rfl
def ux:=And.intro aag<|And.intro aah<|And.intro aai<|And.intro WT<|And.intro aaj<|And.intro aak<|And.intro aal<|And.intro aam<|And.intro aan<|And.intro aao<|And.intro aap<|And.intro aaq<|And.intro aar<|And.intro aas<|And.intro aat<|And.intro aau<|And.intro aav<|And.intro aaw aax
def Dk(P:Program)(f:FuncId)(c:IC)(rs:List RV)(n:Nat):Prop :=
 ∀{args:List Z}{H:Y}{Kr:cm→Y→Prop},E P c (wy rs Kr) (args++List.replicate (n - args.length) (.aK [])) H→DK P f args H Kr
theorem bj{P:Program}{f:FuncId}{fn:Func}{ic:IC}{rs:List RV}(hf:P.funcs[f]? = some fn)(hb:fn.body=some (fn.body.getD .skip))(hc:c6 P [] (fn.body.getD .skip)=some ic)(hr:lK P fn.results.toList=some rs):Dk P f ic rs fn.ntmps :=
 fun h=>qV (aX:=[]) hf hb hc hr h
set_option maxRecDepth 1000000
inductive Over(H:Y):Y→Prop where
 | refl:Over H H
 | cons {b:Option aD}{G:Y}:Over H G→Over H (b::G)
theorem Over.split{H G:Y}(h:Over H G):∃A,G=A++H:=by
 induction h with
 | refl=>exact ⟨[],rfl⟩
 | @cons b G _ ih=>obtain ⟨A,rfl⟩:=ih;exact ⟨b::A,rfl⟩
theorem di{H G:Y}{x y:Z}(h:Over H G)(hz:Fz G H.length x y):eJ H (.ret x) G (.ret y) H:=by
 obtain ⟨A,rfl⟩:=h.split
 exact JD hz
theorem cy{H G:Y}{v:Value}(h:Over H G):eJ H (.ret (.sc v)) G (.ret (.sc v)) H:=di h (.same trivial)
inductive Fu where
 | o
 | s (f:Fu)
def Fu.num:Fu→Nat
 | .o=>0
 | .s f=>f.num+1
theorem ae{P:Program}{a b:IC}{K:Post}{ts:List Z}{H:Y}(h:∀L:List Z→Y→Prop,(∀ts H,ES P b K ts H→L ts H)→ES P a (iC L K) ts H):ES P (.seq a b) K ts H:=h _ (fun _ _ h=>h)
theorem nc2:((2:Nat):Int)=2:=rfl
theorem nc3:((3:Nat):Int)=3:=rfl
theorem nc4:((4:Nat):Int)=4:=rfl
theorem nc5:((5:Nat):Int)=5:=rfl
theorem nc6:((6:Nat):Int)=6:=rfl
theorem nc7:((7:Nat):Int)=7:=rfl
theorem nc8:((8:Nat):Int)=8:=rfl
theorem nc9:((9:Nat):Int)=9:=rfl
theorem acl:((10:Nat):Int)=10:=rfl
theorem acm:((11:Nat):Int)=11:=rfl
theorem acn:((12:Nat):Int)=12:=rfl
theorem SY{A:List (List Nat)}{i:Nat}{v:Z}:yx A i [] v=True:=by
 cases v<;>simp[yx]
theorem OA{A:List (List Nat)}{i j:Nat}{H:Y}{hs:List (Nat×Y×Y)}{v:Z}:yx A i ((j,H,H)::hs) v=yx A i hs v:=by
 cases v<;>simp[yx]
theorem OB{A:List (List Nat)}{i j:Nat}{H G:Y}{hs:List (Nat×Y×Y)}{k id a f:Nat}:yx A i ((j,H,G)::hs) (.ptr k id a f)=((kf A j i=true→id<H.length→Y.find G id=Y.find H id)∧yx A i hs (.ptr k id a f)):=by
 simp[yx]
theorem WU{A:List (List Nat)}{i:Nat}{hs:List (Nat×Y×Y)}{x:Z}{f:Nat}:yx A i hs (.lp x f)=True:=rfl
theorem S0{A:List (List Nat)}{i:Nat}{H G:Y}:pq A i [] H G=True:=by simp[pq]
theorem OC{A:List (List Nat)}{i j id:Nat}{ld:List (Nat×Nat)}{H G:Y}:pq A i ((j,id)::ld) H G=((kf A j i=true→Y.find G id=Y.find H id)∧pq A i ld H G):=by
 simp[pq]
theorem GR{n:Int}{r:List Z}:jA (.sc (.int .u8 n)::r)=jA r:=by simp[jA,mz]
theorem EJ:jA []=true:=rfl
def strs(l:List ByteArray):List Z:=l.map fun s=>.sc (.string s)
theorem dr(l:List ByteArray):(strs l).length=l.length:=by simp[strs]
theorem OD:strs []=[]:=rfl
def oG(xs:List ByteArray)(k:Nat):ByteArray:=xs.getD k ByteArray.empty
theorem OE{l:List ByteArray}{k:Nat}(h:k<l.length):(strs l).getD k .top = .sc (.string (oG l k)):=by
 simp[strs,oG,List.getD,h]
theorem str_inj{s t:ByteArray}(h:s.toList=t.toList):s=t:=by
 rw[ByteArray.toList_eq,ByteArray.toList_eq] at h
 cases s with
 | mk s=>cases t with
  | mk t =>
   have e:s=t:=Array.toList_inj.1 h
   subst e
   rfl
theorem rp(s t:ByteArray):(s.toList == t.toList)=decide (s=t):=by
 by_cases h:s=t
 ·subst h;simp
 ·rw[decide_eq_false h,beq_eq_false_iff_ne]
  exact fun e=>h (str_inj e)
theorem S1(a b:Int):(a == b)=decide (a=b):=by
 by_cases h:a=b<;>simp[h]
theorem S2{p:Prop} [Decidable p]:(!decide p)=decide (¬p):=by
 by_cases h:p<;>simp[h]
def Fr:List (Option Z)→List Z→Prop
 | [],[]=>True
 | some v::p,x::r=>x=v∧Fr p r
 | none::p,_::r=>Fr p r
 | _,_=>False
def mk:List (Option Z)→(Nat→Z)→List Z
 | [],_=>[]
 | some v::p,js=>v::mk p (fun i=>js (i+1))
 | none::p,js=>js 0::mk p (fun i=>js (i+1))
theorem Fr.opened:∀{p:List (Option Z)}{ts:List Z},Fr p ts→∃js,ts=mk p js
 | [],[],_=>⟨fun _=>.top,rfl⟩
 | some v::p,x::r,h=>by
  obtain ⟨js,e⟩:=Fr.opened h.2
  refine ⟨fun i=>js (i - 1),?_⟩
  simp only[mk,h.1,Nat.add_sub_cancel]
  rw[e]
 | none::p,x::r,h=>by
  obtain ⟨js,e⟩:=Fr.opened (p:=p) (ts:=r) h
  refine ⟨fun i=>if i=0 then x else js (i - 1),?_⟩
  simp only[mk,if_true,Nat.add_sub_cancel,Nat.add_eq_zero_iff,Nat.one_ne_zero,and_false,if_false]
  rw[e]
 | [],_::_,h=>h.elim
 | some _::_,[],h=>h.elim
 | none::_,[],h=>h.elim
set_option maxRecDepth 100000
theorem OG:∀v_,Z.bO (Z.sc v_)=false:=fun _=>rfl
theorem OH:∀v_,Z.isAgg (Z.sc v_)=false:=fun _=>rfl
theorem J5:∀v_,Z.an (Z.sc v_)=1:=fun _=>rfl
theorem OI:∀v_,Z.cells (Z.sc v_)=[(Z.sc v_)]:=fun _=>rfl
theorem WV:∀v_ f0 x0,Z.j6 (Z.sc v_) f0 x0=x0:=fun _ _ _=>rfl
theorem J6:∀k_ ik r_,Z.bO (Z.ak k_ ik r_)=false:=fun _ _ _=>rfl
theorem J7:∀k_ ik r_,Z.isAgg (Z.ak k_ ik r_)=false:=fun _ _ _=>rfl
theorem GS:∀k_ ik r_,Z.an (Z.ak k_ ik r_)=1:=fun _ _ _=>rfl
theorem J8:∀k_ ik r_,Z.cells (Z.ak k_ ik r_)=[(Z.ak k_ ik r_)]:=fun _ _ _=>rfl
theorem S3:∀k_ ik r_ f0 x0,Z.j6 (Z.ak k_ ik r_) f0 x0=x0:=fun _ _ _ _ _=>rfl
theorem J9:∀k_ i_ o_ n_ c_,Z.bO (Z.aB k_ i_ o_ n_ c_)=false:=fun _ _ _ _ _=>rfl
theorem Ka:∀k_ i_ o_ n_ c_,Z.isAgg (Z.aB k_ i_ o_ n_ c_)=false:=fun _ _ _ _ _=>rfl
theorem GU:∀k_ i_ o_ n_ c_,Z.an (Z.aB k_ i_ o_ n_ c_)=1:=fun _ _ _ _ _=>rfl
theorem Kb:∀k_ i_ o_ n_ c_,Z.cells (Z.aB k_ i_ o_ n_ c_)=[(Z.aB k_ i_ o_ n_ c_)]:=fun _ _ _ _ _=>rfl
theorem S4:∀k_ i_ o_ n_ c_ f0 x0,Z.j6 (Z.aB k_ i_ o_ n_ c_) f0 x0=x0:=fun _ _ _ _ _ _ _=>rfl
theorem Kc:∀k_ i_ j_ f_,Z.bO (Z.ptr k_ i_ j_ f_)=false:=fun _ _ _ _=>rfl
theorem Ke:∀k_ i_ j_ f_,Z.isAgg (Z.ptr k_ i_ j_ f_)=false:=fun _ _ _ _=>rfl
theorem GV:∀k_ i_ j_ f_,Z.an (Z.ptr k_ i_ j_ f_)=1:=fun _ _ _ _=>rfl
theorem Kf:∀k_ i_ j_ f_,Z.cells (Z.ptr k_ i_ j_ f_)=[(Z.ptr k_ i_ j_ f_)]:=fun _ _ _ _=>rfl
theorem S5:∀k_ i_ j_ f_ f0 x0,Z.j6 (Z.ptr k_ i_ j_ f_) f0 x0=x0:=fun _ _ _ _ _ _=>rfl
theorem OJ:∀x_ f_,Z.bO (Z.lp x_ f_)=false:=fun _ _=>rfl
theorem OL:∀x_ f_,Z.isAgg (Z.lp x_ f_)=false:=fun _ _=>rfl
theorem Kg:∀x_ f_,Z.an (Z.lp x_ f_)=1:=fun _ _=>rfl
theorem OM:∀x_ f_,Z.cells (Z.lp x_ f_)=[(Z.lp x_ f_)]:=fun _ _=>rfl
theorem WW:∀x_ f_ f0 x0,Z.j6 (Z.lp x_ f_) f0 x0=x0:=fun _ _ _ _=>rfl
theorem Ki:∀wJ,Z.bO (Z.agg wJ)=false:=fun _=>rfl
theorem Kj:∀wJ,Z.isAgg (Z.agg wJ)=true:=fun _=>rfl
theorem GW:∀wJ,Z.an (Z.agg wJ)=wJ.length:=fun _=>rfl
theorem Kk:∀wJ,Z.cells (Z.agg wJ)=wJ:=fun _=>rfl
theorem S6:∀wJ f0 x0,Z.j6 (Z.agg wJ) f0 x0=Z.agg (wJ.take f0++x0.cells++wJ.drop (f0+x0.an)):=fun _ _ _=>rfl
theorem Kl:∀B9,Z.bO (Z.aK B9)=true:=fun _=>rfl
theorem Km:∀B9,Z.isAgg (Z.aK B9)=false:=fun _=>rfl
theorem GY:∀B9,Z.an (Z.aK B9)=1:=fun _=>rfl
theorem Kn:∀B9,Z.cells (Z.aK B9)=[(Z.aK B9)]:=fun _=>rfl
theorem S7:∀B9 f0 x0,Z.j6 (Z.aK B9) f0 x0=x0:=fun _ _ _=>rfl
theorem OO:∀f_ a_ b_,Z.bO (Z.fn f_ a_ b_)=false:=fun _ _ _=>rfl
theorem OP:∀f_ a_ b_,Z.isAgg (Z.fn f_ a_ b_)=false:=fun _ _ _=>rfl
theorem Ko:∀f_ a_ b_,Z.an (Z.fn f_ a_ b_)=1:=fun _ _ _=>rfl
theorem OQ:∀f_ a_ b_,Z.cells (Z.fn f_ a_ b_)=[(Z.fn f_ a_ b_)]:=fun _ _ _=>rfl
theorem WX:∀f_ a_ b_ f0 x0,Z.j6 (Z.fn f_ a_ b_) f0 x0=x0:=fun _ _ _ _ _=>rfl
theorem Ks:∀t_ x_,Z.bO (Z.dK t_ x_)=false:=fun _ _=>rfl
theorem Kt:∀t_ x_,Z.isAgg (Z.dK t_ x_)=false:=fun _ _=>rfl
theorem GZ:∀t_ x_,Z.an (Z.dK t_ x_)=1:=fun _ _=>rfl
theorem Ku:∀t_ x_,Z.cells (Z.dK t_ x_)=[(Z.dK t_ x_)]:=fun _ _=>rfl
theorem S8:∀t_ x_ f0 x0,Z.j6 (Z.dK t_ x_) f0 x0=x0:=fun _ _ _ _=>rfl
theorem OS:Z.bO (Z.ub)=false:=rfl
theorem OT:Z.isAgg (Z.ub)=false:=rfl
theorem Kv:Z.an (Z.ub)=1:=rfl
theorem OU:Z.cells (Z.ub)=[(Z.ub)]:=rfl
theorem WY:∀f0 x0,Z.j6 (Z.ub) f0 x0=x0:=fun  _ _=>rfl
theorem Kw:Z.bO (Z.top)=true:=rfl
theorem Kx:Z.isAgg (Z.top)=false:=rfl
theorem G0:Z.an (Z.top)=1:=rfl
theorem Ky:Z.cells (Z.top)=[(Z.top)]:=rfl
theorem S9:∀f0 x0,Z.j6 (Z.top) f0 x0=x0:=fun  _ _=>rfl
theorem OV:∀k_ ik i_ f0 x0,Z.j6 (aW k_ ik i_) f0 x0=x0:=fun k_ ik i_ f0 x0=>by cases ik<;>rfl
theorem OX:∀k_ ik r_,p8 (.ak k_ ik r_)=ik.length:=fun _ _ _=>rfl
theorem OY:∀k_ i_ o_ n_ c_,p8 (.aB k_ i_ o_ n_ c_)=n_:=fun _ _ _ _ _=>rfl
theorem Kz:∀k_ ik r_,nV (.ak k_ ik r_)=True:=fun _ _ _=>rfl
theorem KA:∀k_ i_ o_ n_ c_,nV (.aB k_ i_ o_ n_ c_)=True:=fun _ _ _ _ _=>rfl
theorem KB:nV (.sc (.slice none 0 0))=True:=rfl
theorem OZ:p8 (.sc (.slice none 0 0))=0:=rfl
theorem O1:∀H_ k_ cV gq r_,sS H_ k_ (.ak cV gq r_)=(cV=k_∨gq=[]):=fun _ _ _ _ _=>rfl
theorem O3:∀H_ k_ cV l9 rq n_ c_,sS H_ k_ (.aB cV l9 rq n_ c_)=match Y.find H_ l9 with
 | some blk=>cV=k_∧blk.k=k_∧rq+n_≤blk.es.length
 | none=>False:=fun _ _ _ _ _ _ _=>rfl
theorem Ta:∀H_ cV gq r_,l7 H_ (.ak cV gq r_)=gq:=fun _ _ _ _=>rfl
theorem Tb:∀H_ cV l9 rq n_ c_,l7 H_ (.aB cV l9 rq n_ c_)=match Y.find H_ l9 with
 | some blk=>(blk.es.drop rq).take n_
 | none=>[]:=fun _ _ _ _ _ _=>rfl
theorem O4:∀H_ k_ qn gq cV ik,iv H_ k_ qn gq (.ak cV ik (some []))=((cV=k_∨ik=[])∧ik.length+gq.length≤100000000):=fun _ _ _ _ _ _=>rfl
theorem Tc:∀H_ k_ qn gq cV l9 rq n_,iv H_ k_ qn gq (.aB cV l9 rq n_ none)=match Y.find H_ l9 with
 | some blk=>(cV=k_∧blk.k=k_∧blk.ty=qn∧rq=0∧n_+gq.length≤100000000)∧blk.exact=false∧n_=blk.es.length
 | none=>False:=fun _ _ _ _ _ _ _ _=>rfl
theorem Td:∀H_ k_ qn gq cV l9 rq n_ m_,iv H_ k_ qn gq (.aB cV l9 rq n_ (some m_))=match Y.find H_ l9 with
 | some blk=>(cV=k_∧blk.k=k_∧blk.ty=qn∧rq=0∧n_+gq.length≤100000000)∧((blk.exact=true∧m_=blk.es.length∧n_≤m_)∨(blk.exact=false∧n_≤blk.es.length))
 | none=>False:=fun _ _ _ _ _ _ _ _ _=>rfl
theorem O5:∀H_ k_ cV ik,nW H_ k_ [] (.ak cV ik (some [])) = .ak cV ik (some []):=fun _ _ _ _=>rfl
theorem O6:∀H_ k_ y_ gq cV ik,nW H_ k_ (y_::gq) (.ak cV ik (some [])) = .aB k_ H_.length 0 (ik.length+(y_::gq).length) none:=fun _ _ _ _ _ _=>rfl
theorem WZ:∀H_ k_ gq cV l9 o_ n_,nW H_ k_ gq (.aB cV l9 o_ n_ none) = .aB k_ H_.length 0 (n_+gq.length) none:=fun _ _ _ _ _ _ _=>rfl
theorem W0:∀H_ k_ gq cV l9 o_ n_ m_,nW H_ k_ gq (.aB cV l9 o_ n_ (some m_))=if n_+gq.length≤m_ then .aB k_ l9 0 (n_+gq.length) (some m_) else .aB k_ H_.length 0 (n_+gq.length) none:=fun _ _ _ _ _ _ _ _=>rfl
theorem O7:∀H_ k_ qn cV ik,kj H_ k_ qn [] (.ak cV ik (some []))=H_:=fun _ _ _ _ _=>rfl
theorem O8:∀H_ k_ qn y_ gq cV ik,kj H_ k_ qn (y_::gq) (.ak cV ik (some []))=some ⟨k_,ik++(y_::gq),false,qn⟩::H_:=fun _ _ _ _ _ _ _=>rfl
theorem W2:∀H_ k_ qn gq cV l9 o_ n_,kj H_ k_ qn gq (.aB cV l9 o_ n_ none)=match Y.find H_ l9 with
 | some blk=>some ⟨k_,blk.es++gq,false,qn⟩::Y.set H_ l9 none
 | none=>H_:=fun _ _ _ _ _ _ _ _=>rfl
theorem W3:∀H_ k_ qn gq cV l9 o_ n_ m_,kj H_ k_ qn gq (.aB cV l9 o_ n_ (some m_))=match Y.find H_ l9 with
 | some blk=>if n_+gq.length≤m_ then Y.set H_ l9 (some { blk with es:=blk.es.take n_++gq++blk.es.drop (n_+gq.length) }) else some ⟨k_,blk.es.take n_++gq,false,qn⟩::H_
 | none=>H_:=fun _ _ _ _ _ _ _ _ _=>rfl
theorem W4:∀H_ k_ i_ o_ n_ c_,GX.ok H_ .cap [.aB k_ i_ o_ n_ (some c_)]=True:=fun _ _ _ _ _ _=>rfl
theorem W5:∀H_ k_ x_ y_,GX.ok H_ .cap [.ak k_ x_ (some y_)]=True:=fun _ _ _ _=>rfl
theorem aay:∀H_ k_ d_ s_,GX.ok H_ (.copy k_) [d_,s_]=Cy H_ k_ s_ d_:=fun _ _ _ _=>rfl
theorem aco:∀H_ s_,GX.ok H_ .Jf [.sc (.string s_)]=(s_.size≤100000000):=fun _ _=>rfl
theorem W6:∀H_ k_ i_ o_ n_ c_,GX.val H_ .cap [.aB k_ i_ o_ n_ (some c_)] = .sc (.int .i64 (c_:Nat)):=fun _ _ _ _ _ _=>rfl
theorem W7:∀H_ k_ x_ y_,GX.val H_ .cap [.ak k_ x_ (some y_)] = .sc (.int .i64 ((x_.length+y_.length:Nat):Int)):=fun _ _ _ _=>rfl
theorem aaz:∀H_ k_ d_ s_,GX.val H_ (.copy k_) [d_,s_] = .sc (.int .i64 ((min (jk s_) (jk d_):Nat):Int)):=fun _ _ _ _=>rfl
theorem acp:∀H_ s_,GX.val H_ .Jf [.sc (.string s_)] = .ak 1 (bt s_) none:=fun _ _=>rfl
theorem hcap:∀H_ l_,GX.heap H_ .cap l_=H_:=fun _ _=>rfl
theorem aaA:∀H_ k_ d_ s_,GX.heap H_ (.copy k_) [d_,s_]=Ji H_ s_ d_:=fun _ _ _ _=>rfl
theorem acq:∀H_ l_,GX.heap H_ .Jf l_=H_:=fun _ _=>rfl
theorem W8:∀H_ k_ s_ cV i_ o_ n_ c_,Cy H_ k_ s_ (.aB cV i_ o_ n_ c_)=match Y.find H_ i_ with
 | some blk=>cV=k_∧blk.k=k_∧o_≤blk.es.length∧(blk.exact=false∨o_+min (jk s_) n_≤blk.es.length)∧xJ H_ k_ (min (jk s_) n_) s_
 | none=>False:=fun _ _ _ _ _ _ _ _=>rfl
theorem W9:∀H_ k_ s_ cV r_,Cy H_ k_ s_ (.ak cV [] r_)=xJ H_ k_ 0 s_:=fun _ _ _ _ _=>rfl
theorem aaB:∀H_ s_ cV i_ o_ n_ c_,Ji H_ s_ (.aB cV i_ o_ n_ c_)=match Y.find H_ i_ with
 | some blk=>Y.set H_ i_ (some { blk with es:=blk.es.take o_++NB H_ (min (jk s_) n_) s_++blk.es.drop (o_+min (jk s_) n_) })
 | none=>H_:=fun _ _ _ _ _ _ _=>rfl
theorem aaC:∀H_ s_ cV r_,Ji H_ s_ (.ak cV [] r_)=H_:=fun _ _ _ _=>rfl
theorem Xa:∀H_ k_ m_ cV x_ r_,xJ H_ k_ m_ (.ak cV x_ r_)=((cV=k_∨m_=0)∧m_≤x_.length):=fun _ _ _ _ _ _=>rfl
theorem Xb:∀H_ k_ m_ cV i_ o_ n_ c_,xJ H_ k_ m_ (.aB cV i_ o_ n_ c_)=match Y.find H_ i_ with
 | some blk=>cV=k_∧blk.k=k_∧m_≤n_∧o_+m_≤blk.es.length
 | none=>False:=fun _ _ _ _ _ _ _ _=>rfl
theorem aaD:∀H_ m_ cV x_ r_,NB H_ m_ (.ak cV x_ r_)=x_.take m_:=fun _ _ _ _ _=>rfl
theorem aaE:∀H_ m_ cV i_ o_ n_ c_,NB H_ m_ (.aB cV i_ o_ n_ c_)=match Y.find H_ i_ with
 | some blk=>(blk.es.drop o_).take m_
 | none=>[]:=fun _ _ _ _ _ _ _=>rfl
theorem Xc:∀k_ x_ r_,jk (.ak k_ x_ r_)=x_.length:=fun _ _ _=>rfl
theorem Xd:∀k_ i_ o_ n_ c_,jk (.aB k_ i_ o_ n_ c_)=n_:=fun _ _ _ _ _=>rfl
theorem acr:∀H_ p_ a_ b_ c_ d_,GX.ok H_ (.oo p_ [none,none]) [.agg [.sc (.string a_),.sc (.string b_)],.agg [.sc (.string c_),.sc (.string d_)]]=True:=fun _ _ _ _ _ _=>rfl
theorem aaF:∀H_ k_ a_ b_ c_ d_,GX.val H_ (.oo true k_) [.agg [.sc (.string a_),.sc (.string b_)],.agg [.sc (.string c_),.sc (.string d_)]] = .sc (.bool (decide (a_=c_∧b_=d_))):=fun _ _ a b c d=>by
 simp[GX.val,qD,beq_toListBytes,rp,Bool.decide_and]
theorem aaG:∀H_ k_ a_ b_ c_ d_,GX.val H_ (.oo false k_) [.agg [.sc (.string a_),.sc (.string b_)],.agg [.sc (.string c_),.sc (.string d_)]] = .sc (.bool (decide (¬(a_=c_∧b_=d_)))):=fun _ _ a b c d=>by
 simp[GX.val,qD,beq_toListBytes,rp]
theorem acs:∀H_ p_ k_ l_,GX.heap H_ (.oo p_ k_) l_=H_:=fun _ _ _ _=>rfl
theorem aaH:∀H_ k_ t_ z_ cV i_ o_ n_ c_ q_ m_,GX.ok H_ (.nr k_ t_ z_) [.aB cV i_ o_ n_ (some c_),.sc (.int q_ m_)]=match Y.find H_ i_ with
 | some blk=>(cV=k_∧blk.k=k_∧o_=0∧n_≤blk.es.length)∧0<m_∧(c_:Int)<n_+m_∧(n_:Int)+m_≤100000000
 | none=>False:=fun _ _ _ _ _ _ _ _ _ _ _=>rfl
theorem aaI:∀H_ k_ t_ z_ cV i_ o_ n_ c_ q_ m_,GX.val H_ (.nr k_ t_ z_) [.aB cV i_ o_ n_ c_,.sc (.int q_ m_)] = .aB k_ H_.length 0 (n_+m_.toNat) none:=fun _ _ _ _ _ _ _ _ _ _ _=>rfl
theorem aaJ:∀H_ k_ t_ z_ cV i_ o_ n_ c_ q_ m_,GX.heap H_ (.nr k_ t_ z_) [.aB cV i_ o_ n_ c_,.sc (.int q_ m_)]=match Y.find H_ i_ with
 | some blk=>some ⟨k_,blk.es.take n_++List.replicate m_.toNat z_,false,t_⟩::H_
 | none=>H_:=fun _ _ _ _ _ _ _ _ _ _ _=>rfl
theorem aaK:∀H_ s_ c_,GX.ok H_ .zh [.sc (.string s_),.sc (.int .u8 c_)]=True:=fun _ _ _=>rfl
theorem aaL:∀H_ s_ k_ c_,GX.val H_ .zh [.sc (.string s_),.sc (.int k_ c_)] = .sc (.int .i64 (firstIdx s_ c_.toNat.toUInt8)):=fun _ _ _ _=>rfl
theorem aaM:∀H_ l_,GX.heap H_ .zh l_=H_:=fun _ _=>rfl
theorem acu:∀H_ k_ x_ y_ r_ cV i_ o_ n_ c_,GX.ok H_ .Jg [.ak k_ (x_::y_) r_,.aB cV i_ o_ n_ c_]=match Y.find H_ i_ with
 | some _=>0<k_
 | none=>False:=fun _ _ _ _ _ _ _ _ _ _=>rfl
theorem acv:∀H_ l_,GX.val H_ .Jg l_ = .sc (.bool false):=fun _ _=>rfl
theorem acw:∀H_ l_,GX.heap H_ .Jg l_=H_:=fun _ _=>rfl
theorem gmk:∀H_,GX.ok H_ .lC []=True:=fun _=>rfl
theorem gmg:∀H_ q_ z_ o_ i_ j_ k_,GX.ok H_ (.mG q_ z_ o_) [.ptr 0 i_ j_ 0,.sc k_]=(fW q_ k_=true∧qE H_ i_ (ef q_)):=fun _ _ _ _ _ _ _=>rfl
theorem gmp:∀H_ q_ i_ j_ k_ v_,GX.ok H_ (.eA q_) [.ptr 0 i_ j_ 0,.sc k_,v_]=(fW q_ k_=true∧qE H_ i_ (ef q_)):=fun _ _ _ _ _ _=>rfl
theorem gml:∀H_ i_ j_,GX.ok H_ .xG [.ptr 0 i_ j_ 0]=qE H_ i_ (fun _=>True):=fun _ _ _=>rfl
theorem gmd:∀H_ q_ i_ j_ k_,GX.ok H_ (.ur q_) [.ptr 0 i_ j_ 0,.sc k_]=(fW q_ k_=true∧qE H_ i_ (ef q_)):=fun _ _ _ _ _=>rfl
theorem vmk:∀H_,GX.val H_ .lC [] = .ptr 0 H_.length 0 0:=fun _=>rfl
theorem acy:∀H_ q_ z_ a_ i_ j_ f_ k_,GX.val H_ (.mG q_ z_ true) [.ptr a_ i_ j_ f_,.sc k_] = .aK [k8 k_ z_ (j5 H_ i_),.sc (.bool (decide (dU k_ (j5 H_ i_)<(j5 H_ i_).length)))]:=fun _ _ _ _ _ _ _ _=>rfl
theorem acz:∀H_ q_ z_ a_ i_ j_ f_ k_,GX.val H_ (.mG q_ z_ false) [.ptr a_ i_ j_ f_,.sc k_]=k8 k_ z_ (j5 H_ i_):=fun _ _ _ _ _ _ _ _=>rfl
theorem vmp:∀H_ q_ l_,GX.val H_ (.eA q_) l_ = .top:=fun _ _ _=>rfl
theorem vml:∀H_ a_ i_ j_ f_,GX.val H_ .xG [.ptr a_ i_ j_ f_] = .sc (.int .i64 ((j5 H_ i_).length:Nat)):=fun _ _ _ _ _=>rfl
theorem vmd:∀H_ q_ l_,GX.val H_ (.ur q_) l_ = .aK []:=fun _ _ _=>rfl
theorem acA:∀H_ l_,GX.heap H_ .lC l_=some ⟨0,[],true,0⟩::H_:=fun _ _=>rfl
theorem acB:∀H_ q_ z_ o_ l_,GX.heap H_ (.mG q_ z_ o_) l_=H_:=fun _ _ _ _ _=>rfl
theorem acC:∀H_ q_ a_ i_ j_ f_ k_ v_,GX.heap H_ (.eA q_) [.ptr a_ i_ j_ f_,.sc k_,v_]=qF H_ i_ (nu k_ v_ (j5 H_ i_)):=fun _ _ _ _ _ _ _ _=>rfl
theorem acD:∀H_ l_,GX.heap H_ .xG l_=H_:=fun _ _=>rfl
theorem acE:∀H_ q_ a_ i_ j_ f_ k_,GX.heap H_ (.ur q_) [.ptr a_ i_ j_ f_,.sc k_]=qF H_ i_ (FH k_ (j5 H_ i_)):=fun _ _ _ _ _ _ _=>rfl
theorem Xe:∀H_ i_ p_,qE H_ i_ p_=match Y.find H_ i_ with
 | some blk=>(blk.k=0∧blk.ty=0)∧p_ blk.es
 | none=>False:=fun _ _ _=>rfl
theorem Xf:∀H_ i_,j5 H_ i_=match Y.find H_ i_ with
 | some blk=>blk.es
 | none=>[]:=fun _ _=>rfl
theorem Te:∀H_ i_ e_,qF H_ i_ e_=match Y.find H_ i_ with
 | some blk=>Y.set H_ i_ (some { blk with es:=e_ })
 | none=>H_:=fun _ _ _=>rfl
theorem aaN:∀s_,fW none (.string s_)=true:=fun _=>rfl
theorem aaO:∀k_ n_,fW (some k_) (.int k_ n_)=true:=fun k_ _=>by cases k_<;>rfl
theorem G1:∀q_,ef q_ []=True:=fun q_=>by simp[ef]
theorem EK:∀q_ k_ v_ r_,ef q_ (.aK [.sc k_,v_]::r_)=(fW q_ k_=true∧ef q_ r_):=fun q_ k_ v_ r_=>by simp[ef,zi]
theorem Tf:∀a_ b_,lD (.string a_) (.string b_)=decide (a_=b_):=fun _ _=>rfl
theorem Tg:∀k_ q_ a_ b_,lD (.int k_ a_) (.int q_ b_)=decide (a_=b_):=fun _ _ _ _=>rfl
theorem Xg:∀H_ k_ i_ o_ n_ c_ s_,GX.ok H_ .nP [.aB k_ i_ o_ n_ c_,.sc (.string s_)]=match Y.find H_ i_ with
 | some blk=>k_=1∧blk.k=1∧o_+n_≤blk.es.length∧s_.size≤n_
 | none=>False:=fun _ _ _ _ _ _ _=>rfl
theorem Xh:∀H_ d_ s_,GX.val H_ .nP [d_,.sc (.string s_)] = .sc (.int .i64 (s_.size:Nat)):=fun _ _ _=>rfl
theorem Xi:∀H_ k_ i_ o_ n_ c_ s_,GX.heap H_ .nP [.aB k_ i_ o_ n_ c_,.sc (.string s_)]=match Y.find H_ i_ with
 | some blk=>Y.set H_ i_ (some { blk with es:=blk.es.take o_++bt s_++blk.es.drop (o_+s_.size) })
 | none=>H_:=fun _ _ _ _ _ _ _=>rfl
theorem aaP:∀H_ t_ d_ s_,GX.ok H_ (.oq t_) [d_,.sc (.string s_)]=Cz H_ t_ s_ d_:=fun _ _ _ _=>rfl
theorem aaQ:∀H_ t_ d_ s_,GX.val H_ (.oq t_) [d_,.sc (.string s_)]=Jj H_ s_ d_:=fun _ _ _ _=>rfl
theorem aaR:∀H_ t_ d_ s_,GX.heap H_ (.oq t_) [d_,.sc (.string s_)]=FI H_ t_ s_ d_:=fun _ _ _ _=>rfl
theorem Xj:∀H_ t_ s_,Cz H_ t_ s_ (.sc (.slice none 0 0))=(s_.size≤100000000):=fun _ _ _=>rfl
theorem Xk:∀H_ t_ s_ k_ i_ o_ n_ c_,Cz H_ t_ s_ (.aB k_ i_ o_ n_ c_)=match Y.find H_ i_ with
  | some blk=>(k_=1∧blk.k=1∧blk.ty=t_∧o_=0∧n_+s_.size≤100000000)∧(match c_ with
   | none=>blk.exact=false∧n_=blk.es.length
   | some m=>(blk.exact=true∧m=blk.es.length∧n_≤m)∨(blk.exact=false∧n_≤blk.es.length))
  | none=>False:=fun _ _ _ _ _ _ _ _=>rfl
theorem aaS:∀H_ s_ v_,Jj H_ s_ (.sc v_)=if s_.size=0 then .sc v_ else .aB 1 H_.length 0 s_.size none:=fun _ _ _=>rfl
theorem Xl:∀H_ s_ k_ i_ o_ n_,Jj H_ s_ (.aB k_ i_ o_ n_ none) = .aB 1 H_.length 0 (n_+s_.size) none:=fun _ _ _ _ _ _=>rfl
theorem Xm:∀H_ s_ k_ i_ o_ n_ m_,Jj H_ s_ (.aB k_ i_ o_ n_ (some m_))=if n_+s_.size≤m_ then .aB 1 i_ 0 (n_+s_.size) (some m_) else .aB 1 H_.length 0 (n_+s_.size) none:=fun _ _ _ _ _ _ _=>rfl
theorem aaT:∀H_ t_ s_ v_,FI H_ t_ s_ (.sc v_)=if s_.size=0 then H_ else some ⟨1,bt s_,false,t_⟩::H_:=fun _ _ _ _=>rfl
theorem Xn:∀H_ t_ s_ k_ i_ o_ n_,FI H_ t_ s_ (.aB k_ i_ o_ n_ none)=match Y.find H_ i_ with
 | some blk=>some ⟨1,blk.es++bt s_,false,t_⟩::Y.set H_ i_ none
 | none=>H_:=fun _ _ _ _ _ _ _=>rfl
theorem aaU:∀H_ t_ p_ n_,GX.ok H_ (.sQ t_) [p_,.sc (.int .i64 n_)]=CA H_ t_ n_ p_:=fun _ _ _ _=>rfl
theorem aaV:∀H_ t_ p_ k_ n_,GX.val H_ (.sQ t_) [p_,.sc (.int k_ n_)] = .sc (.string (Jk H_ n_ p_)):=fun _ _ _ _ _=>rfl
theorem aaW:∀H_ t_ p_ n_,GX.heap H_ (.sQ t_) [p_,n_]=QY H_ p_:=fun _ _ _ _=>rfl
theorem Xo:∀H_ t_ n_,CA H_ t_ n_ (.sc (.pointer none))=(n_=0):=fun _ _ _=>rfl
theorem Xp:∀H_ t_ n_ k_ i_ j_ f_,CA H_ t_ n_ (.ptr k_ i_ j_ f_)=match Y.find H_ i_ with
 | some blk=>(k_=1∧blk.k=1∧blk.ty=t_∧j_=0∧f_=0∧0<n_∧n_.toNat≤blk.es.length)∧∃s,blk.es.take n_.toNat=bt s
 | none=>False:=fun _ _ _ _ _ _ _=>rfl
theorem aaX:∀H_ n_ v_,Jk H_ n_ (.sc v_)=⟨#[]⟩:=fun _ _ _=>rfl
theorem aaY:∀H_ n_ k_ i_ j_ f_,Jk H_ n_ (.ptr k_ i_ j_ f_)=match Y.find H_ i_ with
 | some blk=>lZ (blk.es.take n_.toNat)
 | none=>⟨#[]⟩:=fun _ _ _ _ _ _=>rfl
theorem aaZ:∀H_ v_,QY H_ (.sc v_)=H_:=fun _ _=>rfl
theorem aa0:∀H_ k_ i_ j_ f_,QY H_ (.ptr k_ i_ j_ f_)=Y.set H_ i_ none:=fun _ _ _ _ _=>rfl
theorem acF:∀H_ k_ i_ o_ n_ c_,GX.ok H_ .mH [.aB k_ i_ o_ n_ c_]=(0<k_∧0<n_):=fun _ _ _ _ _ _=>rfl
theorem acG:∀H_,GX.ok H_ .mH [.sc (.slice none 0 0)]=True:=fun _=>rfl
theorem acH:∀H_ k_ i_ o_ n_ c_,GX.val H_ .mH [.aB k_ i_ o_ n_ c_] = .ptr k_ i_ o_ 0:=fun _ _ _ _ _ _=>rfl
theorem acI:∀H_ v_,GX.val H_ .mH [.sc v_] = .sc (.pointer none):=fun _ _=>rfl
theorem Xq:∀H_ l_,GX.heap H_ .mH l_=H_:=fun _ _=>rfl
theorem aa1:∀H_ p_ x_,GX.ok H_ (.nt p_) [x_]=zj x_:=fun _ _ _=>rfl
theorem Xr:∀H_ x_,GX.val H_ (.nt true) [x_] = .sc (.bool (jB x_)):=fun _ _=>rfl
theorem Xs:∀H_ x_,GX.val H_ (.nt false) [x_] = .sc (.bool (!jB x_)):=fun _ _=>rfl
theorem aa2:∀H_ p_ l_,GX.heap H_ (.nt p_) l_=H_:=fun _ _ _=>rfl
theorem Th:∀k_ i_ j_ f_,zj (.ptr k_ i_ j_ f_)=(0<k_):=fun _ _ _ _=>rfl
theorem Ti:zj (.sc (.pointer none))=True:=rfl
theorem O9:∀k_ i_ j_ f_,jB (.ptr k_ i_ j_ f_)=false:=fun _ _ _ _=>rfl
theorem Pa:jB (.sc (.pointer none))=true:=rfl
theorem acJ:∀H_ p_ k_ i_ j_ f_ cV i2_ j2_ f2_,GX.ok H_ (.FG p_) [.ptr k_ i_ j_ f_,.ptr cV i2_ j2_ f2_]=((k_=cV∧i_=i2_∧j_=j2_∧f_=f2_)∧0<k_):=fun _ _ _ _ _ _ _ _ _ _=>rfl
theorem acK:∀H_ p_ l_,GX.val H_ (.FG p_) l_ = .sc (.bool p_):=fun _ _ _=>rfl
theorem acL:∀H_ p_ l_,GX.heap H_ (.FG p_) l_=H_:=fun _ _ _=>rfl
theorem acM:∀H_ k_ i_ j_ f_,GX.ok H_ .Jh [.ptr k_ i_ j_ f_]=match Y.find H_ i_ with
 | some blk=>blk.k=k_∧0<k_∧j_<blk.es.length∧f_<k_
 | none=>False:=fun _ _ _ _ _=>rfl
theorem acN:∀H_ x_,GX.val H_ .Jh [x_]=x_:=fun _ _=>rfl
theorem acO:∀H_ l_,GX.heap H_ .Jh l_=H_:=fun _ _=>rfl
theorem Xt:∀H_ t_ k_ i_ j_ f_,GX.ok H_ (.s9 t_) [.ptr k_ i_ j_ f_]=match Y.find H_ i_ with
 | some blk=>(k_=2∧blk.k=2∧j_=0∧f_=0∧blk.exact=true∧blk.es.length=1)∧t_.contains blk.ty=true
 | none=>False:=fun _ _ _ _ _ _=>rfl
theorem Xu:∀H_ t_ x_,GX.val H_ (.s9 t_) [x_]=x_:=fun _ _ _=>rfl
theorem Xv:∀H_ t_ l_,GX.heap H_ (.s9 t_) l_=H_:=fun _ _ _=>rfl
theorem Xw:∀H_ x_,GX.ok H_ .qC [x_]=True:=fun _ _=>rfl
theorem Xx:∀H_ x_,GX.val H_ .qC [x_]=x_:=fun _ _=>rfl
theorem Xy:∀H_ l_,GX.heap H_ .qC l_=H_:=fun _ _=>rfl
theorem aa3:∀H_ s_ c_,GX.ok H_ .xH [.sc (.string s_),.sc (.int .u8 c_)]=True:=fun _ _ _=>rfl
theorem aa4:∀H_ s_ k_ c_,GX.val H_ .xH [.sc (.string s_),.sc (.int k_ c_)] = .sc (.int .i64 (Lib.countByte s_.data.toList c_.toNat.toUInt8:Nat)):=fun _ _ _ _=>rfl
theorem aa5:∀H_ l_,GX.heap H_ .xH l_=H_:=fun _ _=>rfl
theorem aa6:∀H_ k_ t_ z_ cV q_ m_,GX.ok H_ (.nr k_ t_ z_) [.ak cV [] (some []),.sc (.int q_ m_)]=(0<m_∧m_≤100000000):=fun _ _ _ _ _ _ _=>rfl
theorem aa7:∀H_ k_ t_ z_ cV x_ r_ q_ m_,GX.val H_ (.nr k_ t_ z_) [.ak cV x_ r_,.sc (.int q_ m_)] = .aB k_ H_.length 0 m_.toNat none:=fun _ _ _ _ _ _ _ _ _=>rfl
theorem aa8:∀H_ k_ t_ z_ cV x_ r_ m_,GX.heap H_ (.nr k_ t_ z_) [.ak cV x_ r_,m_]=some ⟨k_,[],false,t_⟩::H_:=fun _ _ _ _ _ _ _ _=>rfl
def vu:=And.intro KB<|And.intro OZ<|And.intro @aa6<|And.intro @aa7<|And.intro @aa8<|And.intro @Xg<|And.intro @Xh<|And.intro @Xi<|And.intro @aaP<|And.intro @aaQ<|And.intro @aaR<|And.intro @Xj<|And.intro @Xk<|And.intro @aaS<|And.intro @Xl<|And.intro @Xm<|And.intro @aaT<|And.intro @Xn<|And.intro @aaU<|And.intro @aaV<|And.intro @aaW<|And.intro @Xo<|And.intro @Xp<|And.intro @aaX<|And.intro @aaY<|And.intro @aaZ<|And.intro @aa0<|And.intro @acF<|And.intro @acG<|And.intro @acH<|And.intro @acI<|And.intro @Xq<|And.intro @aa1<|And.intro @Xr<|And.intro @Xs<|And.intro @aa2<|And.intro @Th<|And.intro @Ti<|And.intro @O9<|And.intro @Pa<|And.intro @acJ<|And.intro @acK<|And.intro @acL<|And.intro @acM<|And.intro @acN<|And.intro @acO<|And.intro @Xt<|And.intro @Xu<|And.intro @Xv<|And.intro @Xw<|And.intro @Xx<|And.intro @Xy<|And.intro @aa3<|And.intro @aa4<|@aa5
theorem hmc:∀H_ t_ k_ i_ j_ f_,GX.heap H_ .r7 [.dK t_ (.ptr k_ i_ j_ f_)]=some ⟨0,j5 H_ i_,true,0⟩::H_:=fun _ _ _ _ _ _=>rfl
theorem hnm:∀H_ p_ l_,GX.heap H_ (.xF p_) l_=H_:=fun _ _ _=>rfl
def vg:=And.intro @gmk<|And.intro @gmg<|And.intro @gmp<|And.intro @gml<|And.intro @gmd<|And.intro @vmk<|And.intro @acy<|And.intro @acz<|And.intro @vmp<|And.intro @vml<|And.intro @vmd<|And.intro @acA<|And.intro @acB<|And.intro @acC<|And.intro @acD<|And.intro @acE<|And.intro @Xe<|And.intro @Xf<|And.intro @Te<|And.intro @aaN<|And.intro @aaO<|And.intro @G1<|And.intro @EK<|And.intro @Tf<|And.intro @Tg<|And.intro @aaK<|And.intro @aaL<|And.intro @aaM<|And.intro @acu<|And.intro @acv<|And.intro @acw<|And.intro @acr<|And.intro @aaF<|And.intro @aaG<|And.intro @acs<|And.intro @aaH<|And.intro @aaI<|And.intro @aaJ<|And.intro @Sl<|And.intro @Oq<|And.intro @W4<|And.intro @W5<|And.intro @aay<|And.intro @aco<|And.intro @W6<|And.intro @W7<|And.intro @aaz<|And.intro @acp<|And.intro @hcap<|And.intro @aaA<|And.intro @acq<|And.intro @W8<|And.intro @W9<|And.intro @aaB<|And.intro @aaC<|And.intro @Xa<|And.intro @Xb<|And.intro @aaD<|And.intro @aaE<|And.intro @Xc<|@Xd
theorem onf:∀Ai p_ x_,PO.ok Ai (.qw p_ x_)=Ew (Ai x_):=fun _ _ _=>rfl
theorem vnf:∀Ai p_ x_,PO.val Ai (.qw p_ x_)=JJ p_ (Ai x_):=fun _ _ _=>rfl
theorem otp:∀Ai t_ x_,PO.ok Ai (.sP t_ x_)=Ex t_ (Ai x_):=fun _ _ _=>rfl
theorem vtp:∀Ai t_ x_,PO.val Ai (.sP t_ x_)=JK (Ai x_):=fun _ _ _=>rfl
def vf:=And.intro @onf<|And.intro @vnf<|And.intro @otp<|And.intro @vtp<|And.intro @Ew.eq_def<|And.intro @JJ.eq_def<|And.intro @Ex.eq_def<|@JK.eq_def
def vk:=And.intro @ite_true.{1}<|And.intro @ite_false.{1}<|And.intro @eq_self.{1}<|And.intro @forall_const.{1}<|@implies_true.{1}
def vl:=And.intro @Y.aj<|And.intro @bQ<|And.intro @List.length_cons.{0}<|@List.length_nil.{0}
def va:=And.intro @Oe<|And.intro @WA<|And.intro @JP<|And.intro @Gr<|And.intro @Og<|And.intro @Oh<|And.intro @JQ<|And.intro @Gs<|And.intro @JR<|And.intro @Oj<|And.intro @Oi<|And.intro @JS<|And.intro @Gt<|And.intro @Gu<|And.intro @Ol<|And.intro @Sm<|And.intro @Sn<|And.intro @Sp<|And.intro @Sq<|And.intro @Om<|And.intro @JU<|And.intro @Sr<|And.intro @Gv<|And.intro @Ez<|And.intro @JV<|And.intro @JW<|And.intro @Gw<|And.intro @EA<|And.intro @Gx<|And.intro @JX<|And.intro @Gy<|And.intro @EB<|And.intro @GA<|And.intro @JY<|And.intro @Ss<|And.intro @Su<|And.intro @Sv<|And.intro @Sw<|And.intro @Ot<|And.intro @Oo<|And.intro @Sx<|And.intro @WB<|And.intro @Sy<|And.intro @MC<|And.intro @GB<|And.intro @CV<|And.intro @Sz<|And.intro @WC<|And.intro @GC<|And.intro @GD<|And.intro @SA<|And.intro @SB<|And.intro @SC<|And.intro @SD<|And.intro @Ou<|And.intro @CW<|And.intro @Ov<|And.intro @Ow<|And.intro @SF<|And.intro @SG<|And.intro @SH<|And.intro @SP<|And.intro @WJ<|And.intro @WK<|And.intro @WL<|And.intro @WM<|And.intro @SQ<|And.intro @SR<|And.intro @SS<|And.intro @Oz<|And.intro @WN<|And.intro @WO<|And.intro @WP<|And.intro @fR.eq_1<|And.intro @fR.eq_2<|And.intro @fR.eq_3<|And.intro @iw.eq_1<|And.intro @iw.eq_2<|And.intro @iw.eq_3<|And.intro @oneOf.eq_def<|And.intro @PO.ok.eq_1<|And.intro @PO.ok.eq_2<|And.intro @PO.ok.eq_3<|And.intro @PO.ok.eq_4<|And.intro @PO.ok.eq_5<|And.intro @PO.ok.eq_6<|And.intro @PO.ok.eq_7<|And.intro @PO.ok.eq_8<|And.intro @PO.ok.eq_9<|And.intro @PO.ok.eq_10<|And.intro @PO.ok.eq_11<|And.intro @PO.ok.eq_12<|And.intro @PO.ok.eq_13<|And.intro @PO.ok.eq_14<|And.intro @PO.ok.eq_15<|And.intro @PO.ok.eq_16<|And.intro @PO.ok.eq_17<|And.intro @PO.ok.eq_18<|And.intro @PO.ok.eq_19<|And.intro @PO.ok.eq_20<|And.intro @PO.ok.eq_21<|And.intro @PO.ok.eq_22<|And.intro @PO.ok.eq_23<|And.intro @PO.ok.eq_24<|And.intro @PO.ok.eq_25<|And.intro @PO.ok.eq_26<|And.intro @PO.ok.eq_27<|And.intro @PO.ok.eq_28<|And.intro @PO.val.eq_1<|And.intro @PO.val.eq_2<|And.intro @PO.val.eq_3<|And.intro @PO.val.eq_4<|And.intro @PO.val.eq_5<|And.intro @PO.val.eq_6<|And.intro @PO.val.eq_7<|And.intro @PO.val.eq_8<|And.intro @PO.val.eq_9<|And.intro @PO.val.eq_10<|And.intro @PO.val.eq_11<|And.intro @PO.val.eq_12<|And.intro @PO.val.eq_13<|And.intro @PO.val.eq_14<|And.intro @PO.val.eq_15<|And.intro @PO.val.eq_16<|And.intro @PO.val.eq_17<|And.intro @PO.val.eq_18<|And.intro @PO.val.eq_19<|And.intro @PO.val.eq_20<|And.intro @PO.val.eq_21<|And.intro @PO.val.eq_22<|And.intro @PO.val.eq_23<|And.intro @PO.val.eq_24<|And.intro @PO.val.eq_25<|And.intro @PO.val.eq_26<|And.intro @PO.val.eq_27<|And.intro @PO.val.eq_28<|And.intro @JE.eq_def<|And.intro @R9.eq_def<|And.intro @Sa.eq_def<|And.intro @shF.eq_def<|And.intro @Sb.eq_def<|And.intro @unF.eq_def<|And.intro @JF.eq_def<|And.intro @YU.eq_def<|And.intro @Sc.eq_def<|And.intro @YV.eq_def<|And.intro @Mv.eq_def<|And.intro @Sd.eq_def<|And.intro @Mw.eq_def<|And.intro @Se.eq_def<|And.intro @My.eq_def<|And.intro @Gk.eq_def<|And.intro @Mx.eq_def<|And.intro @GR<|And.intro @EJ<|And.intro @Sf.eq_def<|And.intro @zV.eq_def<|And.intro @zW.eq_def<|And.intro @Mz.eq_def<|And.intro @Gl.eq_def<|And.intro @qW.eq_def<|And.intro @MA.eq_def<|And.intro @wA.eq_def<|And.intro @Gm.eq_def<|And.intro @yR.eq_def<|And.intro @Sg.eq_def<|And.intro @Ev.eq_def<|And.intro @Sh.eq_def<|And.intro @lM.eq_1<|And.intro @lM.eq_2<|And.intro @eX.eq_1<|And.intro @eX.eq_2<|And.intro @zX.eq_def<|And.intro @Gn.eq_def<|And.intro @JG.eq_def<|And.intro @zY.eq_def<|And.intro @Si.eq_def<|And.intro @mmF.eq_def<|And.intro @JH.eq_def<|And.intro @YW.eq_def<|And.intro @MB.eq_def<|And.intro @JI.eq_def<|And.intro @nx.eq_1<|And.intro @nx.eq_2<|And.intro @tA.eq_1<|And.intro @tA.eq_2<|And.intro @sN.eq_def<|And.intro @I9.eq_def<|And.intro @Fv.eq_def<|And.intro @sR.eq_def<|And.intro @B6.eq_def<|And.intro @xQ.eq_def<|And.intro @uN.eq_def<|And.intro @ki.eq_1<|And.intro @ki.eq_2<|And.intro @oz.eq_1<|And.intro @oz.eq_2<|And.intro @ny.eq_def<|And.intro @bL.eq_def<|And.intro @Sk.eq_def<|And.intro @X.ev.eq_1<|And.intro @X.ev.eq_2<|And.intro @bJ.eq_1<|And.intro @bJ.eq_2<|And.intro @Z.sub.eq_def<|And.intro @Z.gm.eq_def<|And.intro @List.getD_cons_succ.{0}<|And.intro @List.getD_cons_zero.{0}<|And.intro @List.set_cons_succ.{0}<|And.intro @List.set_cons_zero.{0}<|And.intro @List.length_cons.{0}<|And.intro @List.length_nil.{0}<|And.intro @List.replicate.eq_1.{0}<|And.intro @List.replicate.eq_2.{0}<|And.intro @List.cons_append.{0}<|And.intro @List.nil_append.{0}<|And.intro @List.append_nil.{0}<|And.intro @List.append_assoc.{0}<|And.intro @List.map_cons.{0,0}<|And.intro @List.map_nil.{0,0}<|And.intro @List.drop_succ_cons.{0}<|And.intro @List.drop_zero.{0}<|And.intro @List.take_succ_cons.{0}<|And.intro @List.take_zero.{0}<|And.intro @List.drop_nil.{0}<|And.intro @List.take_nil.{0}<|And.intro @List.getD_nil.{0}<|And.intro @Nat.zero_add<|And.intro @Nat.add_zero<|And.intro @Nat.add_left_cancel_iff<|And.intro @Nat.add_right_cancel_iff<|And.intro @Nat.left_eq_add<|And.intro @Nat.add_eq_left<|And.intro @Nat.add_eq_zero_iff<|And.intro @Nat.succ_ne_self<|And.intro @Option.isSome_some.{0}<|And.intro @Option.isSome_none.{0}<|And.intro @Option.getD_some.{0}<|And.intro @Option.getD_none.{0}<|And.intro @Option.map_some.{0,0}<|And.intro @Option.map_none.{0,0}<|And.intro @Bool.not_true<|And.intro @Bool.not_false<|And.intro @Bool.or_true<|And.intro @Bool.true_or<|And.intro @Bool.or_false<|And.intro @Bool.false_or<|And.intro @Bool.not_eq_true<|And.intro @true_and<|And.intro @and_true<|And.intro @false_and<|And.intro @and_false<|And.intro @true_or<|And.intro @or_true<|And.intro @or_false<|And.intro @false_or<|And.intro @and_self<|And.intro @Bool.false_eq_true<|And.intro @not_true<|And.intro @not_false_iff<|And.intro @decide_true<|And.intro @decide_false<|And.intro @beq_self_eq_true.{0}<|And.intro @nc2<|And.intro @nc3<|And.intro @nc4<|And.intro @nc5<|And.intro @nc6<|And.intro @nc7<|And.intro @nc8<|And.intro @nc9<|And.intro @acl<|And.intro @acm<|And.intro @acn<|And.intro @Int.natCast_zero<|And.intro @Int.natCast_one<|And.intro @SY<|And.intro @OA<|And.intro @OB<|And.intro @WU<|And.intro @S0<|And.intro @OC<|And.intro @kf.eq_def<|And.intro @jt.eq_def<|And.intro @false_implies<|And.intro @Bool.not_eq_eq_eq_not<|And.intro @List.contains_cons.{0}<|And.intro @List.contains_nil.{0}<|And.intro @Bool.and_self<|And.intro @Bool.true_and<|And.intro @Bool.and_true<|And.intro @Bool.false_and<|And.intro @Bool.and_false<|And.intro @true_implies<|And.intro @Nat.add_assoc<|And.intro @rp<|And.intro @Int.toNat_natCast<|And.intro @dr<|And.intro @OD<|And.intro @S1<|And.intro @S2<|And.intro @bne.eq_def.{0}<|@wrap_i64
def vs:=And.intro ux<|And.intro @OX<|And.intro @OY<|And.intro @Kz<|And.intro @KA<|And.intro @O1<|And.intro @O3<|And.intro @Ta<|And.intro @Tb<|And.intro @O4<|And.intro @Tc<|And.intro @Td<|And.intro @O5<|And.intro @O6<|And.intro @WZ<|And.intro @W0<|And.intro @O7<|And.intro @O8<|And.intro @W2<|And.intro @W3<|And.intro @OG<|And.intro @OH<|And.intro @J5<|And.intro @OI<|And.intro @WV<|And.intro @J6<|And.intro @J7<|And.intro @GS<|And.intro @J8<|And.intro @S3<|And.intro @J9<|And.intro @Ka<|And.intro @GU<|And.intro @Kb<|And.intro @S4<|And.intro @Kc<|And.intro @Ke<|And.intro @GV<|And.intro @Kf<|And.intro @S5<|And.intro @OJ<|And.intro @OL<|And.intro @Kg<|And.intro @OM<|And.intro @WW<|And.intro @Ki<|And.intro @Kj<|And.intro @GW<|And.intro @Kk<|And.intro @S6<|And.intro @Kl<|And.intro @Km<|And.intro @GY<|And.intro @Kn<|And.intro @S7<|And.intro @OO<|And.intro @OP<|And.intro @Ko<|And.intro @OQ<|And.intro @WX<|And.intro @Ks<|And.intro @Kt<|And.intro @GZ<|And.intro @Ku<|And.intro @S8<|And.intro @OS<|And.intro @OT<|And.intro @Kv<|And.intro @OU<|And.intro @WY<|And.intro @Kw<|And.intro @Kx<|And.intro @G0<|And.intro @Ky<|@S9
def vh:=And.intro @Y.find.eq_1<|And.intro @Y.find.eq_2<|And.intro @Y.set.eq_1<|@Y.set.eq_2
def vw:=And.intro @aN<|And.intro @ai<|And.intro @EH<|And.intro @yy<|And.intro @si<|And.intro @Af<|And.intro @Y.aj<|And.intro @nB<|And.intro @GN<|And.intro @bQ<|And.intro @oD<|And.intro @EI<|And.intro @GP<|And.intro @nC<|And.intro @OV<|And.intro @Ag<|@xT
theorem tF{P Q:Prop}(q:Q)(h:P=Q:=by simp -implicitDefEqProofs (maxSteps:=99999999) (disch:=first | omega | (simp only[vl];first | done | omega)) only[va,vg,vs,vw,vk,simprocAttr]<;>rfl):P:=h.symm▸q
theorem Xz{a P Q:Prop}(x1:a)(q:Q)(h:a→P=Q:=by intro x1;simp -implicitDefEqProofs (maxSteps:=99999999) (disch:=first | omega | (simp only[vl];first | done | omega)) only[x1,va,vg,vs,vw,vk,simprocAttr]<;>rfl):P:=(h x1).symm▸q
theorem zA4{a b c d P Q:Prop}(x1:a)(x2:b)(x3:c)(x4:d)(q:Q)(h:a→b→c→d→P=Q:=by intro x1 x2 x3 x4;simp -implicitDefEqProofs (maxSteps:=99999999) (disch:=first | omega | (simp only[vl];first | done | omega)) only[x1,x2,x3,x4,va,vg,vs,vw,vk,simprocAttr]<;>rfl):P:=(h x1 x2 x3 x4).symm▸q
theorem ax{P Q:Prop}(q:Q)(h:P=Q:=by simp -implicitDefEqProofs (maxSteps:=99999999) (disch:=first | omega | (simp only[vl];first | done | omega)) only[vu,va,vg,vs,vw,vk,simprocAttr]<;>rfl):P:=h.symm▸q
theorem de{a P Q:Prop}(x1:a)(q:Q)(h:a→P=Q:=by intro x1;simp -implicitDefEqProofs (maxSteps:=99999999) (disch:=first | omega | (simp only[vl];first | done | omega)) only[x1,vu,va,vg,vs,vw,vk,simprocAttr]<;>rfl):P:=(h x1).symm▸q
theorem fE{a b P Q:Prop}(x1:a)(x2:b)(q:Q)(h:a→b→P=Q:=by intro x1 x2;simp -implicitDefEqProofs (maxSteps:=99999999) (disch:=first | omega | (simp only[vl];first | done | omega)) only[x1,x2,vu,va,vg,vs,vw,vk,simprocAttr]<;>rfl):P:=(h x1 x2).symm▸q
theorem nY{a b c P Q:Prop}(x1:a)(x2:b)(x3:c)(q:Q)(h:a→b→c→P=Q:=by intro x1 x2 x3;simp -implicitDefEqProofs (maxSteps:=99999999) (disch:=first | omega | (simp only[vl];first | done | omega)) only[x1,x2,x3,vu,va,vg,vs,vw,vk,simprocAttr]<;>rfl):P:=(h x1 x2 x3).symm▸q
theorem sJ{a b c d P Q:Prop}(x1:a)(x2:b)(x3:c)(x4:d)(q:Q)(h:a→b→c→d→P=Q:=by intro x1 x2 x3 x4;simp -implicitDefEqProofs (maxSteps:=99999999) (disch:=first | omega | (simp only[vl];first | done | omega)) only[x1,x2,x3,x4,vu,va,vg,vs,vw,vk,simprocAttr]<;>rfl):P:=(h x1 x2 x3 x4).symm▸q
theorem Pb{a b c d e P Q:Prop}(x1:a)(x2:b)(x3:c)(x4:d)(x5:e)(q:Q)(h:a→b→c→d→e→P=Q:=by intro x1 x2 x3 x4 x5;simp -implicitDefEqProofs (maxSteps:=99999999) (disch:=first | omega | (simp only[vl];first | done | omega)) only[x1,x2,x3,x4,x5,vu,va,vg,vs,vw,vk,simprocAttr]<;>rfl):P:=(h x1 x2 x3 x4 x5).symm▸q
theorem zB6{a b c d e f P Q:Prop}(x1:a)(x2:b)(x3:c)(x4:d)(x5:e)(x6:f)(q:Q)(h:a→b→c→d→e→f→P=Q:=by intro x1 x2 x3 x4 x5 x6;simp -implicitDefEqProofs (maxSteps:=99999999) (disch:=first | omega | (simp only[vl];first | done | omega)) only[x1,x2,x3,x4,x5,x6,vu,va,vg,vs,vw,vk,simprocAttr]<;>rfl):P:=(h x1 x2 x3 x4 x5 x6).symm▸q
theorem nZ{a b c d e f i P Q:Prop}(x1:a)(x2:b)(x3:c)(x4:d)(x5:e)(x6:f)(x7:i)(q:Q)(h:a→b→c→d→e→f→i→P=Q:=by intro x1 x2 x3 x4 x5 x6 x7;simp -implicitDefEqProofs (maxSteps:=99999999) (disch:=first | omega | (simp only[vl];first | done | omega)) only[x1,x2,x3,x4,x5,x6,x7,vu,va,vg,vs,vw,vk,simprocAttr]<;>rfl):P:=(h x1 x2 x3 x4 x5 x6 x7).symm▸q
theorem zB8{a b c d e f i j P Q:Prop}(x1:a)(x2:b)(x3:c)(x4:d)(x5:e)(x6:f)(x7:i)(x8:j)(q:Q)(h:a→b→c→d→e→f→i→j→P=Q:=by intro x1 x2 x3 x4 x5 x6 x7 x8;simp -implicitDefEqProofs (maxSteps:=99999999) (disch:=first | omega | (simp only[vl];first | done | omega)) only[x1,x2,x3,x4,x5,x6,x7,x8,vu,va,vg,vs,vw,vk,simprocAttr]<;>rfl):P:=(h x1 x2 x3 x4 x5 x6 x7 x8).symm▸q
theorem zB9{a b c d e f i j k P Q:Prop}(x1:a)(x2:b)(x3:c)(x4:d)(x5:e)(x6:f)(x7:i)(x8:j)(x9:k)(q:Q)(h:a→b→c→d→e→f→i→j→k→P=Q:=by intro x1 x2 x3 x4 x5 x6 x7 x8 x9;simp -implicitDefEqProofs (maxSteps:=99999999) (disch:=first | omega | (simp only[vl];first | done | omega)) only[x1,x2,x3,x4,x5,x6,x7,x8,x9,vu,va,vg,vs,vw,vk,simprocAttr]<;>rfl):P:=(h x1 x2 x3 x4 x5 x6 x7 x8 x9).symm▸q
theorem acP{a b c d e f i j k l m n o r s P Q:Prop}(x1:a)(x2:b)(x3:c)(x4:d)(x5:e)(x6:f)(x7:i)(x8:j)(x9:k)(tG:l)(Aj:m)(KC:n)(KD:o)(KE:r)(x15:s)(q:Q)(h:a→b→c→d→e→f→i→j→k→l→m→n→o→r→s→P=Q:=by intro x1 x2 x3 x4 x5 x6 x7 x8 x9 tG Aj KC KD KE x15;simp -implicitDefEqProofs (maxSteps:=99999999) (disch:=first | omega | (simp only[vl];first | done | omega)) only[x1,x2,x3,x4,x5,x6,x7,x8,x9,tG,Aj,KC,KD,KE,x15,vu,va,vg,vs,vw,vk,simprocAttr]<;>rfl):P:=(h x1 x2 x3 x4 x5 x6 x7 x8 x9 tG Aj KC KD KE x15).symm▸q
theorem zD0{P Q:Prop}(q:Q)(h:P=Q:=by simp -implicitDefEqProofs (maxSteps:=99999999) (disch:=omega) only[va,vg,vs,vh,vk,simprocAttr]<;>rfl):P:=h.symm▸q
theorem Pc{a P Q:Prop}(x1:a)(q:Q)(h:a→P=Q:=by intro x1;simp -implicitDefEqProofs (maxSteps:=99999999) (disch:=omega) only[x1,va,vg,vs,vh,vk,simprocAttr]<;>rfl):P:=(h x1).symm▸q
theorem zD2{a b P Q:Prop}(x1:a)(x2:b)(q:Q)(h:a→b→P=Q:=by intro x1 x2;simp -implicitDefEqProofs (maxSteps:=99999999) (disch:=omega) only[x1,x2,va,vg,vs,vh,vk,simprocAttr]<;>rfl):P:=(h x1 x2).symm▸q
theorem zE0{P Q:Prop}(q:Q)(h:P=Q:=by simp -implicitDefEqProofs (maxSteps:=99999999) (disch:=omega) only[vu,va,vg,vs,vh,vk,simprocAttr]<;>rfl):P:=h.symm▸q
theorem zE1{a P Q:Prop}(x1:a)(q:Q)(h:a→P=Q:=by intro x1;simp -implicitDefEqProofs (maxSteps:=99999999) (disch:=omega) only[x1,vu,va,vg,vs,vh,vk,simprocAttr]<;>rfl):P:=(h x1).symm▸q
theorem zF0{P Q:Prop}(q:Q)(h:P=Q:=by simp -implicitDefEqProofs (maxSteps:=99999999) (disch:=first | omega | (simp only[vl];first | done | omega)) only[mk,va,vg,vs,vw,vk,simprocAttr]<;>rfl):P:=h.symm▸q
theorem Ak{a P Q:Prop}(x1:a)(q:Q)(h:a→P=Q:=by intro x1;simp -implicitDefEqProofs (maxSteps:=99999999) (disch:=first | omega | (simp only[vl];first | done | omega)) only[x1,mk,va,vg,vs,vw,vk,simprocAttr]<;>rfl):P:=(h x1).symm▸q
theorem KF{a b P Q:Prop}(x1:a)(x2:b)(q:Q)(h:a→b→P=Q:=by intro x1 x2;simp -implicitDefEqProofs (maxSteps:=99999999) (disch:=first | omega | (simp only[vl];first | done | omega)) only[x1,x2,mk,va,vg,vs,vw,vk,simprocAttr]<;>rfl):P:=(h x1 x2).symm▸q
theorem EL{a b c P Q:Prop}(x1:a)(x2:b)(x3:c)(q:Q)(h:a→b→c→P=Q:=by intro x1 x2 x3;simp -implicitDefEqProofs (maxSteps:=99999999) (disch:=first | omega | (simp only[vl];first | done | omega)) only[x1,x2,x3,mk,va,vg,vs,vw,vk,simprocAttr]<;>rfl):P:=(h x1 x2 x3).symm▸q
theorem Pd{a b c d P Q:Prop}(x1:a)(x2:b)(x3:c)(x4:d)(q:Q)(h:a→b→c→d→P=Q:=by intro x1 x2 x3 x4;simp -implicitDefEqProofs (maxSteps:=99999999) (disch:=first | omega | (simp only[vl];first | done | omega)) only[x1,x2,x3,x4,mk,va,vg,vs,vw,vk,simprocAttr]<;>rfl):P:=(h x1 x2 x3 x4).symm▸q
theorem KG{a b c d e P Q:Prop}(x1:a)(x2:b)(x3:c)(x4:d)(x5:e)(q:Q)(h:a→b→c→d→e→P=Q:=by intro x1 x2 x3 x4 x5;simp -implicitDefEqProofs (maxSteps:=99999999) (disch:=first | omega | (simp only[vl];first | done | omega)) only[x1,x2,x3,x4,x5,mk,va,vg,vs,vw,vk,simprocAttr]<;>rfl):P:=(h x1 x2 x3 x4 x5).symm▸q
theorem Pe{a b c d e f P Q:Prop}(x1:a)(x2:b)(x3:c)(x4:d)(x5:e)(x6:f)(q:Q)(h:a→b→c→d→e→f→P=Q:=by intro x1 x2 x3 x4 x5 x6;simp -implicitDefEqProofs (maxSteps:=99999999) (disch:=first | omega | (simp only[vl];first | done | omega)) only[x1,x2,x3,x4,x5,x6,mk,va,vg,vs,vw,vk,simprocAttr]<;>rfl):P:=(h x1 x2 x3 x4 x5 x6).symm▸q
theorem zF9{a b c d e f i j k P Q:Prop}(x1:a)(x2:b)(x3:c)(x4:d)(x5:e)(x6:f)(x7:i)(x8:j)(x9:k)(q:Q)(h:a→b→c→d→e→f→i→j→k→P=Q:=by intro x1 x2 x3 x4 x5 x6 x7 x8 x9;simp -implicitDefEqProofs (maxSteps:=99999999) (disch:=first | omega | (simp only[vl];first | done | omega)) only[x1,x2,x3,x4,x5,x6,x7,x8,x9,mk,va,vg,vs,vw,vk,simprocAttr]<;>rfl):P:=(h x1 x2 x3 x4 x5 x6 x7 x8 x9).symm▸q
theorem Tj{a P Q:Prop}(x1:a)(q:Q)(h:a→P=Q:=by intro x1;simp -implicitDefEqProofs (maxSteps:=99999999) (disch:=first | omega | (simp only[vl];first | done | omega)) only[x1,mk,vu,va,vg,vs,vw,vk,simprocAttr]<;>rfl):P:=(h x1).symm▸q
theorem zG2{a b P Q:Prop}(x1:a)(x2:b)(q:Q)(h:a→b→P=Q:=by intro x1 x2;simp -implicitDefEqProofs (maxSteps:=99999999) (disch:=first | omega | (simp only[vl];first | done | omega)) only[x1,x2,mk,vu,va,vg,vs,vw,vk,simprocAttr]<;>rfl):P:=(h x1 x2).symm▸q
theorem zG3{a b c P Q:Prop}(x1:a)(x2:b)(x3:c)(q:Q)(h:a→b→c→P=Q:=by intro x1 x2 x3;simp -implicitDefEqProofs (maxSteps:=99999999) (disch:=first | omega | (simp only[vl];first | done | omega)) only[x1,x2,x3,mk,vu,va,vg,vs,vw,vk,simprocAttr]<;>rfl):P:=(h x1 x2 x3).symm▸q
theorem zG4{a b c d P Q:Prop}(x1:a)(x2:b)(x3:c)(x4:d)(q:Q)(h:a→b→c→d→P=Q:=by intro x1 x2 x3 x4;simp -implicitDefEqProofs (maxSteps:=99999999) (disch:=first | omega | (simp only[vl];first | done | omega)) only[x1,x2,x3,x4,mk,vu,va,vg,vs,vw,vk,simprocAttr]<;>rfl):P:=(h x1 x2 x3 x4).symm▸q
theorem zG5{a b c d e P Q:Prop}(x1:a)(x2:b)(x3:c)(x4:d)(x5:e)(q:Q)(h:a→b→c→d→e→P=Q:=by intro x1 x2 x3 x4 x5;simp -implicitDefEqProofs (maxSteps:=99999999) (disch:=first | omega | (simp only[vl];first | done | omega)) only[x1,x2,x3,x4,x5,mk,vu,va,vg,vs,vw,vk,simprocAttr]<;>rfl):P:=(h x1 x2 x3 x4 x5).symm▸q
theorem acQ{a b c d e f i j k l P Q:Prop}(x1:a)(x2:b)(x3:c)(x4:d)(x5:e)(x6:f)(x7:i)(x8:j)(x9:k)(tG:l)(q:Q)(h:a→b→c→d→e→f→i→j→k→l→P=Q:=by intro x1 x2 x3 x4 x5 x6 x7 x8 x9 tG;simp -implicitDefEqProofs (maxSteps:=99999999) (disch:=first | omega | (simp only[vl];first | done | omega)) only[x1,x2,x3,x4,x5,x6,x7,x8,x9,tG,mk,vu,va,vg,vs,vw,vk,simprocAttr]<;>rfl):P:=(h x1 x2 x3 x4 x5 x6 x7 x8 x9 tG).symm▸q
theorem acR{a b c d e f i j k l m P Q:Prop}(x1:a)(x2:b)(x3:c)(x4:d)(x5:e)(x6:f)(x7:i)(x8:j)(x9:k)(tG:l)(Aj:m)(q:Q)(h:a→b→c→d→e→f→i→j→k→l→m→P=Q:=by intro x1 x2 x3 x4 x5 x6 x7 x8 x9 tG Aj;simp -implicitDefEqProofs (maxSteps:=99999999) (disch:=first | omega | (simp only[vl];first | done | omega)) only[x1,x2,x3,x4,x5,x6,x7,x8,x9,tG,Aj,mk,vu,va,vg,vs,vw,vk,simprocAttr]<;>rfl):P:=(h x1 x2 x3 x4 x5 x6 x7 x8 x9 tG Aj).symm▸q
theorem acS{a b c d e f i j k l m n o r P Q:Prop}(x1:a)(x2:b)(x3:c)(x4:d)(x5:e)(x6:f)(x7:i)(x8:j)(x9:k)(tG:l)(Aj:m)(KC:n)(KD:o)(KE:r)(q:Q)(h:a→b→c→d→e→f→i→j→k→l→m→n→o→r→P=Q:=by intro x1 x2 x3 x4 x5 x6 x7 x8 x9 tG Aj KC KD KE;simp -implicitDefEqProofs (maxSteps:=99999999) (disch:=first | omega | (simp only[vl];first | done | omega)) only[x1,x2,x3,x4,x5,x6,x7,x8,x9,tG,Aj,KC,KD,KE,mk,vu,va,vg,vs,vw,vk,simprocAttr]<;>rfl):P:=(h x1 x2 x3 x4 x5 x6 x7 x8 x9 tG Aj KC KD KE).symm▸q
theorem zI0{P Q:Prop}(q:Q)(h:P=Q:=by simp -implicitDefEqProofs (maxSteps:=99999999) (disch:=omega) only[mk,va,vg,vs,vh,vk,simprocAttr]<;>rfl):P:=h.symm▸q
theorem zI1{a P Q:Prop}(x1:a)(q:Q)(h:a→P=Q:=by intro x1;simp -implicitDefEqProofs (maxSteps:=99999999) (disch:=omega) only[x1,mk,va,vg,vs,vh,vk,simprocAttr]<;>rfl):P:=(h x1).symm▸q
def nl(s:ByteArray):Int:=Lib.indexByte s.data.toList 10
def XA(s:ByteArray):Bool:=decide (s≠ByteArray.empty) && (decide (nl s<0) || decide ((s.size:Int) - 1≤nl s))
def good(xs:List ByteArray)(k:Nat):Bool:=XA (oG xs k) && (!decide (nl (oG xs k)<0) || decide (k+1=xs.length))
def ad0(xs:List ByteArray):Prop:=xs.length≤100000000∧∀s∈xs,s.size≤100000000
structure Hk where
 at_:Int
 old:List ByteArray
 new:List ByteArray
abbrev hkr(h:Hk)(ro rn:Option (List Z)):Z:=.agg [.sc (.int .i64 h.at_),.ak 1 (strs h.old) ro,.ak 1 (strs h.new) rn]
abbrev hk(h:Hk):Z:=hkr h none none
section
variable {α:Type}
def mI(q:IntKind)(f:α→Z)(M:List (Int×α)):List Z:=M.map fun p=>.aK [.sc (.int q p.1),f p.2]
theorem tH(q:IntKind)(f:α→Z)(M:List (Int×α)):(mI q f M).length=M.length:=by simp[mI]
theorem aa9(q:IntKind)(f:α→Z)(M:List (Int×α)):ef (some q) (mI q f M):=fun x hx=>by
 obtain ⟨p,_,rfl⟩:=List.mem_map.1 hx
 simp[zi,fW]
theorem XB(q:IntKind)(f:α→Z)(M:List (Int×α)):ef (some q) (mI q f M)=True:=by simp[aa9]
def Al(k:Int):List (Int×α)→Nat
 | []=>0
 | p::r=>if k=p.1 then 0 else Al k r+1
def iz(k:Int):List (Int×α)→Option α
 | []=>none
 | p::r=>if k=p.1 then some p.2 else iz k r
def tI(k:Int)(a:α):List (Int×α)→List (Int×α)
 | []=>[(k,a)]
 | p::r=>if k=p.1 then (k,a)::r else p::tI k a r
theorem uT{q:IntKind}{f:α→Z}{k:Int}:∀{M:List (Int×α)},dU (.int q k) (mI q f M)=Al k M
 | []=>rfl
 | p::r=>by
  show (if o8 _ _=true then 0 else dU _ (mI q f r)+1)=_
  rw[uT (M:=r)]
  simp[o8,lD,Al]
theorem G3{k:Int}:∀{M:List (Int×α)},(decide (Al k M<M.length))=(iz k M).isSome
 | []=>rfl
 | p::r=>by
  have ih:=G3 (k:=k) (M:=r)
  unfold Al iz
  by_cases h:k=p.1
  ·simp[h]
  ·simp only[if_neg h,List.length_cons,Nat.add_lt_add_iff_right,ih]
theorem G4{q:IntKind}{f:α→Z}{k:Int}{z:Z}:∀{M:List (Int×α)},k8 (.int q k) z (mI q f M)=((iz k M).map f).getD z
 | []=>rfl
 | p::r=>by
  have ih:=G4 (q:=q) (f:=f) (k:=k) (z:=z) (M:=r)
  unfold k8 at ih ⊢
  rw[uT,tH] at ih ⊢
  unfold Al iz
  by_cases h:k=p.1
  ·simp[h,mI,QX]
  ·simp only[if_neg h,List.length_cons,Nat.add_lt_add_iff_right] at ih ⊢
   rw[←ih]
   rfl
theorem Am{q:IntKind}{f:α→Z}{k:Int}{a:α}:∀{M:List (Int×α)},nu (.int q k) (f a) (mI q f M)=mI q f (tI k a M)
 | []=>rfl
 | p::r=>by
  have ih:=Am (q:=q) (f:=f) (k:=k) (a:=a) (M:=r)
  unfold nu at ih ⊢
  rw[uT,tH] at ih ⊢
  unfold Al tI
  by_cases h:k=p.1
  ·simp[h,mI]
  ·simp only[if_neg h,List.length_cons,Nat.add_lt_add_iff_right]
   split
   ·rename_i hlt
    rw[if_pos hlt] at ih
    show _::(mI q f r).set _ _=_::mI q f _
    rw[←ih]
   ·rename_i hlt
    rw[if_neg hlt] at ih
    show _::(mI q f r++_)=_::mI q f _
    rw[←ih]
theorem C2{k:Int}:∀{M:List (Int×α)},k∈M.map (·.1)↔(iz k M).isSome=true
 | []=>by simp[iz]
 | p::r=>by
  have ih:=C2 (k:=k) (M:=r)
  unfold iz
  by_cases h:k=p.1
  ·simp[h]
  ·simp only[List.map_cons,List.mem_cons,h,false_or,if_neg,not_false_iff,ih]
end
set_option maxRecDepth 1000000
def Tk:IC:=(.seq (.ops [iH 1 (.box 4 25 (.t 0)),iP 2 (xI 0)]) (.seq (.ops [iH 3 (.alloc (.sc (.int .i64 0)) 3),⟨none,none,(.h (.store 1 (.t 3) (kI 0)))⟩]) (.seq (.ops [iP 4 (.kZ (.func 171) [] [(.t 3)]),iH 5 (yA 4 1),⟨(some 6),none,(.h (.eE 4 25 (.agg [(.sc (.int .u8 0)),(.sc (.string ⟨#[]⟩)),(.sc (.int .i64 0)),cJ]) 1 [(0,(.t 5))]))⟩,iH 7 (yC 115 4 6)]) (.seq (.ops [iH 8 (yD 1 3),iM 2 8]) .ret))))
theorem aba:Dk Tryz.prog 112 Tk [(.t 2)] 9:=bj (fn:=Tryz.f112) Tryz.func112 (by kernel_rfl) (by kernel_rfl) (by kernel_rfl)
def YY:IC:=(.seq (.ops [iP 2 (.mv (.k cJ))]) (.seq (.ops [iH 3 (.alloc cJ 41)]) (.seq (.ops [iP 4 (.kZ (.func 116) [] [(.t 3)]),iM 5 0,iH 6 (yC 115 4 5)]) (.seq (.ops [iH 7 (yD 1 3),iH 8 (.call 119 [(.t 7)])]) (.seq (.ops [iH 9 (yD 1 3),iH 10 (.call 120 [(.t 9)]),iM 2 10]) .ret)))))
theorem acT:Dk Tryz.prog 60 YY [(.t 2)] 11:=bj (fn:=Tryz.f60) Tryz.func60 (by kernel_rfl) (by kernel_rfl) (by kernel_rfl)
def YZ:IC:=(.seq (.ops [iP 6 (.mv kF)]) (.seq (.ops [iM 10 0,iH 11 (.call 69 [(.t 10)]),iM 9 11,iP 12 (.ext (.t 9) 0),iP 13 (.ext (.t 9) 1),iH 7 (.alloc (.agg [cJ,(.sc (.bool .false))]) 116),iS 2 7 12,iM 8 13]) (.seq (.block 0 (.seq (.ops [iM 15 2,iP 16 (.bP .lss (.t 15) (kI 0)),iM 14 16]) (.cond (.t 14) (.seq (.ops [iP 6 (.mv kF)]) .ret) (.seq (.ops [iP 18 (.av 1 (.t 7)),iH 19 (yD 1 18),iM 17 19]) (.cond (.t 17) (.seq (.ops [iM 20 1,iP 21 (.av 0 (.t 7)),iH 22 (yD 1 21),iP 23 (.gE 1 (.t 22) (kI 0)),iH 24 (yD 1 23),iH 25 (yC 127 20 24),iM 6 25]) .ret) .skip))))) (.seq (.ops [iM 26 2,iP 27 (.av 0 (.t 7)),iH 28 (yD 1 27),iP 29 (xL 28),iP 30 (xB .lss 26 29),iM 31 30,gM 32 31 .true 1,gP 33 31 .true (.av 0 (.t 7)),gH 34 31 .true (yD 1 33),gM 35 31 .true 2,gP 36 31 .true (xA 1 34 35),gH 37 31 .true (yD 1 36),gH 38 31 .true (yC 127 32 37),iP 39 (.pick (.t 31) (.t 38) kF),iM 6 39]) .ret))))
theorem acU:Dk Tryz.prog 71 YZ [(.t 6)] 40:=bj (fn:=Tryz.f71) Tryz.func71 (by kernel_rfl) (by kernel_rfl) (by kernel_rfl)
def Y0:IC:=(.seq (.ops [iH 1 (.box 4 25 (.t 0)),iP 2 (.mv kF)]) (.seq (.ops [iH 3 (.alloc (.sc .nilFunc) 113)]) (.seq (.ops [iP 4 (.kZ (.func 68) [] [(.t 3)]),iS 1 3 4]) (.seq (.ops [iH 5 (yD 1 3),iH 6 (yA 4 1),iH 7 (.bD (.t 5) [(.t 6),(kI 1)]),iM 2 7]) .ret))))
theorem acV:Dk Tryz.prog 40 Y0 [(.t 2)] 8:=bj (fn:=Tryz.f40) Tryz.func40 (by kernel_rfl) (by kernel_rfl) (by kernel_rfl)
def KH:IC:=(.seq (.ops [iM 6 1,iP 7 (xL 6),iP 8 (xI 0)]) (.block 0 (.loop (.seq (.ops [iP 9 (xB .lss 8 7)]) (.seq (.cond (.t 9) .skip (.exit 0)) (.seq (.block 1 (.seq (.ops [iP 10 (xA 4 6 8),iH 11 (yA 4 10),⟨(some 5),none,(.h (.alloc (.agg [(.sc (.int .u8 0)),(.sc (.string ⟨#[]⟩)),(.sc (.int .i64 0)),cJ]) 25))⟩,iS 4 5 11]) (.seq (.ops [iM 12 0,iH 13 (yA 4 5),iH 14 (.bD (.t 12) [(.t 13)])]) (.ops [iM 15 0,iP 16 (.av 3 (.t 5)),iH 17 (yD 1 16),iH 18 (yC 115 15 17)])))) (.ops [iP 19 (.bP .add (.t 8) (kI 1)),iM 8 19])))))))
theorem Tl:Dk Tryz.prog 115 KH [] 20:=bj (fn:=Tryz.f115) Tryz.func115 (by kernel_rfl) (by kernel_rfl) (by kernel_rfl)
def Tm:IC:=(.seq (.ops [iH 2 (.box 4 25 (.t 0))]) (.ops [iH 3 (yD 1 1),iP 4 (.bP .add (.t 3) (kI 1)),iS 1 1 4]))
theorem abb:Dk Tryz.prog 171 Tm [] 5:=bj (fn:=Tryz.f171) Tryz.func171 (by kernel_rfl) (by kernel_rfl) (by kernel_rfl)
def Tn:IC:=(.seq (.ops [iH 2 (.box 4 25 (.t 0))]) (.seq (.ops [iP 3 (.av 0 (.t 2)),iH 4 (yD 1 3),iH 5 (.call 117 [(.t 4)])]) (.cond (.t 5) (.dL [iH 6 (yD 1 1),iP 7 (.av 1 (.t 2)),iH 8 (yD 1 7),iH 9 (.call 118 [(.t 8)]),⟨(some 10),none,(.h (.eE 1 9 (.sc (.string ⟨#[]⟩)) 1 [(0,(.t 9))]))⟩,iH 11 (.eN 1 9 (.t 6) (.t 10)),iS 1 1 11] [[],[],[1],[2,1],[3,2,1],[0,4,3,2,1],[5,0,4,3,2,1]]) .skip)))
theorem abc:Dk Tryz.prog 116 Tn [] 12:=bj (fn:=Tryz.f116) Tryz.func116 (by kernel_rfl) (by kernel_rfl) (by kernel_rfl)
def Tp:IC:=(.seq (.ops [iP 2 (.mv kF)]) (.seq (.ops [iH 3 (.eE 1 22 (.sc (.int .u8 0)) 5 [(0,(.k (.sc (.int .u8 2)))),(1,(.k (.sc (.int .u8 4)))),(2,(.k (.sc (.int .u8 6)))),(3,(.k (.sc (.int .u8 22)))),(4,(.k (.sc (.int .u8 25))))]),iM 4 0,iH 5 (yC 121 3 4),iM 2 5]) .ret))
theorem abd:Dk Tryz.prog 117 Tp [(.t 2)] 6:=bj (fn:=Tryz.f117) Tryz.func117 (by kernel_rfl) (by kernel_rfl) (by kernel_rfl)
def Tq:IC:=(.seq (.ops [iP 4 (.mv kF)]) (.seq (.seq (.ops [iM 5 1]) (.block 0 (.seq (.ops [iP 7 (.bP .eql (.t 5) (.k (.sc (.int .u8 200)))),iM 6 7]) (.cond (.t 6) (.seq (.ops [iM 8 0,iP 9 (.bP .geq (.t 8) (.k (.sc (.int .u8 20)))),iM 10 9,gM 11 10 .true 0,gP 12 10 .true (.bP .leq (.t 11) (.k (.sc (.int .u8 29)))),iP 13 (.pick (.t 10) (.t 12) kF),iM 4 13]) .ret) (.seq (.ops [iP 15 (.bP .eql (.t 5) (.k (.sc (.int .u8 201)))),iM 14 15]) (.cond (.t 14) (.seq (.ops [iM 16 0,iP 17 (.bP .geq (.t 16) (.k (.sc (.int .u8 6)))),iM 18 17,gM 19 18 .true 0,gP 20 18 .true (.bP .leq (.t 19) (.k (.sc (.int .u8 12)))),iP 21 (.pick (.t 18) (.t 20) kF),iM 22 21,gM 23 22 .false 0,gP 24 22 .false (.bP .eql (.t 23) (.k (.sc (.int .u8 5)))),iP 25 (.pick (.t 22) kT (.t 24)),iM 4 25]) .ret) (.seq (.ops [iP 27 (.bP .eql (.t 5) (.k (.sc (.int .u8 202)))),iM 26 27]) (.cond (.t 26) (.seq (.ops [iM 28 0,iP 29 (.bP .eql (.t 28) (.k (.sc (.int .u8 22)))),iM 30 29,gM 31 30 .false 0,gP 32 30 .false (.bP .eql (.t 31) (.k (.sc (.int .u8 26)))),iP 33 (.pick (.t 30) kT (.t 32)),iM 4 33]) .ret) .skip)))))))) (.seq (.ops [iM 34 0,iM 35 1,iP 36 (xB .eql 34 35),iM 4 36]) .ret)))
theorem abe:Dk Tryz.prog 127 Tq [(.t 4)] 37:=bj (fn:=Tryz.f127) Tryz.func127 (by kernel_rfl) (by kernel_rfl) (by kernel_rfl)
def Y1:IC:=(.seq (.ops [iH 3 (.box 4 25 (.t 0)),iP 5 (.mv kF)]) (.seq (.ops [iP 11 (.av 0 (.t 3)),iH 12 (yD 1 11),iH 13 (.call 69 [(.t 12)]),iM 10 13,iP 14 (.ext (.t 10) 0),iP 15 (.ext (.t 10) 1),iH 6 (.alloc (.agg [cJ,(.sc (.bool .false))]) 116),iS 2 6 14,iM 7 15]) (.seq (.seq (.ops [iM 16 7,iP 17 (xN 16),iM 18 17,gM 19 18 .false 1,gP 20 18 .false (.bP .gtr (.t 19) (kI 40)),iP 21 (.pick (.t 18) kT (.t 20)),iM 22 21,gH 23 22 .false (yA 4 3),gH 24 22 .false (.call 70 [(.t 23)]),gP 25 22 .false (xN 24),iP 26 (.pick (.t 22) kT (.t 25)),iM 27 26,gP 28 27 .false (.av 1 (.t 6)),gH 29 27 .false (yD 1 28),gP 30 27 .false (xN 29),gM 31 27 .false 30,gP 32 31 .true (.av 3 (.t 3)),gH 33 31 .true (yD 1 32),gP 34 31 .true (xL 33),gP 35 31 .true (.av 0 (.t 6)),gH 36 31 .true (yD 1 35),gP 37 31 .true (xL 36),gP 38 31 .true (xB .neq 34 37),gP 39 27 .false (.pick (.t 31) (.t 38) kF),iP 40 (.pick (.t 27) kT (.t 39))]) (.cond (.t 40) (.seq (.ops [iP 5 (.mv kF)]) .ret) .skip)) (.seq (.seq (.ops [iP 41 (.av 3 (.t 3)),iH 42 (yD 1 41),iP 43 (xL 42),iP 44 (xI 0)]) (.block 0 (.loop (.seq (.ops [iP 45 (xB .lss 44 43)]) (.seq (.cond (.t 45) .skip (.exit 0)) (.seq (.block 1 (.seq (.ops [iM 46 44,iP 47 (xA 4 42 44),iH 48 (yA 4 47),⟨(some 9),none,(.h (.alloc (.agg [(.sc (.int .u8 0)),(.sc (.string ⟨#[]⟩)),(.sc (.int .i64 0)),cJ]) 25))⟩,iM 8 46,iS 4 9 48]) (.seq (.ops [iP 49 (.av 0 (.t 3)),iH 50 (yD 1 49),iP 51 (.av 0 (.t 9)),iH 52 (yD 1 51),iM 53 8,iH 54 (.call 71 [(.t 50),(.t 52),(.t 53)]),iP 55 (xN 54),iM 56 55,gH 57 56 .false (yD 1 2),gH 58 56 .false (yA 4 9),gM 59 56 .false 1,gP 60 56 .false (.bP .add (.t 59) (kI 1)),gH 61 56 .false (.bD (.t 57) [(.t 58),(.t 60)]),gP 62 56 .false (xN 61),iP 63 (.pick (.t 56) kT (.t 62))]) (.cond (.t 63) (.seq (.ops [iP 5 (.mv kF)]) .ret) .skip)))) (.ops [iP 64 (.bP .add (.t 44) (kI 1)),iM 44 64]))))))) (.seq (.ops [iP 65 (.av 0 (.t 3)),iH 66 (yD 1 65),iP 67 (.bP .neq (.t 66) (.k (.sc (.int .u8 7)))),iM 68 67,gP 69 68 .false (.av 3 (.t 3)),gH 70 68 .false (yD 1 69),gP 71 68 .false (.gE 4 (.t 70) (kI 0)),gP 72 68 .false (.av 0 (.t 71)),gH 73 68 .false (yD 1 72),gP 74 68 .false (.bP .eql (.t 73) (.k (.sc (.int .u8 22)))),iP 75 (.pick (.t 68) kT (.t 74)),iM 76 75,gP 77 76 .false (.av 3 (.t 3)),gH 78 76 .false (yD 1 77),gP 79 76 .false (.gE 4 (.t 78) (kI 0)),gP 80 76 .false (.av 3 (.t 79)),gH 81 76 .false (yD 1 80),gP 82 76 .false (.gE 4 (.t 81) (kI 0)),gP 83 76 .false (.av 0 (.t 82)),gH 84 76 .false (yD 1 83),gP 85 76 .false (.bP .eql (.t 84) (.k (.sc (.int .u8 22)))),iP 86 (.pick (.t 76) kT (.t 85)),iM 5 86]) .ret)))))
theorem acW:Dk Tryz.prog 68 Y1 [(.t 5)] 87:=bj (fn:=Tryz.f68) Tryz.func68 (by kernel_rfl) (by kernel_rfl) (by kernel_rfl)
def Y2:IC:=(.seq (.ops [iH 1 (.box 4 25 (.t 0)),iP 2 (.mv kF)]) (.seq (.ops [iP 4 (.kZ (.func 125) [] [(.t 1)]),iM 3 4]) (.seq (.block 0 (.seq (.ops [iP 6 (.av 0 (.t 1)),iH 7 (yD 1 6),iP 8 (.bP .eql (.t 7) (.k (.sc (.int .u8 20)))),iM 5 8]) (.cond (.t 5) (.seq (.ops [iP 9 (.av 1 (.t 1)),iH 10 (yD 1 9),⟨(some 11),none,(.p (.bP .eql (.t 10) (.k (.sc (.string ⟨#[]⟩)))))⟩,iM 12 11,gP 13 12 .true (.av 2 (.t 1)),gH 14 12 .true (yD 1 13),gP 15 12 .true (.bP .geq (.t 14) (kI 0)),iP 16 (.pick (.t 12) (.t 15) kF),iM 2 16]) .ret) (.seq (.ops [iP 18 (.av 0 (.t 1)),iH 19 (yD 1 18),iP 20 (.bP .eql (.t 19) (.k (.sc (.int .u8 21)))),iM 17 20]) (.cond (.t 17) (.seq (.ops [iP 21 (.av 1 (.t 1)),iH 22 (yD 1 21),⟨(some 23),none,(.p (.bP .eql (.t 22) (.k (.sc (.string ⟨#[]⟩)))))⟩,iM 24 23,gP 25 24 .true (.av 2 (.t 1)),gH 26 24 .true (yD 1 25),gP 27 24 .true (.BO .shr (.t 26) (.k (.sc (.int .u64 1)))),gP 28 24 .true (.bP .eql (.t 27) (kI 0)),iP 29 (.pick (.t 24) (.t 28) kF),iM 2 29]) .ret) (.seq (.ops [iP 31 (.av 2 (.t 1)),iH 32 (yD 1 31),iP 33 (.bP .neq (.t 32) (kI 0)),iM 30 33]) (.cond (.t 30) (.seq (.ops [iP 2 (.mv kF)]) .ret) (.seq (.ops [iP 35 (.av 0 (.t 1)),iH 36 (yD 1 35),iH 37 (.call 117 [(.t 36)]),iM 34 37]) (.cond (.t 34) (.seq (.ops [iP 38 (.av 1 (.t 1)),iH 39 (yD 1 38),iH 40 (.call 43 [(.t 39)]),iM 2 40]) .ret) (.seq (.ops [iP 42 (.av 0 (.t 1)),iH 43 (yD 1 42),iP 44 (.bP .eql (.t 43) (.k (.sc (.int .u8 23)))),iM 41 44]) (.cond (.t 41) (.seq (.ops [iM 45 3,⟨(some 46),none,(.h (.bD (.t 45) [(.k (.sc (.string ⟨#[45,32,33]⟩)))]))⟩,iM 2 46]) .ret) (.seq (.ops [iP 48 (.av 0 (.t 1)),iH 49 (yD 1 48),iP 50 (.bP .eql (.t 49) (.k (.sc (.int .u8 24)))),iM 47 50]) (.cond (.t 47) (.seq (.ops [iM 51 3,⟨(some 52),none,(.h (.bD (.t 51) [(.k (.sc (.string ⟨#[124,124,32,38,38,32,61,61,32,33,61,32,60,32,60,61,32,62,32,62,61,32,43,32,45,32,42,32,47,32,37]⟩)))]))⟩,iM 2 52]) .ret) .skip))))))))))))) (.seq (.ops [iP 53 (.av 1 (.t 1)),iH 54 (yD 1 53),⟨(some 55),none,(.p (.bP .eql (.t 54) (.k (.sc (.string ⟨#[]⟩)))))⟩,iM 2 55]) .ret))))
theorem acX:Dk Tryz.prog 70 Y2 [(.t 2)] 56:=bj (fn:=Tryz.f70) Tryz.func70 (by kernel_rfl) (by kernel_rfl) (by kernel_rfl)
def Ts:IC:=(.seq (.ops [iP 3 (.mv kF)]) (.seq (.dL [iP 4 (.av 1 (.t 1)),iH 5 (yD 1 4),⟨(some 6),none,(.p (.bP .neq (.t 5) (.k (.sc (.string ⟨#[]⟩)))))⟩,iM 7 6,gM 8 7 .true 0,gH 9 7 .true (.call 126 [(.t 8)]),gP 10 7 .true (.av 1 (.t 1)),gH 11 7 .true (yD 1 10),gH 12 7 .true (yC 59 9 11),iP 13 (.pick (.t 7) (.t 12) kF),iM 3 13] [[],[0],[1,0],[2,1,0],[3,2,1,0],[4,3,2,1,0],[3,2,1,0],[6,3,2,1,0],[5,4,3,2,1,0,7,6],[3,2,1,0,8,5,4,7,6],[9,3,2,1,0,8,5,4,7,6]]) .ret))
theorem abf:Dk Tryz.prog 125 Ts [(.t 3)] 14:=bj (fn:=Tryz.f125) Tryz.func125 (by kernel_rfl) (by kernel_rfl) (by kernel_rfl)
def Tt:IC:=(.seq (.ops [iH 2 (.alloc (.agg [cJ,(.sc (.bool .false))]) 116)]) (.seq (.ops [iM 3 0,iP 4 (.build [cJ,(.sc (.bool .false))] [(0,1,(.t 3))]),iS 2 2 4]) .ret))
theorem abg:Dk Tryz.prog 123 Tt [(.c 2 2 .true)] 5:=bj (fn:=Tryz.f123) Tryz.func123 (by kernel_rfl) (by kernel_rfl) (by kernel_rfl)
def Tu:IC:=(.seq (.ops [iH 2 (.alloc (.agg [cJ,(.sc (.bool .false))]) 116)]) (.seq (.ops [iM 3 0,iH 4 (.eE 1 22 (.sc (.int .u8 0)) 1 [(0,(.t 3))]),iP 5 (.build [cJ,(.sc (.bool .false))] [(0,1,(.t 4)),(1,1,kT)]),iS 2 2 5]) .ret))
theorem abh:Dk Tryz.prog 124 Tu [(.c 2 2 .true)] 6:=bj (fn:=Tryz.f124) Tryz.func124 (by kernel_rfl) (by kernel_rfl) (by kernel_rfl)
def Tv:IC:=(.seq (.ops [iP 6 (.mv kF)]) (.seq (.seq (.ops [iM 10 0,iP 11 (xL 10),iM 12 1,iP 13 (xL 12),iP 14 (xB .neq 11 13)]) (.cond (.t 14) (.seq (.ops [iP 6 (.mv kF)]) .ret) .skip)) (.seq (.seq (.ops [iM 15 0,iP 16 (xL 15),iP 17 (xI 0)]) (.block 0 (.loop (.seq (.ops [iP 18 (xB .lss 17 16)]) (.seq (.cond (.t 18) .skip (.exit 0)) (.seq (.block 1 (.seq (.ops [iM 19 17,iP 20 (xA 4 15 17),iH 21 (yA 4 20),⟨(some 8),none,(.h (.alloc (.agg [(.sc (.int .u8 0)),(.sc (.string ⟨#[]⟩)),(.sc (.int .i64 0)),cJ]) 25))⟩,iM 7 19,iS 4 8 21]) (.seq (.ops [iM 22 1,iM 23 7,iP 24 (xA 4 22 23),iH 25 (yA 4 24),⟨(some 9),none,(.h (.alloc (.agg [(.sc (.int .u8 0)),(.sc (.string ⟨#[]⟩)),(.sc (.int .i64 0)),cJ]) 25))⟩,iS 4 9 25]) (.seq (.ops [iM 26 2,iH 27 (yA 4 8),iH 28 (yA 4 9),iH 29 (.bD (.t 26) [(.t 27),(.t 28)]),iP 30 (xN 29)]) (.cond (.t 30) (.seq (.ops [iP 6 (.mv kF)]) .ret) .skip))))) (.ops [iP 31 (.bP .add (.t 17) (kI 1)),iM 17 31]))))))) (.seq (.ops [iP 6 (.mv kT)]) .ret))))
theorem abi:Dk Tryz.prog 122 Tv [(.t 6)] 32:=bj (fn:=Tryz.f122) Tryz.func122 (by kernel_rfl) (by kernel_rfl) (by kernel_rfl)
def Tw:IC:=(.seq (.ops [iP 4 (.mv kF)]) (.seq (.ops [iM 5 0,iM 6 1,iH 7 (yC 178 5 6),iP 8 (.bP .geq (.t 7) (kI 0)),iM 4 8]) .ret))
theorem abj:Dk Tryz.prog 121 Tw [(.t 4)] 9:=bj (fn:=Tryz.f121) Tryz.func121 (by kernel_rfl) (by kernel_rfl) (by kernel_rfl)
def Tx:IC:=(.seq (.ops [iP 4 (xI 0)]) (.seq (.seq (.ops [iM 6 0,iP 7 (xL 6),iP 8 (xI 0)]) (.block 0 (.loop (.seq (.ops [iP 9 (xB .lss 8 7)]) (.seq (.cond (.t 9) .skip (.exit 0)) (.seq (.block 1 (.seq (.ops [iM 10 8,iM 5 10]) (.seq (.ops [iM 11 1,iM 12 0,iM 13 5,iP 14 (xA 1 12 13),iH 15 (yD 1 14),iP 16 (xB .eql 11 15)]) (.cond (.t 16) (.seq (.ops [iM 17 5,iM 4 17]) .ret) .skip)))) (.ops [iP 18 (.bP .add (.t 8) (kI 1)),iM 8 18]))))))) (.seq (.ops [iP 4 (xI (-1))]) .ret)))
theorem abk:Dk Tryz.prog 178 Tx [(.t 4)] 19:=bj (fn:=Tryz.f178) Tryz.func178 (by kernel_rfl) (by kernel_rfl) (by kernel_rfl)
def Y3:IC:=(.seq (.ops [iH 2 (.alloc (.agg [cJ,(.sc (.bool .false))]) 116),iP 3 (.mv kF)]) (.seq (.ops [iP 4 (.mv (.k (.fn (.func 123) [] [])))]) (.seq (.ops [iP 5 (.mv (.k (.fn (.func 124) [] [])))]) (.seq (.ops [iH 9 (.gx .lC []),iM 10 5,iH 11 (.bD (.t 10) [(.k (.sc (.int .u8 2)))]),⟨none,none,(.h (.gx (.eA (some .u8)) [(.t 9),(.k (.sc (.int .u8 1))),(.t 11)]))⟩,iM 12 4,iH 13 (.eE 1 22 (.sc (.int .u8 0)) 2 [(0,(.k (.sc (.int .u8 3)))),(1,(.k (.sc (.int .u8 5))))]),iH 14 (.bD (.t 12) [(.t 13)]),⟨none,none,(.h (.gx (.eA (some .u8)) [(.t 9),(.k (.sc (.int .u8 2))),(.t 14)]))⟩,iM 15 5,iH 16 (.bD (.t 15) [(.k (.sc (.int .u8 4)))]),⟨none,none,(.h (.gx (.eA (some .u8)) [(.t 9),(.k (.sc (.int .u8 3))),(.t 16)]))⟩,iM 17 4,iH 18 (.bD (.t 17) [(.k cJ)]),⟨none,none,(.h (.gx (.eA (some .u8)) [(.t 9),(.k (.sc (.int .u8 4))),(.t 18)]))⟩,iM 19 5,iH 20 (.bD (.t 19) [(.k (.sc (.int .u8 201)))]),⟨none,none,(.h (.gx (.eA (some .u8)) [(.t 9),(.k (.sc (.int .u8 5))),(.t 20)]))⟩,iM 21 4,iH 22 (.eE 1 22 (.sc (.int .u8 0)) 1 [(0,(.k (.sc (.int .u8 200))))]),iH 23 (.bD (.t 21) [(.t 22)]),⟨none,none,(.h (.gx (.eA (some .u8)) [(.t 9),(.k (.sc (.int .u8 6))),(.t 23)]))⟩,iM 24 4,iH 25 (.eE 1 22 (.sc (.int .u8 0)) 2 [(0,(.k (.sc (.int .u8 202)))),(1,(.k (.sc (.int .u8 200))))]),iH 26 (.bD (.t 24) [(.t 25)]),⟨none,none,(.h (.gx (.eA (some .u8)) [(.t 9),(.k (.sc (.int .u8 7))),(.t 26)]))⟩,iM 27 4,iH 28 (.eE 1 22 (.sc (.int .u8 0)) 3 [(0,(.k (.sc (.int .u8 200)))),(1,(.k (.sc (.int .u8 5)))),(2,(.k (.sc (.int .u8 5))))]),iH 29 (.bD (.t 27) [(.t 28)]),⟨none,none,(.h (.gx (.eA (some .u8)) [(.t 9),(.k (.sc (.int .u8 8))),(.t 29)]))⟩,iM 30 4,iH 31 (.eE 1 22 (.sc (.int .u8 0)) 2 [(0,(.k (.sc (.int .u8 200)))),(1,(.k (.sc (.int .u8 5))))]),iH 32 (.bD (.t 30) [(.t 31)]),⟨none,none,(.h (.gx (.eA (some .u8)) [(.t 9),(.k (.sc (.int .u8 9))),(.t 32)]))⟩,iM 33 4,iH 34 (.eE 1 22 (.sc (.int .u8 0)) 1 [(0,(.k (.sc (.int .u8 200))))]),iH 35 (.bD (.t 33) [(.t 34)]),⟨none,none,(.h (.gx (.eA (some .u8)) [(.t 9),(.k (.sc (.int .u8 10))),(.t 35)]))⟩,iM 36 4,iH 37 (.eE 1 22 (.sc (.int .u8 0)) 1 [(0,(.k (.sc (.int .u8 200))))]),iH 38 (.bD (.t 36) [(.t 37)]),⟨none,none,(.h (.gx (.eA (some .u8)) [(.t 9),(.k (.sc (.int .u8 11))),(.t 38)]))⟩,iM 39 4,iH 40 (.eE 1 22 (.sc (.int .u8 0)) 1 [(0,(.k (.sc (.int .u8 25))))]),iH 41 (.bD (.t 39) [(.t 40)]),⟨none,none,(.h (.gx (.eA (some .u8)) [(.t 9),(.k (.sc (.int .u8 12))),(.t 41)]))⟩,iM 42 4,iH 43 (.bD (.t 42) [(.k cJ)]),⟨none,none,(.h (.gx (.eA (some .u8)) [(.t 9),(.k (.sc (.int .u8 20))),(.t 43)]))⟩,iM 44 4,iH 45 (.bD (.t 44) [(.k cJ)]),⟨none,none,(.h (.gx (.eA (some .u8)) [(.t 9),(.k (.sc (.int .u8 21))),(.t 45)]))⟩,iM 46 4,iH 47 (.bD (.t 46) [(.k cJ)]),⟨none,none,(.h (.gx (.eA (some .u8)) [(.t 9),(.k (.sc (.int .u8 22))),(.t 47)]))⟩,iM 48 4,iH 49 (.eE 1 22 (.sc (.int .u8 0)) 1 [(0,(.k (.sc (.int .u8 200))))]),iH 50 (.bD (.t 48) [(.t 49)]),⟨none,none,(.h (.gx (.eA (some .u8)) [(.t 9),(.k (.sc (.int .u8 23))),(.t 50)]))⟩,iM 51 4,iH 52 (.eE 1 22 (.sc (.int .u8 0)) 2 [(0,(.k (.sc (.int .u8 200)))),(1,(.k (.sc (.int .u8 200))))]),iH 53 (.bD (.t 51) [(.t 52)]),⟨none,none,(.h (.gx (.eA (some .u8)) [(.t 9),(.k (.sc (.int .u8 24))),(.t 53)]))⟩,iM 54 5,iH 55 (.bD (.t 54) [(.k (.sc (.int .u8 200)))]),⟨none,none,(.h (.gx (.eA (some .u8)) [(.t 9),(.k (.sc (.int .u8 25))),(.t 55)]))⟩,iM 56 4,iH 57 (.eE 1 22 (.sc (.int .u8 0)) 2 [(0,(.k (.sc (.int .u8 200)))),(1,(.k (.sc (.int .u8 200))))]),iH 58 (.bD (.t 56) [(.t 57)]),⟨none,none,(.h (.gx (.eA (some .u8)) [(.t 9),(.k (.sc (.int .u8 26))),(.t 58)]))⟩,iM 59 4,iH 60 (.eE 1 22 (.sc (.int .u8 0)) 2 [(0,(.k (.sc (.int .u8 200)))),(1,(.k (.sc (.int .u8 200))))]),iH 61 (.bD (.t 59) [(.t 60)]),⟨none,none,(.h (.gx (.eA (some .u8)) [(.t 9),(.k (.sc (.int .u8 27))),(.t 61)]))⟩,iM 62 4,iH 63 (.eE 1 22 (.sc (.int .u8 0)) 1 [(0,(.k (.sc (.int .u8 200))))]),iH 64 (.bD (.t 62) [(.t 63)]),⟨none,none,(.h (.gx (.eA (some .u8)) [(.t 9),(.k (.sc (.int .u8 28))),(.t 64)]))⟩,iM 65 4,iH 66 (.bD (.t 65) [(.k cJ)]),⟨none,none,(.h (.gx (.eA (some .u8)) [(.t 9),(.k (.sc (.int .u8 29))),(.t 66)]))⟩,iM 67 9,iM 68 0,iH 69 (.gx (.mG (some .u8) (.agg [cJ,(.sc (.bool .false))]) .true) [(.t 67),(.t 68)]),iM 8 69,iP 70 (.ext (.t 8) 0),iP 71 (.ext (.t 8) 1),iH 6 (.alloc (.agg [cJ,(.sc (.bool .false))]) 116),iS 2 6 70,iM 7 71]) (.seq (.ops [iH 72 (yA 2 6),iM 73 7,iS 2 2 72,iM 3 73]) .ret)))))
theorem acY:Dk Tryz.prog 69 Y3 [(.c 2 2 .true),(.t 3)] 74:=bj (fn:=Tryz.f69) Tryz.func69 (by kernel_rfl) (by kernel_rfl) (by kernel_rfl)
def Y4:IC:=(.seq (.ops [iP 4 (.mv kF)]) (.seq (.ops [iM 5 0,iM 6 1,iH 7 (yC 114 5 6),iP 8 (.bP .geq (.t 7) (kI 0)),iM 4 8]) .ret))
theorem acZ:Dk Tryz.prog 59 Y4 [(.t 4)] 9:=bj (fn:=Tryz.f59) Tryz.func59 (by kernel_rfl) (by kernel_rfl) (by kernel_rfl)
def Ty:IC:=(.seq (.ops [iP 4 (xI 0)]) (.seq (.seq (.ops [iM 6 0,iP 7 (xL 6),iP 8 (xI 0)]) (.block 0 (.loop (.seq (.ops [iP 9 (xB .lss 8 7)]) (.seq (.cond (.t 9) .skip (.exit 0)) (.seq (.block 1 (.seq (.ops [iM 10 8,iM 5 10]) (.seq (.ops [iM 11 1,iM 12 0,iM 13 5,iP 14 (xA 1 12 13),iH 15 (yD 1 14),iP 16 (xB .eql 11 15)]) (.cond (.t 16) (.seq (.ops [iM 17 5,iM 4 17]) .ret) .skip)))) (.ops [iP 18 (.bP .add (.t 8) (kI 1)),iM 8 18]))))))) (.seq (.ops [iP 4 (xI (-1))]) .ret)))
theorem abl:Dk Tryz.prog 114 Ty [(.t 4)] 19:=bj (fn:=Tryz.f114) Tryz.func114 (by kernel_rfl) (by kernel_rfl) (by kernel_rfl)
def Tz:IC:=(.seq (.ops [⟨(some 2),none,(.p (.mv (.k (.sc (.string ⟨#[]⟩)))))⟩]) (.seq (.ops [iM 3 0,iH 4 (.call 175 [(.t 3)]),iM 2 4]) .ret))
theorem abm:Dk Tryz.prog 118 Tz [(.t 2)] 5:=bj (fn:=Tryz.f118) Tryz.func118 (by kernel_rfl) (by kernel_rfl) (by kernel_rfl)
def TA:IC:=(.seq (.ops [⟨(some 2),none,(.p (.mv (.k (.sc (.string ⟨#[]⟩)))))⟩]) (.seq (.seq (.ops [iM 4 0,iP 5 (.my (.t 4)),iP 6 (.bP .eql (.t 5) (kI 0))]) (.cond (.t 6) (.seq (.ops [⟨(some 2),none,(.p (.mv (.k (.sc (.string ⟨#[]⟩)))))⟩]) .ret) .skip)) (.seq (.ops [iM 7 0,iP 8 (.my (.t 7)),iH 9 (.jD 1 5 (.sc (.int .u8 0)) (.t 8) (.t 8)),iM 3 9]) (.seq (.ops [iM 10 3,iM 11 0,iH 12 (.gx .nP [(.t 10),(.t 11)])]) (.seq (.ops [iM 13 3,iP 14 (.gE 1 (.t 13) (kI 0)),iM 15 3,iP 16 (xL 15),iH 17 (.gx (.sQ 5) [(.t 14),(.t 16)]),iM 2 17]) .ret)))))
theorem abn:Dk Tryz.prog 175 TA [(.t 2)] 18:=bj (fn:=Tryz.f175) Tryz.func175 (by kernel_rfl) (by kernel_rfl) (by kernel_rfl)
def Y5:IC:=(.seq (.ops [iP 2 (.mv kF)]) (.seq (.seq (.ops [iM 4 0,⟨(some 5),none,(.p (.bP .eql (.t 4) (.k (.sc (.string ⟨#[]⟩)))))⟩,iM 6 5,gM 7 6 .false 0,gP 8 6 .false (.my (.t 7)),gP 9 6 .false (.bP .gtr (.t 8) (kI 24)),iP 10 (.pick (.t 6) kT (.t 9)),iM 11 10,gM 12 11 .false 0,gP 13 11 .false (.jy (.t 12) (kI 0)),gH 14 11 .false (.call 72 [(.t 13)]),gP 15 11 .false (xN 14),iP 16 (.pick (.t 11) kT (.t 15)),iM 17 16,gH 18 17 .false (.call 73 []),gM 19 17 .false 0,gH 20 17 .false (yC 59 18 19),iP 21 (.pick (.t 17) kT (.t 20))]) (.cond (.t 21) (.seq (.ops [iP 2 (.mv kF)]) .ret) .skip)) (.seq (.seq (.ops [iM 22 0,iP 23 (.my (.t 22)),iP 24 (xI 0)]) (.block 0 (.loop (.seq (.ops [iP 25 (xB .lss 24 23)]) (.seq (.cond (.t 25) .skip (.exit 0)) (.seq (.block 1 (.seq (.ops [iM 26 24,iM 3 26]) (.seq (.ops [iM 27 0,iM 28 3,iP 29 (.jy (.t 27) (.t 28)),iH 30 (.call 74 [(.t 29)]),iP 31 (xN 30)]) (.cond (.t 31) (.seq (.ops [iP 2 (.mv kF)]) .ret) .skip)))) (.ops [iP 32 (.bP .add (.t 24) (kI 1)),iM 24 32]))))))) (.seq (.ops [iP 2 (.mv kT)]) .ret))))
theorem ac0:Dk Tryz.prog 43 Y5 [(.t 2)] 33:=bj (fn:=Tryz.f43) Tryz.func43 (by kernel_rfl) (by kernel_rfl) (by kernel_rfl)
def Y6:IC:=(.seq (.ops [iP 2 (.mv kF)]) (.seq (.ops [iM 3 0,iP 4 (.bP .or (.t 3) (.k (.sc (.int .u8 32)))),iP 5 (.bP .geq (.t 4) (.k (.sc (.int .u8 97)))),iM 6 5,gM 7 6 .true 0,gP 8 6 .true (.bP .or (.t 7) (.k (.sc (.int .u8 32)))),gP 9 6 .true (.bP .leq (.t 8) (.k (.sc (.int .u8 122)))),iP 10 (.pick (.t 6) (.t 9) kF),iM 11 10,gM 12 11 .false 0,gP 13 11 .false (.bP .eql (.t 12) (.k (.sc (.int .u8 95)))),iP 14 (.pick (.t 11) kT (.t 13)),iM 2 14]) .ret))
theorem ac1:Dk Tryz.prog 72 Y6 [(.t 2)] 15:=bj (fn:=Tryz.f72) Tryz.func72 (by kernel_rfl) (by kernel_rfl) (by kernel_rfl)
def Y7:IC:=(.seq (.ops [iP 0 (.mv (.k cJ))]) (.seq (.ops [⟨(some 1),none,(.h (.call 126 [(.k (.sc (.string ⟨#[102,117,110,99,32,118,97,114,32,105,102,32,101,108,115,101,32,119,104,105,108,101,32,114,101,116,117,114,110,32,112,114,105,110,116,32,116,114,117,101,32,102,97,108,115,101,32,108,101,110,32,114,101,97,100]⟩)))]))⟩,iM 0 1]) .ret))
theorem ac2:Dk Tryz.prog 73 Y7 [(.t 0)] 2:=bj (fn:=Tryz.f73) Tryz.func73 (by kernel_rfl) (by kernel_rfl) (by kernel_rfl)
def Y8:IC:=(.seq (.ops [iP 2 (.mv kF)]) (.seq (.ops [iM 3 0,iH 4 (.call 72 [(.t 3)]),iM 5 4,gM 6 5 .false 0,gP 7 5 .false (.bP .geq (.t 6) (.k (.sc (.int .u8 48)))),gM 8 5 .false 7,gM 9 8 .true 0,gP 10 8 .true (.bP .leq (.t 9) (.k (.sc (.int .u8 57)))),gP 11 5 .false (.pick (.t 8) (.t 10) kF),iP 12 (.pick (.t 5) kT (.t 11)),iM 2 12]) .ret))
theorem ac3:Dk Tryz.prog 74 Y8 [(.t 2)] 13:=bj (fn:=Tryz.f74) Tryz.func74 (by kernel_rfl) (by kernel_rfl) (by kernel_rfl)
inductive Nd where
 | mk (kind:Int)(text:ByteArray)(num:Int)(kids:List Nd)
def Nd.kind:Nd→Int | ⟨k,_,_,_⟩=>k
def Nd.text:Nd→ByteArray | ⟨_,s,_,_⟩=>s
def Nd.num:Nd→Int | ⟨_,_,n,_⟩=>n
def Nd.kids:Nd→List Nd | ⟨_,_,_,l⟩=>l
theorem Nd.eta(t:Nd):t=⟨t.kind,t.text,t.num,t.kids⟩:=by cases t;rfl
theorem Nd.ext'{a b:Nd}(h1:a.kind=b.kind)(h2:a.text=b.text)(h3:a.num=b.num)(h4:a.kids=b.kids):a=b:=by
 cases a;cases b
 simp only[Nd.kind,Nd.text,Nd.num,Nd.kids] at h1 h2 h3 h4
 subst h1 h2 h3 h4
 rfl
mutual
def Nd.size:Nd→Nat
 | ⟨_,_,_,l⟩=>1+Nd.aw l
def Nd.aw:List Nd→Nat
 | []=>0
 | t::r=>t.size+Nd.aw r
end
theorem Nd.size_eq(t:Nd):t.size=1+Nd.aw t.kids:=by cases t;simp[Nd.size,Nd.kids]
theorem Nd.size_pos(t:Nd):0<t.size:=by rw[Nd.size_eq];omega
theorem Nd.kr{l:List Nd}{t:Nd}(h:t∈l):t.size≤Nd.aw l:=by
 induction l with
 | nil=>cases h
 | cons x r ih =>
  rcases List.mem_cons.1 h with rfl | h
  ·simp only[Nd.aw];omega
  ·have:=ih h;simp only[Nd.aw];omega
theorem Nd.pz{t k:Nd}(h:k∈t.kids):k.size<t.size:=by
 have:=Nd.kr h
 rw[Nd.size_eq t]
 omega
theorem Nd.sX(a b:List Nd):Nd.aw (a++b)=Nd.aw a+Nd.aw b:=by
 induction a with
 | nil=>simp[Nd.aw]
 | cons x r ih=>simp only[List.cons_append,Nd.aw,ih];omega
theorem Nd.ind{p:Nd→Prop}(h:∀t,(∀k∈t.kids,p k)→p t)(t:Nd):p t:=by
 have key:∀n:Nat,∀t:Nd,t.size≤n→p t:=by
  intro n
  induction n with
  | zero=>intro t ht;have:=t.size_pos;omega
  | succ n ih=>intro t ht;exact h t fun k hk=>ih k (by have:=Nd.pz hk;omega)
 exact key _ t (Nat.le_refl _)
mutual
def fI:Nd→Z
 | ⟨k,s,n,l⟩=>.agg [.sc (.int .u8 k),.sc (.string s),.sc (.int .i64 n),.ak 4 (bM l) none]
def bM:List Nd→List Z
 | []=>[]
 | t::r=>fI t::bM r
end
theorem fS(t:Nd):fI t = .agg [.sc (.int .u8 t.kind),.sc (.string t.text),.sc (.int .i64 t.num),.ak 4 (bM t.kids) none]:=by cases t;simp[fI,Nd.kind,Nd.text,Nd.num,Nd.kids]
theorem uU(l:List Nd):bM l=l.map fI:=by
 induction l with
 | nil=>rfl
 | cons x r ih=>simp[bM,ih]
theorem aL(l:List Nd):(bM l).length=l.length:=by simp[uU]
theorem TB:bM []=[]:=rfl
theorem C3(t:Nd)(l:List Nd):bM (t::l)=fI t::bM l:=by simp[bM]
def Nd.none:Nd:=⟨0,⟨#[]⟩,0,[]⟩
def au(l:List Nd)(k:Nat):Nd:=l.getD k Nd.none
theorem dM{l:List Nd}{k:Nat}(h:k<l.length):au l k=l[k]:=by simp[au,List.getD,h]
theorem eF{l:List Nd}{k:Nat}(h:k<l.length):au l k∈l:=by rw[dM h];exact List.getElem_mem _
theorem Pf{l:List Nd}{k:Nat}(h:k<l.length):(bM l).getD k .top=fI (au l k):=by simp[uU,au,List.getD,h]
theorem eK{l:List Nd}{k:Nat}(h:k<l.length):(bM l).getD k .top = .agg [.sc (.int .u8 (au l k).kind),.sc (.string (au l k).text),.sc (.int .i64 (au l k).num),.ak 4 (bM (au l k).kids) none]:=by rw[Pf h,fS]
def eG(t:Nd)(ro:Option (List Z)):Z:=.agg [.sc (.int .u8 t.kind),.sc (.string t.text),.sc (.int .i64 t.num),.ak 4 (bM t.kids) ro]
theorem aH(t:Nd)(ro:Option (List Z)):eG t ro = .agg [.sc (.int .u8 t.kind),.sc (.string t.text),.sc (.int .i64 t.num),.ak 4 (bM t.kids) ro]:=rfl
theorem ku(t:Nd):eG t none=fI t:=(fS t).symm
mutual
def kw:Nd→Nd→Bool
 | ⟨k,s,n,l⟩,⟨k',s',n',l'⟩=>decide (k=k') && decide (s=s') && decide (n=n') && lN l l'
def lN:List Nd→List Nd→Bool
 | [],[]=>true
 | a::r,b::q=>kw a b && lN r q
 | _,_=>false
end
theorem C4(l:List Nd)(ih:∀a∈l,∀b,kw a b=true↔a=b):∀m,lN l m=true↔l=m:=by
 induction l with
 | nil=>intro m;cases m<;>simp[lN]
 | cons x r fA =>
  intro m
  cases m with
  | nil=>simp[lN]
  | cons y q =>
   simp only[lN,Bool.and_eq_true,List.cons.injEq]
   rw[ih x (by simp),fA (fun a ha=>ih a (by simp[ha]))]
theorem tJ(a b:Nd):kw a b=true↔a=b:=by
 revert b
 induction a using Nd.ind with
 | _ a ih =>
  intro b
  cases a with
  | mk k s n l =>
   cases b with
   | mk k' s' n' l' =>
    simp only[kw,Bool.and_eq_true,decide_eq_true_eq,Nd.mk.injEq]
    rw[C4 l ih]
    constructor
    ·rintro ⟨⟨⟨a,b⟩,c⟩,d⟩;exact ⟨a,b,c,d⟩
    ·rintro ⟨a,b,c,d⟩;exact ⟨⟨⟨a,b⟩,c⟩,d⟩
theorem tK(l m:List Nd):lN l m=true↔l=m:=C4 l (fun a _=>tJ a) m
theorem rr(a:Nd):kw a a=true:=(tJ a a).2 rfl
theorem Pg(a b:Nd):kw a b=(decide (a.kind=b.kind) && decide (a.text=b.text) && decide (a.num=b.num) && lN a.kids b.kids):=by cases a;cases b;rfl
def gr:List (Int×(List Int×Bool)):=[(1,[2],true),(2,[3,5],false),(3,[4],true),(4,[],false),(5,[201],true),(6,[200],false),(7,[202,200],false),(8,[200,5,5],false),(9,[200,5],false),(10,[200],false),(11,[200],false),(12,[25],false),(20,[],false),(21,[],false),(22,[],false),(23,[200],false),(24,[200,200],false),(25,[200],true),(26,[200,200],false),(27,[200,200],false),(28,[200],false),(29,[],false)]
def jL(k:Int):Option (List Int×Bool):=iz k gr
def iE(k:Int):Bool:=decide (20≤k) && decide (k≤29)
def tL(k:Int):Bool:=decide (6≤k) && decide (k≤12) || decide (k=5)
def uV(k f:Int):Bool:=if f=200 then iE k else if f=201 then tL k else if f=202 then decide (k=22) || decide (k=26) else decide (k=f)
def tM(p k at_:Int):Bool :=
 if at_<0 then false
 else if ((jL p).getD ([],false)).2 then uV k (((jL p).getD ([],false)).1.getD 0 0)
 else decide (at_<((jL p).getD ([],false)).1.length) && uV k (((jL p).getD ([],false)).1.getD at_.toNat 0)
def dF(k:Int):Bool:=decide (k=2) || decide (k=4) || decide (k=6) || decide (k=22) || decide (k=25)
def gu(k:Int):Int :=
 if k=1∨k=3∨k=5∨k=25 then -1
 else if k=2∨k=7∨k=9∨k=24∨k=26∨k=27 then 2
 else if k=8 then 3
 else if k=6∨k=10∨k=11∨k=23∨k=28∨k=12 then 1
 else 0
def eO(p k at_:Int):Bool :=
 if at_<0∨(gu p≥0∧at_≥gu p) then false
 else if p=1 then decide (k=2)
 else if p=2 then decide (at_=0∧k=3) || decide (at_=1∧k=5)
 else if p=3 then decide (k=4)
 else if p=5 then tL k
 else if p=7 then decide (at_=0∧(k=22∨k=26)) || (decide (at_=1) && iE k)
 else if p=8∨p=9 then (decide (at_=0) && iE k) || decide (at_ > 0∧k=5)
 else if p=12 then decide (k=25)
 else iE k
theorem ru(p:Int):(jL p=none∧∀x∈gr,p≠x.1)∨p∈gr.map (·.1):=by
 by_cases h:p∈gr.map (·.1)
 ·exact .inr h
 ·refine .inl ⟨?_,fun x hx e=>h (List.mem_map.2 ⟨x,hx,e.symm⟩)⟩
  cases hr:jL p with
  | none=>rfl
  | some v=>exact absurd (C2.2 (by unfold jL at hr;rw[hr];rfl)) h
theorem KI(p k at_:Int):tM p k at_=eO p k at_:=by
 rcases ru p with ⟨h,hn⟩ | h
 ·have e:tM p k at_=false:=by
   unfold tM
   rw[h]
   split
   ·rfl
   ·simp
    intro h1;omega
  rw[e]
  have h0:gu p=0:=by
   have g:∀n:Int,n∈gr.map (·.1)→p≠n:=fun n hm=>by
    obtain ⟨x,hx,rfl⟩:=List.mem_map.1 hm
    exact hn x hx
   have g1:=fun n=>g n
   unfold gu
   rw[if_neg,if_neg,if_neg (g 8 (by decide)),if_neg]
   ·rintro (h | h | h | h | h | h)
    ·exact g 6 (by decide) h
    ·exact g 10 (by decide) h
    ·exact g 11 (by decide) h
    ·exact g 23 (by decide) h
    ·exact g 28 (by decide) h
    ·exact g 12 (by decide) h
   ·rintro (h | h | h | h | h | h)
    ·exact g 2 (by decide) h
    ·exact g 7 (by decide) h
    ·exact g 9 (by decide) h
    ·exact g 24 (by decide) h
    ·exact g 26 (by decide) h
    ·exact g 27 (by decide) h
   ·rintro (h | h | h | h)
    ·exact g 1 (by decide) h
    ·exact g 3 (by decide) h
    ·exact g 5 (by decide) h
    ·exact g 25 (by decide) h
  unfold eO
  rw[h0,if_pos (by omega)]
 ·by_cases c:at_<0
  ·unfold tM eO
   rw[if_pos c,if_pos (.inl c)]
  obtain ⟨a,rfl⟩:∃a:Nat,at_=a:=⟨at_.toNat,by omega⟩
  simp only[gr,List.map_cons,List.map_nil,List.mem_cons,List.not_mem_nil,or_false] at h
  have q0:∀a:Nat,¬((a:Int)+1+1+1<0):=fun a=>by omega
  have q1:∀a:Nat,¬((a:Int)+1+1+1<1):=fun a=>by omega
  have q2:∀a:Nat,¬((a:Int)+1+1+1<2):=fun a=>by omega
  have q3:∀a:Nat,¬((a:Int)+1+1+1<3):=fun a=>by omega
  have q4:∀a:Nat,0≤(a:Int)+1+1+1:=fun a=>by omega
  have r1:∀a:Nat,1≤(a:Int)+1+1+1:=fun a=>by omega
  have r2:∀a:Nat,2≤(a:Int)+1+1+1:=fun a=>by omega
  have r3:∀a:Nat,3≤(a:Int)+1+1+1:=fun a=>by omega
  have r4:∀a:Nat,¬(a:Int)+1+1+1=0:=fun a=>by omega
  have r5:∀a:Nat,0<(a:Int)+1+1+1:=fun a=>by omega
  rcases h with rfl | rfl | rfl | rfl | rfl | rfl | rfl | rfl | rfl | rfl | rfl | rfl | rfl | rfl | rfl | rfl | rfl | rfl | rfl | rfl | rfl | rfl <;>
   rcases a with _ | _ | _ | a<;>simp[tM,eO,gu,jL,gr,iz,uV,iE,tL]<;>simp only[q0,q1,q2,q3,q4,r1,r2,r3,r4,r5,decide_false,decide_true,Bool.not_false,Bool.not_true,Bool.false_and,Bool.true_and,Bool.and_false]
set_option maxRecDepth 100000
theorem az{F H:Y}(h:Over H F){a b:Bool}(e:a=b):eJ H (.ret (.sc (.bool a))) F (.ret (.sc (.bool b))) H:=by
 subst e
 exact di h (.same trivial)
def KJ(x:Z):Z:=x
theorem eP(q:IntKind)(k:Int)(v:Z)(M:List (Int×Z)):nu (.int q k) v (mI q KJ M)=mI q KJ (tI k v M):=Am (f:=KJ) (a:=v)
theorem dG(q:IntKind)(k:Int)(v:Z):nu (.int q k) v []=mI q KJ [(k,v)]:=Am (f:=KJ) (a:=v) (M:=[])
theorem cr(k:Int)(v:Z):tI k v ([]:List (Int×Z))=[(k,v)]:=rfl
theorem bS(k j:Int)(v u:Z)(r:List (Int×Z)):tI k v ((j,u)::r)=if k=j then (k,v)::r else (j,u)::tI k v r:=rfl
def uW(l:List Int):Z:=if l=[] then .ak 0 [] (some []) else .ak 1 (l.map fun n=>.sc (.int .u8 n)) (some [])
def G5(r:List Int×Bool):Z:=.agg [uW r.1,.sc (.bool r.2)]
def tN:List (Int×Z):=gr.map fun p=>(p.1,G5 p.2)
theorem wK{α β:Type}(g:α→β)(k:Int):∀(M:List (Int×α)),iz k (M.map fun p=>(p.1,g p.2))=(iz k M).map g
 | []=>rfl
 | p::r=>by
  have ih:=wK g k r
  simp only[List.map_cons,iz]
  split
  ·rfl
  ·exact ih
def jW(k:Int):List Int×Bool:=(jL k).getD ([],false)
theorem Ph(k:Int):(iz k tN).getD (.agg [.ak 0 [] (some []),.sc (.bool false)])=G5 (jW k):=by
 unfold tN jW jL
 rw[wK]
 cases iz k gr<;>rfl
theorem KK(k:Int):(iz k tN).isSome=(jL k).isSome:=by
 unfold tN jL
 rw[wK]
 cases iz k gr<;>rfl
theorem abo(x:Z)(H:Y)(h1:x.bO=false∧x.isAgg=false∧x.an=1∧x.cells=[x])(h2:x.ids (· < H.length)):D Tryz.prog 123 [x] H (.ret (.agg [x,.sc (.bool false)])) H:=by
 obtain ⟨a1,a2,a3,a4⟩:=h1
 refine aF (Nat.le_refl _) (abg (aE ?_))
 simp only[Tt,ux]
 refine zA4 a1 a2 a3 a4 ?_
 exact di (.cons .refl) (.same ⟨h2,trivial,trivial⟩)
theorem XC(k:Int)(H:Y):D Tryz.prog 124 [.sc (.int .u8 k)] H (.ret (.agg [.ak 1 [.sc (.int .u8 k)] (some []),.sc (.bool true)])) H:=by
 refine aF (Nat.le_refl _) (abh (aE ?_))
 simp only[Tu,ux]
 refine ax ?_
 exact di (.cons .refl) (.same ⟨⟨⟨trivial,trivial⟩,trivial⟩,trivial,trivial⟩)
theorem Pj{q:IntKind}{k:Int}{z:Z}{M:List (Int×Z)}:k8 (.int q k) z (mI q KJ M)=(iz k M).getD z:=by
 rw[G4]
 cases iz k M<;>rfl
theorem Pk{q:IntKind}{k:Int}{M:List (Int×Z)}:(decide (dU (.int q k) (mI q KJ M)<M.length))=(iz k M).isSome:=by rw[uT];exact G3
set_option maxHeartbeats 0 in
theorem MK(k:Int)(H:Y):D Tryz.prog 69 [.sc (.int .u8 k)] H (.ret (.aK [G5 (jW k),.sc (.bool (jL k).isSome)])) H:=by
 have ok:=XB (α:=Z)
 have g1:=fun (n:Int)(H:Y)=>XC n H
 have g2:=fun (x:Z)(H:Y)=>abo x H
 have c1:bA Tryz.prog 123=true:=by kernel_rfl
 have c2:bA Tryz.prog 124=true:=by kernel_rfl
 refine aF (Nat.le_refl _) (acY (aE ?_))
 simp only[Y3,ux]
 refine ae fun L hL=>?_
 refine ax ?_
 refine hL _ _ ?_
 clear hL
 refine ae fun L hL=>?_
 refine ax ?_
 refine hL _ _ ?_
 clear hL
 refine ae fun L hL=>?_
 refine ax ?_
 refine hL _ _ ?_
 clear hL
 refine ae fun L hL=>?_
 refine fE c1 c2 ?_
 refine af (g1 _ _) ?_
 refine nZ c1 c2 ok @eP @dG @bS @cr ?_
 refine af (g2 _ _ ⟨rfl,rfl,rfl,rfl⟩ (by simp[Z.ids,Z.cW,Z.jw])) ?_
 refine nZ c1 c2 ok @eP @dG @bS @cr ?_
 refine af (g1 _ _) ?_
 refine nZ c1 c2 ok @eP @dG @bS @cr ?_
 refine af (g2 _ _ ⟨rfl,rfl,rfl,rfl⟩ (by simp[Z.ids,Z.cW,Z.jw])) ?_
 refine nZ c1 c2 ok @eP @dG @bS @cr ?_
 refine af (g1 _ _) ?_
 refine nZ c1 c2 ok @eP @dG @bS @cr ?_
 refine af (g2 _ _ ⟨rfl,rfl,rfl,rfl⟩ (by simp[Z.ids,Z.cW,Z.jw])) ?_
 refine nZ c1 c2 ok @eP @dG @bS @cr ?_
 refine af (g2 _ _ ⟨rfl,rfl,rfl,rfl⟩ (by simp[Z.ids,Z.cW,Z.jw])) ?_
 refine nZ c1 c2 ok @eP @dG @bS @cr ?_
 refine af (g2 _ _ ⟨rfl,rfl,rfl,rfl⟩ (by simp[Z.ids,Z.cW,Z.jw])) ?_
 refine nZ c1 c2 ok @eP @dG @bS @cr ?_
 refine af (g2 _ _ ⟨rfl,rfl,rfl,rfl⟩ (by simp[Z.ids,Z.cW,Z.jw])) ?_
 refine nZ c1 c2 ok @eP @dG @bS @cr ?_
 refine af (g2 _ _ ⟨rfl,rfl,rfl,rfl⟩ (by simp[Z.ids,Z.cW,Z.jw])) ?_
 refine nZ c1 c2 ok @eP @dG @bS @cr ?_
 refine af (g2 _ _ ⟨rfl,rfl,rfl,rfl⟩ (by simp[Z.ids,Z.cW,Z.jw])) ?_
 refine nZ c1 c2 ok @eP @dG @bS @cr ?_
 refine af (g2 _ _ ⟨rfl,rfl,rfl,rfl⟩ (by simp[Z.ids,Z.cW,Z.jw])) ?_
 refine nZ c1 c2 ok @eP @dG @bS @cr ?_
 refine af (g2 _ _ ⟨rfl,rfl,rfl,rfl⟩ (by simp[Z.ids,Z.cW,Z.jw])) ?_
 refine nZ c1 c2 ok @eP @dG @bS @cr ?_
 refine af (g2 _ _ ⟨rfl,rfl,rfl,rfl⟩ (by simp[Z.ids,Z.cW,Z.jw])) ?_
 refine nZ c1 c2 ok @eP @dG @bS @cr ?_
 refine af (g2 _ _ ⟨rfl,rfl,rfl,rfl⟩ (by simp[Z.ids,Z.cW,Z.jw])) ?_
 refine nZ c1 c2 ok @eP @dG @bS @cr ?_
 refine af (g2 _ _ ⟨rfl,rfl,rfl,rfl⟩ (by simp[Z.ids,Z.cW,Z.jw])) ?_
 refine nZ c1 c2 ok @eP @dG @bS @cr ?_
 refine af (g2 _ _ ⟨rfl,rfl,rfl,rfl⟩ (by simp[Z.ids,Z.cW,Z.jw])) ?_
 refine nZ c1 c2 ok @eP @dG @bS @cr ?_
 refine af (g1 _ _) ?_
 refine nZ c1 c2 ok @eP @dG @bS @cr ?_
 refine af (g2 _ _ ⟨rfl,rfl,rfl,rfl⟩ (by simp[Z.ids,Z.cW,Z.jw])) ?_
 refine nZ c1 c2 ok @eP @dG @bS @cr ?_
 refine af (g2 _ _ ⟨rfl,rfl,rfl,rfl⟩ (by simp[Z.ids,Z.cW,Z.jw])) ?_
 refine nZ c1 c2 ok @eP @dG @bS @cr ?_
 refine af (g2 _ _ ⟨rfl,rfl,rfl,rfl⟩ (by simp[Z.ids,Z.cW,Z.jw])) ?_
 refine nZ c1 c2 ok @eP @dG @bS @cr ?_
 refine af (g2 _ _ ⟨rfl,rfl,rfl,rfl⟩ (by simp[Z.ids,Z.cW,Z.jw])) ?_
 have jH:=Ph k
 have hsome:=(Pk (q:=.u8) (k:=k) (M:=tN)).trans (KK k)
 rw[show tN.length=22 from rfl] at hsome
 obtain ⟨x,b,hR⟩:∃x b,G5 (jW k) = .agg [x,.sc (.bool b)]:=⟨_,_,rfl⟩
 have hx:x.ids (· < H.length)∧x.isAgg=false∧x.bO=false∧x.an=1∧x.cells=[x]:=by
  have e:x=uW (jW k).1:=by unfold G5 at hR;cases hR;rfl
  rw[e]
  unfold uW
  split
  ·exact ⟨⟨trivial,trivial⟩,rfl,rfl,rfl,rfl⟩
  ·exact ⟨⟨Z.Ct.2 (by intro y hy;obtain ⟨n,_,rfl⟩:=List.mem_map.1 hy;trivial),trivial⟩,rfl,rfl,rfl,rfl⟩
 rw[hR] at jH
 generalize (jL k).isSome=s at *
 simp only[tN,gr,G5,uW,List.map_cons,List.map_nil,reduceCtorEq,if_false,if_true] at jH hsome
 refine acP c1 c2 ok @eP @dG @bS @cr @Pj @tH jH hsome hx.2.1 hx.2.2.1 hx.2.2.2.1 hx.2.2.2.2 ?_
 refine hL _ _ ?_
 clear hL
 refine sJ hx.2.1 hx.2.2.1 hx.2.2.2.1 hx.2.2.2.2 ?_
 rw[hR]
 refine di (.cons (.cons (.cons .refl))) (.same ?_)
 exact ⟨⟨hx.1,trivial,trivial⟩,trivial,trivial⟩
def An(l:List Int):List Z:=l.map fun n=>.sc (.int .u8 n)
theorem jm(l:List Int):(An l).length=l.length:=by simp[An]
def qa(xs:List Int)(k:Nat):Int:=xs.getD k 0
theorem G6{l:List Int}{k:Nat}(h:k<l.length):(An l).getD k .top = .sc (.int .u8 (qa l k)):=by
 simp[An,qa,List.getD,h]
def uX(l:List Int)(s:Int):Bool:=l.any fun x=>decide (x=s)
def Ao(l:List Int)(s:Int):Int:=if uX l s=true then (l.findIdx (fun x=>decide (x=s)):Nat) else -1
theorem sj{l:List Int}{k:Nat}(h:k<l.length):qa l k=l[k]:=by simp[qa,List.getD,h]
theorem TC{l:List Int}{s:Int}{k:Nat}(h:k<l.length)(h1:qa l k=s):uX l s=true:=by
 rw[sj h] at h1
 exact List.any_eq_true.2 ⟨l[k],List.getElem_mem h,by simp[h1]⟩
theorem KL{l:List Int}{s:Int}(h2:∀j,j<l.length→¬qa l j=s):uX l s=false:=by
 cases h:uX l s
 ·rfl
 ·obtain ⟨x,hx,e⟩:=List.any_eq_true.1 h
  obtain ⟨j,hj,rfl⟩:=List.getElem_of_mem hx
  exact absurd (by rw[sj hj];simpa using e) (h2 j hj)
theorem TD{l:List Int}{s:Int}{k:Nat}(h:k<l.length)(h1:qa l k=s)(h2:∀j,j<k→¬qa l j=s):Ao l s=k:=by
 unfold Ao
 rw[if_pos (TC h h1),(List.findIdx_eq h).2 ⟨by rw[sj h] at h1;simp[h1],fun j hj=>?_⟩]
 have:=h2 j hj
 rw[sj (by omega)] at this
 simp[this]
theorem KM{l:List Int}{s:Int}(h2:∀j,j<l.length→¬qa l j=s):Ao l s=-1:=by
 unfold Ao
 rw[KL h2]
 rfl
theorem TE(l:List Int)(s:Int):decide (Ao l s≥0)=uX l s:=by
 unfold Ao
 cases uX l s<;>simp
set_option maxHeartbeats 4000000 in
theorem Pm(l:List Int)(ro:Option (List Z))(s:Int)(hl:l.length≤1000000)(H:Y):D Tryz.prog 178 [.ak 1 (An l) ro,.sc (.int .u8 s)] H (.ret (.sc (.int .i64 (Ao l s)))) H:=by
 refine aF (Nat.le_refl _) (abk (aE ?_))
 simp only[Tx,ux]
 refine ae fun L hL=>?_
 refine Xz @jm ?_
 refine hL _ _ ?_
 clear hL
 refine ae fun L hL=>?_
 refine Xz @jm ?_
 refine cO (fun ts F=>∃k:Nat,(k≤l.length∧∀j,j<k→¬qa l j=s)∧F=H∧Fr [some (.ak 1 (An l) ro),some (.sc (.int .u8 s)),none,none,none,none,none,some (.sc (.int .i64 l.length)),some (.sc (.int .i64 k)),none,none,none,none,none,none,none,none,none,none] ts) (fun ts _=>l.length - (bL (ts.getD 8 .top)).toNat) ?_ ?_
 ·exact ⟨0,⟨Nat.zero_le _,fun j h=>absurd h (Nat.not_lt_zero _)⟩,rfl,by simp[Fr]⟩
 rintro ts F ⟨k,⟨hk,hp⟩,rfl,cv⟩ L2 dY
 obtain ⟨js,rfl⟩:=cv.opened
 clear cv
 by_cases hd:k<l.length
 ·have c1:(k:Int)<l.length:=by omega
  have hg:=G6 hd
  by_cases e:s=qa l k
  ·have hi:=TD hd e.symm hp
   refine Pd c1 hg @jm e.symm ?_
   rw[hi]
   exact ⟨by omega,cy .refl⟩
  ·refine Pd c1 hg @jm e ?_
   refine ⟨by omega,dY _ _ ⟨k+1,⟨by omega,fun j hj=>?_⟩,rfl,by simp[Fr]⟩ (by simp[bL,mk];omega)⟩
   rcases Nat.lt_succ_iff_lt_or_eq.1 hj with h' | rfl
   ·exact hp j h'
   ·exact fun h=>e h.symm
 ·have c1:¬(k:Int)<l.length:=by omega
  have hi:=KM fun j hj=>hp j (by omega)
  refine Ak c1 ?_
  refine hL _ _ ?_
  clear hL
  refine tF ?_
  rw[hi]
  exact cy .refl
theorem uY(l:List Int)(ro:Option (List Z))(s:Int)(hl:l.length≤1000000)(H:Y):D Tryz.prog 121 [.ak 1 (An l) ro,.sc (.int .u8 s)] H (.ret (.sc (.bool (uX l s)))) H:=by
 refine aF (Nat.le_refl _) (abj (aE ?_))
 have he:=TE l s
 simp -implicitDefEqProofs (maxSteps:=99999999) (disch:=first | omega | (simp only[vl];first | done | omega)) only[vu,Tw,va,vg,vs,vw,vk,simprocAttr]
 refine af (Pm l ro s hl _) ?_
 refine ax ?_
 exact az .refl he
def lg(l:List ByteArray)(s:ByteArray):Bool:=l.any fun x=>decide (x=s)
def jy(l:List ByteArray)(s:ByteArray):Int:=if lg l s=true then (l.findIdx (fun x=>decide (x=s)):Nat) else -1
theorem sk{l:List ByteArray}{k:Nat}(h:k<l.length):oG l k=l[k]:=by simp[oG,List.getD,h]
theorem TF{l:List ByteArray}{s:ByteArray}{k:Nat}(h:k<l.length)(h1:oG l k=s):lg l s=true:=by
 rw[sk h] at h1
 exact List.any_eq_true.2 ⟨l[k],List.getElem_mem h,by simp[h1]⟩
theorem KN{l:List ByteArray}{s:ByteArray}(h2:∀j,j<l.length→¬oG l j=s):lg l s=false:=by
 cases h:lg l s
 ·rfl
 ·obtain ⟨x,hx,e⟩:=List.any_eq_true.1 h
  obtain ⟨j,hj,rfl⟩:=List.getElem_of_mem hx
  exact absurd (by rw[sk hj];simpa using e) (h2 j hj)
theorem TG{l:List ByteArray}{s:ByteArray}{k:Nat}(h:k<l.length)(h1:oG l k=s)(h2:∀j,j<k→¬oG l j=s):jy l s=k:=by
 unfold jy
 rw[if_pos (TF h h1),(List.findIdx_eq h).2 ⟨by rw[sk h] at h1;simp[h1],fun j hj=>?_⟩]
 have:=h2 j hj
 rw[sk (by omega)] at this
 simp[this]
theorem KO{l:List ByteArray}{s:ByteArray}(h2:∀j,j<l.length→¬oG l j=s):jy l s=-1:=by
 unfold jy
 rw[KN h2]
 rfl
theorem TH(l:List ByteArray)(s:ByteArray):decide (jy l s≥0)=lg l s:=by
 unfold jy
 cases lg l s<;>simp
set_option maxHeartbeats 4000000 in
theorem Pn(l:List ByteArray)(ro:Option (List Z))(s:ByteArray)(hl:l.length≤1000000)(H:Y):D Tryz.prog 114 [.ak 1 (strs l) ro,.sc (.string s)] H (.ret (.sc (.int .i64 (jy l s)))) H:=by
 refine aF (Nat.le_refl _) (abl (aE ?_))
 simp only[Ty,ux]
 refine ae fun L hL=>?_
 refine Xz @dr ?_
 refine hL _ _ ?_
 clear hL
 refine ae fun L hL=>?_
 refine Xz @dr ?_
 refine cO (fun ts F=>∃k:Nat,(k≤l.length∧∀j,j<k→¬oG l j=s)∧F=H∧Fr [some (.ak 1 (strs l) ro),some (.sc (.string s)),none,none,none,none,none,some (.sc (.int .i64 l.length)),some (.sc (.int .i64 k)),none,none,none,none,none,none,none,none,none,none] ts) (fun ts _=>l.length - (bL (ts.getD 8 .top)).toNat) ?_ ?_
 ·exact ⟨0,⟨Nat.zero_le _,fun j h=>absurd h (Nat.not_lt_zero _)⟩,rfl,by simp[Fr]⟩
 rintro ts F ⟨k,⟨hk,hp⟩,rfl,cv⟩ L2 dY
 obtain ⟨js,rfl⟩:=cv.opened
 clear cv
 by_cases hd:k<l.length
 ·have c1:(k:Int)<l.length:=by omega
  have hg:=OE hd
  by_cases e:s=oG l k
  ·have hi:=TG hd e.symm hp
   refine Pd c1 hg @dr e.symm ?_
   rw[hi]
   exact ⟨by omega,cy .refl⟩
  ·refine Pd c1 hg @dr e ?_
   refine ⟨by omega,dY _ _ ⟨k+1,⟨by omega,fun j hj=>?_⟩,rfl,by simp[Fr]⟩ (by simp[bL,mk];omega)⟩
   rcases Nat.lt_succ_iff_lt_or_eq.1 hj with h' | rfl
   ·exact hp j h'
   ·exact fun h=>e h.symm
 ·have c1:¬(k:Int)<l.length:=by omega
  have hi:=KO fun j hj=>hp j (by omega)
  refine Ak c1 ?_
  refine hL _ _ ?_
  clear hL
  refine tF ?_
  rw[hi]
  exact cy .refl
theorem pA(l:List ByteArray)(ro:Option (List Z))(s:ByteArray)(hl:l.length≤1000000)(H:Y):D Tryz.prog 59 [.ak 1 (strs l) ro,.sc (.string s)] H (.ret (.sc (.bool (lg l s)))) H:=by
 refine aF (Nat.le_refl _) (acZ (aE ?_))
 have he:=TH l s
 simp -implicitDefEqProofs (maxSteps:=99999999) (disch:=first | omega | (simp only[vl];first | done | omega)) only[vu,Y4,va,vg,vs,vw,vk,simprocAttr]
 refine af (Pn l ro s hl _) ?_
 refine ax ?_
 exact az .refl he
theorem G7{l:List Int}(h:l≠[]):uW l = .ak 1 (An l) (some []):=if_neg h
theorem Y9(k f:Int)(H:Y):D Tryz.prog 127 [.sc (.int .u8 k),.sc (.int .u8 f)] H (.ret (.sc (.bool (uV k f)))) H:=by
 refine aF (Nat.le_refl _) (abe (aE ?_))
 simp only[Tq,ux]
 by_cases c1:f=200
 ·by_cases g1:k≥20
  ·refine fE c1 g1 ?_
   exact az .refl (by simp[uV,c1,iE];intro;omega)
  ·refine fE c1 g1 ?_
   exact az .refl (by simp[uV,c1,iE];omega)
 by_cases c2:f=201
 ·by_cases g1:k≥6
  ·by_cases g2:k≤12
   ·refine nY c2 g1 g2 ?_
    exact az .refl (by simp[uV,c2,tL];omega)
   ·refine nY c2 g1 g2 ?_
    exact az .refl (by simp[uV,c2,tL];omega)
  ·refine fE c2 g1 ?_
   exact az .refl (by simp[uV,c2,tL];omega)
 by_cases c3:f=202
 ·by_cases g1:k=22
  ·refine fE c3 g1 ?_
   exact az .refl (by simp[uV,c3,g1])
  ·refine fE c3 g1 ?_
   exact az .refl (by simp[uV,c3,g1])
 refine nY c1 c2 c3 ?_
 exact az .refl (by simp[uV,c1,c2,c3])
theorem C5{p:Int}(h:(jW p).2=true):(jW p).1≠[]:=by
 rcases ru p with ⟨hn,_⟩ | hm
 ·unfold jW at h;rw[hn] at h;cases h
 ·simp only[gr,List.map_cons,List.map_nil,List.mem_cons,List.not_mem_nil,or_false] at hm
  rcases hm with rfl | rfl | rfl | rfl | rfl | rfl | rfl | rfl | rfl | rfl | rfl | rfl | rfl | rfl | rfl | rfl | rfl | rfl | rfl | rfl | rfl | rfl<;>first | (exact absurd h (by decide)) | (simp[jW,jL,gr,iz])
theorem G8(l:List Int):p8 (uW l)=l.length∧nV (uW l)∧(uW l).bO=false∧(uW l).isAgg=false∧(uW l).an=1∧(uW l).cells=[uW l]:=by
 unfold uW
 split
 ·rename_i h;subst h;exact ⟨rfl,trivial,rfl,rfl,rfl,rfl⟩
 ·exact ⟨by simp[p8],trivial,rfl,rfl,rfl,rfl⟩
set_option maxHeartbeats 4000000 in
theorem XD(p k a:Int)(H:Y):D Tryz.prog 71 [.sc (.int .u8 p),.sc (.int .u8 k),.sc (.int .i64 a)] H (.ret (.sc (.bool (tM p k a)))) H:=by
 refine aF (Nat.le_refl _) (acU (aE ?_))
 simp only[YZ,ux]
 have hr:=MK p
 unfold G5 at hr
 have hP:tM p k a=if a<0 then false else if (jW p).2 then uV k ((jW p).1.getD 0 0) else decide (a<(jW p).1.length) && uV k ((jW p).1.getD a.toNat 0):=rfl
 have hall:=C5 (p:=p)
 generalize (jL p).isSome=s at *
 obtain ⟨l,b,hG⟩:∃l b,jW p=(l,b):=⟨_,_,rfl⟩
 rw[hG] at hr hP hall
 simp only at hr hP hall
 obtain ⟨k1,k2,k3,k4,k5,k6⟩:=G8 l
 refine ae fun L hL=>?_
 refine ax ?_
 refine hL _ _ ?_
 clear hL
 refine ae fun L hL=>?_
 refine ax ?_
 refine af (hr _) ?_
 simp -implicitDefEqProofs (maxSteps:=99999999) (disch:=first | omega | (simp only[vl];first | done | omega)) only[vu,k3,k4,k5,k6,va,vg,vs,vw,vk,simprocAttr]
 refine hL _ _ ?_
 clear hL
 refine ae fun L hL=>?_
 by_cases c1:a<0
 ·simp -implicitDefEqProofs (maxSteps:=99999999) (disch:=first | omega | (simp only[vl];first | done | omega)) only[vu,c1,k3,k4,k5,k6,va,vg,vs,vw,vk,simprocAttr]
  exact az (.cons .refl) (by rw[hP,if_pos c1])
 rw[if_neg c1] at hP
 cases b
 case true =>
  have hne:=hall rfl
  obtain ⟨x,r,rfl⟩:=List.exists_cons_of_ne_nil hne
  rw[G7 hne] at *
  simp -implicitDefEqProofs (maxSteps:=99999999) (disch:=first | omega | (simp only[vl];first | done | omega)) only[vu,c1,jm,An,List.map_cons,va,vg,vs,vw,vk,simprocAttr]
  refine ⟨by omega,af (Y9 _ _ _) ?_⟩
  refine ax ?_
  exact az (.cons .refl) (by rw[hP];rfl)
 case false =>
  simp only[Bool.false_eq_true,if_false] at hP
  simp -implicitDefEqProofs (maxSteps:=99999999) (disch:=first | omega | (simp only[vl];first | done | omega)) only[vu,c1,k3,k4,k5,k6,va,vg,vs,vw,vk,simprocAttr]
  refine hL _ _ ?_
  clear hL
  by_cases c2:a<l.length
  ·have hne:l≠[]:=fun e=>by rw[e] at c2;simp at c2;omega
   obtain ⟨n,rfl⟩:∃n:Nat,a=n:=⟨a.toNat,by omega⟩
   have hn:n<l.length:=by omega
   rw[G7 hne] at *
   refine nY c2 @jm (G6 hn) ?_
   refine ⟨by omega,af (Y9 _ _ _) ?_⟩
   refine ax ?_
   exact az (.cons .refl) (by rw[hP];simp[c2,hn,qa])
  ·simp -implicitDefEqProofs (maxSteps:=99999999) (disch:=first | omega | (simp only[vl];first | done | omega)) only[vu,c2,k1,k2,k3,k4,k5,k6,va,vg,vs,vw,vk,simprocAttr]
   exact az (.cons .refl) (by rw[hP];simp[c2])
theorem Ap(k:Int):uX [2,4,6,22,25] k=dF k:=by
 simp[uX,dF,eq_comm,Bool.or_assoc]
theorem Aq(k:Int)(H:Y):D Tryz.prog 117 [.sc (.int .u8 k)] H (.ret (.sc (.bool (dF k)))) H:=by
 refine aF (Nat.le_refl _) (abd (aE ?_))
 simp only[Tp,ux]
 have hc:=uY [2,4,6,22,25] (some []) k (by decide)
 rw[show An [2,4,6,22,25]=[.sc (.int .u8 2),.sc (.int .u8 4),.sc (.int .u8 6),.sc (.int .u8 22),.sc (.int .u8 25)] from rfl] at hc
 refine ax ?_
 refine af (hc _) ?_
 refine ax ?_
 exact az .refl (Ap k)
def xU(k:Int):Int:=IntKind.u8.wrap ↑(BitVec.ofInt IntKind.u8.bits k ||| BitVec.ofInt IntKind.u8.bits 32).toNat
theorem uZ(k:Int):IntKind.u8.wrap ↑(BitVec.ofInt IntKind.u8.bits k ||| BitVec.ofInt IntKind.u8.bits 32).toNat=xU k:=rfl
def sY(k:Int):Bool:=decide (97≤xU k∧xU k≤122) || decide (k=95)
def G9(k:Int):Bool:=decide (97≤k∧k≤122) || decide (65≤k∧k≤90) || decide (k=95)
def C6(k:Int):Bool:=decide (48≤k∧k≤57)
theorem C7{k:Int}(h0:0≤k)(h1:k<256):sY k=G9 k:=by
 have h:∀n:Fin 256,sY (n.val:Int)=G9 (n.val:Int):=by decide +kernel
 have:=h ⟨k.toNat,by omega⟩
 rwa [show ((k.toNat:Nat):Int)=k by omega] at this
theorem wL(k:Int)(H:Y):D Tryz.prog 72 [.sc (.int .u8 k)] H (.ret (.sc (.bool (sY k)))) H:=by
 refine aF (Nat.le_refl _) (ac1 (aE ?_))
 simp only[Y6,ux]
 by_cases g3:k=95
 ·subst g3
  have g1:xU 95≥97:=by decide +kernel
  have g2:¬xU 95≤122:=by decide +kernel
  refine nY @uZ g1 g2 ?_
  exact az .refl (by simp[sY])
 by_cases g1:xU k≥97
 ·by_cases g2:xU k≤122
  ·refine nY @uZ g1 g2 ?_
   exact az .refl (by simp[sY,g1,g2])
  ·refine sJ @uZ g1 g2 g3 ?_
   exact az .refl (by simp[sY,g2,g3])
 ·have g2:¬97≤xU k:=g1
  refine nY @uZ g1 g3 ?_
  exact az .refl (by simp[sY,g2,g3])
theorem TI(k:Int)(H:Y):D Tryz.prog 74 [.sc (.int .u8 k)] H (.ret (.sc (.bool (sY k || C6 k)))) H:=by
 refine aF (Nat.le_refl _) (ac3 (aE ?_))
 simp only[Y8,ux]
 refine ax ?_
 refine af (wL _ _) ?_
 cases h:sY k
 ·by_cases g1:k≥48
  ·by_cases g2:k≤57
   ·refine fE g1 g2 ?_
    exact az .refl (by simp[C6,g2];omega)
   ·refine fE g1 g2 ?_
    exact az .refl (by simp[C6,g2])
  ·refine de g1 ?_
   exact az .refl (by simp[C6];omega)
 ·refine ax ?_
  exact az .refl rfl
def u7:List ByteArray:=[⟨#[102,117,110,99]⟩,⟨#[118,97,114]⟩,⟨#[105,102]⟩,⟨#[101,108,115,101]⟩,⟨#[119,104,105,108,101]⟩,⟨#[114,101,116,117,114,110]⟩,⟨#[112,114,105,110,116]⟩,⟨#[116,114,117,101]⟩,⟨#[102,97,108,115,101]⟩,⟨#[108,101,110]⟩,⟨#[114,101,97,100]⟩]
open Go.RowKit Go.Shelf
theorem TJ {φ : aC} {H : Y} {w : World} (h : yp φ H w) : Lib.TabIs Tryz.prog w "strings.asciiSpace" .u8 Lib.asciiSpaceTab := by
 obtain ⟨⟨e,fr,h1⟩,_⟩:=h _ (List.mem_cons_self ..)
 unfold Lib.TabIs World.var?
 have hg : Tryz.prog.globalNamed "strings.asciiSpace" = some 0 := by kernel_rfl
 rw[hg]
 simp only[Option.bind_some,h1]
 congr 2
theorem Ar{φ:aC}{O:Nat→Prop}{w:World}{b:Nat}:∀(l:List ByteArray)(off:Nat),(∀j (h:j<l.length),b6 w b (off+j) 0=some (.string l[j]))→Rl φ O w b 1 (strs l) off
 | [],_,_=>trivial
 | x::r,off,h=>by
  have h0:=h 0 (by simp)
  simp only[Nat.add_zero,List.getElem_cons_zero] at h0
  refine ⟨rfl,fun _=>⟨_,h0,rfl⟩,h0,Ar r (off+1) fun j hj=>?_⟩
  have:=h (j+1) (by simp;omega)
  rw[show off+1+j=off+(j+1) by omega]
  simpa using this
theorem wM(s:ByteArray)(l:List ByteArray)(hl:(Lib.fields s.data.toList).map (fun x=>(⟨x.toArray⟩:ByteArray))=l)(hs:s.size<4294967281)(hascii:∀(j:Nat) b,s.data.toList[j]? = some b→b.toNat<128)(hn:l.length≤1000000)(H:Y):D Tryz.prog 126 [.sc (.string s)] H (.ret (.ak 1 (strs l) none)) H:=by
 refine ⟨Nat.le_refl _,fun φ w vs hR ha=>?_⟩
 obtain ⟨a,r,e1,a1,a2,e3⟩:=ha
 have ea:a = .string s:=bF ⟨a1,a2⟩
 have EM:r=[]:=e3
 have hvs:vs=#[.string s]:=by
  cases vs
  simp only at e1
  rw[e1,ea,EM]
 rw[hvs]
 refine (Any.strings_Fields Qq (by kernel_rfl) (by kernel_rfl) s w hs hascii (TJ hR.gD)).mono fun en w' ⟨he,hw⟩=>?_
 have eI:(Lib.fields s.data.toList).length=l.length:=by rw[←hl];simp
 have hcells:((Lib.fields s.data.toList).map fun l=>Value.string ⟨l.toArray⟩)=l.map Value.string:=by rw[←hl];simp[Function.comp_def]
 rw[hcells] at hw
 rw[eI] at he
 have hold:∀b,b<w.heap.size→w'.heap[b]? = w.heap[b]?:=fun b hb=>by rw[hw];exact heap_alloc_old w _ hb
 have hsz:w'.heap.size=w.heap.size+1:=by rw[hw];exact World.size_alloc w _
 have hno:¬Own φ H w.heap.size:=by
  rintro ⟨id,k,g1,_⟩
  have:=(hR.dom id _ g1).2
  omega
 refine ⟨φ,?_,hR.grow (by omega) hold,grow_step (by rw[hw];rfl) (by rw[hw];rfl) (by rw[hw];rfl) (by omega) hold⟩
 rw[he]
 refine ⟨rfl,_,l.length,?_,?_,?_,fun h=>by simp at h,fun _=>⟨w.heap.size,0,rfl,hno,by omega,Ar l 0 fun j hj=>?_⟩,trivial⟩
 ·simp[dZ,Value.cells,strs]
 ·simp[strs]
 ·unfold maxLen;omega
 ·unfold b6
  rw[hw,World.cell?_alloc_at _ _ _ _ rfl]
  rw[show 0+j+0=j by omega,List.getElem?_toArray,List.getElem?_map,List.getElem?_eq_getElem hj]
  rfl
def gR(s:ByteArray)(k:Nat):Int:=((s.data.getD k 0).toNat:Int)
theorem C8(s:ByteArray)(k:Nat):0≤gR s k:=by unfold gR;omega
theorem C9(s:ByteArray)(k:Nat):gR s k<256:=by
 unfold gR
 have:=(s.data.getD k 0).toNat_lt
 omega
def wN(k:Int):Bool:=G9 k || C6 k
theorem abp(s:ByteArray)(k:Nat):(sY (gR s k) || C6 (gR s k))=wN (gR s k):=by
 rw[C7 (C8 s k) (C9 s k)];rfl
def Hf(s:ByteArray):Bool:=(List.range s.size).all fun k=>wN (gR s k)
theorem XE{s:ByteArray}{k:Nat}(hk:¬k<s.size)(h:∀j,j<k→wN (gR s j)=true):Hf s=true :=
 List.all_eq_true.2 fun j hj=>h j (by have:=List.mem_range.1 hj;omega)
theorem XF{s:ByteArray}{k:Nat}(hk:k<s.size)(h:wN (gR s k)=false):Hf s=false:=by
 cases e:Hf s
 ·rfl
 ·have:=List.all_eq_true.1 e k (List.mem_range.2 hk)
  rw[h] at this
  cases this
def ej(s:ByteArray):Bool:=!decide (s.size=0) && decide (s.size≤24) && G9 (gR s 0) && !lg u7 s && Hf s
theorem abq{s:ByteArray}(h:¬s=⟨#[]⟩):s.size≠0:=fun e=>h (by
 cases s with
 | mk d=>exact congrArg _ (Array.eq_empty_of_size_eq_zero e))
theorem Hg(H:Y):D Tryz.prog 73 [] H (.ret (.ak 1 (strs u7) none)) H:=by
 have hf:=wM ⟨#[102,117,110,99,32,118,97,114,32,105,102,32,101,108,115,101,32,119,104,105,108,101,32,114,101,116,117,114,110,32,112,114,105,110,116,32,116,114,117,101,32,102,97,108,115,101,32,108,101,110,32,114,101,97,100]⟩ u7 (by decide +kernel) (by decide +kernel) (fun j b h=>by
  have h2:∀b∈([102,117,110,99,32,118,97,114,32,105,102,32,101,108,115,101,32,119,104,105,108,101,32,114,101,116,117,114,110,32,112,114,105,110,116,32,116,114,117,101,32,102,97,108,115,101,32,108,101,110,32,114,101,97,100]:List UInt8),b.toNat<128:=by decide +kernel
  exact h2 b (List.mem_of_getElem? h)) (by decide)
 refine aF (Nat.le_refl _) (ac2 (aE ?_))
 simp only[Y7,ux]
 refine ax ?_
 refine af (hf _) ?_
 refine ax ?_
 exact di .refl (.same ⟨⟨trivial,trivial,trivial,trivial,trivial,trivial,trivial,trivial,trivial,trivial,trivial,trivial⟩,trivial⟩)
set_option maxHeartbeats 4000000 in
theorem EN(s:ByteArray)(H:Y):D Tryz.prog 43 [.sc (.string s)] H (.ret (.sc (.bool (ej s)))) H:=by
 refine aF (Nat.le_refl _) (ac0 (aE ?_))
 simp only[Y5,ux]
 have hb:((s.data.getD (0:Int).toNat 0).toNat:Int)=gR s 0:=rfl
 have pe:∀k:Nat,((s.data.getD (k:Int).toNat 0).toNat:Int)=gR s k:=fun k=>rfl
 have hb3:∀k:Nat,((s.data.getD k 0).toNat:Int)=gR s k:=fun k=>rfl
 refine ae fun L hL=>?_
 refine ax ?_
 refine hL _ _ ?_
 clear hL
 refine ae fun L hL=>?_
 by_cases c0:s=⟨#[]⟩
 ·subst c0
  refine ax ?_
  exact az .refl rfl
 have z0:=abq c0
 by_cases c1:(s.size:Int) > 24
 ·refine fE c0 c1 ?_
  exact az .refl (by unfold ej;simp;omega)
 have mC:=C7 (C8 s 0) (C9 s 0)
 cases c2:G9 (gR s 0)
 ·refine Pb c0 c1 hb pe hb3 ?_
  refine ⟨by omega,af (wL _ _) ?_⟩
  refine fE mC c2 ?_
  exact az .refl (by simp[ej,c2])
 refine Pb c0 c1 hb pe hb3 ?_
 refine ⟨by omega,af (wL _ _) ?_⟩
 refine fE mC c2 ?_
 refine af (Hg _) ?_
 refine de c2 ?_
 refine af (pA u7 _ s (by decide) _) ?_
 cases c3:lg u7 s
 rotate_left
 ·refine ax ?_
  exact az .refl (by simp[ej,c3])
 refine ax ?_
 refine hL _ _ ?_
 clear hL
 refine ae fun L hL=>?_
 refine ax ?_
 have hs:s.size≤24:=by omega
 have hN:ej s=Hf s:=by simp[ej,c2,c3,z0,hs]
 refine cO (fun ts F=>∃k:Nat,(k≤s.size∧∀j,j<k→wN (gR s j)=true)∧F=H∧Fr [some (.sc (.string s)),none,some (.sc (.bool false)),none,none,none,none,none,none,none,none,none,none,none,none,none,none,none,none,none,none,none,none,some (.sc (.int .i64 s.size)),some (.sc (.int .i64 k)),none,none,none,none,none,none,none,none] ts) (fun ts _=>s.size - (bL (ts.getD 24 .top)).toNat) ?_ ?_
 ·exact ⟨0,⟨Nat.zero_le _,fun j h=>absurd h (Nat.not_lt_zero _)⟩,rfl,by simp[Fr]⟩
 rintro ts F ⟨k,⟨hk,hp⟩,rfl,cv⟩ L2 dY
 obtain ⟨js,rfl⟩:=cv.opened
 clear cv
 by_cases hd:k<s.size
 ·have d1:(k:Int)<s.size:=by omega
  have hw:=abp s k
  refine Pd d1 hb pe hb3 ?_
  refine ⟨by omega,af (TI _ _) ?_⟩
  rw[hw]
  cases e1:wN (gR s k)
  ·refine ax ?_
   exact az .refl (by rw[hN,XF hd e1])
  ·refine ax ?_
   refine dY _ _ ⟨k+1,⟨by omega,fun j hj=>?_⟩,rfl,by simp[Fr]⟩ (by simp[bL,mk];omega)
   rcases Nat.lt_succ_iff_lt_or_eq.1 hj with h' | rfl
   ·exact hp j h'
   ·exact e1
 ·have d1:¬(k:Int)<s.size:=by omega
  refine Ak d1 ?_
  refine hL _ _ ?_
  clear hL
  refine tF ?_
  exact az .refl (by rw[hN,XE hd hp])
def pB(l:List ByteArray)(s:ByteArray):Bool:=!decide (s=⟨#[]⟩) && lg l s
def Au:List ByteArray:=[⟨#[45]⟩,⟨#[33]⟩]
def wO:List ByteArray:=[⟨#[124,124]⟩,⟨#[38,38]⟩,⟨#[61,61]⟩,⟨#[33,61]⟩,⟨#[60]⟩,⟨#[60,61]⟩,⟨#[62]⟩,⟨#[62,61]⟩,⟨#[43]⟩,⟨#[45]⟩,⟨#[42]⟩,⟨#[47]⟩,⟨#[37]⟩]
def iG(t:Nd):Bool :=
 if t.kind=20 then decide (t.text=⟨#[]⟩) && decide (t.num≥0)
 else if t.kind=21 then decide (t.text=⟨#[]⟩) && (decide (t.num=0) || decide (t.num=1))
 else if ¬t.num=0 then false
 else if dF t.kind then ej t.text
 else if t.kind=23 then pB Au t.text
 else if t.kind=24 then pB wO t.text
 else decide (t.text=⟨#[]⟩)
theorem Hj(s:ByteArray)(l:List ByteArray)(hl:l.length≤1000000)(hf:∀H,D Tryz.prog 126 [.sc (.string s)] H (.ret (.ak 1 (strs l) none)) H)(t:Nd)(ro:Option (List Z))(H:Y):D Tryz.prog 125 [.sc (.string s),.ptr 4 H.length 0 0] (some ⟨4,[eG t ro],true,25⟩::H) (.ret (.sc (.bool (pB l t.text)))) (some ⟨4,[eG t ro],true,25⟩::H):=by
 refine aF (Nat.le_refl _) (abf (aE ?_))
 simp only[Ts,ux]
 rw[aH]
 obtain ⟨k,tx,n,kids⟩:=t
 simp only[Nd.kind,Nd.text,Nd.num,Nd.kids]
 refine ae fun L hL=>?_
 refine ax ?_
 refine hL _ _ ?_
 clear hL
 refine ae fun L hL=>?_
 by_cases c0:tx=⟨#[]⟩
 ·subst c0
  refine ax ?_
  refine hL _ _ ?_
  clear hL
  refine ax ?_
  exact az .refl (by simp[pB])
 ·refine de c0 ?_
  refine aP (hf _) ?_
  refine ax ?_
  refine aP (pA l none tx hl _) ?_
  refine ax ?_
  refine hL _ _ ?_
  clear hL
  refine ax ?_
  exact az .refl (by simp[pB,c0])
theorem TK(H:Y):D Tryz.prog 126 [.sc (.string ⟨#[45,32,33]⟩)] H (.ret (.ak 1 (strs Au) none)) H :=
 wM _ Au (by decide +kernel) (by decide +kernel) (fun j b h=>by
  have h2:∀b∈([45,32,33]:List UInt8),b.toNat<128:=by decide +kernel
  exact h2 b (List.mem_of_getElem? h)) (by decide) H
theorem TL(H:Y):D Tryz.prog 126 [.sc (.string ⟨#[124,124,32,38,38,32,61,61,32,33,61,32,60,32,60,61,32,62,32,62,61,32,43,32,45,32,42,32,47,32,37]⟩)] H (.ret (.ak 1 (strs wO) none)) H :=
 wM _ wO (by decide +kernel) (by decide +kernel) (fun j b h=>by
  have h2:∀b∈([124,124,32,38,38,32,61,61,32,33,61,32,60,32,60,61,32,62,32,62,61,32,43,32,45,32,42,32,47,32,37]:List UInt8),b.toNat<128:=by decide +kernel
  exact h2 b (List.mem_of_getElem? h)) (by decide) H
theorem ac4(n:Int):decide (n.fdiv (2 ^ min 1 IntKind.i64.bits)=0)=(decide (n=0) || decide (n=1)):=by
 rw[show min 1 IntKind.i64.bits=1 from rfl,show (2 ^ 1:Int)=2 from rfl,Int.fdiv_eq_ediv_of_nonneg _ (by omega),Bool.eq_iff_iff]
 simp
 omega
theorem XG(t:Nd)(ro:Option (List Z))(H:Y):D Tryz.prog 70 [eG t ro] H (.ret (.sc (.bool (iG t)))) H:=by
 have hA:=fun H=>Hj _ Au (by decide) TK t ro H
 have hB:=fun H=>Hj _ wO (by decide) TL t ro H
 have cl:bA Tryz.prog 125=true:=by kernel_rfl
 refine aF (Nat.le_refl _) (acX (aE ?_))
 simp only[Y2,ux]
 rw[aH] at *
 have hP:iG t=iG ⟨t.kind,t.text,t.num,t.kids⟩:=by rw[←t.eta]
 rw[hP]
 clear hP
 obtain ⟨k,tx,n,kids⟩:=t
 simp only[Nd.kind,Nd.text,Nd.num,Nd.kids] at hA hB ⊢
 refine ae fun L hL=>?_
 refine ax ?_
 refine hL _ _ ?_
 clear hL
 refine ae fun L hL=>?_
 simp -implicitDefEqProofs (maxSteps:=99999999) (disch:=first | omega | (simp only[vl];first | done | omega)) only[vu,cl,va,vg,vs,vw,vk,simprocAttr]
 refine hL _ _ ?_
 clear hL
 refine ae fun L hL=>?_
 by_cases Hl:k=20
 ·subst Hl
  by_cases c0:tx=⟨#[]⟩
  ·subst c0
   refine ax ?_
   exact az (.cons .refl) (by simp[iG,Nd.kind,Nd.text,Nd.num])
  ·refine de c0 ?_
   exact az (.cons .refl) (by simp[iG,Nd.kind,Nd.text,Nd.num,c0])
 by_cases Ho:k=21
 ·subst Ho
  by_cases c0:tx=⟨#[]⟩
  ·subst c0
   refine ax ?_
   exact az (.cons .refl) (by simp[iG,Nd.kind,Nd.text,Nd.num];exact ac4 n)
  ·refine de c0 ?_
   exact az (.cons .refl) (by simp[iG,Nd.kind,Nd.text,Nd.num,c0])
 by_cases n0:n=0
 rotate_left
 ·refine nY Hl Ho n0 ?_
  exact az (.cons .refl) (by simp[iG,Nd.kind,Nd.text,Nd.num,Hl,Ho,n0])
 subst n0
 cases hn:dF k
 rotate_left
 ·refine fE Hl Ho ?_
  refine af (Aq _ _) ?_
  rw[hn]
  refine fE Hl Ho ?_
  refine af (EN _ _) ?_
  refine ax ?_
  exact az (.cons .refl) (by simp[iG,Nd.kind,Nd.text,Nd.num,Hl,Ho,hn])
 refine fE Hl Ho ?_
 refine af (Aq _ _) ?_
 rw[hn]
 by_cases k23:k=23
 ·subst k23
  refine ax ?_
  refine ⟨cl,af (hA _) ?_⟩
  refine ax ?_
  exact az (.cons .refl) (by simp[iG,Nd.kind,Nd.text,Nd.num,hn])
 by_cases k24:k=24
 ·subst k24
  refine ax ?_
  refine ⟨cl,af (hB _) ?_⟩
  refine ax ?_
  exact az (.cons .refl) (by simp[iG,Nd.kind,Nd.text,Nd.num,hn])
 refine fE k23 k24 ?_
 refine hL _ _ ?_
 clear hL
 refine ax ?_
 exact az (.cons .refl) (by rw[Bool.eq_iff_iff];simp[iG,Nd.kind,Nd.text,Nd.num,hn,Hl,Ho,k23,k24];exact ⟨fun h=>decide_eq_true h,of_decide_eq_true⟩)
def tP(t:Nd):Bool :=
 if dF t.kind then ej t.text
 else if t.kind=23 then decide (t.text=⟨#[45]⟩) || decide (t.text=⟨#[33]⟩)
 else if ¬t.kind=24 then decide (t.text=⟨#[]⟩)
 else lg wO t.text
theorem ams(l:List ByteArray)(s:ByteArray)(h:lg l ⟨#[]⟩=false):pB l s=lg l s:=by
 unfold pB
 by_cases e:s=⟨#[]⟩
 ·rw[e,h];simp
 ·simp[e]
def Hp(t:Nd):Bool:=(jL t.kind).isSome && iG t && ((jW t.kind).2 || decide (t.kids.length=(jW t.kind).1.length))
def yT(k:Int):Bool:=(decide (k≥1) && decide (k≤12)) || iE k
def Za(k n:Int):Bool:=decide (n=0) || (decide (k=20) && decide (n > 0)) || (decide (k=21) && decide (n=1))
def nD(t:Nd):Bool:=yT t.kind && Za t.kind t.num && tP t && (decide (gu t.kind<0) || decide ((t.kids.length:Int)=gu t.kind))
theorem Da(t:Nd):Hp t=nD t:=by
 obtain ⟨k,s,n,l⟩:=t
 unfold Hp nD
 simp only[Nd.kind,Nd.kids,Nd.num]
 rcases ru k with ⟨h,hn⟩ | h
 ·have g:∀m:Int,m∈gr.map (·.1)→k≠m:=fun m hm=>by
   obtain ⟨x,hx,rfl⟩:=List.mem_map.1 hm
   exact hn x hx
  have e:yT k=false:=by
   have g1:=fun m (hm:m∈gr.map (·.1))=>g m hm
   simp only[gr,List.map_cons,List.map_nil] at g1
   have:=g1 1 (by decide);have:=g1 2 (by decide);have:=g1 3 (by decide);have:=g1 4 (by decide);have:=g1 5 (by decide);have:=g1 6 (by decide);have:=g1 7 (by decide);have:=g1 8 (by decide);have:=g1 9 (by decide);have:=g1 10 (by decide);have:=g1 11 (by decide);have:=g1 12 (by decide);have:=g1 20 (by decide);have:=g1 21 (by decide);have:=g1 22 (by decide);have:=g1 23 (by decide);have:=g1 24 (by decide);have:=g1 25 (by decide);have:=g1 26 (by decide);have:=g1 27 (by decide);have:=g1 28 (by decide);have:=g1 29 (by decide)
   unfold yT iE
   rw[←Bool.not_eq_true]
   simp
   omega
  rw[h,e]
  simp
 ·simp only[gr,List.map_cons,List.map_nil,List.mem_cons,List.not_mem_nil,or_false] at h
  have q1:decide ((l.length:Int)=1)=decide (l.length=1):=by rw[Bool.eq_iff_iff];simp;omega
  have q2:decide ((l.length:Int)=2)=decide (l.length=2):=by rw[Bool.eq_iff_iff];simp;omega
  have q3:decide ((l.length:Int)=3)=decide (l.length=3):=by rw[Bool.eq_iff_iff];simp;omega
  have q0:(decide (n=0) || decide (0<n))=decide (0≤n):=by rw[Bool.eq_iff_iff];simp;omega
  have e1:=ams Au s (by decide +kernel)
  have e2:=ams wO s (by decide +kernel)
  have e3:lg Au s=(decide (s=⟨#[45]⟩) || decide (s=⟨#[33]⟩)):=by
   simp[lg,Au,eq_comm]
  rw[e3] at e1
  rcases h with rfl | rfl | rfl | rfl | rfl | rfl | rfl | rfl | rfl | rfl | rfl | rfl | rfl | rfl | rfl | rfl | rfl | rfl | rfl | rfl | rfl | rfl<;>simp[jW,jL,gr,iz,yT,iE,Za,gu,iG,tP,Nd.kind,Nd.text,Nd.num,dF,e1,e2]
  all_goals first
   | (simp only[q1,q2,q3];done)
   | rfl
   | (simp only[q0];ac_rfl)
   | (simp only[q1,q2,q3];rfl)
   | ac_rfl
theorem Over.len{H G:Y}(h:Over H G):H.length≤G.length:=by
 obtain ⟨A,rfl⟩:=h.split
 simp
theorem Over.find{H G:Y}(h:Over H G){i:Nat}(hi:i<H.length):Y.find G i=Y.find H i:=by
 obtain ⟨A,rfl⟩:=h.split
 exact Y.bx hi
theorem Over.trans{A B C:Y}(h:Over A B)(k:Over B C):Over A C:=by
 induction k with
 | refl=>exact h
 | cons _ ih=>exact .cons ih
theorem Nd.kR(l:List Nd):l.length≤Nd.aw l:=by
 induction l with
 | nil=>simp[Nd.aw]
 | cons x r ih=>have:=x.size_pos;simp only[List.length_cons,Nd.aw];omega
theorem Nd.TM(t:Nd):t.kids.length<t.size:=by
 have:=Nd.kR t.kids
 rw[Nd.size_eq]
 omega
def u9(k:Int)(l:List Nd):Bool:=!decide (k=7) || !decide ((au l 0).kind=26) || decide ((au (au l 0).kids 0).kind=22)
mutual
def bU:Nd→Nat→Bool
 | ⟨k,s,n,l⟩,m=>decide (1≤m) && nD ⟨k,s,n,l⟩ && kS k l 0 (m - 1) && u9 k l
def kS:Int→List Nd→Nat→Nat→Bool
 | _,[],_,_=>true
 | p,t::r,a,m=>eO p t.kind a && bU t m && kS p r (a+1) m
end
theorem je(t:Nd)(m:Nat):bU t m=(decide (1≤m) && nD t && kS t.kind t.kids 0 (m - 1) && u9 t.kind t.kids):=by
 cases t
 simp only[bU,Nd.kind,Nd.kids]
theorem lh(p:Int)(m:Nat):∀(l:List Nd)(a:Nat),kS p l a m=true↔∀j,j<l.length→eO p (au l j).kind (a+j:Nat)=true∧bU (au l j) m=true
 | [],a=>by simp[kS]
 | t::r,a=>by
  have ih:=lh p m r (a+1)
  simp only[kS,Bool.and_eq_true,ih]
  constructor
  ·rintro ⟨⟨h1,h2⟩,h3⟩ j hj
   cases j with
   | zero=>exact ⟨h1,h2⟩
   | succ j =>
    have:=h3 j (by simpa using hj)
    rw[show a+(j+1)=a+1+j by omega]
    simpa [au] using this
  ·intro h
   refine ⟨h 0 (by simp),fun j hj=>?_⟩
   have:=h (j+1) (by simpa using hj)
   rw[show a+(j+1)=a+1+j by omega] at this
   simpa [au] using this
theorem Db{p:Int}{l:List Nd}{m k:Nat}(hk:k<l.length)(h:eO p (au l k).kind k=false∨bU (au l k) m=false):kS p l 0 m=false:=by
 cases e:kS p l 0 m
 ·rfl
 ·have:=(lh p m l 0).1 e k hk
  rw[Nat.zero_add] at this
  rcases h with h | h
  ·rw[h] at this;exact absurd this.1 (by simp)
  ·rw[h] at this;exact absurd this.2 (by simp)
theorem Po{p:Int}{l:List Nd}{m k:Nat}(hk:¬k<l.length)(h:∀j,j<k→eO p (au l j).kind j=true∧bU (au l j) m=true):kS p l 0 m=true :=
 (lh p m l 0).2 fun j hj=>by rw[Nat.zero_add];exact h j (by omega)
theorem TN{t:Nd}(hk:t.kind=7)(h:nD t=true):t.kids.length=2:=by
 simp only[nD,hk,Bool.and_eq_true] at h
 have:=h.2
 simp[gu] at this
 omega
theorem KP{t:Nd}{m:Nat}(hk:t.kind=26)(h:bU t m=true):t.kids.length=2:=by
 rw[je] at h
 simp only[Bool.and_eq_true] at h
 have h:=h.1.1.2
 simp only[nD,hk,Bool.and_eq_true] at h
 have:=h.2
 simp[gu] at this
 omega
theorem Pp{k:Int}(h:eO 7 k 0=true):k=22∨k=26:=by
 simp[eO,gu] at h
 omega
set_option maxHeartbeats 0 in
theorem Pq(t:Nd):∀(ro:Option (List Z))(m:Nat)(d:Int)(hd:d=41 - m)(ac5:m≤41)(hz:t.size≤1000000)(id:Nat)(H:Y)(hf:Y.find H id=some ⟨1,[.fn (.func 68) [] [.ptr 1 id 0 0]],true,113⟩),D Tryz.prog 68 [eG t ro,.sc (.int .i64 d),.ptr 1 id 0 0] H (.ret (.sc (.bool (bU t m)))) H:=by
 induction t using Nd.ind with
 | _ t ih =>
  intro ro m d hd ac5 hz id H hf
  have Ca:=Nd.TM t
  have hid:id<H.length:=Y.am hf
  have cl:bA Tryz.prog 68=true:=by kernel_rfl
  have hP:=je t m
  rw[←Da] at hP
  unfold Hp at hP
  have FZ:∀H,D Tryz.prog 70 [.agg [.sc (.int .u8 t.kind),.sc (.string t.text),.sc (.int .i64 t.num),.ak 4 (bM t.kids) ro]] H (.ret (.sc (.bool (iG t)))) H:=fun H=>XG t ro H
  have jV:∀h:t.kind=7,nD t=true→t.kids.length=2:=fun h h2=>TN h h2
  have hls:Hp t=nD t:=Da t
  unfold Hp at hls
  refine aF (Nat.le_refl _) (acW (aE ?_))
  simp only[Y1,ux]
  rw[aH]
  have hr:=MK t.kind
  unfold G5 at hr
  have hall:=C5 (p:=t.kind)
  generalize (jL t.kind).isSome=s at *
  obtain ⟨l,b,hG⟩:∃l b,jW t.kind=(l,b):=⟨_,_,rfl⟩
  rw[hG] at hr hP hall hls
  simp only at hr hP hall hls
  obtain ⟨k1,k2,k3,k4,k5,k6⟩:=G8 l
  have ke:∀H F:Y,Over H F→bU t m=false→eJ H (.ret (.sc (.bool false))) F (.ret (.sc (.bool (bU t m)))) H:=fun H F h e=>by rw[e];exact cy h
  refine ae fun L hL=>?_
  refine ax ?_
  refine hL _ _ ?_
  clear hL
  refine ae fun L hL=>?_
  refine ax ?_
  refine af (hr _) ?_
  simp -implicitDefEqProofs (maxSteps:=99999999) (disch:=first | omega | (simp only[vl];first | done | omega)) only[vu,k3,k4,k5,k6,va,vg,vs,vw,vk,simprocAttr]
  refine hL _ _ ?_
  clear hL
  refine ae fun L hL=>?_
  cases s
  ·refine ax ?_
   exact ke _ _ (.cons (.cons .refl)) (by rw[hP];simp)
  by_cases c1:d > 40
  ·refine de c1 ?_
   exact ke _ _ (.cons (.cons .refl)) (by rw[hP];simp;omega)
  refine de c1 ?_
  refine af (FZ _) ?_
  cases hs:iG t
  ·refine ax ?_
   exact ke _ _ (.cons (.cons .refl)) (by rw[hP];simp[hs])
  by_cases c2:b=false∧¬t.kids.length=l.length
  ·obtain ⟨rfl,c2⟩:=c2
   have c3:¬(t.kids.length:Int)=l.length:=by omega
   simp -implicitDefEqProofs (maxSteps:=99999999) (disch:=first | omega | (simp only[vl];first | done | omega)) only[vu,c3,k1,k2,k3,k4,k5,k6,aL,va,vg,vs,vw,vk,simprocAttr]
   exact ke _ _ (.cons (.cons .refl)) (by rw[hP];simp[c2])
  have hlq:nD t=true:=by
   rw[←hls,hs]
   cases b
   ·simp only[Bool.true_and,Bool.false_or,decide_eq_true_eq]
    exact Decidable.byContradiction fun h=>c2 ⟨rfl,h⟩
   ·rfl
  have hm:1≤m:=by omega
  have TQ:bU t m=(kS t.kind t.kids 0 (m - 1) && u9 t.kind t.kids):=by
   rw[je,hlq]
   simp[hm]
  clear hP
  suffices key:∀ts,Fr [none,some (.sc (.int .i64 d)),some (.ptr 1 id 0 0),some (.ptr 4 H.length 0 0),none,some (.sc (.bool false)),none,none,none,none,none,none,none,none,none,none,none,none,none,none,none,none,none,none,none,none,none,none,none,none,none,none,none,none,none,none,none,none,none,none,none,none,none,none,none,none,none,none,none,none,none,none,none,none,none,none,none,none,none,none,none,none,none,none,none,none,none,none,none,none,none,none,none,none,none,none,none,none,none,none,none,none,none,none,none,none,none] ts→L ts (some ⟨2,[.agg [uW l,.sc (.bool b)]],true,116⟩::some ⟨4,[.agg [.sc (.int .u8 t.kind),.sc (.string t.text),.sc (.int .i64 t.num),.ak 4 (bM t.kids) ro]],true,25⟩::H) by
   cases b
   ·have c3:t.kids.length=l.length:=Decidable.byContradiction fun h=>c2 ⟨rfl,h⟩
    have c4:(t.kids.length:Int)=l.length:=by omega
    simp -implicitDefEqProofs (maxSteps:=99999999) (disch:=first | omega | (simp only[vl];first | done | omega)) only[vu,c4,k1,k2,k3,k4,k5,k6,aL,va,vg,vs,vw,vk,simprocAttr]
    exact key _ (by simp[Fr])
   ·simp -implicitDefEqProofs (maxSteps:=99999999) (disch:=first | omega | (simp only[vl];first | done | omega)) only[vu,k1,k2,k3,k4,k5,k6,aL,va,vg,vs,vw,vk,simprocAttr]
    exact key _ (by simp[Fr])
  intro ts cv
  obtain ⟨js,rfl⟩:=cv.opened
  clear cv
  refine hL _ _ ?_
  clear hL
  refine ae fun L hL=>?_
  refine Ak @aL ?_
  have hnone:eG=fun t ro=>Z.agg [.sc (.int .u8 t.kind),.sc (.string t.text),.sc (.int .i64 t.num),.ak 4 (bM t.kids) ro]:=rfl
  refine cO (fun ts F=>∃k:Nat,(k≤t.kids.length∧∀j,j<k→eO t.kind (au t.kids j).kind j=true∧bU (au t.kids j) (m - 1)=true)∧(Over H F∧H.length<F.length∧Y.find F H.length=some ⟨4,[.agg [.sc (.int .u8 t.kind),.sc (.string t.text),.sc (.int .i64 t.num),.ak 4 (bM t.kids) ro]],true,25⟩∧Y.find F id=some ⟨1,[.fn (.func 68) [] [.ptr 1 id 0 0]],true,113⟩)∧Fr [none,some (.sc (.int .i64 d)),some (.ptr 1 id 0 0),some (.ptr 4 H.length 0 0),none,some (.sc (.bool false)),none,none,none,none,none,none,none,none,none,none,none,none,none,none,none,none,none,none,none,none,none,none,none,none,none,none,none,none,none,none,none,none,none,none,none,none,some (.ak 4 (bM t.kids) ro),some (.sc (.int .i64 t.kids.length)),some (.sc (.int .i64 k)),none,none,none,none,none,none,none,none,none,none,none,none,none,none,none,none,none,none,none,none,none,none,none,none,none,none,none,none,none,none,none,none,none,none,none,none,none,none,none,none,none,none] ts) (fun ts _=>t.kids.length - (bL (ts.getD 44 .top)).toNat) ?_ ?_
  ·refine ⟨0,⟨Nat.zero_le _,fun j h=>absurd h (Nat.not_lt_zero _)⟩,⟨.cons (.cons .refl),by simp only[List.length_cons];omega,?_,?_⟩,by simp[Fr]⟩
   ·rw[ai (by simp),aN rfl]
   ·rw[ai (by simp;omega),ai hid,hf]
  rintro ts F ⟨k,⟨hk,hp⟩,⟨f1,f2,f3,f4⟩,cv⟩ L2 dY
  obtain ⟨js,rfl⟩:=cv.opened
  clear cv
  by_cases TR:k<t.kids.length
  ·have d1:(k:Int)<t.kids.length:=by omega
   have hg:=eK TR
   have fM:=eF TR
   refine KG d1 hg f3 f4 @aL ?_
   refine ⟨by omega,af (XD _ _ _ _) ?_⟩
   rw[KI]
   cases e1:eO t.kind (au t.kids k).kind k
   ·refine ax ?_
    exact ke _ _ (.cons f1) (by rw[TQ,Db TR (.inl e1)];rfl)
   refine fE f3 f4 ?_
   refine ⟨cl,af (ih _ fM none (m - 1) _ (by omega) (by omega) (by have:=Nd.pz fM;omega) id _ (by rw[ai (by omega),f4])) ?_⟩
   cases e2:bU (au t.kids k) (m - 1)
   ·refine ax ?_
    exact ke _ _ (.cons f1) (by rw[TQ,Db TR (.inr e2)];rfl)
   refine ax ?_
   refine dY _ _ ⟨k+1,⟨by omega,fun j hj=>?_⟩,⟨.cons f1,by simp;omega,by rw[ai (by omega),f3],by rw[ai (by omega),f4]⟩,by simp[Fr]⟩ (by simp[bL,mk];omega)
   rcases Nat.lt_succ_iff_lt_or_eq.1 hj with h' | rfl
   ·exact hp j h'
   ·exact ⟨e1,e2⟩
  ·have d1:¬(k:Int)<t.kids.length:=by omega
   have hR:=Po TR hp
   refine KF d1 f3 ?_
   refine hL _ _ ?_
   clear hL
   by_cases g7:t.kind=7
   ·have h2:=jV g7 hlq
    have fB:¬k<2:=by omega
    have Pr:=eK (l:=t.kids) (k:=0) (by omega)
    have sE:=hp 0 (by omega)
    rw[g7] at sE
    have h0:(0:Int)<(2:Nat):=by omega
    by_cases g22:(au t.kids 0).kind=22
    ·rw[g22] at Pr
     refine zB6 f3 g7 Pr @aL h2 h0 ?_
     exact az f1 (by rw[TQ,hR,g7];simp[u9,g22])
    ·have g26:(au t.kids 0).kind=26:=by
      rcases Pp sE.1 with h | h
      ·exact absurd h g22
      ·exact h
     have i2:=KP g26 sE.2
     have hg1:=eK (l:=(au t.kids 0).kids) (k:=0) (by omega)
     rw[g26] at Pr
     refine zB8 f3 g7 Pr hg1 @aL h2 i2 h0 ?_
     exact az f1 (by rw[TQ,hR,g7];simp[u9,g26])
   ·refine fE f3 g7 ?_
    exact az f1 (by rw[TQ,hR];simp[u9,g7])
theorem Dc(t:Nd)(ro:Option (List Z))(hz:t.size≤1000000)(H:Y):D Tryz.prog 40 [eG t ro] H (.ret (.sc (.bool (bU t 40)))) H:=by
 have cl:bA Tryz.prog 68=true:=by kernel_rfl
 have hr:=Pq t ro 40 1 rfl (by omega) hz
 rw[aH] at hr ⊢
 refine aF (Nat.le_refl _) (acV (aE ?_))
 simp only[Y0,ux]
 refine ae fun L hL=>?_
 refine ax ?_
 refine hL _ _ ?_
 clear hL
 refine ae fun L hL=>?_
 refine ax ?_
 refine hL _ _ ?_
 clear hL
 refine ae fun L hL=>?_
 simp -implicitDefEqProofs (maxSteps:=99999999) (disch:=first | omega | (simp only[vl];first | done | omega)) only[vu,cl,va,vg,vs,vw,vk,simprocAttr]
 refine hL _ _ ?_
 clear hL
 refine ae fun L hL=>?_
 refine ax ?_
 refine ⟨cl,af (hr (H.length+1) _ (aN (by simp))) ?_⟩
 refine ax ?_
 refine hL _ _ ?_
 clear hL
 refine ax ?_
 exact az (.cons (.cons .refl)) rfl
section
variable {α:Type}
def mE(f:α→Z)(M:List (ByteArray×α)):List Z:=M.map fun p=>.aK [.sc (.string p.1),f p.2]
theorem Av(f:α→Z)(M:List (ByteArray×α)):(mE f M).length=M.length:=by simp[mE]
theorem abr(f:α→Z)(M:List (ByteArray×α)):ef none (mE f M):=fun x hx=>by
 obtain ⟨p,_,rfl⟩:=List.mem_map.1 hx
 rfl
theorem XH(f:α→Z)(M:List (ByteArray×α)):ef none (mE f M)=True:=by simp[abr]
def Hq(k:ByteArray):List (ByteArray×α)→Nat
 | []=>0
 | p::r=>if k=p.1 then 0 else Hq k r+1
def bX(k:ByteArray):List (ByteArray×α)→Option α
 | []=>none
 | p::r=>if k=p.1 then some p.2 else bX k r
def dV(k:ByteArray)(a:α):List (ByteArray×α)→List (ByteArray×α)
 | []=>[(k,a)]
 | p::r=>if k=p.1 then (k,a)::r else p::dV k a r
theorem Aw{f:α→Z}{k:ByteArray}:∀{M:List (ByteArray×α)},dU (.string k) (mE f M)=Hq k M
 | []=>rfl
 | p::r=>by
  show (if o8 _ _=true then 0 else dU _ (mE f r)+1)=_
  rw[Aw (M:=r)]
  simp[o8,lD,Hq]
theorem Hr{f:α→Z}{k:ByteArray}{z:Z}:∀{M:List (ByteArray×α)},k8 (.string k) z (mE f M)=((bX k M).map f).getD z
 | []=>rfl
 | p::r=>by
  have ih:=Hr (f:=f) (k:=k) (z:=z) (M:=r)
  unfold k8 at ih ⊢
  rw[Aw,Av] at ih ⊢
  unfold Hq bX
  by_cases h:k=p.1
  ·simp[h,mE,QX]
  ·simp only[if_neg h,List.length_cons,Nat.add_lt_add_iff_right] at ih ⊢
   rw[←ih]
   rfl
theorem Ht{f:α→Z}{k:ByteArray}{a:α}:∀{M:List (ByteArray×α)},nu (.string k) (f a) (mE f M)=mE f (dV k a M)
 | []=>rfl
 | p::r=>by
  have ih:=Ht (f:=f) (k:=k) (a:=a) (M:=r)
  unfold nu at ih ⊢
  rw[Aw,Av] at ih ⊢
  unfold Hq dV
  by_cases h:k=p.1
  ·simp[h,mE]
  ·simp only[if_neg h,List.length_cons,Nat.add_lt_add_iff_right]
   split
   ·rename_i hlt
    rw[if_pos hlt] at ih
    show _::(mE f r).set _ _=_::mE f _
    rw[←ih]
   ·rename_i hlt
    rw[if_neg hlt] at ih
    show _::(mE f r++_)=_::mE f _
    rw[←ih]
theorem gj{k k':ByteArray}{a:α}:∀{M:List (ByteArray×α)},bX k' (dV k a M)=if k'=k then some a else bX k' M
 | []=>by by_cases h:k'=k<;>simp[dV,bX,h]
 | p::r=>by
  have ih:=gj (k:=k) (k':=k') (a:=a) (M:=r)
  unfold dV
  by_cases h:k=p.1
  ·by_cases h2:k'=k
   ·simp[h,bX,h2]
   ·have h3:¬k'=p.1:=fun e=>h2 (e.trans h.symm)
    simp[h,bX,h2,h3,if_neg]
  ·rw[if_neg h]
   by_cases h2:k'=p.1
   ·have h3:¬k'=k:=fun e=>h (e.symm.trans h2)
    simp only[bX,if_pos h2,if_neg h3]
   ·simp only[bX,if_neg h2,ih]
end
structure Bd where
 path:List Int
 name:ByteArray
 ct:List (List Int)
 many:Int
def Bd.none:Bd:=⟨[],⟨#[]⟩,[],0⟩
def aR(bs:List Bd)(i:Nat):Bd:=bs.getD i Bd.none
abbrev aO:=List (ByteArray×Nat)
structure WS where
 bs:List Bd
 all:List Nat
 at_:Nat
abbrev fJ:=Int×Nat
def cK(env:List aO)(ws:WS)(s:ByteArray)(p:List Int)(at_:Nat):Except fJ (List aO×WS) :=
 match bX s (env.headD []) with
 | some _=>.error (110,at_)
 | none=>.ok (dV s ws.bs.length (env.headD [])::env.tail,{ ws with bs:=ws.bs++[⟨p,s,[],0⟩],all:=ws.all++[ws.bs.length] })
def bR:List aO→ByteArray→Option Nat
 | [],_=>none
 | f::r,x=>match bX x f with
  | some i=>some i
  | none=>bR r x
def gS(env:List aO)(ws:WS)(k:Int)(s:ByteArray)(n:Nat)(p:List Int)(at_:Nat):Except fJ WS :=
 match bR env s with
 | none=>.error (111,at_)
 | some i=>if k=25∧¬(aR ws.bs i).many=n then .error (112,at_) else .ok { ws with bs:=ws.bs.set i { aR ws.bs i with ct:=(aR ws.bs i).ct++[p] } }
mutual
def bw(fu:aO):Nd→List aO→WS→List Int→Except fJ (List aO×WS)
 | ⟨k,s,_,l⟩,env,ws,p =>
  if k=2 then
   match bo fu l ([]::env) { ws with at_:=ws.at_+1,all:=ws.all++[(bX s fu).getD 0] } p 0 with
   | .error e=>.error e
   | .ok r=>.ok (env,r.2)
  else if k=4 then
   match cK env { ws with at_:=ws.at_+1 } s p ws.at_ with
   | .error e=>.error e
   | .ok r=>bo fu l r.1 r.2 p 0
  else if k=5 then
   match bo fu l ([]::env) { ws with at_:=ws.at_+1 } p 0 with
   | .error e=>.error e
   | .ok r=>.ok (env,r.2)
  else if k=6 then
   if (bX s (env.headD [])).isSome=true then .error (110,ws.at_)
   else match bo fu l env { ws with at_:=ws.at_+1 } p 0 with
    | .error e=>.error e
    | .ok r=>cK r.1 r.2 s p ws.at_
  else if k=22 then
   match gS env { ws with at_:=ws.at_+1 } k s l.length p ws.at_ with
   | .error e=>.error e
   | .ok w=>bo fu l env w p 0
  else if k=25 then
   match gS [fu] { ws with at_:=ws.at_+1 } k s l.length p ws.at_ with
   | .error e=>.error e
   | .ok w=>bo fu l env w p 0
  else bo fu l env { ws with at_:=ws.at_+1 } p 0
def bo(fu:aO):List Nd→List aO→WS→List Int→Nat→Except fJ (List aO×WS)
 | [],env,ws,_,_=>.ok (env,ws)
 | t::r,env,ws,p,i =>
  match bw fu t env ws (p++[(i:Int)]) with
  | .error e=>.error e
  | .ok q=>bo fu r q.1 q.2 p (i+1)
end
def eQ:List Nd→Nat→aO→WS→Nat→Except fJ (aO×WS)
 | [],_,fu,ws,_=>.ok (fu,ws)
 | f::r,k,fu,ws,at_ =>
  match cK [fu] ws f.text [(k:Int)] at_ with
  | .error e=>.error e
  | .ok q=>eQ r (k+1) (q.1.headD []) { q.2 with bs:=q.2.bs.set ws.bs.length { aR q.2.bs ws.bs.length with many:=(au f.kids 0).kids.length } } (at_+f.size)
def iI(n:Nd):Except fJ WS :=
 match eQ n.kids 0 [] ⟨[],[],0⟩ 1 with
 | .error e=>.error e
 | .ok q=>match bw q.1 n [[]] { q.2 with all:=[] } [] with
  | .error e=>.error e
  | .ok r=>.ok r.2
def fT(n:Nd):fJ:=if n.kind=1∧bU n 40=true then (match iI n with
 | .error e=>e
 | .ok _=>(0,0)) else (4,0)
abbrev gv:=List Int×ByteArray×List (List Int)
def aI(n:Nd):List gv:=if (fT n).1=0 then (match iI n with
 | .error _=>[]
 | .ok ws=>ws.all.map fun j=>((aR ws.bs j).path,(aR ws.bs j).name,(aR ws.bs j).ct)) else []
structure Pl where
 n:Nd
 p:List Int
mutual
def aM:Nd→List Int→List Pl
 | ⟨k,s,m,l⟩,p=>⟨⟨k,s,m,l⟩,p⟩::bN l p 0
def bN:List Nd→List Int→Nat→List Pl
 | [],_,_=>[]
 | t::r,p,i=>aM t (p++[(i:Int)])++bN r p (i+1)
end
theorem bZ(t:Nd)(p:List Int):aM t p=⟨t,p⟩::bN t.kids p 0:=by cases t;simp[aM,Nd.kids]
def nE(p w:List Int):Bool:=decide (w.length≤p.length) && decide (p.take w.length=w)
def dt(b:Pl)(q:List Int):Bool:=if b.n.kind=4 then nE q (b.p.take (b.p.length - 2)++[1]) else decide (b.p.length≤q.length) && (nE q (b.p.take (b.p.length - 1)) && decide (q.getD (b.p.length - 1) 0 > b.p.getD (b.p.length - 1) 0))
def fZ(b:Pl):Bool:=decide (b.n.kind=4) || decide (b.n.kind=6)
def gA(b:Pl):Bool:=decide (b.n.kind=22) || decide (b.n.kind=25)
def kx(x:ByteArray)(q:List Int):List Pl→Nat→Int→Int
 | [],_,f=>f
 | b::r,i,f=>kx x q r (i+1) (if b.n.text=x∧fZ b=true∧dt b q=true then i else f)
def jS(x:ByteArray):List Pl→Nat→Int→Int
 | [],_,f=>f
 | b::r,i,f=>jS x r (i+1) (if b.n.text=x∧b.n.kind=2∧f<0 then i else f)
def cL(l:List Pl)(u:Pl):Int:=if u.n.kind=25 then jS u.n.text l 0 (-1) else kx u.n.text u.p l 0 (-1)
def aA(l:List Pl)(i:Nat):Pl:=l.getD i ⟨Nd.none,[]⟩
def twin(a b:Pl):Bool:=decide (a.n.kind=b.n.kind) && (decide (a.n.text=b.n.text) && (decide (a.p.length=b.p.length) && nE a.p (b.p.take (b.p.length - 1))))
def eg(l:List Pl)(i:Nat):Bool:=(l.take i).any fun a=>twin a (aA l i)
def dH(l:List Pl)(i:Nat):Option fJ:=if (aA l i).n.kind=2∧eg l i=true then some (110,i) else none
def b9(l:List Pl)(i:Nat):Option fJ :=
 if fZ (aA l i)=true∧eg l i=true then some (110,i)
 else if gA (aA l i)=false then none
 else if cL l (aA l i)<0 then some (111,i)
 else if (aA l i).n.kind=25∧¬(au (aA l (cL l (aA l i)).toNat).n.kids 0).kids.length=(aA l i).n.kids.length then some (112,i)
 else none
def fU(g:Nat→Option fJ):Nat→Nat→Option fJ
 | 0,_=>none
 | n+1,i=>match g i with
  | some e=>some e
  | none=>fU g n (i+1)
def kU(l:List Pl):fJ:=match fU (dH l) l.length 0 with
 | some e=>e
 | none=>match fU (b9 l) l.length 0 with
  | some e=>e
  | none=>(0,0)
def jb(n:Nd):fJ:=if n.kind=1∧bU n 40=true then kU (aM n []) else (4,0)
def eR(b:Pl):Bool:=decide (b.n.kind=2) || (decide (b.n.kind=4) || decide (b.n.kind=6))
def ez(l pre:List Pl)(i:Nat):List (List Int):=(pre.filter fun u=>gA u && decide (cL l u=(i:Int))).map (·.p)
def eS(n:Nd):List gv:=if (jb n).1=0 then ((List.range (aM n []).length).filter fun i=>eR (aA (aM n []) i)).map fun i=>((aA (aM n []) i).p,(aA (aM n []) i).n.text,ez (aM n []) (aM n []) i) else []
theorem il{q w:List Int}:nE q w=true↔w <+: q:=by
 unfold nE
 simp only[Bool.and_eq_true,decide_eq_true_eq]
 constructor
 ·rintro ⟨_,h⟩
  rw[←h]
  exact List.take_prefix _ _
 ·rintro ⟨s,rfl⟩
  exact ⟨by simp,by simp⟩
theorem lj{p s s':List Int}{j k:Int}(h:p++[j]++s=p++[k]++s'):j=k∧s=s':=by
 simp only[List.append_assoc,List.append_cancel_left_eq,List.singleton_append,List.cons.injEq] at h
 exact h
theorem Dd{p w s':List Int}{j k:Int}(h:p++[j]++w <+: p++[k]++s'):j=k:=by
 obtain ⟨z,hz⟩:=h
 rw[List.append_assoc (p++[j])] at hz
 exact (lj hz).1
theorem mu{b:Pl}{p q s s':List Int}{j k:Int}(hb:b.p=p++[j]++s)(hq:q=p++[k]++s')(hne:j≠k)(hs:s≠[])(h4:b.n.kind=4→2≤s.length):dt b q=false:=by
 cases hr:dt b q with
 | false=>rfl
 | true =>
  exfalso
  have hl:0<s.length:=List.length_pos_iff.2 hs
  unfold dt at hr
  split at hr
  ·rename_i hk
   have h2:=h4 hk
   rw[il,hb,hq] at hr
   have e:(p++[j]++s).take ((p++[j]++s).length - 2)=p++[j]++s.take (s.length - 2):=by
    rw[List.take_append,List.take_of_length_le (by simp;omega)]
    congr 2
    simp
    omega
   rw[e,List.append_assoc (p++[j])] at hr
   exact hne (Dd hr)
  ·simp only[Bool.and_eq_true] at hr
   have h2:=hr.2.1
   rw[il,hb,hq] at h2
   have e:(p++[j]++s).take ((p++[j]++s).length - 1)=p++[j]++s.take (s.length - 1):=by
    rw[List.take_append,List.take_of_length_le (by simp;omega)]
    congr 2
    simp
    omega
   rw[e] at h2
   exact hne (Dd h2)
theorem tQ{b:Pl}{p q s':List Int}{j k:Int}(hb:b.p=p++[j])(hq:q=p++[k]++s')(h4:¬b.n.kind=4):dt b q=decide (j<k):=by
 unfold dt
 rw[if_neg h4,hb,hq]
 have e1:(p++[j]).length - 1=p.length:=by simp
 rw[e1]
 have e2:(p++[j]).take p.length=p:=by simp
 rw[e2]
 have e3:nE (p++[k]++s') p=true:=il.2 ⟨[k]++s',by simp⟩
 rw[e3]
 have e4:(p++[k]++s').getD p.length 0=k:=by simp[List.getD]
 have e5:(p++[j]).getD p.length 0=j:=by simp[List.getD]
 rw[e4,e5]
 simp
theorem Hu{b:Pl}{f s:List Int}{j:Int}(hb:b.p=f++[j])(h4:¬b.n.kind=4):dt b (b.p++s)=false:=by
 rw[tQ (p:=f) (j:=j) (k:=j) (s':=s) hb (by rw[hb]) h4]
 simp
theorem KQ{b:Pl}{f q s:List Int}{i:Int}(hb:b.p=f++[0]++[i])(hq:q=f++[1]++s)(h4:b.n.kind=4):dt b q=true:=by
 unfold dt
 rw[if_pos h4,il,hb,hq]
 have e:(f++[0]++[i]).take ((f++[0]++[i]).length - 2)=f:=by simp
 rw[e]
 exact ⟨s,rfl⟩
theorem dN:∀(l:List Nd)(p:List Int)(i:Nat)(b:Pl),b∈bN l p i→∃(j:Nat)(t:Nd),(i≤j∧l[j - i]? = some t)∧b∈aM t (p++[(j:Int)])
 | [],_,_,b,h=>by simp[bN] at h
 | t::r,p,i,b,h=>by
  simp only[bN,List.mem_append] at h
  rcases h with h | h
  ·exact ⟨i,t,⟨Nat.le_refl _,by simp⟩,h⟩
  ·obtain ⟨j,u,⟨h1,h2⟩,h3⟩:=dN r p (i+1) b h
   refine ⟨j,u,⟨by omega,?_⟩,h3⟩
   rw[show j - i=(j - (i+1))+1 by omega,List.getElem?_cons_succ]
   exact h2
theorem lm(t:Nd):∀(p:List Int)(b:Pl),b∈aM t p→(b=⟨t,p⟩∨∃j s,b.p=p++[j]++s):=by
 induction t using Nd.ind with
 | _ t ih =>
  intro p b hb
  rw[bZ] at hb
  rcases List.mem_cons.1 hb with rfl | hb
  ·exact .inl rfl
  ·obtain ⟨j,u,⟨h1,h2⟩,h3⟩:=dN _ _ _ _ hb
   rcases ih u (List.mem_of_getElem? h2) _ b h3 with rfl | ⟨j',s,h⟩
   ·exact .inr ⟨j,[],by simp⟩
   ·exact .inr ⟨j,[j']++s,by rw[h];simp⟩
theorem e8(t:Nd):∀p,(aM t p).length=t.size:=by
 induction t using Nd.ind with
 | _ t ih =>
  intro p
  rw[bZ,Nd.size_eq]
  have key:∀(l:List Nd),(∀k∈l,∀p,(aM k p).length=k.size)→∀p i,(bN l p i).length=Nd.aw l:=by
   intro l
   induction l with
   | nil=>intro _ p i;rfl
   | cons x r fA =>
    intro h p i
    simp only[bN,List.length_append,Nd.aw,h x (by simp),fA (fun k hk=>h k (by simp[hk]))]
  simp only[List.length_cons,key _ ih]
  omega
theorem nF(l:List Nd)(p:List Int)(i:Nat):(bN l p i).length=Nd.aw l:=by
 induction l generalizing i with
 | nil=>rfl
 | cons x r ih=>simp only[bN,List.length_append,Nd.aw,e8,ih]
theorem eB{x:ByteArray}{q:List Int}:∀(a b:List Pl)(i:Nat)(f:Int),kx x q (a++b) i f=kx x q b (i+a.length) (kx x q a i f)
 | [],b,i,f=>by simp[kx]
 | c::a,b,i,f=>by
  simp only[List.cons_append,kx,List.length_cons]
  rw[eB a b]
  congr 1
  omega
theorem yU{x:ByteArray}{q:List Int}:∀(a:List Pl)(i:Nat)(f:Int),(∀b∈a,fZ b=true→dt b q=false)→kx x q a i f=f
 | [],_,_,_=>rfl
 | b::a,i,f,h=>by
  have:¬(b.n.text=x∧fZ b=true∧dt b q=true):=fun ⟨_,h1,h2⟩=>by
   rw[h b (by simp) h1] at h2
   cases h2
  simp only[kx,if_neg this]
  exact yU a (i+1) f fun c hc=>h c (by simp[hc])
inductive mU:Nd→Prop where
 | mk {t:Nd}(h1:t.kind=5∨6≤t.kind)(h2:t.kind≠5→∀k∈t.kids,¬k.kind=6)(h3:t.kind=22→t.kids=[])(h5:t.kind=6→∀p i,∀b∈bN t.kids p i,eR b=false)(h4:∀k∈t.kids,mU k):mU t
theorem mU.kind{t:Nd}(h:mU t):t.kind=5∨6≤t.kind:=by cases h;assumption
theorem mU.abt{t:Nd}(h:mU t):t.kind≠5→∀k∈t.kids,¬k.kind=6:=by cases h;assumption
theorem mU.name{t:Nd}(h:mU t):t.kind=22→t.kids=[]:=by cases h;assumption
theorem mU.var{t:Nd}(h:mU t):t.kind=6→∀p i,∀b∈bN t.kids p i,eR b=false:=by cases h;assumption
theorem mU.ry{t:Nd}(h:mU t):∀k∈t.kids,mU k:=by cases h;assumption
theorem vb(t:Nd):mU t→∀(p:List Int)(b:Pl),b∈aM t p→mU b.n:=by
 induction t using Nd.ind with
 | _ t ih =>
  intro hg p b hb
  rw[bZ] at hb
  rcases List.mem_cons.1 hb with rfl | hb
  ·exact hg
  ·obtain ⟨j,u,⟨h1,h2⟩,h3⟩:=dN _ _ _ _ hb
   have hu:=List.mem_of_getElem? h2
   exact ih u hu (hg.ry u hu) _ b h3
theorem Ps{t:Nd}(hg:mU t){p q s':List Int}{j k:Int}(hq:q=p++[k]++s')(hne:j≠k)(x:ByteArray)(i:Nat)(f:Int):kx x q (aM t (p++[j])) i f=if t.kind=6∧t.text=x∧j<k then (i:Int) else f:=by
 rw[bZ]
 simp only[kx]
 rw[yU]
 ·have h4:¬t.kind=4:=by have:=hg.kind;omega
  have hr:=tQ (b:=⟨t,p++[j]⟩) (p:=p) rfl hq h4
  rw[hr]
  have e:fZ ⟨t,p++[j]⟩=decide (t.kind=6):=by simp[fZ,h4]
  rw[e]
  by_cases c1:t.kind=6<;>by_cases c2:t.text=x<;>by_cases c3:j<k<;>simp[c1,c2,c3]
 ·intro b hb _
  obtain ⟨j',u,⟨_,h2⟩,h3⟩:=dN _ _ _ _ hb
  have XI:=hg.ry u (List.mem_of_getElem? h2)
  have hgb:=vb u XI _ b h3
  have h4:¬b.n.kind=4:=by have:=hgb.kind;omega
  rcases lm u _ b h3 with rfl | ⟨j2,s,h⟩
  ·exact mu (p:=p) (j:=j) (s:=[(j':Int)]) rfl hq hne (by simp) fun h=>absurd h h4
  ·exact mu (p:=p) (j:=j) (s:=[(j':Int)]++([j2]++s)) (by rw[h];simp) hq hne (by simp) fun h=>absurd h h4
theorem KR{t:Nd}(hg:mU t){p q s':List Int}{j k:Int}(hq:q=p++[k]++s')(hlt:k<j):∀b∈aM t (p++[j]),fZ b=true→dt b q=false:=by
 intro b hb _
 have hgb:=vb t hg _ b hb
 have h4:¬b.n.kind=4:=by have:=hgb.kind;omega
 rcases lm t _ b hb with rfl | ⟨j2,s,h⟩
 ·rw[tQ (p:=p) rfl hq h4]
  simp
  omega
 ·exact mu (p:=p) (j:=j) (s:=[j2]++s) (by rw[h];simp) hq (by omega) (by simp) fun h=>absurd h h4
def enc(ix:List Nat):Option Nat→Int
 | none=>-1
 | some j=>((ix.getD j 0:Nat):Int)
def rz(l:List Pl)(i:Nat):Int:=if (aA l i).n.kind=2 then ((au (aA l i).n.kids 0).kids.length:Nat) else 0
def vc(l pre:List Pl)(ix:List Nat):List Bd:=ix.map fun i=>⟨(aA l i).p,(aA l i).n.text,ez l pre i,rz l i⟩
def dI:List Pl→Nat→List Nat
 | [],_=>[]
 | b::r,i=>(if eR b=true then [i] else [])++dI r (i+1)
theorem gT:∀(a b:List Pl)(i:Nat),dI (a++b) i=dI a i++dI b (i+a.length)
 | [],b,i=>by simp[dI]
 | c::a,b,i=>by
  simp only[List.cons_append,dI,List.length_cons,gT a b,List.append_assoc]
  rw[show i+1+a.length=i+(a.length+1) by omega]
theorem Hv:∀(a:List Pl)(i:Nat),(∀b∈a,eR b=false)→dI a i=[]
 | [],_,_=>rfl
 | b::a,i,h=>by simp[dI,h b (by simp),Hv a (i+1) fun c hc=>h c (by simp[hc])]
structure lO(l pre:List Pl)(ix A:List Nat)(ws:WS):Prop where
 at_:ws.at_=pre.length
 bs:ws.bs=vc l pre ix
 all:ws.all.map (fun j=>ix.getD j 0)=A
 lt:∀j∈ws.all,j<ix.length
 nd:ix.Nodup
 old:∀i∈ix,(aA l i).n.kind=2∨i<pre.length
 ct:∀u∈pre,gA u=true→∃i∈ix,cL l u=(i:Int)
def ky(l:List Pl)(a n:Nat):Prop:=∀i,a≤i→i<a+n→b9 l i=none
def iq(l:List Pl)(a n:Nat)(e:fJ):Prop:=∃i,(a≤i∧i<a+n)∧b9 l i=some e∧∀i',a≤i'→i'<i→b9 l i'=none
theorem ky.eN{l:List Pl}{a n m:Nat}(h:ky l a n)(k:ky l (a+n) m):ky l a (n+m):=fun i h1 h2=>by
 by_cases c:i<a+n
 ·exact h i h1 c
 ·exact k i (by omega) (by omega)
theorem iq.left{l:List Pl}{a n m:Nat}{e:fJ}(h:iq l a n e):iq l a (n+m) e:=by
 obtain ⟨i,⟨h1,h2⟩,h3,h4⟩:=h
 exact ⟨i,⟨h1,by omega⟩,h3,h4⟩
theorem iq.right{l:List Pl}{a n m:Nat}{e:fJ}(k:ky l a n)(h:iq l (a+n) m e):iq l a (n+m) e:=by
 obtain ⟨i,⟨h1,h2⟩,h3,h4⟩:=h
 refine ⟨i,⟨by omega,by omega⟩,h3,fun i' g1 g2=>?_⟩
 by_cases c:i'<a+n
 ·exact k i' g1 c
 ·exact h4 i' (by omega) g2
theorem ky.one{l:List Pl}{a:Nat}(h:b9 l a=none):ky l a 1:=fun i h1 h2=>by
 have:i=a:=by omega
 rw[this];exact h
theorem iq.one{l:List Pl}{a:Nat}{e:fJ}(h:b9 l a=some e):iq l a 1 e:=⟨a,⟨Nat.le_refl _,by omega⟩,h,fun i' h1 h2=>by omega⟩
theorem ky.nil{l:List Pl}{a:Nat}:ky l a 0:=fun i h1 h2=>by omega
theorem oH{pre r:List Pl}{u:Pl}:aA (pre++u::r) pre.length=u:=by simp[aA,List.getD]
theorem ve{ix more:List Nat}{o:Option Nat}(h:∀j,o=some j→j<ix.length):enc (ix++more) o=enc ix o:=by
 cases o with
 | none=>rfl
 | some j =>
  have:=h j rfl
  simp[enc,List.getD,List.getElem?_append_left this]
theorem sm{ix more:List Nat}{j:Nat}(h:j<ix.length):(ix++more).getD j 0=ix.getD j 0:=by simp[List.getD,List.getElem?_append_left h]
theorem xV(l pre:List Pl)(u:Pl)(i:Nat):ez l (pre++[u]) i=ez l pre i++if gA u=true∧cL l u=(i:Int) then [u.p] else []:=by
 unfold ez
 rw[List.filter_append,List.map_append]
 congr 1
 by_cases h1:gA u=true<;>by_cases h2:cL l u=(i:Int)<;>simp[h1,h2]
theorem lO.skip{l pre:List Pl}{ix A:List Nat}{ws:WS}(h:lO l pre ix A ws){u:Pl}(hu:gA u=false):lO l (pre++[u]) ix A { ws with at_:=ws.at_+1 } where
 at_:=by simp[h.at_]
 bs:=by
  rw[h.bs]
  unfold vc
  congr 1
  funext i
  rw[xV]
  simp[hu]
 all:=h.all
 lt:=h.lt
 nd:=h.nd
 old:=fun i hi=>by
  rcases h.old i hi with h1 | h1
  ·exact .inl h1
  ·exact .inr (by simp;omega)
 ct:=fun v hv hi=>by
  rcases List.mem_append.1 hv with h1 | h1
  ·exact h.ct v h1 hi
  ·rw[List.mem_singleton] at h1
   subst h1
   rw[hu] at hi
   cases hi
theorem Ax{l pre:List Pl}{ix:List Nat}{j:Nat}(h:j<ix.length):aR (vc l pre ix) j=⟨(aA l (ix.getD j 0)).p,(aA l (ix.getD j 0)).n.text,ez l pre (ix.getD j 0),rz l (ix.getD j 0)⟩:=by
 simp[aR,vc,List.getD,h]
theorem XJ{ix:List Nat}(h:ix.Nodup){j m:Nat}(hj:j<ix.length)(hm:m<ix.length)(e:ix[j]=ix[m]):j=m:=by
 rcases Nat.lt_trichotomy j m with h1 | h1 | h1
 ·exact absurd e (List.pairwise_iff_getElem.1 h j m hj hm h1)
 ·exact h1
 ·exact absurd e.symm (List.pairwise_iff_getElem.1 h m j hm hj h1)
theorem lO.use{l pre:List Pl}{ix A:List Nat}{ws:WS}(h:lO l pre ix A ws){u:Pl}(hu:gA u=true){j:Nat}(hj:j<ix.length)(hs:cL l u=((ix.getD j 0:Nat):Int)) :
  lO l (pre++[u]) ix A { ws with at_:=ws.at_+1,bs:=ws.bs.set j { aR ws.bs j with ct:=(aR ws.bs j).ct++[u.p] } } where
 at_:=by simp[h.at_]
 bs:=by
  simp only
  rw[h.bs,Ax hj]
  apply List.ext_getElem
  ·simp[vc]
  intro m h1 h2
  have hm:m<ix.length:=by simpa [vc] using h2
  rw[List.getElem_set]
  simp only[vc,List.getElem_map,xV,hu,hs,true_and]
  have hgj:ix.getD j 0=ix[j]:=by simp[List.getD,hj]
  split
  ·rename_i e
   subst e
   simp only[hgj,if_true]
  ·rename_i e
   have hne:¬(ix[j]:Int)=(ix[m]:Nat):=fun h'=>by
    have h3:ix[j]=ix[m]:=by omega
    exact e (XJ h.nd hj hm h3)
   simp only[hgj,hne,if_false,List.append_nil]
 all:=h.all
 lt:=h.lt
 nd:=h.nd
 old:=fun i hi=>by
  rcases h.old i hi with h1 | h1
  ·exact .inl h1
  ·exact .inr (by simp;omega)
 ct:=fun v hv hi=>by
  rcases List.mem_append.1 hv with h1 | h1
  ·exact h.ct v h1 hi
  ·rw[List.mem_singleton] at h1
   subst h1
   exact ⟨ix.getD j 0,by simp[List.getD,hj],hs⟩
theorem lO.bind{l pre:List Pl}{ix A:List Nat}{ws:WS}(h:lO l pre ix A ws){m:Nat}(hm:m<pre.length)(hk:¬(aA l m).n.kind=2)(hni:m∉ix) :
  lO l pre (ix++[m]) (A++[m]) { ws with bs:=ws.bs++[⟨(aA l m).p,(aA l m).n.text,[],0⟩],all:=ws.all++[ws.bs.length] } where
 at_:=h.at_
 bs:=by
  have hu:ez l pre m=[]:=by
   unfold ez
   rw[List.map_eq_nil_iff,List.filter_eq_nil_iff]
   intro u hu hc
   simp only[Bool.and_eq_true,decide_eq_true_eq] at hc
   obtain ⟨i,hi,hs⟩:=h.ct u hu hc.1
   rw[hc.2] at hs
   have:m=i:=by omega
   exact hni (this▸hi)
  have hy:rz l m=0:=by unfold rz;rw[if_neg hk]
  simp only[h.bs,vc,List.map_append,List.map_cons,List.map_nil,hu,hy]
 all:=by
  have hl:ws.bs.length=ix.length:=by rw[h.bs];simp[vc]
  simp only[List.map_append,List.map_cons,List.map_nil,hl]
  congr 1
  ·rw[←h.all]
   apply List.map_congr_left
   intro j hj
   exact sm (h.lt j hj)
  ·simp[List.getD]
 lt:=fun j hj=>by
  have hl:ws.bs.length=ix.length:=by rw[h.bs];simp[vc]
  rcases List.mem_append.1 hj with h1 | h1
  ·have:=h.lt j h1
   simp;omega
  ·rw[List.mem_singleton] at h1
   simp;omega
 nd:=by
  rw[List.nodup_append]
  refine ⟨h.nd,by simp,fun a ha b hb e=>?_⟩
  rw[List.mem_singleton] at hb
  subst hb e
  exact hni ha
 old:=fun i hi=>by
  rcases List.mem_append.1 hi with h1 | h1
  ·exact h.old i h1
  ·rw[List.mem_singleton] at h1
   subst h1
   exact .inr hm
 ct:=fun u hu hi=>by
  obtain ⟨i,h1,h2⟩:=h.ct u hu hi
  exact ⟨i,List.mem_append_left _ h1,h2⟩
structure xW(l:List Pl)(ix:List Nat)(fu:aO):Prop where
 fa:∀x,jS x l 0 (-1)=enc ix (bX x fu)
 fl:∀x j,bX x fu=some j→j<ix.length∧(aA l (ix.getD j 0)).n.kind=2
theorem xW.more{l:List Pl}{ix:List Nat}{fu:aO}(h:xW l ix fu)(more:List Nat):xW l (ix++more) fu where
 fa:=fun x=>by rw[h.fa,ve fun j hj=>(h.fl x j hj).1]
 fl:=fun x j hj=>by
  obtain ⟨h1,h2⟩:=h.fl x j hj
  exact ⟨by simp;omega,by rw[sm h1];exact h2⟩
structure XK(l pre post:List Pl)(t:Nd)(p:List Int)(ix:List Nat)(env:List aO):Prop where
 eq:l=pre++(aM t p++post)
 pne:∃f j,p=f++[j]
 ne:env≠[]
 ag:∀x s,kx x (p++s) pre 0 (-1)=enc ix (bR env x)
 lt:∀x j,bR env x=some j→j<ix.length
 po:∀b∈post,fZ b=true→∀s,dt b (p++s)=false
 fr:∀b∈pre,∀s,s≠[]→b.p≠p++s
 hv:t.kind=6→∀x,(bX x (env.headD [])).isSome=pre.any fun b=>decide (b.n.kind=6) && (decide (b.n.text=x) && (decide (b.p.length=p.length) && nE b.p (p.take (p.length - 1))))
def EO(l pre:List Pl)(t:Nd)(p:List Int)(ix A:List Nat)(env:List aO):Except fJ (List aO×WS)→Prop
 | .error e=>iq l pre.length t.size e
 | .ok r=>ky l pre.length t.size∧∃more,lO l (pre++aM t p) (ix++more) (A++dI (aM t p) pre.length) r.2∧(∀i∈more,pre.length≤i)∧
   (if t.kind=6 then ∃j,j<(ix++more).length∧(ix++more).getD j 0=pre.length∧r.1=dV t.text j (env.headD [])::env.tail else r.1=env)
def KS(t:Nd):Prop:=∀(l pre post:List Pl)(p:List Int)(ix A:List Nat)(env:List aO)(ws:WS)(fu:aO),xW l ix fu→XK l pre post t p ix env→lO l pre ix A ws→EO l pre t p ix A env (bw fu t env ws p)
structure TS(l pre post:List Pl)(r:List Nd)(p:List Int)(i:Nat)(ix:List Nat)(env:List aO):Prop where
 eq:l=pre++(bN r p i++post)
 ne:env≠[]
 ag:∀x (k:Nat) s,i≤k→kx x (p++[(k:Int)]++s) pre 0 (-1)=enc ix (bR env x)
 lt:∀x j,bR env x=some j→j<ix.length
 po:∀b∈post,fZ b=true→∀(k:Nat) s,i≤k→dt b (p++[(k:Int)]++s)=false
 fr:∀b∈pre,∀(k:Nat) s,i≤k→b.p≠p++[(k:Int)]++s
 hv:(∃u∈r,u.kind=6)→∀x,(bX x (env.headD [])).isSome=pre.any fun b=>decide (b.n.kind=6) && (decide (b.n.text=x) && (decide (b.p.length=p.length+1) && nE b.p p))
def Ay(l pre:List Pl)(r:List Nd)(p:List Int)(i:Nat)(ix A:List Nat)(env:List aO):Except fJ (List aO×WS)→Prop
 | .error e=>iq l pre.length (Nd.aw r) e
 | .ok q=>ky l pre.length (Nd.aw r)∧∃more,lO l (pre++bN r p i) (ix++more) (A++dI (bN r p i) pre.length) q.2∧(∀i∈more,pre.length≤i)∧
   q.1.tail=env.tail∧((∀u∈r,¬u.kind=6)→q.1=env)
theorem rA{f:aO}{r:List aO}{x:ByteArray}:bR (f::r) x=match bX x f with
 | some i=>some i
 | none=>bR r x:=rfl
theorem Pt{env:List aO}(h:env≠[]):env=env.headD []::env.tail:=by
 cases env with
 | nil=>exact absurd rfl h
 | cons a r=>rfl
theorem Hw{env:List aO}(h:env≠[]){x:ByteArray}:bR env x=match bX x (env.headD []) with
 | some i=>some i
 | none=>bR env.tail x:=by
 cases env with
 | nil=>exact absurd rfl h
 | cons a r=>rfl
theorem Pu(r:List Nd)(hg:∀u∈r,mU u)(hc:∀u∈r,KS u):∀(l pre post:List Pl)(p:List Int)(i:Nat)(ix A:List Nat)(env:List aO)(ws:WS)(fu:aO),xW l ix fu→TS l pre post r p i ix env→lO l pre ix A ws→Ay l pre r p i ix A env (bo fu r env ws p i):=by
 induction r with
 | nil =>
  intro l pre post p i ix A env ws fu hF hK hW
  refine ⟨ky.nil,[],?_,by simp,rfl,fun _=>rfl⟩
  simpa [bN,dI] using hW
 | cons t r ih =>
  intro l pre post p i ix A env ws fu hF hK hW
  have hgt:=hg t (by simp)
  have WQ:∀u∈r,mU u:=fun u hu=>hg u (by simp[hu])
  have hC:XK l pre (bN r p (i+1)++post) t (p++[(i:Int)]) ix env:=by
   refine ⟨by rw[hK.eq];simp[bN],⟨p,_,rfl⟩,hK.ne,fun x s=>hK.ag x i s (Nat.le_refl _),hK.lt,?_,fun b hb s _=>hK.fr b hb i s (Nat.le_refl _),?_⟩
   ·intro b hb hB s
    rcases List.mem_append.1 hb with h | h
    ·obtain ⟨j,u,⟨h1,h2⟩,h3⟩:=dN _ _ _ _ h
     exact KR (WQ u (List.mem_of_getElem? h2)) rfl (by omega) b h3 hB
    ·exact hK.po b h hB i s (Nat.le_refl _)
   ·intro h6 x
    rw[hK.hv ⟨t,by simp,h6⟩ x]
    simp
  have hN:=hc t (by simp) l pre _ _ ix A env ws fu hF hC hW
  simp only[bo]
  cases hn:bw fu t env ws (p++[(i:Int)]) with
  | error e =>
   rw[hn] at hN
   exact iq.left hN
  | ok q =>
   rw[hn] at hN
   obtain ⟨ho,more,EP,hm,Az⟩:=hN
   simp only
   have fy:(pre++aM t (p++[(i:Int)])).length=pre.length+t.size:=by rw[List.length_append,e8]
   have ac6:∀x,enc (ix++more) (bR env x)=enc ix (bR env x):=fun x=>ve fun j hj=>hK.lt x j hj
   have hef:=Pt hK.ne
   have hE:(∀x,bR q.1 x=if t.kind=6∧t.text=x then bR q.1 x else bR env x)∧q.1≠[]∧q.1.tail=env.tail∧(¬t.kind=6→q.1=env)∧(t.kind=6→∃j,j<(ix++more).length∧(ix++more).getD j 0=pre.length∧bR q.1 t.text=some j∧∀x,bX x (q.1.headD [])=if x=t.text then some j else bX x (env.headD [])):=by
    by_cases h6:t.kind=6
    ·rw[if_pos h6] at Az
     obtain ⟨j,hj,hj2,he⟩:=Az
     have hf:∀x,bR q.1 x=if x=t.text then some j else bR env x:=fun x=>by
      rw[he,rA,gj]
      by_cases hx:x=t.text
      ·simp[hx]
      ·rw[if_neg hx,if_neg hx]
       exact (Hw hK.ne).symm
     refine ⟨fun x=>?_,by rw[he];simp,by rw[he];rfl,fun h=>absurd h6 h,fun _=>⟨j,hj,hj2,by rw[hf];simp,fun x=>by rw[he];exact gj⟩⟩
     by_cases hx:t.text=x
     ·simp[h6,hx]
     ·rw[if_neg (fun h=>hx h.2),hf,if_neg (fun h=>hx h.symm)]
    ·rw[if_neg h6] at Az
     exact ⟨fun x=>by simp[h6,Az],by rw[Az];exact hK.ne,by rw[Az],fun _=>Az,fun h=>absurd h h6⟩
   obtain ⟨hE1,XL,hE3,hE4,hE5⟩:=hE
   have wP:TS l (pre++aM t (p++[(i:Int)])) post r p (i+1) (ix++more) q.1:=by
    refine ⟨by rw[hK.eq];simp[bN],XL,?_,?_,fun b hb hB k s hk=>hK.po b hb hB k s (by omega),?_,?_⟩
    ·intro x k s hk
     rw[eB,hK.ag x k s (by omega),Nat.zero_add,Ps hgt (k:=(k:Int)) (s':=s) rfl (by omega)]
     by_cases h6:t.kind=6∧t.text=x
     ·obtain ⟨j,hj,hj2,hj3,-⟩:=hE5 h6.1
      rw[if_pos ⟨h6.1,h6.2,by omega⟩,←h6.2,hj3]
      simp only[enc,hj2]
     ·rw[if_neg (fun h=>h6 ⟨h.1,h.2.1⟩),hE1 x,if_neg h6,ac6]
    ·intro x j hj
     rw[hE1 x] at hj
     by_cases h6:t.kind=6∧t.text=x
     ·obtain ⟨j',hj',-,hj3,-⟩:=hE5 h6.1
      rw[if_pos h6,←h6.2,hj3] at hj
      cases hj
      exact hj'
     ·rw[if_neg h6] at hj
      have:=hK.lt x j hj
      simp;omega
    ·intro b hb k s hk he
     rcases List.mem_append.1 hb with h | h
     ·exact hK.fr b h k s (by omega) he
     ·rcases lm t _ b h with rfl | ⟨j2,s2,h2⟩
      ·have e1:p++[(i:Int)]++[]=p++[(k:Int)]++s:=by simpa using he
       have:=(lj e1).1
       omega
      ·rw[h2] at he
       have e1:p++[(i:Int)]++([j2]++s2)=p++[(k:Int)]++s:=by rw[←he];simp
       have:=(lj e1).1
       omega
    ·rintro ⟨u,hu,TT⟩ x
     have h0:=hK.hv ⟨u,by simp[hu],TT⟩ x
     rw[List.any_append]
     have hx:(aM t (p++[(i:Int)])).any (fun b=>decide (b.n.kind=6) && (decide (b.n.text=x) && (decide (b.p.length=p.length+1) && nE b.p p)))=(decide (t.kind=6) && decide (t.text=x)):=by
      rw[bZ,List.any_cons]
      have hno:(bN t.kids (p++[(i:Int)]) 0).any (fun b=>decide (b.n.kind=6) && (decide (b.n.text=x) && (decide (b.p.length=p.length+1) && nE b.p p)))=false:=by
       rw[List.any_eq_false]
       intro b hb
       have hlen:¬b.p.length=p.length+1:=by
        obtain ⟨j',u',⟨_,_⟩,h3⟩:=dN _ _ _ _ hb
        rcases lm u' _ b h3 with rfl | ⟨j2,s2,h2⟩
        ·simp
        ·rw[h2];simp
       simp[hlen]
      rw[hno,Bool.or_false]
      have gz:nE (p++[(i:Int)]) p=true:=il.2 ⟨[(i:Int)],rfl⟩
      simp[gz]
     rw[hx,←h0]
     by_cases h6:t.kind=6
     ·obtain ⟨j,-,-,-,hj4⟩:=hE5 h6
      rw[hj4 x]
      by_cases Cb:x=t.text
      ·simp[Cb,h6]
      ·have hx3:¬t.text=x:=fun h=>Cb h.symm
       simp[Cb,hx3]
     ·rw[hE4 h6]
      simp[h6]
   have hR:=ih WQ (fun u hu=>hc u (by simp[hu])) l _ post p (i+1) (ix++more) _ q.1 q.2 fu (hF.more more) wP EP
   cases hk:bo fu r q.1 q.2 p (i+1) with
   | error e =>
    rw[hk] at hR
    unfold Ay at hR
    rw[fy] at hR
    exact iq.right ho hR
   | ok q2 =>
    rw[hk] at hR
    obtain ⟨sF,AA,hW3,hm2,Pv,Pw⟩:=hR
    rw[fy] at sF hW3 hm2
    refine ⟨ho.eN sF,more++AA,?_,?_,Pv.trans hE3,fun hall=>?_⟩
    ·have e1:pre++bN (t::r) p i=pre++aM t (p++[(i:Int)])++bN r p (i+1):=by simp[bN]
     have e2:A++dI (bN (t::r) p i) pre.length=A++dI (aM t (p++[(i:Int)])) pre.length++dI (bN r p (i+1)) (pre.length+t.size):=by simp only[bN];rw[gT,e8];simp
     rw[e1,e2,←List.append_assoc]
     exact hW3
    ·intro z hz
     rcases List.mem_append.1 hz with h | h
     ·exact hm z h
     ·have:=hm2 z h;omega
    ·rw[Pw fun u hu=>hall u (by simp[hu]),hE4 (hall t (by simp))]
end Go.Proofs.YtnoplgongieehaaGreatDoor
