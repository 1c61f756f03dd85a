import Derived.Test.YtnoplgongieehaaGreatDoorM2
import Derived.ChangeOld
import Derived.Below
import Derived.Carry
import Derived.OpenShut
import Derived.Recover
import Derived.Test.YtnoplgongieehaaGreatDoorProg
import Derived.KernelRfl
import Derived.Lib.Bytealg
import Derived.Test.YtnoplgongieehaaGreatDoorM1
namespace Go.Proofs.YtnoplgongieehaaGreatDoor
open Go.RowKit
set_option linter.unusedVariables false
set_option linter.unusedSimpArgs false
def fp(ev:X→AV)(d:Nat):Option X→Nat
 | none=>d
 | some x=>match ev x with
  | .Z (.int _ n)=>n.toNat
  | _=>0
def l8(ev:X→AV):Option X→Prop
 | none=>True
 | some x=>match ev x with
  | .Z (.int _ n)=>0≤n
  | _=>False
def tP(ev:X→AV):List AV→List (Nat×Nat×X)→List AV
 | zs,[]=>zs
 | zs,(off,n,x)::r=>tP ev (zs.take off++(ev x).cells++zs.drop (off+n)) r
def oc(ev:X→AV):List AV→List (Nat×Nat×X)→Prop
 | _,[]=>True
 | zs,(off,n,x)::r=>((ev x).bT=false∧(ev x).ax=n∧off+n≤zs.length)∧oc ev (zs.take off++(ev x).cells++zs.drop (off+n)) r
theorem zP{ev:X→AV}{K:List AV→Prop}:∀{ps:List (Nat×Nat×X)}{zs:List AV},lX ev zs ps K↔oc ev zs ps∧K (tP ev zs ps)
 | [],zs=>by simp[lX,oc,tP]
 | (o,n,x)::r,zs=>by simp only[lX,oc,tP,zP (ps:=r),and_assoc]
theorem iq{ev:X→AV}{d:Nat}{K:Nat→Prop}{o:Option X}:j4 ev d o K↔l8 ev o∧K (fp ev d o):=by
 cases o with
 | none=>simp[j4,l8,fp]
 | some x =>
  simp only[j4,l8,fp]
  cases ev x with
  | Z v=>cases v<;>simp
  | _=>simp
def R6(op:BinOp):AV→AV→AV
 | .Z u,.Z v=>match s7 op u v with
  | some r=>.Z r
  | none=>.top
 | _,_=>.top
def Jv(op:BinOp):AV→AV→Prop
 | .Z u,.Z v=>(s7 op u v).isSome=true
 | _,_=>False
def shF(op:BinOp):AV→AV→AV
 | .Z u,.Z v=>match IX op u v with
  | some r=>.Z r
  | none=>.top
 | _,_=>.top
def R7(op:BinOp):AV→AV→Prop
 | .Z u,.Z v=>(IX op u v).isSome=true
 | _,_=>False
def unF(op:UnOp):AV→AV
 | .Z u=>match E5 op u with
  | some r=>.Z r
  | none=>.top
 | _=>.top
def R8(op:UnOp):AV→Prop
 | .Z u=>(E5 op u).isSome=true
 | _=>False
def Y7(pos:Bool):AV→AV→AV
 | .Z (.bool a),.Z (.bool b)=>.Z (.bool (if pos then a == b else !(a == b)))
 | _,_=>.top
def Jw:AV→AV→Prop
 | .Z (.bool _),.Z (.bool _)=>True
 | _,_=>False
def Y8(pos:Bool):AV→AV
 | .Z .nilIface=>.Z (.bool pos)
 | .dQ _ _=>.Z (.bool !pos)
 | _=>.top
def R9:AV→Prop
 | .Z .nilIface=>True
 | .dQ _ _=>True
 | _=>False
def Sa(pos:Bool):AV→AV
 | .an _ [] _=>.ub
 | .an _ (_::_) _=>.Z (.bool !pos)
 | .aE _ _ _ _ _=>.Z (.bool !pos)
 | _=>.top
def Ma:AV→Prop
 | .an _ _ _=>True
 | .aE _ _ _ _ _=>True
 | _=>False
def Sb:AV→AV→AV→AV
 | .Z (.bool true),a,_=>a
 | .Z (.bool false),_,b=>b
 | _,_,_=>.top
def Mb:AV→Prop
 | .Z (.bool _)=>True
 | _=>False
def Sc(k:IntKind):AV→AV
 | .Z (.int _ n)=>.Z (.int k (k.wrap n))
 | _=>.top
def Mc:AV→AV
 | .an _ xs _=>.Z (.string (mB xs))
 | _=>.top
def FU:AV→Prop
 | .an k xs _=>k=1∧j5 xs=true
 | _=>False
def Md:AV→Prop
 | .Z (.int _ _)=>True
 | _=>False
def zQ:AV→Prop
 | .ptr k _ _ f=>0<k∨0<f
 | .lp ..=>True
 | .fn (.func _) _ _=>True
 | _=>False
def Mf(off:Nat):AV→AV
 | .ptr k id j f=>.ptr k id j (f+off)
 | .lp y f=>.lp y (f+off)
 | _=>.top
def zR:AV→Prop
 | .ptr k _ _ _=>0<k
 | .lp ..=>True
 | _=>False
def FV(off n:Nat)(ag:Bool):AV→Prop
 | .agg cs=>AV.gI (.agg cs) off n ag
 | _=>False
def Mg(k:Nat):AV→AV→AV
 | .an _ xs _,.Z (.int _ n)=>.lp (xs.getD n.toNat .top) 0
 | .aE _ id off _ _,.Z (.int _ n)=>.ptr k id (off+n.toNat) 0
 | _,_=>.top
def rA(k:Nat):AV→AV→Prop
 | .an k' xs _,.Z (.int _ n)=>0≤n∧n<(xs.length:Int)∧k'=k
 | .aE k' _ _ m _,.Z (.int _ n)=>0≤n∧n<(m:Int)∧k'=k∧0<k
 | _,_=>False
def FW(k:Nat):AV→AV→AV
 | .ptr k' id j f,.Z (.int _ n)=>.ptr k' id j (f+n.toNat*k)
 | .lp y f,.Z (.int _ n)=>.lp y (f+n.toNat*k)
 | _,_=>.top
def wI(ln:Nat):AV→AV→Prop
 | .ptr k _ _ _,.Z (.int _ n)=>0≤n∧n<(ln:Int)∧0<k
 | .lp _ _,.Z (.int _ n)=>0≤n∧n<(ln:Int)
 | _,_=>False
def Sd:AV→AV→AV
 | .Z (.string s),.Z (.int _ n)=>.Z (.int .u8 ((s.data.getD n.toNat 0).toNat:Int))
 | _,_=>.top
def yR:AV→AV→Prop
 | .Z (.string s),.Z (.int _ n)=>0≤n∧n<(s.size:Int)
 | _,_=>False
def Se(n:Nat)(ag:Bool):AV→AV→AV
 | .agg cs,.Z (.int _ m)=>AV.sub (.agg cs) (m.toNat*n) n ag
 | _,_=>.top
def Eg(ln n:Nat)(ag:Bool):AV→AV→Prop
 | .agg cs,.Z (.int _ m)=>(0≤m∧m<(ln:Int))∧AV.gI (.agg cs) (m.toNat*n) n ag
 | _,_=>False
def FX(k:Nat)(mx:Option Nat)(h l:Nat):AV→AV
 | .an _ xs room=>match mx with
  | some m=>.an k ((xs.take h).drop l) (some ((xs.take m).drop h))
  | none=>match room with
   | none=>.an k ((xs.take h).drop l) none
   | some ys=>.an k (((xs++ys).take h).drop l) (some ((xs++ys).drop h))
 | .aE _ id off _ c=>match c with
  | none=>if l<h then .aE k id (off+l) (h - l) none else .an k [] none
  | some m=>if l<m then .aE k id (off+l) (h - l) (some (m - l)) else .an k [] none
 | _=>.top
def zS(k:Nat)(mx:Option Nat)(hs:Bool)(h l:Nat):AV→Prop
 | .an k' xs room=>(k'=k∨xs=[]∧room=some [])∧match mx with
  | some m=>hs=true∧l≤h∧h≤m∧m≤xs.length
  | none=>match room with
   | none=>l≤h∧h≤xs.length
   | some ys=>l≤h∧h≤xs.length+ys.length
 | .aE k' _ _ n c=>k'=k∧mx.isNone=true∧l≤h∧h≤c.getD n
 | _=>False
def qx:AV→Nat
 | .an _ xs _=>xs.length
 | .aE _ _ _ n _=>n
 | _=>0
def oH:AV→Prop
 | .an _ _ _=>True
 | .aE ..=>True
 | .Z (.slice none 0 0)=>True
 | _=>False
def Jx:AV→Prop
 | .Z (.string _)=>True
 | _=>False
def zT:AV→ByteArray
 | .Z (.string s)=>s
 | _=>ByteArray.empty
def mmF(mx:Bool):AV→AV→AV
 | .Z (.int k a),.Z (.int _ b)=>.Z (.int k (if mx then (if b > a then b else a) else (if b<a then b else a)))
 | _,_=>.top
def Sf:AV→AV→Prop
 | .Z (.int _ _),.Z (.int _ _)=>True
 | _,_=>False
def Y9(i:Nat):AV→AV
 | .aG vs=>vs.getD i .top
 | _=>.top
def Jy(i:Nat):AV→Prop
 | .aG vs=>i<vs.length
 | _=>False
def Jz(t:TypeId)(z:AV):AV→AV
 | .dQ u v=>if u=t then .aG [v,.Z (.bool true)] else .aG [z,.Z (.bool false)]
 | .Z .nilIface=>.aG [z,.Z (.bool false)]
 | _=>.top
def Mh:AV→Prop
 | .dQ _ _=>True
 | .Z .nilIface=>True
 | _=>False
def Eh:AV→Prop
 | .Z .nilFunc=>True
 | .fn _ _ _=>True
 | _=>False
def JA(pos:Bool):AV→AV
 | .Z .nilFunc=>.Z (.bool pos)
 | .fn _ _ _=>.Z (.bool !pos)
 | _=>.top
def Ei(t:TypeId):AV→Prop
 | .dQ u _=>u=t
 | _=>False
def JB:AV→AV
 | .dQ _ v=>v
 | _=>.top
def PO.ok(ev:X→AV):PO→Prop
 | .mv _=>True
 | .pick c _ _=>Mb (ev c)
 | .az op x y=>Jv op (ev x) (ev y)
 | .Br op x y=>R7 op (ev x) (ev y)
 | .DH _ x y=>Jw (ev x) (ev y)
 | .DJ _ x=>R9 (ev x)
 | .uG _ x=>Ma (ev x)
 | .un op x=>R8 op (ev x)
 | .conv _ x=>Md (ev x)
 | .tB x=>FU (ev x)
 | .aP x=>zQ (ev x)
 | .af _ x=>zR (ev x)
 | .field off n ag x=>FV off n ag (ev x)
 | .fC k x i=>rA k (ev x) (ev i)
 | .pJ ln _ x i=>wI ln (ev x) (ev i)
 | .fg x i=>yR (ev x) (ev i)
 | .xv ln n ag x i=>Eg ln n ag (ev x) (ev i)
 | .qE k x lo hi mx=>l8 ev lo∧l8 ev hi∧l8 ev mx∧zS k (match mx with | none=>none | some m=>some (fp ev 0 (some m))) hi.isSome (fp ev (match mx with | none=>qx (ev x) | some _=>0) hi) (fp ev 0 lo) (ev x)
 | .mW x lo hi=>Jx (ev x)∧l8 ev lo∧l8 ev hi∧fp ev 0 lo≤fp ev (zT (ev x)).size hi∧fp ev (zT (ev x)).size hi≤(zT (ev x)).size
 | .len x=>oH (ev x)
 | .fW x=>Jx (ev x)
 | .mm _ x y=>Sf (ev x) (ev y)
 | .ext x i=>Jy i (ev x)
 | .mw _ _ _=>True
 | .xw _ _=>True
 | .xx _ _ x=>Mh (ev x)
 | .build zs ps=>oc ev zs ps
 | .qN _ x=>Eh (ev x)
 | .s8 t x=>Ei t (ev x)
def PO.val(ev:X→AV):PO→AV
 | .mv x=>ev x
 | .pick c a b=>Sb (ev c) (ev a) (ev b)
 | .az op x y=>R6 op (ev x) (ev y)
 | .Br op x y=>shF op (ev x) (ev y)
 | .DH pos x y=>Y7 pos (ev x) (ev y)
 | .DJ pos x=>Y8 pos (ev x)
 | .uG pos x=>Sa pos (ev x)
 | .un op x=>unF op (ev x)
 | .conv k x=>Sc k (ev x)
 | .tB x=>Mc (ev x)
 | .aP x=>ev x
 | .af off x=>Mf off (ev x)
 | .field off n ag x=>AV.sub (ev x) off n ag
 | .fC k x i=>Mg k (ev x) (ev i)
 | .pJ _ k x i=>FW k (ev x) (ev i)
 | .fg x i=>Sd (ev x) (ev i)
 | .xv _ n ag x i=>Se n ag (ev x) (ev i)
 | .qE k x lo hi mx=>FX k (match mx with | none=>none | some m=>some (fp ev 0 (some m))) (fp ev (match mx with | none=>qx (ev x) | some _=>0) hi) (fp ev 0 lo) (ev x)
 | .mW x lo hi=>.Z (.string ((zT (ev x)).extract (fp ev 0 lo) (fp ev (zT (ev x)).size hi)))
 | .len x=>.Z (.int .i64 (qx (ev x)))
 | .fW x=>.Z (.int .i64 (zT (ev x)).size)
 | .mm mx x y=>mmF mx (ev x) (ev y)
 | .ext x i=>Y9 i (ev x)
 | .mw f a b=>.fn f (a.map ev) (b.map ev)
 | .xw t x=>.dQ t (ev x)
 | .xx t z x=>Jz t z (ev x)
 | .build zs ps=>.agg (tP ev zs ps)
 | .qN pos x=>JA pos (ev x)
 | .s8 _ x=>JB (ev x)
theorem PO.gS{ev:X→AV}{K:AV→Prop}:∀{q:PO},q.ok ev→K (q.val ev)→PO.bn ev K q:=by
 intro q h hk
 cases q with
 | build zs ps=>exact zP.2 ⟨h,hk⟩
 | pick c a b =>
  simp only[PO.ok,PO.val,PO.bn] at *
  cases hc:ev c<;>rw[hc] at h hk<;>try exact h.elim
  rename_i v
  cases v<;>try exact h.elim
  rename_i t
  cases t
  ·exact ⟨fun h=>by simp at h,fun _=>hk⟩
  ·exact ⟨fun _=>hk,fun h=>by simp at h⟩
 | az op x y =>
  simp only[PO.ok,PO.val,PO.bn] at *
  cases hx:ev x<;>cases hy:ev y<;>rw[hx,hy] at h hk<;>try exact h.elim
  simp only[Jv,R6] at h hk ⊢
  cases hb:s7 op _ _ with
  | none=>rw[hb] at h;simp at h
  | some r=>rw[hb] at hk;exact ⟨r,rfl,hk⟩
 | Br op x y =>
  simp only[PO.ok,PO.val,PO.bn] at *
  cases hx:ev x<;>cases hy:ev y<;>rw[hx,hy] at h hk<;>try exact h.elim
  simp only[R7,shF] at h hk ⊢
  cases hb:IX op _ _ with
  | none=>rw[hb] at h;simp at h
  | some r=>rw[hb] at hk;exact ⟨r,rfl,hk⟩
 | un op x =>
  simp only[PO.ok,PO.val,PO.bn] at *
  cases hx:ev x<;>rw[hx] at h hk<;>try exact h.elim
  simp only[R8,unF] at h hk ⊢
  cases hb:E5 op _ with
  | none=>rw[hb] at h;simp at h
  | some r=>rw[hb] at hk;exact ⟨r,rfl,hk⟩
 | mW x lo hi =>
  simp only[PO.ok,PO.val,PO.bn] at *
  cases hx:ev x<;>rw[hx] at h hk<;>try exact h.1.elim
  rename_i v
  cases v<;>try exact h.1.elim
  obtain ⟨_,h1,h2,h3,h4⟩:=h
  exact iq.2 ⟨h2,iq.2 ⟨h1,⟨h3,h4⟩,hk⟩⟩
 | qE k x lo hi mx =>
  simp only[PO.ok,PO.val,PO.bn] at *
  obtain ⟨h1,h2,h3,h4⟩:=h
  cases hx:ev x<;>rw[hx] at h4 hk<;>try exact h4.elim
  ·rename_i k' xs room
   refine ⟨h4.1,?_⟩
   cases mx with
   | some m=>exact iq.2 ⟨h3,iq.2 ⟨h2,iq.2 ⟨h1,h4.2,hk⟩⟩⟩
   | none =>
    cases room with
    | none=>exact iq.2 ⟨h2,iq.2 ⟨h1,h4.2,hk⟩⟩
    | some ys=>exact iq.2 ⟨h2,iq.2 ⟨h1,h4.2,hk⟩⟩
  ·rename_i k' id off n c
   obtain ⟨g1,g2,g3,g4⟩:=h4
   cases mx with
   | some m=>simp at g2
   | none =>
    refine ⟨g1,rfl,iq.2 ⟨h2,iq.2 ⟨h1,⟨g3,g4⟩,?_⟩⟩⟩
    cases c with
    | none =>
     have eW:K (if fp ev 0 lo<fp ev n hi then .aE k id (off+fp ev 0 lo) (fp ev n hi - fp ev 0 lo) none else .an k [] none):=hk
     refine ⟨fun e=>?_,fun e=>?_⟩
     ·rw[if_pos e] at eW
      exact eW
     ·rw[if_neg (by omega)] at eW
      exact eW
    | some m =>
     have eW:K (if fp ev 0 lo<m then .aE k id (off+fp ev 0 lo) (fp ev n hi - fp ev 0 lo) (some (m - fp ev 0 lo)) else .an k [] none):=hk
     refine ⟨fun e=>?_,fun e=>?_⟩
     ·rw[if_pos e] at eW
      exact eW
     ·rw[if_neg (by omega)] at eW
      exact eW
 | xx t z x =>
  simp only[PO.ok,PO.val,PO.bn] at *
  cases hx:ev x<;>rw[hx] at h hk<;>try exact h.elim
  ·rename_i v
   cases v<;>first | exact h.elim | exact hk
  ·simp only[Jz] at hk
   exact ⟨fun e=>by rw[if_pos e] at hk;exact hk,fun e=>by rw[if_neg e] at hk;exact hk⟩
 | mv x=>exact hk
 | mw f a b=>exact hk
 | xw t x=>exact hk
 | DH pos x y =>
  simp only[PO.ok,PO.val,PO.bn,Jw] at *
  split at h
  ·rename_i e1 e2
   rw[e1,e2] at hk
   rw[e1,e2]
   exact hk
  ·exact h.elim
 | fC k x i =>
  simp only[PO.ok,PO.val,PO.bn,rA] at *
  split at h
  ·rename_i e1 e2
   rw[e1,e2] at hk
   rw[e1,e2]
   exact ⟨h,hk⟩
  ·rename_i e1 e2
   rw[e1,e2] at hk
   rw[e1,e2]
   exact ⟨h,hk⟩
  ·exact h.elim
 | pJ ln k x i =>
  simp only[PO.ok,PO.val,PO.bn,wI] at *
  split at h
  ·rename_i e1 e2
   rw[e1,e2] at hk
   rw[e1,e2]
   exact ⟨h,hk⟩
  ·rename_i e1 e2
   rw[e1,e2] at hk
   rw[e1,e2]
   exact ⟨h,hk⟩
  ·exact h.elim
 | fg x i =>
  simp only[PO.ok,PO.val,PO.bn,yR] at *
  split at h
  ·rename_i e1 e2
   rw[e1,e2] at hk
   rw[e1,e2]
   exact ⟨h,hk⟩
  ·exact h.elim
 | xv ln n ag x i =>
  simp only[PO.ok,PO.val,PO.bn,Eg] at *
  split at h
  ·rename_i e1 e2
   rw[e1,e2] at hk
   rw[e1,e2]
   exact ⟨h.1,h.2,by rw[e1] at *;exact hk⟩
  ·exact h.elim
 | mm mx x y =>
  simp only[PO.ok,PO.val,PO.bn,Sf] at *
  split at h
  ·rename_i e1 e2
   rw[e1,e2] at hk
   rw[e1,e2]
   exact hk
  ·exact h.elim
 | DJ pos x =>
  simp only[PO.ok,PO.val,PO.bn] at *
  cases hx:ev x<;>rw[hx] at h hk<;>try exact h.elim
  ·rename_i v;cases v<;>first | exact h.elim | exact hk
  ·exact hk
 | uG pos x =>
  simp only[PO.ok,PO.val,PO.bn] at *
  cases hx:ev x<;>rw[hx] at h hk<;>try exact h.elim
  ·rename_i k xs room;cases xs<;>exact hk
  ·exact hk
 | conv k x =>
  simp only[PO.ok,PO.val,PO.bn] at *
  cases hx:ev x<;>rw[hx] at h hk<;>try exact h.elim
  rename_i v;cases v<;>first | exact h.elim | exact hk
 | tB x =>
  simp only[PO.ok,PO.val,PO.bn] at *
  cases hx:ev x<;>rw[hx] at h hk<;>first | exact h.elim | exact ⟨h,hk⟩
 | aP x =>
  simp only[PO.ok,PO.val,PO.bn] at *
  cases hx:ev x<;>rw[hx] at h hk<;>first | exact h.elim | exact ⟨h,hk⟩ | exact hk | skip
  rename_i f a b;cases f<;>first | exact h.elim | exact hk
 | af off x =>
  simp only[PO.ok,PO.val,PO.bn] at *
  cases hx:ev x<;>rw[hx] at h hk<;>first | exact h.elim | exact ⟨h,hk⟩ | exact hk
 | field off n ag x =>
  simp only[PO.ok,PO.val,PO.bn] at *
  cases hx:ev x<;>rw[hx] at h hk<;>first | exact h.elim | exact ⟨h,hk⟩
 | len x =>
  simp only[PO.ok,PO.val,PO.bn] at *
  cases hx:ev x<;>rw[hx] at h hk<;>try first | exact h.elim | exact hk
  unfold oH at h
  split at h
  ·rename_i e0;cases e0
  ·rename_i e0;cases e0
  ·rename_i e0;cases e0;exact hk
  ·exact h.elim
 | fW x =>
  simp only[PO.ok,PO.val,PO.bn] at *
  cases hx:ev x<;>rw[hx] at h hk<;>try exact h.elim
  rename_i v;cases v<;>first | exact h.elim | exact hk
 | ext x i =>
  simp only[PO.ok,PO.val,PO.bn] at *
  cases hx:ev x<;>rw[hx] at h hk<;>first | exact h.elim | exact ⟨h,hk⟩
 | qN pos x =>
  simp only[PO.ok,PO.val,PO.bn] at *
  cases hx:ev x<;>rw[hx] at h hk<;>try exact h.elim
  ·rename_i v;cases v<;>first | exact h.elim | exact hk
  ·exact hk
 | s8 t x =>
  simp only[PO.ok,PO.val,PO.bn] at *
  cases hx:ev x<;>rw[hx] at h hk<;>first | exact h.elim | exact ⟨h,hk⟩
def tc(H:Y)(n:Nat)(ag:Bool):AV→Prop
 | .ptr k id j f=>match Y.find H id with
  | some blk=>blk.k=k∧j<blk.es.length∧AV.gI (blk.es.getD j .top) f n ag∧0<k
  | none=>False
 | .lp x f=>AV.gI x f n ag
 | _=>False
def BK(H:Y)(n:Nat)(ag:Bool):AV→AV
 | .ptr _ id j f=>match Y.find H id with
  | some blk=>AV.sub (blk.es.getD j .top) f n ag
  | none=>.top
 | .lp x f=>AV.sub x f n ag
 | _=>.top
def xO(H:Y)(n:Nat):AV→AV→Prop
 | .ptr k id j f,x=>match Y.find H id with
  | some blk=>blk.k=k∧j<blk.es.length∧x.bT=false∧x.ax=n∧f+n≤(blk.es.getD j .top).ax∧((blk.es.getD j .top).isAgg || !x.isAgg)=true∧0<k
  | none=>False
 | _,_=>False
def vc(H:Y):AV→AV→Y
 | .ptr k id j f,x=>match Y.find H id with
  | some blk=>Y.set H id (some { blk with es:=blk.es.set j (AV.kW (blk.es.getD j .top) f x) })
  | none=>H
 | _,_=>H
def pb(ev:X→AV):List AV→List (Nat×X)→List AV
 | es,[]=>es
 | es,(i,x)::r=>pb ev (es.set i (ev x)) r
def lc(ev:X→AV)(k:Nat):List AV→List (Nat×X)→Prop
 | _,[]=>True
 | es,(i,x)::r=>((ev x).bT=false∧(ev x).ax=k∧i<es.length)∧lc ev k (es.set i (ev x)) r
theorem wJ{ev:X→AV}{k:Nat}{K:List AV→Prop}:∀{ps:List (Nat×X)}{es:List AV},nk ev k es ps K↔lc ev k es ps∧K (pb ev es ps)
 | [],es=>by simp[nk,lc,pb]
 | (i,x)::r,es=>by simp only[nk,lc,pb,wJ (ps:=r),and_assoc]
def td(H:Y)(k:Nat):AV→Prop
 | .an k' ys _=>k'=k∨ys=[]
 | .aE k' id off n _=>match Y.find H id with
  | some blk=>k'=k∧blk.k=k∧off+n≤blk.es.length
  | none=>False
 | _=>False
def mG(H:Y):AV→List AV
 | .an _ ys _=>ys
 | .aE _ id off n _=>match Y.find H id with
  | some blk=>(blk.es.drop off).take n
  | none=>[]
 | _=>[]
def aU:AV→Int
 | .Z (.int _ n)=>n
 | _=>0
def pX:AV→Prop
 | .Z (.int _ _)=>True
 | _=>False
def fq(H:Y)(k ty:Nat)(ys:List AV):AV→Prop
 | .an k' xs (some [])=>(k'=k∨xs=[])∧xs.length+ys.length≤100000000
 | .aE k' id off n none=>match Y.find H id with
  | some blk=>(k'=k∧blk.k=k∧blk.ty=ty∧off=0∧n+ys.length≤100000000)∧blk.exact=false∧n=blk.es.length
  | none=>False
 | .aE k' id off n (some m)=>match Y.find H id with
  | some blk=>(k'=k∧blk.k=k∧blk.ty=ty∧off=0∧n+ys.length≤100000000)∧((blk.exact=true∧m=blk.es.length∧n≤m)∨(blk.exact=false∧n≤blk.es.length))
  | none=>False
 | _=>False
def jW(H:Y)(k:Nat)(ys:List AV):AV→AV
 | .an k' xs (some [])=>match ys with
  | []=>.an k' xs (some [])
  | _::_=>.aE k H.length 0 (xs.length+ys.length) none
 | .aE _ id _ n none=>.aE k H.length 0 (n+ys.length) none
 | .aE _ id _ n (some m)=>if n+ys.length≤m then .aE k id 0 (n+ys.length) (some m) else .aE k H.length 0 (n+ys.length) none
 | _=>.top
def ir(H:Y)(k ty:Nat)(ys:List AV):AV→Y
 | .an _ xs (some [])=>match ys with
  | []=>H
  | _::_=>some ⟨k,xs++ys,false,ty⟩::H
 | .aE _ id _ n none=>match Y.find H id with
  | some blk=>some ⟨k,blk.es++ys,false,ty⟩::Y.set H id none
  | none=>H
 | .aE _ id _ n (some m)=>match Y.find H id with
  | some blk=>if n+ys.length≤m then Y.set H id (some { blk with es:=blk.es.take n++ys++blk.es.drop (n+ys.length) }) else some ⟨k,blk.es.take n++ys,false,ty⟩::H
  | none=>H
 | _=>H
def HO.BL(ev:X→AV)(H:Y):HO→Prop
 | .load n ag a=>tc H n ag (ev a)
 | .alloc _ _=>True
 | .box k _ x=>(ev x).bT=false∧(ev x).ax=k
 | .dK k _ z ln ps=>lc ev k (List.replicate ln z) ps
 | .dh k _ z ln ps=>lc ev k (List.replicate ln z) ps
 | .store n a x=>xO H n (ev a) (ev x)
 | .lN _ _ _ l c=>pX (ev l)∧pX (ev c)∧0≤aU (ev l)∧aU (ev l)≤aU (ev c)∧aU (ev c)≤100000000
 | .dD k ty s x=>td H k (ev x)∧fq H k ty (mG H (ev x)) (ev s)
 | .gx g xs=>g.ok H (xs.map ev)
 | _=>False
def HO.rB(ev:X→AV)(H:Y):HO→AV
 | .load n ag a=>BK H n ag (ev a)
 | .alloc z _=>.ptr z.ax H.length 0 0
 | .box k _ _=>.ptr k H.length 0 0
 | .dK k _ z ln ps=>.an k (pb ev (List.replicate ln z) ps) (some [])
 | .dh k _ _ ln _=>.aE k H.length 0 ln (some ln)
 | .store _ _ _=>.top
 | .lN k _ _ l c=>.aE k H.length 0 (aU (ev l)).toNat (some (aU (ev c)).toNat)
 | .dD k _ s x=>jW H k (mG H (ev x)) (ev s)
 | .gx g xs=>g.val H (xs.map ev)
 | _=>.top
def HO.nu(ev:X→AV)(H:Y):HO→Y
 | .alloc z ty=>some ⟨z.ax,[z],true,ty⟩::H
 | .box k ty x=>some ⟨k,[ev x],true,ty⟩::H
 | .dh k ty z ln ps=>some ⟨k,pb ev (List.replicate ln z) ps,true,ty⟩::H
 | .store _ a x=>vc H (ev a) (ev x)
 | .lN k ty z _ c=>some ⟨k,List.replicate (aU (ev c)).toNat z,true,ty⟩::H
 | .dD k ty s x=>ir H k ty (mG H (ev x)) (ev s)
 | .gx g xs=>g.heap H (xs.map ev)
 | _=>H
theorem rC{α:Type}{l:List α}{j:Nat}{d:α}(h:j<l.length):l[j]? = some (l.getD j d):=by simp[List.getD,h]
theorem HO.gS{P:Program}{ev:X→AV}{H:Y}{K Kp:AV→Y→Prop}:∀{q:HO},q.BL ev H→K (q.rB ev H) (q.nu ev H)→HO.bn P ev H K Kp q:=by
 intro q h hk
 cases q with
 | load n ag a =>
  simp only[HO.BL,HO.rB,HO.nu,HO.bn] at *
  cases he:ev a<;>rw[he] at h hk<;>try exact h.elim
  ·simp only[tc,BK] at h hk
   cases hf:Y.find H _ with
   | none=>rw[hf] at h;exact h.elim
   | some blk=>rw[hf] at h hk;exact ⟨blk,_,hf,rC h.2.1,⟨h.1,h.2.2.1,h.2.2.2⟩,hk⟩
  ·exact ⟨h,hk⟩
 | alloc z ty=>exact hk
 | box k ty x=>exact ⟨h,hk⟩
 | dK k ty z ln ps=>exact wJ.2 ⟨h,hk⟩
 | dh k ty z ln ps=>exact wJ.2 ⟨h,hk⟩
 | store n a x =>
  simp only[HO.BL,HO.rB,HO.nu,HO.bn] at *
  cases he:ev a<;>rw[he] at h hk<;>try exact h.elim
  simp only[xO,vc] at h hk
  cases hf:Y.find H _ with
  | none=>rw[hf] at h;exact h.elim
  | some blk =>
   rw[hf] at h hk
   obtain ⟨h1,h2,h3,h4,h5,h6,h7⟩:=h
   refine ⟨blk,_,hf,rC h2,⟨h1,h3,h4,h5,fun e=>?_,h7⟩,hk⟩
   rw[e] at h6
   simpa using h6
 | lN k ty z l c =>
  simp only[HO.BL,HO.rB,HO.nu,HO.bn] at *
  obtain ⟨h1,h2,h3⟩:=h
  cases he:ev l<;>rw[he] at h1<;>try exact h1.elim
  rename_i v
  cases v<;>try exact h1.elim
  cases hf:ev c<;>rw[hf] at h2<;>try exact h2.elim
  rename_i v2
  cases v2<;>try exact h2.elim
  rw[he,hf] at h3 hk
  exact ⟨h3,hk⟩
 | gx g xs=>exact ⟨h,hk⟩
 | dD k ty s x =>
  simp only[HO.BL,HO.rB,HO.nu,HO.bn] at *
  obtain ⟨h1,h2⟩:=h
  have hls:∀{K':List AV→Prop},K' (mG H (ev x))→Fj H k (ev x) K':=by
   intro K' hk'
   cases hx:ev x<;>rw[hx] at h1 hk'<;>try exact h1.elim
   ·exact ⟨h1,hk'⟩
   ·simp only[td,mG] at h1 hk'
    cases hf:Y.find H _ with
    | none=>rw[hf] at h1;exact h1.elim
    | some blk=>rw[hf] at h1 hk';exact ⟨blk,hf,h1,hk'⟩
  refine hls ?_
  cases hs:ev s<;>rw[hs] at h2 hk<;>try exact h2.elim
  ·rename_i k' xs room
   cases room with
   | none=>exact h2.elim
   | some zs =>
    cases zs with
    | cons _ _=>exact h2.elim
    | nil =>
     refine ⟨h2,fun e=>?_,fun e=>?_⟩
     ·rw[e] at hk;exact hk
     ·cases hy:mG H (ev x) with
      | nil=>exact absurd hy e
      | cons a b=>rw[hy] at hk;exact hk
  ·rename_i k' id off n c
   cases c with
   | none =>
    simp only[fq,jW,ir] at h2 hk
    cases hf:Y.find H id with
    | none=>rw[hf] at h2;exact h2.elim
    | some blk=>rw[hf] at h2 hk;exact ⟨blk,hf,h2.1,h2.2,hk⟩
   | some m =>
    simp only[fq,jW,ir] at h2 hk
    cases hf:Y.find H id with
    | none=>rw[hf] at h2;exact h2.elim
    | some blk =>
     rw[hf] at h2 hk
     refine ⟨blk,hf,h2.1,h2.2,fun e=>?_,fun e=>?_⟩
     ·simp only[if_pos e] at hk;exact hk
     ·have:¬n+(mG H (ev x)).length≤m:=by omega
      simp only[if_neg this] at hk;exact hk
 | _=>exact h.elim
def FY(P:Program)(ev:X→AV)(H:Y)(C Cp:AV→Y→Prop):dX→Prop
 | .p q=>q.ok ev∧C (q.val ev) H
 | .h (.call f ej)=>DK P f (ej.map ev) H (fun e H'=>cr.post C Cp H' e)
 | .h (.bM f ej)=>match ev f with
  | .fn (.func g) a b=>bN P g=true∧DK P g (a++ej.map ev++b) H (fun e H'=>cr.post C Cp H' e)
  | _=>False
 | .h (.bF x)=>match ev x with
  | .dQ t v=>Cp (.dQ t v) H
  | _=>False
 | .h (.oY kd x)=>Jb C H kd (ev x)
 | .h q=>q.BL ev H∧C (q.rB ev H) (q.nu ev H)
theorem nv {P : Program} {f : FuncId} (h : bN P f = true) : ∃ fn, P.funcs[f]? = some fn ∧ fn.body.isSome ∧ fn.name ≠ "runtime.NumGoroutine" := by
 unfold bN at h
 split at h
 case h_2=>simp at h
 rename_i fn hf
 simp only[Bool.and_eq_true,Bool.not_eq_true',beq_eq_false_iff_ne] at h
 exact ⟨fn,hf,h.1,h.2⟩
theorem Sg{P:Program}{ev:X→AV}{H:Y}{C Cp:AV→Y→Prop}{op:dX}(h:FY P ev H C Cp op):RC P ev H C Cp op:=by
 cases op with
 | p q=>exact PO.gS (K:=fun v=>C v H) h.1 h.2
 | h q =>
  cases q with
  | call f ej=>exact h
  | bM f ej =>
   simp only[FY,RC,HO.Fx] at h ⊢
   split at h
   ·rename_i he;simp only[he];exact ⟨nv h.1,h.2⟩
   ·exact h.elim
  | bF x=>exact h
  | oY kd x=>exact h
  | _=>exact HO.gS (P:=P) (Kp:=Cp) h.1 h.2
theorem jM{ts:List AV}{p q p' q':Prop}{g:Option (Nat×Bool)}(h1:p→p')(h2:q→q')(h:bX ts p q g):bX ts p' q' g:=FL h1 h2 h
def cS(P:Program)(K:List AV→Y→Prop)(Kp:AV→List AV→Y→Prop):List bQ→List AV→Y→Prop
 | [],ts,H=>K ts H
 | o::r,ts,H=>bX ts (FY P (X.ev ts) H (fun v H'=>cS P K Kp r (bR ts o.dst v) H') (fun v H'=>Kp v ts H') o.op) (cS P K Kp r (bR ts o.dst (.aG [])) H) o.guard
theorem Cv{P:Program}{ev:X→AV}{H:Y}{C Cp C' Cp':AV→Y→Prop}{op:dX}(h1:∀v H,C v H→C' v H)(h2:∀v H,Cp v H→Cp' v H)(h:FY P ev H C Cp op):FY P ev H C' Cp' op:=by
 have tQ:∀{e H'},cr.post C Cp H' e→cr.post C' Cp' H' e:=fun {e H'} h=>by
  cases e with
  | ret v=>exact h1 _ _ h
  | bF v=>exact h2 _ _ h
 cases op with
 | p q=>exact ⟨h.1,h1 _ _ h.2⟩
 | h q =>
  cases q with
  | call f ej=>exact h.mono fun e H' _ g=>tQ g
  | bM f ej =>
   simp only[FY] at h ⊢
   split at h
   ·exact ⟨h.1,h.2.mono fun e H' _ g=>tQ g⟩
   ·exact h.elim
  | bF x =>
   simp only[FY] at h ⊢
   split at h
   ·exact h2 _ _ h
   ·exact h.elim
  | oY kd x=>exact NE h1 h
  | _=>exact ⟨h.1,h1 _ _ h.2⟩
theorem gd{P:Program}{K:List AV→Y→Prop}{Kp:AV→List AV→Y→Prop}:∀{l:List bQ}{ts:List AV}{H:Y},cS P K Kp l ts H→gb P K Kp l ts H
 | [],_,_,h=>h
 | o::r,ts,H,h=>jM (fun h=>Sg (Cv (fun v H h=>gd h) (fun _ _ h=>h) h)) (fun h=>gd h) h
def yp(A:List (List Nat))(i:Nat)(hs:List (Nat×Y×Y)):AV→Prop
 | .ptr _ id _ _=>∀c∈hs,k7 A c.1 i=true→id<c.2.1.length→Y.find c.2.2 id=Y.find c.2.1 id
 | _=>True
def Sh(i:Nat)(ld:List (Nat×Nat)):AV→List (Nat×Nat)
 | .ptr _ id _ _=>(i,id)::ld
 | _=>ld
def pc(A:List (List Nat))(i:Nat)(ld:List (Nat×Nat))(H H':Y):Prop:=∀l∈ld,k7 A l.1 i=true→Y.find H' l.2=Y.find H l.2
def Ob(P:Program)(A:List (List Nat))(n i:Nat)(ev:X→AV)(H:Y)(ld:List (Nat×Nat))(hs:List (Nat×Y×Y))(C:AV→Y→List (Nat×Nat)→List (Nat×Y×Y)→Prop)(Kp:AV→Y→Prop):dX→Prop
 | .p q=>q.ok ev∧C (q.val ev) H ld hs
 | .h (.load m ag a)=>yp A i hs (ev a)∧tc H m ag (ev a)∧C (BK H m ag (ev a)) H (Sh i ld (ev a)) hs
 | .h (.call f ej)=>∃e H',D P f (ej.map ev) H e H'∧cr.post (fun v H'=>pc A i ld H H'∧C v H' ld ((i,H,H')::hs)) (fun v H'=>oB A n i=true∧Kp v H') H' e
 | .h (.bM f ej)=>match ev f with
  | .fn (.func g) a b=>bN P g=true∧∃e H',D P g (a++ej.map ev++b) H e H'∧cr.post (fun v H'=>pc A i ld H H'∧C v H' ld ((i,H,H')::hs)) (fun v H'=>oB A n i=true∧Kp v H') H' e
  | _=>False
 | .h (.bF x)=>False
 | .h (.store m a x)=>xO H m (ev a) (ev x)∧pc A i ld H (vc H (ev a) (ev x))∧C .top (vc H (ev a) (ev x)) ld ((i,H,vc H (ev a) (ev x))::hs)
 | .h (.dD k ty s x)=>(td H k (ev x)∧fq H k ty (mG H (ev x)) (ev s))∧pc A i ld H (ir H k ty (mG H (ev x)) (ev s))∧C (jW H k (mG H (ev x)) (ev s)) (ir H k ty (mG H (ev x)) (ev s)) ld ((i,H,ir H k ty (mG H (ev x)) (ev s))::hs)
 | .h (.gx g xs)=>g.ok H (xs.map ev)∧pc A i ld H (g.heap H (xs.map ev))∧C (g.val H (xs.map ev)) (g.heap H (xs.map ev)) ld ((i,H,g.heap H (xs.map ev))::hs)
 | .h q=>q.BL ev H∧C (q.rB ev H) (q.nu ev H) (HO.Jl i H ld q) hs
def cE(P:Program)(A:List (List Nat))(n:Nat)(K:List AV→Y→Prop)(Kp:AV→Y→Prop):Nat→List bQ→List AV→Y→List (Nat×Nat)→List (Nat×Y×Y)→Prop
 | _,[],ts,H,_,_=>K ts H
 | i,o::r,ts,H,ld,hs=>bX ts (Ob P A n i (X.ev ts) H ld hs (fun v H' wz hs'=>cE P A n K Kp (i+1) r (bR ts o.dst v) H' wz hs') Kp o.op) (cE P A n K Kp (i+1) r (bR ts o.dst (.aG [])) H ld hs) o.guard
theorem JC{P:Program}{A:List (List Nat)}{n i:Nat}{ev:X→AV}{H:Y}{ld:List (Nat×Nat)}{hs:List (Nat×Y×Y)}{C C':AV→Y→List (Nat×Nat)→List (Nat×Y×Y)→Prop}{Kp:AV→Y→Prop}{op:dX}
  (hC:∀v H ld hs,C v H ld hs→C' v H ld hs)(h:Ob P A n i ev H ld hs C Kp op):D6 P A n i ev H ld hs C' Kp op:=by
 cases op with
 | p q=>exact PO.gS (K:=fun v=>C' v H ld hs) h.1 (hC _ _ _ _ h.2)
 | h q =>
  cases q with
  | load m ag a =>
   obtain ⟨h1,h2,h3⟩:=h
   simp only[D6]
   split
   ·rename_i k id j f he
    rw[he] at h1 h2 h3
    refine ⟨h1,HO.gS (q:=.load m ag a) ?_ ?_⟩
    ·simp only[HO.BL];rw[he];exact h2
    ·simp only[HO.rB,HO.nu];rw[he];exact hC _ _ _ _ h3
   ·rename_i hne
    have hn:Sh i ld (ev a)=ld:=by
     cases he:ev a<;>first | rfl | (exact absurd he (hne _ _ _ _))
    rw[hn] at h3
    exact HO.gS (q:=.load m ag a) h2 (hC _ _ _ _ h3)
  | call f ej =>
   obtain ⟨e,H',h1,h2⟩:=h
   cases e with
   | ret v=>exact ⟨.ret v,H',h1,h2.1,hC _ _ _ _ h2.2⟩
   | bF v=>exact ⟨.bF v,H',h1,h2⟩
  | bM f ej =>
   have h':=h
   simp only[Ob] at h'
   show HO.bn P ev H _ _ (.bM f ej)
   simp only[HO.bn]
   split at h'
   ·rename_i he
    simp only[he]
    obtain ⟨h0,e,H',h1,h2⟩:=h'
    refine ⟨nv h0,e,H',h1,?_⟩
    cases e with
    | ret v=>exact ⟨h2.1,hC _ _ _ _ h2.2⟩
    | bF v=>exact h2
   ·exact h'.elim
  | bF x=>exact h.elim
  | store m a x=>exact HO.gS (P:=P) (K:=fun v H'=>(∀l∈ld,k7 A l.1 i=true→Y.find H' l.2=Y.find H l.2)∧C' v H' ld ((i,H,H')::hs)) (Kp:=fun v H'=>oB A n i=true∧Kp v H') (q:=.store m a x) h.1 ⟨h.2.1,hC _ _ _ _ h.2.2⟩
  | dD k ty s x=>exact HO.gS (P:=P) (K:=fun v H'=>(∀l∈ld,k7 A l.1 i=true→Y.find H' l.2=Y.find H l.2)∧C' v H' ld ((i,H,H')::hs)) (Kp:=fun v H'=>oB A n i=true∧Kp v H') (q:=.dD k ty s x) h.1 ⟨h.2.1,hC _ _ _ _ h.2.2⟩
  | gx g xs=>exact HO.gS (P:=P) (K:=fun v H'=>(∀l∈ld,k7 A l.1 i=true→Y.find H' l.2=Y.find H l.2)∧C' v H' ld ((i,H,H')::hs)) (Kp:=fun v H'=>oB A n i=true∧Kp v H') (q:=.gx g xs) h.1 ⟨h.2.1,hC _ _ _ _ h.2.2⟩
  | alloc z ty=>exact HO.gS (P:=P) (K:=fun v H'=>C' v H' ((i,H.length)::ld) hs) (Kp:=fun _ _=>False) h.1 (hC _ _ _ _ h.2)
  | box k ty x=>exact HO.gS (P:=P) (K:=fun v H'=>C' v H' ((i,H.length)::ld) hs) (Kp:=fun _ _=>False) h.1 (hC _ _ _ _ h.2)
  | dh k ty z ln ps=>exact HO.gS (P:=P) (K:=fun v H'=>C' v H' ((i,H.length)::ld) hs) (Kp:=fun _ _=>False) h.1 (hC _ _ _ _ h.2)
  | lN k ty z l c=>exact HO.gS (P:=P) (K:=fun v H'=>C' v H' ((i,H.length)::ld) hs) (Kp:=fun _ _=>False) h.1 (hC _ _ _ _ h.2)
  | _=>exact HO.gS (P:=P) (K:=fun v H'=>C' v H' ld hs) (Kp:=fun _ _=>False) h.1 (hC _ _ _ _ h.2)
theorem rD{P:Program}{A:List (List Nat)}{n:Nat}{K:List AV→Y→Prop}{Kp:AV→Y→Prop}:∀{l:List bQ}{i:Nat}{ts:List AV}{H:Y}{ld:List (Nat×Nat)}{hs:List (Nat×Y×Y)},cE P A n K Kp i l ts H ld hs→nq P A n K Kp i l ts H ld hs
 | [],_,_,_,_,_,h=>h
 | o::r,i,ts,H,ld,hs,h=>jM (fun h=>JC (fun v H ld hs h=>rD h) h) (fun h=>rD h) h
def ES(P:Program):IC→Post→List AV→Y→Prop
 | .skip,K,ts,H=>K .normal ts H
 | .ops l,K,ts,H=>cS P (K .normal) (fun v ts' H'=>K (.bF v) ts' H') l ts H
 | .cH l A,K,ts,H=>cE P A l.length (K .normal) (fun v H'=>K (.bF v) (iV l ts) H') 0 l ts H [] []
 | .seq a b,K,ts,H=>ES P a (jl (ES P b K) K) ts H
 | .cond c a b,K,ts,H=>match c.ev ts with
  | .Z (.bool t)=>(t=true→ES P a K ts H)∧(t=false→ES P b K ts H)
  | .ub=>ES P a K ts H∧ES P b K ts H
  | _=>False
 | .block id c,K,ts,H=>ES P c (kf id K) ts H
 | .loop c,K,ts,H=>∃(I:List AV→Y→Prop)(μ:List AV→Y→Nat),I ts H∧∀ts H,I ts H→ES P c (jl (fun ts' H'=>I ts' H'∧μ ts' H'<μ ts H) K) ts H
 | .exit id,K,ts,H=>K (.exit id) ts H
 | .ret,K,ts,H=>K .ret ts H
 | .WU l1 g y args d l2,K,ts,H=>cS P (fun fG H1=>bX fG (L7 P (fun v H2=>cS P (K .normal) (fun v ts' H'=>K (.bF v) ts' H') l2 (bR fG d v) H2) (fun v H2=>K (.bF v) fG H2) (args.map (X.ev fG)) H1 (y.ev fG)) (cS P (K .normal) (fun v ts' H'=>K (.bF v) ts' H') l2 (bR fG d (.aG [])) H1) g) (fun v ts' H'=>K (.bF v) ts' H') l1 ts H
 | .WV g ps sV body,K,ts,H=>FQ P ps sV body K ts H (g.ev ts)
theorem zU{P:Program}{K K' Kp zV:AV→Y→Prop}(h1:∀v H,K v H→K' v H)(h2:∀v H,Kp v H→zV v H){args:List AV}{H:Y}{v:AV}(h:L7 P K Kp args H v):L7 P K' zV args H v:=by
 cases v<;>try exact h.elim
 obtain ⟨h0,e,H',h3,h4⟩:=h
 refine ⟨h0,e,H',h3,?_⟩
 cases e with
 | ret u=>exact h1 _ _ h4
 | bF u=>exact h2 _ _ h4
theorem JD{K K':Post}(hk:∀x ts H,K x ts H→K' x ts H){ts:List AV}{H:Y}{c:Option Code}(h:L8 K ts H c):L8 K' ts H c:=by
 unfold L8 at h ⊢
 split at h<;>first | exact hk _ _ _ h | exact h.elim
theorem JE{P:Program}{ps:Array Tmp}{sV body:Code}{K K':Post}(hk:∀x ts H,K x ts H→K' x ts H){ts:List AV}{H:Y}{v:AV}(h:FQ P ps sV body K ts H v):FQ P ps sV body K' ts H v:=by
 unfold FQ at h ⊢
 split at h
 ·refine ⟨h.1,fun fn db=>?_⟩
  obtain ⟨v,H',r,ts',g1,g2,g3,g4⟩:=h.2 fn db
  exact ⟨v,H',r,ts',g1,g2,g3,JD hk g4⟩
 ·exact h.elim
theorem fw{P:Program}{K K':List AV→Y→Prop}{Kp zV:AV→List AV→Y→Prop}(h1:∀ts H,K ts H→K' ts H)(h2:∀v ts H,Kp v ts H→zV v ts H):∀{l:List bQ}{ts:List AV}{H:Y},cS P K Kp l ts H→cS P K' zV l ts H
 | [],_,_,h=>h1 _ _ h
 | o::r,ts,H,h=>jM (fun h=>Cv (fun v H h=>fw h1 h2 h) (fun v H h=>h2 _ _ _ h) h) (fun h=>fw h1 h2 h) h
theorem Oc{P:Program}{A:List (List Nat)}{n i:Nat}{ev:X→AV}{H:Y}{ld:List (Nat×Nat)}{hs:List (Nat×Y×Y)}{C C':AV→Y→List (Nat×Nat)→List (Nat×Y×Y)→Prop}{Kp zV:AV→Y→Prop}{op:dX}
  (hC:∀v H ld hs,C v H ld hs→C' v H ld hs)(hK:∀v H,Kp v H→zV v H)(h:Ob P A n i ev H ld hs C Kp op):Ob P A n i ev H ld hs C' zV op:=by
 cases op with
 | p q=>exact ⟨h.1,hC _ _ _ _ h.2⟩
 | h q =>
  cases q with
  | load m ag a=>exact ⟨h.1,h.2.1,hC _ _ _ _ h.2.2⟩
  | call f ej =>
   obtain ⟨e,H',h1,h2⟩:=h
   cases e with
   | ret v=>exact ⟨.ret v,H',h1,h2.1,hC _ _ _ _ h2.2⟩
   | bF v=>exact ⟨.bF v,H',h1,h2.1,hK _ _ h2.2⟩
  | bM f ej =>
   simp only[Ob] at h ⊢
   split at h
   ·obtain ⟨h0,e,H',h1,h2⟩:=h
    refine ⟨h0,e,H',h1,?_⟩
    cases e with
    | ret v=>exact ⟨h2.1,hC _ _ _ _ h2.2⟩
    | bF v=>exact ⟨h2.1,hK _ _ h2.2⟩
   ·exact h.elim
  | bF x=>exact h.elim
  | store m a x=>exact ⟨h.1,h.2.1,hC _ _ _ _ h.2.2⟩
  | dD k ty s x=>exact ⟨h.1,h.2.1,hC _ _ _ _ h.2.2⟩
  | gx g xs=>exact ⟨h.1,h.2.1,hC _ _ _ _ h.2.2⟩
  | _=>exact ⟨h.1,hC _ _ _ _ h.2⟩
theorem rE{P:Program}{A:List (List Nat)}{n:Nat}{K K':List AV→Y→Prop}{Kp zV:AV→Y→Prop}(h1:∀ts H,K ts H→K' ts H)(h2:∀v H,Kp v H→zV v H):∀{l:List bQ}{i:Nat}{ts:List AV}{H:Y}{ld:List (Nat×Nat)}{hs:List (Nat×Y×Y)},cE P A n K Kp i l ts H ld hs→cE P A n K' zV i l ts H ld hs
 | [],_,_,_,_,_,h=>h1 _ _ h
 | o::r,i,ts,H,ld,hs,h=>jM (fun h=>Oc (fun v H ld hs h=>rE h1 h2 h) h2 h) (fun h=>rE h1 h2 h) h
theorem zW{P:Program}:∀{c:IC}{K K':Post},(∀x ts H,K x ts H→K' x ts H)→∀{ts:List AV}{H:Y},ES P c K ts H→ES P c K' ts H:=by
 intro c
 induction c with
 | skip=>intro K K' hk ts H h;exact hk _ _ _ h
 | ops l=>intro K K' hk ts H h;exact fw (fun _ _ h=>hk _ _ _ h) (fun _ _ _ h=>hk _ _ _ h) h
 | cH l A=>intro K K' hk ts H h;exact rE (fun _ _ h=>hk _ _ _ h) (fun _ _ h=>hk _ _ _ h) h
 | seq a b ve wK =>
  intro K K' hk ts H h
  refine ve (fun x ts H h=>?_) h
  cases x<;>first | exact wK hk h | exact hk _ _ _ h
 | cond c a b ve wK =>
  intro K K' hk ts H h
  simp only[ES] at h ⊢
  split at h
  ·exact ⟨fun e=>ve hk (h.1 e),fun e=>wK hk (h.2 e)⟩
  ·exact ⟨ve hk h.1,wK hk h.2⟩
  ·exact h.elim
 | block id c ih =>
  intro K K' hk ts H h
  refine ih (fun x ts H h=>?_) h
  cases x<;>first | exact hk _ _ _ h | skip
  simp only[kf] at h ⊢
  split at h
  ·rename_i e;rw[if_pos e];exact hk _ _ _ h
  ·rename_i e;rw[if_neg e];exact hk _ _ _ h
 | loop c ih =>
  intro K K' hk ts H h
  obtain ⟨I,μ,h1,h2⟩:=h
  refine ⟨I,μ,h1,fun ts H hI=>ih (fun x ts' H' h=>?_) (h2 ts H hI)⟩
  cases x<;>first | exact h | exact hk _ _ _ h
 | exit id=>intro K K' hk ts H h;exact hk _ _ _ h
 | ret=>intro K K' hk ts H h;exact hk _ _ _ h
 | WU l1 g y args d l2=>intro K K' hk ts H h;exact fw (fun _ _ h=>jM (fun h=>zU (fun _ _ h=>fw (fun _ _ h=>hk _ _ _ h) (fun _ _ _ h=>hk _ _ _ h) h) (fun _ _ h=>hk _ _ _ h) h) (fun h=>fw (fun _ _ h=>hk _ _ _ h) (fun _ _ _ h=>hk _ _ _ h) h) h) (fun _ _ _ h=>hk _ _ _ h) h
 | WV g ps sV body=>intro K K' hk ts H h;exact JE hk h
theorem FZ{P:Program}:∀{c:IC}{K:Post}{ts:List AV}{H:Y},ES P c K ts H→E P c K ts H:=by
 intro c
 induction c with
 | skip=>intro K ts H h;exact h
 | ops l=>intro K ts H h;exact gd h
 | cH l A=>intro K ts H h;exact rD h
 | seq a b ve wK =>
  intro K ts H h
  refine ve (zW (fun x ts H h=>?_) h)
  cases x<;>first | exact wK h | exact h
 | cond c a b ve wK =>
  intro K ts H h
  simp only[ES,E] at h ⊢
  split at h
  ·rename_i he;simp only[he];exact ⟨fun e=>ve (h.1 e),fun e=>wK (h.2 e)⟩
  ·rename_i he;simp only[he];exact ⟨ve h.1,wK h.2⟩
  ·exact h.elim
 | block id c ih=>intro K ts H h;exact ih h
 | loop c ih =>
  intro K ts H h
  obtain ⟨I,μ,h1,h2⟩:=h
  exact ⟨I,μ,h1,fun ts H hI=>ih (h2 ts H hI)⟩
 | exit id=>intro K ts H h;exact h
 | ret=>intro K ts H h;exact h
 | WU l1 g y args d l2=>intro K ts H h;exact gd (fw (fun _ _ h=>jM (fun h=>zU (fun _ _ h=>gd h) (fun _ _ h=>h) h) (fun h=>gd h) h) (fun _ _ _ h=>h) h)
 | WV g ps sV body=>intro K ts H h;exact h
def Ej(want:Bool)(yes no:Prop):AV→Prop
 | .Z (.bool b)=>(b=want→yes)∧(b≠want→no)
 | .aG _=>no
 | _=>False
theorem Cw{ts:List AV}{yes no:Prop}{g:Nat}{want:Bool}:bX ts yes no (some (g,want))=Ej want yes no (ts.getD g .top):=by
 simp only[bX]
 generalize ts.getD g .top=v
 cases v with
 | Z v=>cases v<;>rfl
 | _=>rfl
def tR(P:Program)(K:List AV→Y→Prop)(Kp:AV→List AV→Y→Prop)(d:Option Nat)(f:FuncId)(args:List AV)(r:List bQ)(ts:List AV)(H:Y):Prop :=
 DK P f args H (fun e H'=>cr.post (fun v H'=>cS P K Kp r (bR ts d v) H') (fun v H'=>Kp v ts H') H' e)
theorem ai{P:Program}{K:List AV→Y→Prop}{Kp:AV→List AV→Y→Prop}{d:Option Nat}{f:FuncId}{args:List AV}{r:List bQ}{ts:List AV}{H H':Y}{v:AV}(h:D P f args H (.ret v) H')(hk:cS P K Kp r (bR ts d v) H'):tR P K Kp d f args r ts H:=h.dk.mono fun e H1 _ ⟨h1,h2⟩=>by subst h1 h2;exact hk
theorem nw{P:Program}{K:List AV→Y→Prop}{Kp:AV→List AV→Y→Prop}{d:Option Nat}{f:FuncId}{args:List AV}{r:List bQ}{ts:List AV}{H H':Y}{v:AV}(h:D P f args H (.bF v) H')(hk:Kp v ts H'):tR P K Kp d f args r ts H:=h.dk.mono fun e H1 _ ⟨h1,h2⟩=>by subst h1 h2;exact hk
theorem gE{P:Program}{K:List AV→Y→Prop}{Kp:AV→List AV→Y→Prop}{d:Option Nat}{f:FuncId}{args:List AV}{r:List bQ}{ts:List AV}{H:Y}{Kr:cr→Y→Prop}(h:DK P f args H Kr)(hk:∀e H',H.length≤H'.length→Kr e H'→cr.post (fun v H'=>cS P K Kp r (bR ts d v) H') (fun v H'=>Kp v ts H') H' e):tR P K Kp d f args r ts H:=h.mono hk
theorem pY{P:Program}{K:List AV→Y→Prop}{Kp:AV→List AV→Y→Prop}{d:Option Nat}{f:FuncId}{args:List AV}{r:List bQ}{ts:List AV}{H:Y}{Q:AV→Y→Prop}(h:DK P f args H (fun e H'=>∃v,e = .ret v∧Q v H'))(hk:∀v H',H.length≤H'.length→Q v H'→cS P K Kp r (bR ts d v) H'):tR P K Kp d f args r ts H:=h.mono fun e H' hl ⟨v,he,hq⟩=>by subst he;exact hk v H' hl hq
def JF(P:Program)(K:List AV→Y→Prop)(Kp:AV→List AV→Y→Prop)(d:Option Nat)(f:AV)(args:List AV)(r:List bQ)(ts:List AV)(H:Y):Prop :=
 match f with
 | .fn (.func g) a b=>bN P g=true∧tR P K Kp d g (a++args++b) r ts H
 | _=>False
def tf(P:Program)(K:List AV→Y→Prop)(Kp:AV→List AV→Y→Prop)(d:Option Nat)(op:dX)(want:Bool)(r:List bQ)(ts:List AV)(H:Y)(v:AV):Prop :=
 match v with
 | .Z (.bool b)=>(b=want→cS P K Kp (⟨d,none,op⟩::r) ts H)∧(b≠want→cS P K Kp r (bR ts d (.aG [])) H)
 | .aG _=>cS P K Kp r (bR ts d (.aG [])) H
 | _=>False
section
variable {P:Program}{K:List AV→Y→Prop}{Kp:AV→List AV→Y→Prop}{d:Option Nat}{r:List bQ}{ts:List AV}{H:Y}
theorem Od:cS P K Kp [] ts H=K ts H:=rfl
theorem WW{q:PO}:cS P K Kp (⟨d,none,.p q⟩::r) ts H=(q.ok (X.ev ts)∧cS P K Kp r (bR ts d (q.val (X.ev ts))) H):=rfl
theorem JG{n:Nat}{ag:Bool}{a:X}:cS P K Kp (⟨d,none,.h (.load n ag a)⟩::r) ts H=(tc H n ag (a.ev ts)∧cS P K Kp r (bR ts d (BK H n ag (a.ev ts))) H):=rfl
theorem F6{z:AV}{ty:TypeId}:cS P K Kp (⟨d,none,.h (.alloc z ty)⟩::r) ts H=cS P K Kp r (bR ts d (.ptr z.ax H.length 0 0)) (some ⟨z.ax,[z],true,ty⟩::H):=by
 show (True∧_)=_;rw[true_and];rfl
theorem Oe{k:Nat}{ty:TypeId}{x:X}:cS P K Kp (⟨d,none,.h (.box k ty x)⟩::r) ts H=(((x.ev ts).bT=false∧(x.ev ts).ax=k)∧cS P K Kp r (bR ts d (.ptr k H.length 0 0)) (some ⟨k,[x.ev ts],true,ty⟩::H)):=rfl
theorem Og{k:Nat}{ty:TypeId}{z:AV}{ln:Nat}{ps:List (Nat×X)}:cS P K Kp (⟨d,none,.h (.dK k ty z ln ps)⟩::r) ts H=(lc (X.ev ts) k (List.replicate ln z) ps∧cS P K Kp r (bR ts d (.an k (pb (X.ev ts) (List.replicate ln z) ps) (some []))) H):=rfl
theorem JH{k:Nat}{ty:TypeId}{z:AV}{ln:Nat}{ps:List (Nat×X)}:cS P K Kp (⟨d,none,.h (.dh k ty z ln ps)⟩::r) ts H=(lc (X.ev ts) k (List.replicate ln z) ps∧cS P K Kp r (bR ts d (.aE k H.length 0 ln (some ln))) (some ⟨k,pb (X.ev ts) (List.replicate ln z) ps,true,ty⟩::H)):=rfl
theorem F7{n:Nat}{a x:X}:cS P K Kp (⟨d,none,.h (.store n a x)⟩::r) ts H=(xO H n (a.ev ts) (x.ev ts)∧cS P K Kp r (bR ts d .top) (vc H (a.ev ts) (x.ev ts))):=rfl
theorem JI{k:Nat}{ty:TypeId}{z:AV}{l c:X}:cS P K Kp (⟨d,none,.h (.lN k ty z l c)⟩::r) ts H=((pX (l.ev ts)∧pX (c.ev ts)∧0≤aU (l.ev ts)∧aU (l.ev ts)≤aU (c.ev ts)∧aU (c.ev ts)≤100000000)∧cS P K Kp r (bR ts d (.aE k H.length 0 (aU (l.ev ts)).toNat (some (aU (c.ev ts)).toNat))) (some ⟨k,List.replicate (aU (c.ev ts)).toNat z,true,ty⟩::H)):=rfl
theorem Si{g:GX}{xs:List X}:cS P K Kp (⟨d,none,.h (.gx g xs)⟩::r) ts H=(g.ok H (xs.map (X.ev ts))∧cS P K Kp r (bR ts d (g.val H (xs.map (X.ev ts)))) (g.heap H (xs.map (X.ev ts)))):=rfl
theorem Oh{kd:Ja}{x:X}:cS P K Kp (⟨d,none,.h (.oY kd x)⟩::r) ts H=Jb (fun v H'=>cS P K Kp r (bR ts d v) H') H kd (x.ev ts):=rfl
theorem Oi{k:Nat}{ty:TypeId}{s x:X}:cS P K Kp (⟨d,none,.h (.dD k ty s x)⟩::r) ts H=((td H k (x.ev ts)∧fq H k ty (mG H (x.ev ts)) (s.ev ts))∧cS P K Kp r (bR ts d (jW H k (mG H (x.ev ts)) (s.ev ts))) (ir H k ty (mG H (x.ev ts)) (s.ev ts))):=rfl
theorem JJ{f:FuncId}{ej:List X}:cS P K Kp (⟨d,none,.h (.call f ej)⟩::r) ts H=tR P K Kp d f (ej.map (X.ev ts)) r ts H:=rfl
theorem F8{f:X}{ej:List X}:cS P K Kp (⟨d,none,.h (.bM f ej)⟩::r) ts H=JF P K Kp d (f.ev ts) (ej.map (X.ev ts)) r ts H:=by
 show (match f.ev ts with
  | .fn (.func g) a b=>bN P g=true∧DK P g (a++ej.map (X.ev ts)++b) H (fun e H'=>cr.post _ _ H' e)
  | _=>False)=_
 unfold JF
 cases f.ev ts<;>rfl
theorem F9{g:FuncId}{a b ej:List AV}:JF P K Kp d (.fn (.func g) a b) ej r ts H=(bN P g=true∧tR P K Kp d g (a++ej++b) r ts H):=rfl
theorem Oj{g:Nat}{want:Bool}{op:dX}:cS P K Kp (⟨d,some (g,want),op⟩::r) ts H=tf P K Kp d op want r ts H (ts.getD g .top):=by
 have hg:∀{yes no:Prop}{v:AV},Ej want yes no v=(match v with
  | .Z (.bool b)=>(b=want→yes)∧(b≠want→no)
  | .aG _=>no
  | _=>False):=fun {_ _} {v}=>by cases v<;>rfl
 exact Cw.trans hg
theorem Sj{op:dX}:tf P K Kp d op true r ts H (.Z (.bool true))=cS P K Kp (⟨d,none,op⟩::r) ts H:=by simp[tf]
theorem Sk{op:dX}:tf P K Kp d op false r ts H (.Z (.bool false))=cS P K Kp (⟨d,none,op⟩::r) ts H:=by simp[tf]
theorem Sl{op:dX}:tf P K Kp d op true r ts H (.Z (.bool false))=cS P K Kp r (bR ts d (.aG [])) H:=by simp[tf]
theorem Sm{op:dX}:tf P K Kp d op false r ts H (.Z (.bool true))=cS P K Kp r (bR ts d (.aG [])) H:=by simp[tf]
theorem Ol{op:dX}{want:Bool}{vs:List AV}:tf P K Kp d op want r ts H (.aG vs)=cS P K Kp r (bR ts d (.aG [])) H:=rfl
end
def zX(P:Program)(A:List (List Nat))(n:Nat)(K:List AV→Y→Prop)(Kp:AV→Y→Prop)(i:Nat)(d:Option Nat)(f:FuncId)(args:List AV)(r:List bQ)(ts:List AV)(H:Y)(ld:List (Nat×Nat))(hs:List (Nat×Y×Y)):Prop :=
 ∃e H',D P f args H e H'∧cr.post (fun v H'=>pc A i ld H H'∧cE P A n K Kp (i+1) r (bR ts d v) H' ld ((i,H,H')::hs)) (fun v H'=>oB A n i=true∧Kp v H') H' e
def JK(P:Program)(A:List (List Nat))(n:Nat)(K:List AV→Y→Prop)(Kp:AV→Y→Prop)(i:Nat)(d:Option Nat)(f:AV)(args:List AV)(r:List bQ)(ts:List AV)(H:Y)(ld:List (Nat×Nat))(hs:List (Nat×Y×Y)):Prop :=
 match f with
 | .fn (.func g) a b=>bN P g=true∧zX P A n K Kp i d g (a++args++b) r ts H ld hs
 | _=>False
def tg(P:Program)(A:List (List Nat))(n:Nat)(K:List AV→Y→Prop)(Kp:AV→Y→Prop)(i:Nat)(d:Option Nat)(op:dX)(want:Bool)(r:List bQ)(ts:List AV)(H:Y)(ld:List (Nat×Nat))(hs:List (Nat×Y×Y))(v:AV):Prop :=
 match v with
 | .Z (.bool b)=>(b=want→cE P A n K Kp i (⟨d,none,op⟩::r) ts H ld hs)∧(b≠want→cE P A n K Kp (i+1) r (bR ts d (.aG [])) H ld hs)
 | .aG _=>cE P A n K Kp (i+1) r (bR ts d (.aG [])) H ld hs
 | _=>False
section
variable {P:Program}{A:List (List Nat)}{n i:Nat}{K:List AV→Y→Prop}{Kp:AV→Y→Prop}{d:Option Nat}{r:List bQ}{ts:List AV}{H:Y}{ld:List (Nat×Nat)}{hs:List (Nat×Y×Y)}
theorem lg{f:FuncId}{args:List AV}{H':Y}{v:AV}(h:D P f args H (.ret v) H')(hc:pc A i ld H H')(hk:cE P A n K Kp (i+1) r (bR ts d v) H' ld ((i,H,H')::hs)):zX P A n K Kp i d f args r ts H ld hs:=⟨_,_,h,hc,hk⟩
theorem Om:pc A i ld H H=True:=by simp[pc]
theorem aJ{f:FuncId}{args:List AV}{v:AV}(h:D P f args H (.ret v) H)(hk:cE P A n K Kp (i+1) r (bR ts d v) H ld ((i,H,H)::hs)):zX P A n K Kp i d f args r ts H ld hs:=⟨_,_,h,by simp[pc],hk⟩
theorem Cx{G:Y}(h:∀l∈ld,l.2<H.length):pc A i ld H (G++H):=fun l hl _=>Y.bw (h l hl)
theorem JL:cE P A n K Kp i [] ts H ld hs=K ts H:=rfl
theorem Sn{q:PO}:cE P A n K Kp i (⟨d,none,.p q⟩::r) ts H ld hs=(q.ok (X.ev ts)∧cE P A n K Kp (i+1) r (bR ts d (q.val (X.ev ts))) H ld hs):=rfl
theorem Ga{m:Nat}{ag:Bool}{a:X}:cE P A n K Kp i (⟨d,none,.h (.load m ag a)⟩::r) ts H ld hs=(yp A i hs (a.ev ts)∧tc H m ag (a.ev ts)∧cE P A n K Kp (i+1) r (bR ts d (BK H m ag (a.ev ts))) H (Sh i ld (a.ev ts)) hs):=rfl
theorem Ek{z:AV}{ty:TypeId}:cE P A n K Kp i (⟨d,none,.h (.alloc z ty)⟩::r) ts H ld hs=cE P A n K Kp (i+1) r (bR ts d (.ptr z.ax H.length 0 0)) (some ⟨z.ax,[z],true,ty⟩::H) ((i,H.length)::ld) hs:=by
 show (True∧_)=_;rw[true_and];rfl
theorem JM{k:Nat}{ty:TypeId}{x:X}:cE P A n K Kp i (⟨d,none,.h (.box k ty x)⟩::r) ts H ld hs=(((x.ev ts).bT=false∧(x.ev ts).ax=k)∧cE P A n K Kp (i+1) r (bR ts d (.ptr k H.length 0 0)) (some ⟨k,[x.ev ts],true,ty⟩::H) ((i,H.length)::ld) hs):=rfl
theorem JN{k:Nat}{ty:TypeId}{z:AV}{ln:Nat}{ps:List (Nat×X)}:cE P A n K Kp i (⟨d,none,.h (.dK k ty z ln ps)⟩::r) ts H ld hs=(lc (X.ev ts) k (List.replicate ln z) ps∧cE P A n K Kp (i+1) r (bR ts d (.an k (pb (X.ev ts) (List.replicate ln z) ps) (some []))) H ld hs):=rfl
theorem Gb{k:Nat}{ty:TypeId}{z:AV}{ln:Nat}{ps:List (Nat×X)}:cE P A n K Kp i (⟨d,none,.h (.dh k ty z ln ps)⟩::r) ts H ld hs=(lc (X.ev ts) k (List.replicate ln z) ps∧cE P A n K Kp (i+1) r (bR ts d (.aE k H.length 0 ln (some ln))) (some ⟨k,pb (X.ev ts) (List.replicate ln z) ps,true,ty⟩::H) ((i,H.length)::ld) hs):=rfl
theorem El{m:Nat}{a x:X}:cE P A n K Kp i (⟨d,none,.h (.store m a x)⟩::r) ts H ld hs=(xO H m (a.ev ts) (x.ev ts)∧pc A i ld H (vc H (a.ev ts) (x.ev ts))∧cE P A n K Kp (i+1) r (bR ts d .top) (vc H (a.ev ts) (x.ev ts)) ld ((i,H,vc H (a.ev ts) (x.ev ts))::hs)):=rfl
theorem Gc{k:Nat}{ty:TypeId}{z:AV}{l c:X}:cE P A n K Kp i (⟨d,none,.h (.lN k ty z l c)⟩::r) ts H ld hs=((pX (l.ev ts)∧pX (c.ev ts)∧0≤aU (l.ev ts)∧aU (l.ev ts)≤aU (c.ev ts)∧aU (c.ev ts)≤100000000)∧cE P A n K Kp (i+1) r (bR ts d (.aE k H.length 0 (aU (l.ev ts)).toNat (some (aU (c.ev ts)).toNat))) (some ⟨k,List.replicate (aU (c.ev ts)).toNat z,true,ty⟩::H) ((i,H.length)::ld) hs):=rfl
theorem Oo{g:GX}{xs:List X}:cE P A n K Kp i (⟨d,none,.h (.gx g xs)⟩::r) ts H ld hs=(g.ok H (xs.map (X.ev ts))∧pc A i ld H (g.heap H (xs.map (X.ev ts)))∧cE P A n K Kp (i+1) r (bR ts d (g.val H (xs.map (X.ev ts)))) (g.heap H (xs.map (X.ev ts))) ld ((i,H,g.heap H (xs.map (X.ev ts)))::hs)):=rfl
theorem JO{k:Nat}{ty:TypeId}{s x:X}:cE P A n K Kp i (⟨d,none,.h (.dD k ty s x)⟩::r) ts H ld hs=((td H k (x.ev ts)∧fq H k ty (mG H (x.ev ts)) (s.ev ts))∧pc A i ld H (ir H k ty (mG H (x.ev ts)) (s.ev ts))∧cE P A n K Kp (i+1) r (bR ts d (jW H k (mG H (x.ev ts)) (s.ev ts))) (ir H k ty (mG H (x.ev ts)) (s.ev ts)) ld ((i,H,ir H k ty (mG H (x.ev ts)) (s.ev ts))::hs)):=rfl
theorem Gd{f:FuncId}{ej:List X}:cE P A n K Kp i (⟨d,none,.h (.call f ej)⟩::r) ts H ld hs=zX P A n K Kp i d f (ej.map (X.ev ts)) r ts H ld hs:=rfl
theorem Em{f:X}{ej:List X}:cE P A n K Kp i (⟨d,none,.h (.bM f ej)⟩::r) ts H ld hs=JK P A n K Kp i d (f.ev ts) (ej.map (X.ev ts)) r ts H ld hs:=by
 show (match f.ev ts with
  | .fn (.func g) a b=>bN P g=true∧∃e H',D P g (a++ej.map (X.ev ts)++b) H e H'∧cr.post _ _ H' e
  | _=>False)=_
 unfold JK
 cases f.ev ts<;>rfl
theorem Ge{g:FuncId}{a b ej:List AV}:JK P A n K Kp i d (.fn (.func g) a b) ej r ts H ld hs=(bN P g=true∧zX P A n K Kp i d g (a++ej++b) r ts H ld hs):=rfl
theorem JP{g:Nat}{want:Bool}{op:dX}:cE P A n K Kp i (⟨d,some (g,want),op⟩::r) ts H ld hs=tg P A n K Kp i d op want r ts H ld hs (ts.getD g .top):=by
 have hg:∀{yes no:Prop}{v:AV},Ej want yes no v=(match v with
  | .Z (.bool b)=>(b=want→yes)∧(b≠want→no)
  | .aG _=>no
  | _=>False):=fun {_ _} {v}=>by cases v<;>rfl
 exact Cw.trans hg
theorem Sp{op:dX}:tg P A n K Kp i d op true r ts H ld hs (.Z (.bool true))=cE P A n K Kp i (⟨d,none,op⟩::r) ts H ld hs:=by simp[tg]
theorem Sq{op:dX}:tg P A n K Kp i d op false r ts H ld hs (.Z (.bool false))=cE P A n K Kp i (⟨d,none,op⟩::r) ts H ld hs:=by simp[tg]
theorem Sr{op:dX}:tg P A n K Kp i d op true r ts H ld hs (.Z (.bool false))=cE P A n K Kp (i+1) r (bR ts d (.aG [])) H ld hs:=by simp[tg]
theorem Ss{op:dX}:tg P A n K Kp i d op false r ts H ld hs (.Z (.bool true))=cE P A n K Kp (i+1) r (bR ts d (.aG [])) H ld hs:=by simp[tg]
theorem Oq{op:dX}{want:Bool}{vs:List AV}:tg P A n K Kp i d op want r ts H ld hs (.aG vs)=cE P A n K Kp (i+1) r (bR ts d (.aG [])) H ld hs:=rfl
end
def wL(P:Program)(a b:IC)(K:Post)(ts:List AV)(H:Y)(v:AV):Prop :=
 match v with
 | .Z (.bool t)=>(t=true→ES P a K ts H)∧(t=false→ES P b K ts H)
 | .ub=>ES P a K ts H∧ES P b K ts H
 | _=>False
section
variable {P:Program}{K:Post}{ts:List AV}{H:Y}
theorem Su:ES P .skip K ts H=K .normal ts H:=rfl
theorem WX{l:List bQ}:ES P (.ops l) K ts H=cS P (K .normal) (fun v ts' H'=>K (.bF v) ts' H') l ts H:=rfl
theorem Sv{l:List bQ}{A:List (List Nat)}:ES P (.cH l A) K ts H=cE P A l.length (K .normal) (fun v H'=>K (.bF v) (iV l ts) H') 0 l ts H [] []:=rfl
theorem Mi{a b:IC}:ES P (.seq a b) K ts H=ES P a (jl (ES P b K) K) ts H:=rfl
theorem Gf{c:X}{a b:IC}:ES P (.cond c a b) K ts H=wL P a b K ts H (c.ev ts):=by
 simp only[ES]
 generalize c.ev ts=v
 cases v with
 | Z v=>cases v<;>rfl
 | _=>rfl
theorem Cy{id:Nat}{c:IC}:ES P (.block id c) K ts H=ES P c (kf id K) ts H:=rfl
theorem Sw{id:Nat}:ES P (.exit id) K ts H=K (.exit id) ts H:=rfl
theorem WY:ES P .ret K ts H=K .ret ts H:=rfl
theorem Gg{a b:IC}:wL P a b K ts H (.Z (.bool true))=ES P a K ts H:=by simp[wL]
theorem Gh{a b:IC}:wL P a b K ts H (.Z (.bool false))=ES P b K ts H:=by simp[wL]
theorem iX{a b:IC}{p:Prop} [Decidable p](h1:p→ES P a K ts H)(h2:¬p→ES P b K ts H):wL P a b K ts H (.Z (.bool (decide p))):=⟨fun e=>h1 (of_decide_eq_true e),fun e=>h2 (of_decide_eq_false e)⟩
theorem Sx{next:List AV→Y→Prop}:jl next K .normal ts H=next ts H:=rfl
theorem Sy{next:List AV→Y→Prop}{i:Nat}:jl next K (.exit i) ts H=K (.exit i) ts H:=rfl
theorem Sz{next:List AV→Y→Prop}:jl next K .ret ts H=K .ret ts H:=rfl
theorem SA{next:List AV→Y→Prop}{v:AV}:jl next K (.bF v) ts H=K (.bF v) ts H:=rfl
theorem Ot{id:Nat}:kf id K .normal ts H=K .normal ts H:=rfl
theorem Cz{id i:Nat}:kf id K (.exit i) ts H=if i=id then K .normal ts H else K (.exit i) ts H:=rfl
theorem Ou{id:Nat}:kf id K .ret ts H=K .ret ts H:=rfl
theorem Ov{id:Nat}{v:AV}:kf id K (.bF v) ts H=K (.bF v) ts H:=rfl
theorem zY{c:IC}(I:List AV→Y→Prop)(μ:List AV→Y→Nat)(h0:I ts H)(h:∀ts H,I ts H→ES P c (jl (fun ts' H'=>I ts' H'∧μ ts' H'<μ ts H) K) ts H):ES P (.loop c) K ts H:=⟨I,μ,h0,h⟩
end
def gf:List RV→List AV→Y→Prop
 | [],_,_=>True
 | .t _::r,ts,H=>gf r ts H
 | .c a n ag::r,ts,H=>(match ts.getD a .top with
  | .ptr k id j f=>tc H n ag (.ptr k id j f)
  | _=>False)∧gf r ts H
def jf:List RV→List AV→Y→List AV
 | [],_,_=>[]
 | .t n::r,ts,H=>ts.getD n .top::jf r ts H
 | .c a n ag::r,ts,H=>BK H n ag (ts.getD a .top)::jf r ts H
theorem rF:∀{rs:List RV}{ts:List AV}{H:Y}{K:List AV→Prop},gf rs ts H→K (jf rs ts H)→rz rs ts H K
 | [],_,_,_,_,hk=>hk
 | .t n::r,ts,H,K,h,hk=>rF (rs:=r) h hk
 | .c a n ag::r,ts,H,K,h,hk=>by
  obtain ⟨h1,h2⟩:=h
  simp only[jf] at hk
  simp only[rz]
  cases he:ts.getD a .top<;>rw[he] at h1 hk<;>try exact h1.elim
  simp only[tc,BK] at h1 hk
  cases hf:Y.find H _ with
  | none=>rw[hf] at h1;exact h1.elim
  | some blk =>
   rw[hf] at h1 hk
   exact ⟨blk,_,hf,rC h1.2.1,⟨h1.1,h1.2.2⟩,rF h2 hk⟩
def pZ(rs:List RV)(Kr:cr→Y→Prop):Post
 | .normal,ts,H=>gf rs ts H∧Kr (.ret (oneOf (jf rs ts H))) H
 | .ret,ts,H=>gf rs ts H∧Kr (.ret (oneOf (jf rs ts H))) H
 | .bF v,ts,H=>Kr (.bF v) H
 | .exit _,_,_=>False
theorem kg{rs:List RV}{Kr:cr→Y→Prop}:∀x ts H,pZ rs Kr x ts H→wG rs Kr x ts H
 | .normal,_,_,h=>rF h.1 h.2
 | .ret,_,_,h=>rF h.1 h.2
 | .bF _,_,_,h=>h
 | .exit _,_,_,h=>h
section
variable {rs:List RV}{Kr:cr→Y→Prop}{ts:List AV}{H:Y}
theorem SB:pZ rs Kr .normal ts H=(gf rs ts H∧Kr (.ret (oneOf (jf rs ts H))) H):=rfl
theorem SC:pZ rs Kr .ret ts H=(gf rs ts H∧Kr (.ret (oneOf (jf rs ts H))) H):=rfl
theorem SD{v:AV}:pZ rs Kr (.bF v) ts H=Kr (.bF v) H:=rfl
end
theorem aA{P:Program}{ic:IC}{rs:List RV}{Kr:cr→Y→Prop}{ts:List AV}{H:Y}(h:ES P ic (pZ rs Kr) ts H):E P ic (wG rs Kr) ts H:=FZ (zW kg h)
theorem wrap_i64{n:Int}(h1 : -9223372036854775808≤n)(h2:n≤9223372036854775807):IntKind.i64.wrap n=n:=by
 unfold IntKind.wrap
 simp[IntKind.signed,IntKind.bits]
 omega
def fL:aH:=fun _=>none
abbrev O0:Nat→Prop:=Own fL []
theorem qy{b:Nat}:¬Own fL [] b:=by rintro ⟨id,blk,h,_⟩;simp[fL] at h
theorem Mj{w:World}(hg:yh fL [] w):Rel fL [] w:=⟨hg,fun id b h=>by simp[fL] at h,fun i j b h=>by simp[fL] at h,fun id b k h=>by simp[fL] at h⟩
section
variable {φ:aH}{O:Nat→Prop}{w:World}
theorem rG{l:List AV}{g g':Nat→Option Value}(h:∀i v,g i=some v→g' i=some v)(hr:Rs φ O w l g):Rs φ O w l g' :=
 gC (ok:=fun _=>True) Later.refl l g g' (AV.cq l) h hr
theorem WZ{l m:List AV}:∀{g:Nat→Option Value},Rs φ O w l g→Rs φ O w m (fun i=>g (l.length+i))→Rs φ O w (l++m) g:=by
 induction l with
 | nil=>intro g _ h;simpa using h
 | cons x r ih =>
  intro g h1 h2
  refine ⟨h1.1,h1.2.1,h1.2.2.1,ih h1.2.2.2 ?_⟩
  refine rG (fun i v hv=>?_) h2
  rw[←hv]
  show g _=g _
  congr 1
  simp only[List.length_cons]
  omega
theorem vi{x:AV}{g:Nat→Option Value}(ha:x.isAgg=false){u:Value}(hu:g 0=some u)(h1:u.oneCell'=true)(hr:R φ O w x g):Rs φ O w x.cells g:=by
 have:x.cells=[x]:=by cases x<;>first | rfl | (simp[AV.isAgg] at ha)
 rw[this]
 exact ⟨ha,hr,⟨u,hu,h1⟩,trivial⟩
theorem zZ{b k:Nat}:∀{l:List AV}{off:Nat},(∀i x,l[i]? = some x→x.ax=k∧Rs φ O w x.cells (cC w b (off+i*k)))→Rl φ O w b k l off
 | [],_,_=>trivial
 | x::r,off,h=>by
  obtain ⟨h1,h2⟩:=h 0 x rfl
  have h3:=y6 (r:=[]) (by rw[List.append_nil];exact h2)
  simp only[Nat.zero_mul,Nat.add_zero] at h3
  refine ⟨h1,h3.2,h3.1,zZ fun i y hy=>?_⟩
  have:=h (i+1) y (by simpa using hy)
  rw[Nat.add_mul,Nat.one_mul,Nat.add_comm (i*k) k,←Nat.add_assoc] at this
  exact this
end
inductive od{α β:Type}(p:α→β→Prop):List α→List β→Prop where
 | nil:od p [] []
 | cons {a:α}{b:β}{r:List α}{s:List β}:p a b→od p r s→od p (a::r) (b::s)
theorem od.length{α β:Type}{p:α→β→Prop}{l:List α}{m:List β}(h:od p l m):l.length=m.length:=by
 induction h with
 | nil=>rfl
 | cons _ _ ih=>simp[ih]
theorem od.Ml{α β:Type}{p:α→β→Prop}:∀{l:List α}{m:List β},l.length=m.length→(∀(i:Nat)(a:α)(b:β),l[i]? = some a→m[i]? = some b→p a b)→od p l m
 | [],[],_,_=>.nil
 | [],_::_,h,_=>by simp at h
 | _::_,[],h,_=>by simp at h
 | a::r,b::s,h,hp=>.cons (hp 0 a b rfl rfl) (od.Ml (by simpa using h) fun i x y hx hy=>hp (i+1) x y (by simpa using hx) (by simpa using hy))
theorem od.mono{α β:Type}{p q:α→β→Prop}(hq:∀a b,p a b→q a b){l:List α}{m:List β}(h:od p l m):od q l m:=by
 induction h with
 | nil=>exact .nil
 | cons h1 _ ih=>exact .cons (hq _ _ h1) ih
theorem Gi{α:Type}{p:Nat→α→Prop}:∀(n:Nat),(∀i,i<n→∃a,p i a)→∃l:List α,l.length=n∧∀i a,l[i]? = some a→p i a
 | 0,_=>⟨[],rfl,fun i a h=>by simp at h⟩
 | n+1,h=>by
  obtain ⟨l,h1,h2⟩:=Gi n fun i hi=>h i (by omega)
  obtain ⟨a,ha⟩:=h n (by omega)
  refine ⟨l++[a],by simp[h1],fun i x hx=>?_⟩
  by_cases e:i<l.length
  ·rw[List.getElem?_append_left e] at hx
   exact h2 i x hx
  ·rw[List.getElem?_append_right (by omega)] at hx
   have:i - l.length=0:=by
    have:=(List.getElem?_eq_some_iff.1 hx).1
    simp at this
    omega
   rw[this] at hx
   simp at hx
   subst hx
   have:i=n:=by omega
   rw[this]
   exact ha
section
variable {Hh:Type}{enc:TypeId×Value→Hh}{P:Program}{w:World}{n:Nat}{t:TypeId}
def jX(enc:TypeId×Value→Hh)(P:Program)(w:World)(n:Nat)(t:TypeId){α:Type}(en:α→AV)(good:α→DataW Hh→Prop):Prop :=
 ∀cs d ps,DataW.trod enc P w 0 (fun _=>true) true n t cs=some (d,ps)→∃a,cs.length=(en a).ax∧Rs fL O0 w (en a).cells (fun i=>cs[i]?)∧good a d
def rH(enc:TypeId×Value→Hh)(P:Program)(w:World)(n:Nat)(off:Nat)(fs:List Field){α:Type}(en:α→List AV)(good:α→List (DataW Hh)→Prop):Prop :=
 ∀(cs:List Value)(xs:List (DataW Hh×List MemPlace)),xs.length=fs.length→(∀(i:Nat)(f:Field),fs[i]? = some f→DataW.trod enc P w 0 (fun _=>true) true n f.type ((cs.drop f.offset).take (P.cellsOf f.type))=xs[i]?)→
  ∃a,Rs fL O0 w (en a) (fun i=>cs[off+i]?)∧good a (xs.map (·.1))
theorem jX.zero{α:Type}{en:α→AV}{good:α→DataW Hh→Prop}:jX enc P w 0 t en good:=fun cs d ps h=>by simp[DataW.trod] at h
theorem jX.map{α β:Type}{en:α→AV}{good:α→DataW Hh→Prop}(h:jX enc P w n t en good)(f:α→β){en':β→AV}{SF:β→DataW Hh→Prop}(he:∀a d,good a d→en' (f a)=en a∧SF (f a) d):jX enc P w n t en' SF:=by
 intro cs d ps hd
 obtain ⟨a,h1,h2,h3⟩:=h cs d ps hd
 obtain ⟨h4,h5⟩:=he a d h3
 exact ⟨f a,by rw[h4];exact h1,by rw[h4];exact h2,h5⟩
theorem jX.int{k:IntKind}(ht:P.underlying t=some (.int k)):jX enc P w n t (fun i:Int=>.Z (.int k i)) (fun i d=>d = .lit (.int k i)∧(Lit.int k i).wf=true):=by
 intro cs d ps h
 obtain ⟨a,rfl,h2,h3⟩:=DataW.trod_int ht h
 cases h2
 exact ⟨a,rfl,vi rfl (u:=.int k a) rfl rfl rfl,rfl,h3⟩
theorem jX.bool(ht:P.underlying t=some .bool):jX enc P w n t (fun i:Bool=>.Z (.bool i)) (fun i d=>d = .lit (.bool i)):=by
 intro cs d ps h
 obtain ⟨a,rfl,h2⟩:=DataW.trod_bool ht h
 cases h2
 exact ⟨a,rfl,vi rfl (u:=.bool a) rfl rfl rfl,rfl⟩
theorem jX.str(ht:P.underlying t=some .string):jX enc P w n t (fun s:ByteArray=>.Z (.string s)) (fun s d=>d = .lit (.string s.data.toList)):=by
 intro cs d ps h
 obtain ⟨a,rfl,h2,_⟩:=DataW.trod_string ht h
 cases h2
 exact ⟨a,rfl,vi rfl (u:=.string a) rfl rfl rfl,rfl⟩
theorem rH.nil{off:Nat}:rH enc P w n off [] (fun _:Unit=>[]) (fun _ l=>l=[]):=fun cs xs hl _=>⟨(),trivial,by
 have:xs=[]:=List.length_eq_zero_iff.1 hl
 rw[this];rfl⟩
theorem rH.cons{off k:Nat}{f:Field}{fs:List Field}{α β:Type}{e1:α→AV}{g1:α→DataW Hh→Prop}{e2:β→List AV}{g2:β→List (DataW Hh)→Prop}(ho:f.offset=off)(hk:P.cellsOf f.type=k)(hn:∀a,(e1 a).ax=k)
  (h1:jX enc P w n f.type e1 g1)(h2:rH enc P w n (off+k) fs e2 g2):rH enc P w n off (f::fs) (fun p:α×β=>(e1 p.1).cells++e2 p.2) (fun p l=>∃d r,l=d::r∧g1 p.1 d∧g2 p.2 r):=by
 intro cs xs hl hf
 cases xs with
 | nil=>simp at hl
 | cons x xs =>
  have hx:=hf 0 f rfl
  rw[hk,ho] at hx
  obtain ⟨a,a1,a2,a3⟩:=h1 _ x.1 x.2 hx
  obtain ⟨b,b1,b2⟩:=h2 cs xs (by simpa using hl) fun i g hg=>by
   have:=hf (i+1) g (by simpa using hg)
   simpa using this
  refine ⟨(a,b),WZ (rG (fun i v hv=>?_) a2) ?_,x.1,_,rfl,a3,b2⟩
  ·rw[List.getElem?_take] at hv
   split at hv
   ·rw[List.getElem?_drop] at hv;exact hv
   ·simp at hv
  ·have e:(e1 a).cells.length=k:=by rw[←AV.dV,hn]
   rw[e]
   refine rG (fun i v hv=>?_) b1
   rw[←hv]
   show cs[off+(k+i)]? = cs[off+k+i]?
   rw[Nat.add_assoc]
theorem jX.struct{fs:Array Field}{α:Type}{en:α→List AV}{good:α→List (DataW Hh)→Prop}(ht:P.underlying t=some (.struct fs))(hl:∀a,(en a).length=P.cellsOf t)(h:rH enc P w n 0 fs.toList en good) :
  jX enc P w (n+1) t (fun a=>.agg (en a)) (fun a d=>∃l,d = .agg l∧good a l):=by
 intro cs d ps hd
 obtain ⟨xs,m,hm,hx,hc,hs,hf⟩:=DataW.trod_struct ht hd
 have hmn:m=n:=by omega
 subst hmn
 obtain ⟨a,a1,a2⟩:=h cs xs (by simpa using hs) fun i f hi=>hf i f (by simpa using hi)
 cases hx
 refine ⟨a,?_,?_,_,rfl,a2⟩
 ·show cs.length=(en a).length
  rw[hl,hc]
 ·refine rG (fun i v hv=>?_) a1
  simpa using hv
theorem jX.slice{e:TypeId}{k:Nat}{α:Type}{en:α→AV}{good:α→DataW Hh→Prop}(ht:P.underlying t=some (.slice e))(hk:P.cellsOf e=k)(h0:0<k)(hn:∀a,(en a).ax=k)(h:jX enc P w n e en good) :
  jX enc P w (n+1) t (fun l:List α=>.an k (l.map en) none) (fun l d=>(d = .nil∧l=[])∨∃ds r,d = .slice ds r∧od good l ds):=by
 intro cs d ps hd
 rcases DataW.trod_slice ht hd with ⟨rfl,h2⟩ | ⟨a,len,cap,elems,rest,m,hm,rfl,hx,_,hlc,hcm,hel,acR,_,_⟩
 ·cases h2
  exact ⟨[],rfl,vi rfl (u:=.slice none 0 0) rfl rfl ⟨none,0,rfl,Nat.le_refl _,by decide,fun _=>rfl,fun h=>by simp at h,trivial⟩,.inl ⟨rfl,rfl⟩⟩
 ·have hmn:m=n:=by omega
  subst hmn
  have hk':∀i,i<len→∃x:α,∃y cs',elems[i]? = some y∧w.cells? 0 (a.add (i*k)) k=some cs'∧cs'.length=(en x).ax∧Rs fL O0 w (en x).cells (fun j=>cs'[j]?)∧good x y.1:=by
   intro i hi
   have:=acR i hi
   rw[hk] at this
   have he:∃y,elems[i]? = some y:=⟨elems[i]'(by omega),by simp[hel,hi]⟩
   obtain ⟨y,hy⟩:=he
   rw[hy] at this
   obtain ⟨cs',c1,c2⟩:=Option.bind_eq_some_iff.1 this
   obtain ⟨x,x1,x2,x3⟩:=h cs' y.1 y.2 c2
   exact ⟨x,y,cs',hy,c1,x1,x2,x3⟩
  obtain ⟨l,l1,l2⟩:=Gi len hk'
  cases hx
  refine ⟨l,rfl,vi rfl (u:=.slice (some a) len cap) rfl rfl ⟨some a,cap,by simp[l1],by simpa [l1] using hlc,hcm,fun h=>by simp at h,fun hp=>?_,trivial⟩,.inr ⟨_,_,rfl,od.Ml (by simp[l1,hel]) fun i x y hx hy=>?_⟩⟩
  ·have hp':0<len:=by simpa [l1] using hp
   obtain ⟨x0,y0,cs0,_,c0,c1,_⟩:=hk' 0 hp'
   obtain ⟨b,off,spot⟩:=a
   obtain ⟨_,_,g2⟩:=World.cells?_some c0
   have hs:spot=none:=by
    have hc:w.cell? ((⟨b,off,spot⟩:Addr).add (0*k))=cs0[0]?:=by
     have:=g2 0 h0
     simpa [Addr.add] using this
    rw[hn] at c1
    rw[List.getElem?_eq_getElem (by omega:0<cs0.length)] at hc
    have:=World.cell?_spot hc
    simp only[Addr.add] at this
    split at this<;>simp_all
   subst hs
   refine ⟨b,off,rfl,qy,?_,zZ fun i x hx=>?_⟩
   ·have:=World.cells?_block c0 h0
    simpa [Addr.add] using this
   ·rw[List.getElem?_map] at hx
    obtain ⟨z,hz,rfl⟩:=Option.map_eq_some_iff.1 hx
    obtain ⟨y,cs',z1,z2,z3,z4,z5⟩:=l2 i z hz
    obtain ⟨_,q1,q2⟩:=World.cells?_some z2
    refine ⟨hn z,rG (fun j v hv=>?_) z4⟩
    have hj:j<k:=by
     have:=(List.getElem?_eq_some_iff.1 hv).1
     rw[z3,hn] at this
     exact this
    have:=q2 j hj
    rw[addr_add,addr_add] at this
    unfold cC
    rw[this]
    exact hv
  ·obtain ⟨y',cs',z1,z2,z3,z4,z5⟩:=l2 i x hx
   rw[List.getElem?_map,z1] at hy
   cases hy
   exact z5
theorem Gj{α:Type}{en:α→List AV}{good:α→DataW Hh→Prop}(hr:∀n,jX enc P w n t (fun a=>.agg (en a)) good){cs:Array Value}{d:DataW Hh}{ps:List MemPlace}(h:DataW.Trod enc P w 0 (fun _=>true) true t (.agg cs) d ps) :
  ∃a,VR fL O0 w (.agg (en a)) (.agg cs)∧good a d:=by
 obtain ⟨m,hm⟩:=h
 obtain ⟨a,h1,h2,h3⟩:=hr m _ _ _ hm
 refine ⟨a,⟨⟨cs,rfl,by simpa [Value.cells,AV.ax] using h1⟩,?_⟩,h3⟩
 have:=(y6 (x:=.agg (en a)) (r:=[]) (by rw[List.append_nil];exact h2)).1
 have e:(fun i=>(Value.agg cs).cells.toList[i]?)=eM (.agg cs):=by funext i;simp[eM]
 rwa [e] at this
end
theorem rI{Hh:Type}{enc:TypeId×Value→Hh}{P:Program}{W W':World}(hl:laidOutB P=true)(hb:Below W.heap.size W W'):∀{ts:List TypeId}{vs:List Value}{ds:List (DataW Hh)}{ps:List MemPlace},(ts.all fun t=>P.readableRec t && decide (t<P.types.size))=true→
  DataW.TrodAll enc P W 0 (fun _=>true) true ts vs ds ps→DataW.TrodAll enc P W' 0 (fun b=>decide (b<W.heap.size)) true ts vs ds ps
 | [],vs,ds,ps,_,h=>by
  cases vs<;>cases ds<;>first | exact h | (simp[DataW.TrodAll] at h)
 | t::ts,vs,ds,ps,hr,h=>by
  obtain ⟨v,vs',d,ds',p,q,rfl,rfl,rfl,h1,h2⟩:=Go.ChangeShapes.trodAll_cons h
  simp only[List.all_cons,Bool.and_eq_true,decide_eq_true_eq] at hr
  have lt1:∀x∈p,x.block<W.heap.size:=by obtain ⟨m,hm⟩:=h1;exact DataW.trod_lt m _ _ _ hm
  exact ⟨p,q,Below.trod hl hr.1.1 hr.1.2 h1 hb lt1,rI hl hb hr.2 h2,rfl⟩
theorem nx{w w':World}{φ:aH}(h:Step fL [] w φ [] w'):Below w.heap.size w w':=⟨h.os,h.tape,h.output,h.size,fun k hk=>h.same k hk qy⟩
theorem Gk{P:Program}{f:FuncId}{args:List AV}{b:Bool}(h:D P f args [] (.ret (.Z (.bool b))) []){w:World}{vs:Array Value}(ha:Rt fL O0 w args vs.toList)(hg:yh fL [] w:=by exact fun p hp=>absurd hp (by simp[Qq])):Calls P f vs w fun e w'=>e = .returned (.bool b)∧Below w.heap.size w w' :=
 (h.2 fL w vs (Mj hg) ha).mono fun e w' ⟨φ',h1,h2,h3⟩=>by
  cases e with
  | returned v=>exact ⟨by rw[bP h1],nx h3⟩
  | panicked c=>exact h1.elim
  | outgrown=>exact h1.elim
theorem Ow{Hh:Type}{enc:TypeId×Value→Hh}{P:Program}{f:FuncId}{fn:Func}{W:World}{args:Array Value}{ds gs:List (DataW Hh)}{before:List MemPlace}{avs:List AV}{tb:TypeId}{s:ChangeSpec}(hl:laidOutB P=true)
  (hp:(fn.params.toList.all fun t=>P.readableRec t && decide (t<P.types.size))=true)(hres:fn.resultTypes=#[tb])(htb:P.underlying tb=some .bool)
  (hvars:s.vars=[])(hfn:s.fn Hh (ds++gs)={ results:=[.lit (.bool true)],args:=ds })
  (hW:DataW.Whole enc P fn.params.toList s.vars false W args.toList ds gs before)(ha:Rt fL O0 W avs args.toList)(h:D P f avs [] (.ret (.Z (.bool true))) [])(hg:yh fL [] W:=by exact fun p hp=>absurd hp (by simp[Qq])) :
  Calls P f args W fun e W'=>∃v,e = .returned v∧s.post enc P fn false true false false W args v W':=by
 refine (Gk h ha hg).mono fun e W' ⟨he,bel⟩=>?_
 subst he
 have W0:=hW
 obtain ⟨p,q,hA,hV,rfl,hfz,hnd⟩:=hW
 rw[hvars] at hV
 obtain ⟨rfl,rfl⟩:=Go.ChangeShapes.trodVars_none hV
 refine ⟨_,rfl,ds,[],_,[],p,[],W0,?_,?_,?_,bel.frame _,fun h=>by cases h⟩
 ·rw[hfn,hres]
  exact Go.ChangeShapes.trodAll_mk1 (shut_bool htb _)
 ·rw[hfn]
  exact rI hl bel hp hA
 ·rw[hvars,hfn]
  rfl
def pd:List Oper→Option Nat
 | []=>none
 | [o]=>match o.op,o.dst,o.guard with
  | .defer { callee:=.value (.tmp t),args,.. },none,none=>if args.isEmpty then some t else none
  | _,_,_=>none
 | _::r=>pd r
def En(P:Program)(aY:List Nat):Code→Option (List bQ×Nat)
 | .region id ops false=>match pd ops.toList with
  | some t=>(dr P (aY.contains id) ops ops.toList.dropLast).map (·,t)
  | none=>none
 | _=>none
def rJ(P:Program)(aY:List Nat):Code→Option (IC×Nat×IC)
 | .seq a b=>match En P aY a with
  | some (l,t)=>(dt P aY b).map fun ib=>(.ops l,t,ib)
  | none=>match dt P aY a,rJ P aY b with
   | some ia,some (pre,t,ib)=>some (.seq ia pre,t,ib)
   | _,_=>none
 | _=>none
theorem th:∀{l:List Oper}{t:Nat},pd l=some t→∃(m:List Oper)(o:Oper)(args:Array Operand)(ats:Array TypeId),l=m++[o]∧o.op = .defer { callee:=.value (.tmp t),args:=args,argTypes:=ats }∧args.isEmpty=true∧o.dst=none∧o.guard=none
 | [],t,h=>by simp[pd] at h
 | [o],t,h=>by
  simp only[pd] at h
  split at h
  ·rename_i t' args ats e1 e2 e3
   split at h
   ·rename_i he
    cases h
    exact ⟨[],o,args,ats,rfl,e1,he,e2,e3⟩
   ·simp at h
  ·simp at h
 | x::y::r,t,h=>by
  simp only[pd] at h
  obtain ⟨m,o,args,ats,h1,h2⟩:=th (l:=y::r) h
  exact ⟨x::m,o,args,ats,by rw[h1];rfl,h2⟩
section
variable {P:Program}
theorem mH{b:Bool}{ops:Array Oper}{Q:Exit→Act→World→Prop}{K:List AV→Y→Prop}{Kp:AV→List AV→Y→Prop}{tail:List Nat}:∀(n i:Nat)(l:List bQ)(ts:List AV)(H:Y)(φ:aH)(w:World)(a:Act),
  i+n≤ops.size→dr P b ops ((ops.toList.drop i).take n)=some l→Rel φ H w→FR φ (Own φ H) w ts a→gb P K Kp l ts H→
  (∀ts' a' φ' H' w',K ts' H'→FR φ' (Own φ' H') w' ts' a'→Rel φ' H' w'→Step φ H w φ' H' w'→a'.defers=a.defers→wpOps P ops Q tail a' w')→kZ Q Kp φ H w a.defers→wpOps P ops Q (List.range' i n++tail) a w
 | 0,i,l,ts,H,φ,w,a,hi,hc,hR,hF,h,hk,hp=>by
  simp[dr] at hc
  subst hc
  exact hk _ _ _ _ _ h hF hR (Step.refl _ _ _) rfl
 | n+1,i,l,ts,H,φ,w,a,hi,hc,hR,hF,h,hk,hp=>by
  have hlt:i<ops.toList.length:=by simp;omega
  rw[List.drop_eq_getElem_cons hlt,List.take_succ_cons] at hc
  unfold dr at hc
  split at hc
  case h_2=>simp at hc
  rename_i x s hx hs
  cases hc
  have Jk:ops[i]? = some (ops.toList[i]):=by simp at hlt;simp[hlt]
  obtain ⟨hd,hg⟩:=tJ hx
  simp only[gb] at h
  have zE:∀φ' H' w',Step φ H w φ' H' w'→∀a':Act,a'.defers=a.defers→(∀tK a2 df H2 w2,K tK H2→FR df (Own df H2) w2 tK a2→Rel df H2 w2→Step φ' H' w' df H2 w2→a2.defers=a'.defers→wpOps P ops Q tail a2 w2)∧kZ Q Kp φ' H' w' a'.defers:=by
   intro φ' H' w' hst a' ha
   exact ⟨fun tK a2 df H2 w2 k1 k2 k3 k4 k5=>hk tK a2 df H2 w2 k1 k2 k3 (hst.trans k4) (by rw[k5,ha]),fun v u tK a2 df H2 w2 k1 k2 k3 k4 k5 k6=>hp v u tK a2 df H2 w2 k1 k2 k3 k4 (hst.trans k5) (by rw[k6,ha])⟩
  rw[show List.range' i (n+1)++tail=i::(List.range' (i+1) n++tail) from rfl]
  simp only[wpOps,Jk]
  rcases gD hg hF h with ⟨hw,hy⟩ | ⟨hw,hno⟩
  ·rw[if_pos hw]
   left
   refine D5 hx hR hF hy (fun v u φ' H' w' k1 k2 k3 k4=>?_) (fun v u φ' H' w' k1 k2 k3 k4=>?_)
   ·have wy:=(FR.step k4 hF).put (ops.toList[i]).dst k2
    rw[hd] at k1
    have:=zE φ' H' w' k4 (a.put (ops.toList[i]).dst u) (put_defers _ _ _)
    exact mH n (i+1) s _ H' φ' w' _ (by omega) hs k3 wy k1 this.1 this.2
   ·exact hp v u ts a φ' H' w' k1 k2 (FR.step k4 hF) k3 k4 rfl
  ·rw[if_neg (by rw[hw];simp)]
   have wy:=hF.put (ops.toList[i]).dst (mR (φ:=φ) (O:=Own φ H) (w:=w))
   rw[hd] at hno
   have:=zE φ H w (Step.refl _ _ _) (a.put (ops.toList[i]).dst undef) (put_defers _ _ _)
   exact mH n (i+1) s _ H φ w _ (by omega) hs hR wy hno this.1 this.2
def SG(φ:aH)(O:Nat→Prop)(w:World)(g:FuncId)(cg:List AV)(ds:List Deferred):Prop:=∃ws:Array Value,ds=[{ target:=.fn (.func g) ws,args:=#[] }]∧Rt φ O w cg ws.toList
def Gl(g:FuncId)(K:List AV→List AV→Y→Prop)(t:Nat):List AV→Y→Prop:=fun ts H=>match ts.getD t .top with
 | .fn (.func f) [] cg=>f=g∧K cg ts H
 | _=>False
theorem BM{aY:List Nat}{c:Code}{l:List bQ}{t:Nat}(hc:En P aY c=some (l,t)){g:FuncId}{Q:Exit→Act→World→Prop}{K:List AV→List AV→Y→Prop}{Kp:AV→List AV→Y→Prop}{φ:aH}{H:Y}{w:World}{ts:List AV}{a:Act}
  (hR:Rel φ H w)(hF:FR φ (Own φ H) w ts a)(hd:a.defers=[])(h:gb P (Gl g K t) Kp l ts H)(hk:∀cg ts' a' φ' H' w',K cg ts' H'→FR φ' (Own φ' H') w' ts' a'→Rel φ' H' w'→Step φ H w φ' H' w'→SG φ' (Own φ' H') w' g cg a'.defers→Q .normal a' w')(hp:kZ Q Kp φ H w a.defers):c.wp P Q a w:=by
 unfold En at hc
 split at hc
 case h_2=>simp at hc
 rename_i id ops
 split at hc
 case h_2=>simp at hc
 rename_i t' hdo
 simp only[Option.map_eq_some_iff] at hc
 obtain ⟨l',hl,he⟩:=hc
 cases he
 obtain ⟨m,o,args,ats,hm,ho,hargs,u7,hgd⟩:=th hdo
 have hsz:ops.size=m.length+1:=by rw[←Array.length_toList,hm];simp
 rw[hm,List.dropLast_concat] at hl
 refine wp_region ?_
 have Eo:List.range ops.size=List.range' 0 m.length++[m.length]:=by rw[hsz,List.range_succ,List.range_eq_range']
 rw[Eo]
 refine mH m.length 0 l ts H φ w a (by omega) (by rw[hm];simpa using hl) hR hF h (fun ts' a' φ' H' w' k1 k2 k3 k4 k5=>?_) hp
 have Jk:ops[m.length]? = some o:=by
  rw[←Array.getElem?_toList,hm]
  simp
 simp only[wpOps,Jk]
 have hw:Region.wanted o (yielded ops a'.tmps)=true:=by unfold Region.wanted;rw[hgd]
 rw[if_pos hw]
 left
 have hv:=k2.2 t
 unfold Gl at k1
 split at k1
 case h_2=>exact k1.elim
 rename_i f cg hf
 rw[hf] at hv
 obtain ⟨us,ws,hu,h1,h2⟩:=y4 hv
 have BN:us=#[]:=by
  have:us.toList=[]:=h1
  cases us;simp_all
 subst BN
 unfold Oper.wp
 have W2:args=#[]:=by
  cases args with
  | mk l=>cases l<;>first | rfl | (simp at hargs)
 have hrun:(execOp a'.eval o).run P w' = .ok (.defer { target:=.fn (.func f) ws,args:=#[] }) w':=by
  have he:a'.eval (.tmp t) = .func (.func f) #[] ws:=hu
  simp[execOp,ho,resolve,he,Deferred.ofValue,W2]
 rw[hrun]
 show Q .normal ({ a' with defers:=_::a'.defers }.put o.dst undef) w'
 rw[u7]
 refine hk cg ts' _ φ' H' w' k1.2 ?_ k3 k4 ⟨ws,?_,h2⟩
 ·exact k2
 ·show _::a'.defers=_
  rw[k5,hd,k1.1]
def Za(P:Program)(g t:Nat)(ic:IC)(Kd:List AV→Post)(K:Post):Post
 | .normal,ts,H=>Gl g (fun cg ts H=>E P ic (Kd cg) ts H) t ts H
 | x,ts,H=>K x ts H
def CKD(g:FuncId)(Kd:List AV→Post)(φ:aH)(H:Y)(w:World):Exit→Act→World→Prop:=fun e a' w' =>
 ∃cg x ts' H' φ',XR φ' (Own φ' H') w' x e∧Kd cg x ts' H'∧FR φ' (Own φ' H') w' ts' a'∧Rel φ' H' w'∧Step φ H w φ' H' w'∧SG φ' (Own φ' H') w' g cg a'.defers
theorem SG.step{φ φ':aH}{H H':Y}{w w':World}(hs:Step φ H w φ' H' w'){g:FuncId}{cg:List AV}{ds:List Deferred}(h:SG φ (Own φ H) w g cg ds):SG φ' (Own φ' H') w' g cg ds:=by
 obtain ⟨ws,h1,h2⟩:=h
 exact ⟨ws,h1,kO hs.toLater _ _ (AV.cq _) h2⟩
theorem Ox{φ:aH}{O:Nat→Prop}{w:World}{x:AX}{e:Exit}(h:XR φ O w x e):(x = .normal∧e = .normal)∨(x≠.normal∧e≠.normal):=by
 cases x<;>cases e<;>first | exact h.elim | exact .inl ⟨rfl,rfl⟩ | exact .inr ⟨by simp,by simp⟩
theorem SH{e:Exit}{next:Act→World→Prop}{Q:Exit→Act→World→Prop}{a:Act}{w:World}(h:e≠.normal)(hq:Q e a w):Exit.then next Q e a w:=by
 cases e<;>first | exact (h rfl).elim | exact hq
theorem JQ{aY:List Nat}{g:FuncId}{Kd:List AV→Post}{K:Post}:∀(c:Code)(pre:IC)(t:Nat)(ic:IC),rJ P aY c=some (pre,t,ic)→∀(φ:aH)(H:Y)(w:World)(ts:List AV)(a:Act),Rel φ H w→FR φ (Own φ H) w ts a→a.defers=[]→E P pre (Za P g t ic Kd K) ts H→
  c.wp P (fun e a' w'=>CKD g Kd φ H w e a' w'∨(e≠.normal∧CK K φ H w [] e a' w')) a w:=by
 intro c
 induction c with
 | seq x y R5 N9 =>
  intro pre t ic hc φ H w ts a hR hF hd h
  simp only[rJ] at hc
  split at hc
  ·rename_i l t' acS
   simp only[Option.map_eq_some_iff] at hc
   obtain ⟨ib,hb,he⟩:=hc
   cases he
   refine wp_seq (BM (g:=g) (K:=fun cg ts H=>E P ic (Kd cg) ts H) (Kp:=fun v ts' H'=>K (.bF v) ts' H') acS hR hF hd h (fun cg ts' a' φ' H' w' k1 k2 k3 k4 k5=>?_) (fun v u ts' a' φ' H' w' k1 k2 k3 k4 k5 k6=>.inr ⟨by simp,.bF v,ts',H',φ',k2,k1,k3,k4,k5,by rw[k6,hd]⟩))
   show y.wp P _ a' w'
   refine wp_mono (ry y ic hb _ φ' H' w' ts' a' k3 k2 k1) ?_
   rintro e a2 w2 ⟨x2,tK,H2,df,m1,m2,m3,m4,m5,m6⟩
   exact .inl ⟨cg,x2,tK,H2,df,m1,m2,m3,m4,k4.trans m5,by rw[m6];exact k5.step m5⟩
  ·split at hc
   case h_2=>simp at hc
   rename_i ia acT t' ib h1 h2
   cases hc
   refine wp_seq (wp_mono (ry x ia h1 _ φ H w ts a hR hF h) ?_)
   rintro e a' w' ⟨x',ts',H',φ',k1,k2,k3,k4,k5,k6⟩
   rcases Ox k1 with ⟨rfl,rfl⟩ | ⟨n1,n2⟩
   ·show y.wp P _ a' w'
    refine wp_mono (N9 acT t ic h2 φ' H' w' ts' a' k4 k3 (by rw[k6,hd]) k2) ?_
    rintro e2 a2 w2 (⟨cg,x2,tK,H2,df,m1,m2,m3,m4,m5,m6⟩ | ⟨n,m⟩)
    ·exact .inl ⟨cg,x2,tK,H2,df,m1,m2,m3,m4,k5.trans m5,m6⟩
    ·exact .inr ⟨n,m.step k5⟩
   ·refine SH n2 (.inr ⟨n2,x',ts',H',φ',k1,?_,k3,k4,k5,by rw[k6,hd]⟩)
    cases x'<;>first | exact (n1 rfl).elim | exact k2
 | _=>intro pre t ic hc;simp[rJ] at hc
theorem wM{φ:aH}{H:Y}{w:World}{args:List AV}{vs:Array Value}{n:Nat}(ha:Rt φ (Own φ H) w args vs.toList):FR φ (Own φ H) w (args++List.replicate (n - args.length) (.aG [])) { tmps:=vs++Array.replicate (n - vs.size) undef,defers:=[] }:=by
 have hlen:=yM ha
 have hsz:vs.size=args.length:=by simpa using hlen
 refine ⟨by simp[hsz],fun i=>?_⟩
 by_cases h1:i<args.length
 ·obtain ⟨u,g1,g2⟩:=yL ha (i:=i) (x:=args[i]) (by simp[h1])
  have e1:(args++List.replicate (n - args.length) (AV.aG [])).getD i .top=args[i]:=by simp[List.getD,List.getElem?_append_left h1,h1]
  have e2:(vs++Array.replicate (n - vs.size) undef).getD i undef=u:=by
   rw[Array.getElem?_toList] at g1
   rw[Array.getD_eq_getD_getElem?,Array.getElem?_append_left (by omega),g1]
   rfl
  rw[e1,e2]
  exact g2
 ·by_cases h2:i<args.length+(n - args.length)
  ·have e1:(args++List.replicate (n - args.length) (AV.aG [])).getD i .top = .aG []:=by
    simp only[List.getD]
    rw[List.getElem?_append_right (by omega),List.getElem?_replicate,if_pos (by omega)]
    rfl
   have e2:(vs++Array.replicate (n - vs.size) undef).getD i undef=undef:=by
    rw[Array.getD_eq_getD_getElem?,Array.getElem?_append_right (by omega),Array.getElem?_replicate]
    split<;>rfl
   rw[e1,e2]
   exact mR
  ·have e1:(args++List.replicate (n - args.length) (AV.aG [])).getD i .top = .top:=by
    simp only[List.getD]
    rw[List.getElem?_eq_none (by simp;omega)]
    rfl
   rw[e1]
   exact lE _
inductive JR where
 | ret
 | bF (v:AV)(met:Bool)
def qa(φ:aH)(O:Nat→Prop)(w:World):JR→FrameMode→Prop
 | .ret,.returning=>True
 | .bF x r,.panicking c=>∃v older,c={ v:=v,recovered:=r }::older∧(∀p∈older,p.goexit=false)∧VR φ O w x v
 | _,_=>False
def Ep:List Oper→Option Nat
 | o::_=>match o.op,o.dst,o.guard with
  | .call { callee:=.builtin .recover,args,.. },some d,none=>if args.isEmpty then some d else none
  | _,_,_=>none
 | []=>none
def vj(P:Program)(aY:List Nat):Code→Option (Nat×List bQ×IC)
 | .seq (.region id ops false) b=>match Ep ops.toList,dr P (aY.contains id) ops (ops.toList.drop 1),dt P aY b with
  | some d,some l,some ib=>some (d,l,ib)
  | _,_,_=>none
 | _=>none
def z6(Kr:Y→Prop)(Kq:AV→Y→Prop):Post
 | .normal,_,H=>Kr H
 | .ret,_,H=>Kr H
 | .bF v,_,H=>Kq v H
 | _,_,_=>False
theorem Gm{l:List Oper}{d:Nat}(h:Ep l=some d):∃(o:Oper)(r:List Oper)(ats:Array TypeId),l=o::r∧o.op = .call { callee:=.builtin .recover,args:=#[],argTypes:=ats }∧o.dst=some d∧o.guard=none:=by
 cases l with
 | nil=>simp[Ep] at h
 | cons o r =>
  simp only[Ep] at h
  split at h
  ·rename_i args ats d' e1 e2 e3
   split at h
   ·rename_i he
    cases h
    have:args=#[]:=by
     cases args with
     | mk l=>cases l<;>first | rfl | (simp at he)
    subst this
    exact ⟨o,r,ats,rfl,e1,e2,e3⟩
   ·simp at h
  ·simp at h
theorem JS{o:Oper}{a:Act}{next next':Act→World→Prop}{Q:Exit→Act→World→Prop}(hn:∀a w,next a w→next' a w){r:Result Next}(h:o.upon P a next Q r):o.upon P a next' Q r:=by
 unfold Oper.upon at h ⊢
 split at h
 ·exact hn _ _ h
 ·exact hn _ _ h
 ·exact hn _ _ h
 ·refine h.mono fun e w' he=>?_
  cases e<;>first | exact hn _ _ he | exact he
 ·exact h.mono fun v w' he=>hn _ _ he
 ·exact h
 ·exact h.elim
theorem JT{ops:Array Oper}{Q:Exit→Act→List Frame→World→Prop}{cs:List Frame}(hq:¬LetsOut (fun e a w=>Q e a cs w)):∀{l:List Nat}{a:Act}{w:World},wpOps P ops (fun e a w=>Q e a cs w) l a w→wpOpsS P ops Q l a cs w:=by
 intro l
 induction l with
 | nil=>intro a w h;exact h
 | cons i r ih =>
  intro a w h
  simp only[wpOps] at h
  simp only[wpOpsS]
  split at h
  ·rename_i e;simp only[e];exact ih h
  ·rename_i o e
   simp only[e]
   split at h
   ·rename_i hw
    rw[if_pos hw]
    rcases h with h | h
    ·unfold Oper.wp at h
     split
     ·rename_i w' hr
      rw[hr] at h
      exact h.elim
     ·exact JS (fun a w h=>ih h) h
    ·exact (hq h.2).elim
   ·rename_i hw
    rw[if_neg hw]
    exact ih h
theorem JU{aY:List Nat}{g:FuncId}{fn:Func}{c:Code}{d:Nat}{l:List bQ}{ib:IC}(hf:P.funcs[g]? = some fn)(hb:fn.body=some c)(hc:vj P aY c=some (d,l,ib))(hres:fn.results=#[]){cg:List AV}{φ:aH}{H:Y}{w:World}{ws:Array Value}(hR:Rel φ H w)(ha:Rt φ (Own φ H) w cg ws.toList)
  {M M':JR}{u:FrameMode}{x:AV}(hu:qa φ (Own φ H) w M u)(hm:(M = .ret∧M' = .ret∧x = .Z .nilIface)∨(M = .bF x false∧M' = .bF x true)){Kr:Y→Prop}{Kq:AV→Y→Prop}
  (h:gb P (fun ts H=>E P ib (z6 Kr Kq) ts H) (fun v _ H=>Kq v H) l ((cg++List.replicate (fn.ntmps - cg.length) (AV.aG [])).set d x) H) :
  CallsD P g ws u w fun e u' w'=>∃H' φ',(((∃v,e = .returned v)∧Kr H')∨∃y c,e = .panicked c∧qG φ' (Own φ' H') w' y c∧Kq y H')∧qa φ' (Own φ' H') w' M' u'∧Rel φ' H' w'∧Step φ H w φ' H' w':=by
 refine callsD_of_wpS hf hb fun c₀ cs hcm=>?_
 unfold vj at hc
 split at hc
 case h_2=>simp at hc
 rename_i id ops b
 split at hc
 case h_2=>simp at hc
 rename_i d' l' ib' h1 h2 h3
 cases hc
 obtain ⟨o,r,ats,SI,hop,u7,hgd⟩:=Gm h1
 have hsz:ops.size=r.length+1:=by rw[←Array.length_toList,SI];simp
 refine wpS_seq (wpS_region ?_)
 have Eo:List.range ops.size=0::List.range' 1 r.length:=by rw[hsz,List.range_eq_range'];rfl
 rw[Eo]
 have Jk:ops[0]? = some o:=by rw[←Array.getElem?_toList,SI];rfl
 have hw:∀a:Act,Region.wanted o (yielded ops a.tmps)=true:=fun a=>by unfold Region.wanted;rw[hgd]
 have jz:FR φ (Own φ H) w (cg++List.replicate (fn.ntmps - cg.length) (AV.aG [])) { tmps:=ws++Array.replicate (fn.ntmps - ws.size) undef,defers:=[] }:=wM ha
 have hrun:∀a:Act,(execOp a.eval o).run P w = .ok .recover w:=fun a=>by
  simp only[execOp,hop]
  rfl
 simp only[wpOpsS,Jk,hw,if_true,hrun]
 have key:∃v u',VR φ (Own φ H) w x v∧qa φ (Own φ H) w M' u'∧(match recoverD (c₀::cs) with | some (v',cs')=>v'=v∧cs'={ c₀ with mode:=u' }::cs | none=>v = .nilIface∧u'=u):=by
  rcases hm with ⟨rfl,rfl,rfl⟩ | ⟨rfl,rfl⟩
  ·refine ⟨.nilIface,u,⟨rfl,rfl⟩,hu,?_⟩
   cases u<;>first | exact hu.elim | skip
   simp[recoverD,hcm]
  ·cases u<;>first | exact hu.elim | skip
   obtain ⟨v,older,rfl,qT,hv⟩:=hu
   refine ⟨v,.panicking ({ v:=v,recovered:=true }::older),hv,⟨v,older,rfl,qT,hv⟩,?_⟩
   simp[recoverD,hcm]
 obtain ⟨v,u',hv,hM',CA⟩:=key
 have aaA:({ c₀ with mode:=u }:Frame)=c₀:=by subst hcm;rfl
 have wN:∀cs',cs'={ c₀ with mode:=u' }::cs→wpOpsS P ops (Exit.thenS (b.wpS P (bodyPostS P fn c₀ cs fun e u' w'=>∃H' φ',(((∃v,e = .returned v)∧Kr H')∨∃y c,e = .panicked c∧qG φ' (Own φ' H') w' y c∧Kq y H')∧qa φ' (Own φ' H') w' M' u'∧Rel φ' H' w'∧Step φ H w φ' H' w')) (bodyPostS P fn c₀ cs fun e u' w'=>∃H' φ',(((∃v,e = .returned v)∧Kr H')∨∃y c,e = .panicked c∧qG φ' (Own φ' H') w' y c∧Kq y H')∧qa φ' (Own φ' H') w' M' u'∧Rel φ' H' w'∧Step φ H w φ' H' w'))
   (List.range' 1 r.length) (Act.put { tmps:=ws++Array.replicate (fn.ntmps - ws.size) undef,defers:=[] } o.dst v) cs' w:=by
  rintro cs' rfl
  refine JT ?_ ?_
  ·rintro ⟨a,w',u2,H',φ',(⟨⟨v,hv⟩,_⟩ | ⟨y,c,hv,_⟩),_⟩
   ·simp at hv
   ·simp at hv
  ·have k9:FR φ (Own φ H) w ((cg++List.replicate (fn.ntmps - cg.length) (AV.aG [])).set d x) (Act.put { tmps:=ws++Array.replicate (fn.ntmps - ws.size) undef,defers:=[] } o.dst v):=by
    have:=jz.put o.dst hv
    rwa [u7] at this ⊢
   have hl:ops.toList.drop 1=r:=by rw[SI];rfl
   have SJ:=mH (P:=P) (ops:=ops) (tail:=[]) (K:=fun ts H=>E P ib (z6 Kr Kq) ts H) (Kp:=fun v _ H=>Kq v H) r.length 1 l _ H φ w _ (by omega) (by rw[hl,List.take_length];rw[hl] at h2;exact h2) hR k9 h
    (Q:=fun e a w2=>Exit.thenS (b.wpS P (bodyPostS P fn c₀ cs fun e u' w'=>∃H' φ',(((∃v,e = .returned v)∧Kr H')∨∃y c,e = .panicked c∧qG φ' (Own φ' H') w' y c∧Kq y H')∧qa φ' (Own φ' H') w' M' u'∧Rel φ' H' w'∧Step φ H w φ' H' w')) (bodyPostS P fn c₀ cs fun e u' w'=>∃H' φ',(((∃v,e = .returned v)∧Kr H')∨∃y c,e = .panicked c∧qG φ' (Own φ' H') w' y c∧Kq y H')∧qa φ' (Own φ' H') w' M' u'∧Rel φ' H' w'∧Step φ H w φ' H' w') e a ({ c₀ with mode:=u' }::cs) w2)
   rw[List.append_nil] at SJ
   have ny:∀{df:aH}{H2:Y}{w2:World},Step φ H w df H2 w2→qa df (Own df H2) w2 M' u':=by
    intro df H2 w2 hst
    cases M'<;>cases u'<;>first | exact hM'.elim | exact trivial | skip
    obtain ⟨v,older,e1,e3,e2⟩:=hM'
    exact ⟨v,older,e1,e3,hst.vr e2⟩
   refine SJ (fun ts' a' φ' H' w' k1 k2 k3 k4 k5=>?_) (fun v c ts' a' φ' H' w' k1 k2 k3 k4 k5 k6=>⟨by rw[k6];exact put_defers _ _ _,u',rfl,H',φ',.inr ⟨v,c,rfl,k2,k1⟩,ny k5,k4,k5⟩)
   show b.wpS P _ a' _ w'
   refine wpS_of_wp (wp_mono (ry b ib h3 _ φ' H' w' ts' a' k3 k2 k1) ?_)
   rintro e a2 w2 ⟨x2,tK,H2,df,m1,m2,m3,m4,m5,m6⟩
   have hd:a2.defers=[]:=by
    rw[m6,k5]
    exact put_defers _ _ _
   have hst:=k4.trans m5
   have hr:(results fn a2.tmps).run P w2 = .ok (.tuple #[]) w2:=by
    unfold results
    rw[hres]
    simp
   cases x2 with
   | normal =>
    cases e<;>try exact m1.elim
    exact ⟨hd,u',rfl,_,hr,H2,df,.inl ⟨⟨_,rfl⟩,m2⟩,ny hst,m4,hst⟩
   | ret =>
    cases e<;>try exact m1.elim
    exact ⟨hd,u',rfl,_,hr,H2,df,.inl ⟨⟨_,rfl⟩,m2⟩,ny hst,m4,hst⟩
   | exit i=>exact m2.elim
   | bF v =>
    cases e<;>try exact m1.elim
    exact ⟨hd,u',rfl,H2,df,.inr ⟨v,_,rfl,m1,m2⟩,ny hst,m4,hst⟩
 cases hrd:recoverD (c₀::cs) with
 | none =>
  rw[hrd] at CA
  obtain ⟨rfl,rfl⟩:=CA
  rw[if_pos (hw { tmps:=ws++Array.replicate (fn.ntmps - ws.size) undef,defers:=[] })]
  exact wN _ (by rw[aaA])
 | some p =>
  obtain ⟨v',cs'⟩:=p
  rw[hrd] at CA
  obtain ⟨rfl,rfl⟩:=CA
  rw[if_pos (hw { tmps:=ws++Array.replicate (fn.ntmps - ws.size) undef,defers:=[] })]
  exact wN _ rfl
theorem Gn{K K':List AV→Y→Prop}{Kp:AV→List AV→Y→Prop}(h:∀ts H,K ts H→K' ts H){l:List bQ}{ts:List AV}{H:Y}(hr:cS P K Kp l ts H):cS P K' Kp l ts H:=fw h (fun _ _ _ h=>h) hr
def xP(P:Program)(d:Nat)(l:List bQ)(ib:IC)(n:Nat)(cg:List AV)(x:AV)(Kr:Y→Prop)(Kq:AV→Y→Prop)(H:Y):Prop :=
 cS P (fun ts H=>ES P ib (z6 Kr Kq) ts H) (fun v _ H=>Kq v H) l ((cg++List.replicate (n - cg.length) (AV.aG [])).set d x) H
def wO(P:Program)(d:Nat)(l:List bQ)(ib:IC)(n:Nat)(rs:List RV)(Kr:cr→Y→Prop)(cg:List AV):Post
 | .normal,ts,H=>xP P d l ib n cg (.Z .nilIface) (fun H'=>gf rs ts H'∧Kr (.ret (oneOf (jf rs ts H'))) H') (fun v H'=>Kr (.bF v) H') H
 | .ret,ts,H=>xP P d l ib n cg (.Z .nilIface) (fun H'=>gf rs ts H'∧Kr (.ret (oneOf (jf rs ts H'))) H') (fun v H'=>Kr (.bF v) H') H
 | .bF v,ts,H=>xP P d l ib n cg v (fun H'=>gf rs ts H'∧Kr (.ret (oneOf (jf rs ts H'))) H') (fun v H'=>Kr (.bF v) H') H
 | .exit _,_,_=>False
def CB(P:Program)(ic:IC)(Kd:List AV→Post)(g:Nat)(ts:List AV)(H:Y)(v:AV):Prop:=match v with
 | .fn (.func f) [] cg=>f=g∧ES P ic (Kd cg) ts H
 | _=>False
theorem SK{ic:IC}{Kd:List AV→Post}{g:Nat}{ts:List AV}{H:Y}{cg:List AV}:CB P ic Kd g ts H (.fn (.func g) [] cg)=ES P ic (Kd cg) ts H:=by simp[CB]
def CC(P:Program)(g t:Nat)(ic:IC)(Kd:List AV→Post)(K:Post):Post
 | .normal,ts,H=>CB P ic Kd g ts H (ts.getD t .top)
 | x,ts,H=>K x ts H
section
variable {g t:Nat}{ic:IC}{Kd:List AV→Post}{K:Post}{ts:List AV}{H:Y}
theorem W3:CC P g t ic Kd K .normal ts H=CB P ic Kd g ts H (ts.getD t .top):=rfl
theorem W4{i:Nat}:CC P g t ic Kd K (.exit i) ts H=K (.exit i) ts H:=rfl
theorem W5:CC P g t ic Kd K .ret ts H=K .ret ts H:=rfl
theorem W6{v:AV}:CC P g t ic Kd K (.bF v) ts H=K (.bF v) ts H:=rfl
end
section
variable {d n:Nat}{l:List bQ}{ib:IC}{rs:List RV}{Kr:cr→Y→Prop}{cg ts:List AV}{H:Y}{x:AV}{Kh:Y→Prop}{Kq:AV→Y→Prop}
theorem SL:wO P d l ib n rs Kr cg .normal ts H=xP P d l ib n cg (.Z .nilIface) (fun H'=>gf rs ts H'∧Kr (.ret (oneOf (jf rs ts H'))) H') (fun v H'=>Kr (.bF v) H') H:=rfl
theorem SM:wO P d l ib n rs Kr cg .ret ts H=xP P d l ib n cg (.Z .nilIface) (fun H'=>gf rs ts H'∧Kr (.ret (oneOf (jf rs ts H'))) H') (fun v H'=>Kr (.bF v) H') H:=rfl
theorem SN{v:AV}:wO P d l ib n rs Kr cg (.bF v) ts H=xP P d l ib n cg v (fun H'=>gf rs ts H'∧Kr (.ret (oneOf (jf rs ts H'))) H') (fun v H'=>Kr (.bF v) H') H:=rfl
theorem Oy:xP P d l ib n cg x Kh Kq H=cS P (fun ts H=>ES P ib (z6 Kh Kq) ts H) (fun v _ H=>Kq v H) l ((cg++List.replicate (n - cg.length) (AV.aG [])).set d x) H:=rfl
theorem W7:z6 Kh Kq .normal ts H=Kh H:=rfl
theorem W8:z6 Kh Kq .ret ts H=Kh H:=rfl
theorem W9{v:AV}:z6 Kh Kq (.bF v) ts H=Kq v H:=rfl
end
theorem Gp{g:FuncId}(h:bN P g=true)(ws:Array Value)(w:World):(invoke (.fn (.func g) ws) #[]).run P w = .ok (.enter g ws) w:=by
 obtain ⟨fn,h1,h2,h3⟩:=nv h
 show (callFunc g (#[]++ws)).run P w=_
 rw[Array.empty_append]
 exact jx h1 h2 h3 ws w
theorem Er{f:FuncId}{fn:Func}{c:Code}{pre:IC}{t:Nat}{ic:IC}{rs:List RV}{aY SP:List Nat}(hf:P.funcs[f]? = some fn)(hb:fn.body=some c)(hc:rJ P aY c=some (pre,t,ic))(hr:nt P fn.results.toList=some rs)
  {g:FuncId}{gn:Func}{gc:Code}{d:Nat}{l:List bQ}{ib:IC}(hg:P.funcs[g]? = some gn)(hgb:gn.body=some gc)(hgc:vj P SP gc=some (d,l,ib))(Xa:gn.results=#[])(z7:bN P g=true){args:List AV}{H:Y}{Kr:cr→Y→Prop}
  (h:ES P pre (CC P g t ic (wO P d l ib gn.ntmps rs Kr) (pZ rs Kr)) (args++List.replicate (fn.ntmps - args.length) (.aG [])) H):DK P f args H Kr:=by
 intro φ w vs hR ha
 have hF:FR φ (Own φ H) w (args++List.replicate (fn.ntmps - args.length) (.aG [])) { tmps:=vs++Array.replicate (fn.ntmps - vs.size) undef,defers:=[] }:=wM ha
 have hE:E P pre (Za P g t ic (wO P d l ib gn.ntmps rs Kr) (wG rs Kr)) (args++List.replicate (fn.ntmps - args.length) (.aG [])) H:=by
  refine FZ (zW (fun x ts H hx=>?_) h)
  cases x with
  | normal =>
   show Gl g _ t ts H
   have hx':CB P ic _ g ts H (ts.getD t .top):=hx
   unfold CB at hx'
   unfold Gl
   split at hx'
   ·rename_i he
    simp only[he]
    exact ⟨hx'.1,FZ hx'.2⟩
   ·exact hx'.elim
  | exit i=>exact kg (rs:=rs) (Kr:=Kr) (.exit i) ts H hx
  | ret=>exact kg (rs:=rs) (Kr:=Kr) .ret ts H hx
  | bF v=>exact kg (rs:=rs) (Kr:=Kr) (.bF v) ts H hx
 refine calls_of_wp_defers hf hb (wp_mono (JQ (K:=wG rs Kr) c pre t ic hc φ H w _ _ hR hF rfl hE) ?_)
 rintro e a' w' (⟨cg,x,ts',H',φ',k1,k2,k3,k4,k5,k6⟩ | ⟨hn,x,ts',H',φ',k1,k2,k3,k4,k5,k6⟩)
 ·obtain ⟨ws,hds,hws⟩:=k6
  have main:∀{M M':JR}{u:FrameMode}{x:AV},u≠.run→qa φ' (Own φ' H') w' M u→((M = .ret∧M' = .ret∧x = .Z .nilIface)∨(M = .bF x false∧M' = .bF x true))→xP P d l ib gn.ntmps cg x (fun H'=>gf rs ts' H'∧Kr (.ret (oneOf (jf rs ts' H'))) H') (fun v H'=>Kr (.bF v) H') H'→
    Leaves P fn a'.tmps (fun en w'=>∃e H' φ',xC φ' (Own φ' H') w' e en∧Kr e H'∧Rel φ' H' w'∧Step φ H w φ' H' w') a'.defers u w':=by
   intro M M' u x hu hm hM CA
   rw[hds]
   refine leaves_cons hu (Gp z7 ws w') ?_
   refine (JU hg hgb hgc Xa k4 hws hm hM (Kr:=fun H'=>gf rs ts' H'∧Kr (.ret (oneOf (jf rs ts' H'))) H') (Kq:=fun v H'=>Kr (.bF v) H') (gd (Gn (fun ts H h=>FZ h) CA))).mono fun e u' w2 ⟨H2,df,hend,ny,zq,DT⟩=>?_
   rcases hend with ⟨⟨v,hv⟩,hk⟩ | ⟨y,c,hv,hch,hk⟩
   ·subst hv
    show Leaves P fn a'.tmps _ [] (settle u') w2
    have gq:settle u' = .returning:=by
     rcases hM with ⟨_,rfl,_⟩ | ⟨_,rfl⟩
     ·cases u'<;>first | exact ny.elim | rfl
     ·cases u'<;>first | exact ny.elim | skip
      obtain ⟨v',older,rfl,qT,_⟩:=ny
      have hdw:∀l:List PanicEntry,(∀p∈l,p.goexit=false)→l.dropWhile (fun p=>!p.goexit)=[]:=by
       intro l hl
       induction l with
       | nil=>rfl
       | cons p r ih =>
        rw[List.dropWhile_cons,hl p (by simp)]
        simpa using ih fun q hq=>hl q (by simp[hq])
      simp only[settle,hdw older qT]
    rw[gq]
    have jY:FR df (Own df H2) w2 ts' a':=FR.step DT k3
    obtain ⟨y,v2,g1,g2,g3⟩:=mF zq jY hr (K:=fun y=>Kr (.ret y) H2) (rF hk.1 hk.2)
    exact ⟨v2,g3,.ret y,H2,df,g2,g1,zq,k5.trans DT⟩
   ·subst hv
    show Leaves P fn a'.tmps _ [] (raised u' c) w2
    obtain ⟨v',Mm,zH,Zb,Wu⟩:=hch
    rcases hM with ⟨_,rfl,_⟩ | ⟨_,rfl⟩
    ·cases u'<;>first | exact ny.elim | skip
     exact ⟨.bF y,H2,df,⟨v',Mm,zH,Zb,Wu⟩,hk,zq,k5.trans DT⟩
    ·cases u'<;>first | exact ny.elim | skip
     obtain ⟨v1,older,rfl,qT,_⟩:=ny
     subst zH
     refine ⟨.bF y,H2,df,⟨v',Mm++({ v:=v1,recovered:=true }::older),by simp[raised],fun p hp=>?_,Wu⟩,hk,zq,k5.trans DT⟩
     rcases List.mem_append.1 hp with hp | hp
     ·exact Zb p hp
     ·rcases List.mem_cons.1 hp with rfl | hp
      ·rfl
      ·exact qT p hp
  cases x with
  | normal =>
   cases e<;>try exact k1.elim
   exact main (M:=.ret) (M':=.ret) (by simp) trivial (.inl ⟨rfl,rfl,rfl⟩) k2
  | ret =>
   cases e<;>try exact k1.elim
   exact main (M:=.ret) (M':=.ret) (by simp) trivial (.inl ⟨rfl,rfl,rfl⟩) k2
  | exit i=>exact k2.elim
  | bF v =>
   cases e<;>try exact k1.elim
   obtain ⟨u,older,rfl,qT,hu⟩:=k1
   exact main (M:=.bF v false) (M':=.bF v true) (by simp) ⟨u,older,rfl,qT,hu⟩ (.inr ⟨rfl,rfl⟩) k2
 ·cases x with
  | normal =>
   cases e<;>try exact k1.elim
   exact (hn rfl).elim
  | ret =>
   cases e<;>try exact k1.elim
   obtain ⟨y,v,g1,g2,g3⟩:=mF k4 k3 hr (K:=fun x=>Kr (.ret x) H') k2
   show Leaves P fn a'.tmps _ a'.defers _ w'
   rw[k6]
   exact ⟨v,g3,.ret y,H',φ',g2,g1,k4,k5⟩
  | exit i=>exact k2.elim
  | bF v =>
   cases e<;>try exact k1.elim
   show Leaves P fn a'.tmps _ a'.defers _ w'
   rw[k6]
   exact ⟨.bF v,H',φ',k1,k2,k4,k5⟩
end
def cF(n0:Nat)(src:List Nat)(id:Nat):Option Nat:=if id<n0 then some id else (src.idxOf? id).map (n0+·)
mutual
inductive Gz(H1:Y)(n0:Nat)(src:List Nat):AV→AV→Prop where
 | same {x:AV}:x.ids (fun id=>cF n0 src id=some id)→Gz H1 n0 src x x
 | CD {k id id' off n:Nat}{c c':Option Nat}:cF n0 src id=some id'→(c'=c∨c'=none)→Gz H1 n0 src (.aE k id off n c) (.aE k id' off n c')
 | acU {k id id' j f:Nat}:cF n0 src id=some id'→Gz H1 n0 src (.ptr k id j f) (.ptr k id' j f)
 | aE {k id off n:Nat}{c:Option Nat}{blk:aK}{ys:List AV}:cF n0 src id=none→Y.find H1 id=some blk→blk.k=k→off+n≤blk.es.length→de H1 n0 src ((blk.es.drop off).take n) ys→Gz H1 n0 src (.aE k id off n c) (.an k ys none)
 | an {k:Nat}{xs ys:List AV}{room:Option (List AV)}:de H1 n0 src xs ys→Gz H1 n0 src (.an k xs room) (.an k ys none)
 | acV {k:Nat}{xs ys:List AV}:de H1 n0 src xs ys→Gz H1 n0 src (.an k xs (some [])) (.an k ys (some []))
 | nil {k:Nat}{room:Option (List AV)}{k':Nat}:Gz H1 n0 src (.an k' [] room) (.an k [] none)
 | Zc {k k':Nat}:Gz H1 n0 src (.an k' [] (some [])) (.an k [] (some []))
 | agg {xs ys:List AV}:de H1 n0 src xs ys→Gz H1 n0 src (.agg xs) (.agg ys)
 | aG {xs ys:List AV}:de H1 n0 src xs ys→Gz H1 n0 src (.aG xs) (.aG ys)
 | dQ {t:TypeId}{x y:AV}:Gz H1 n0 src x y→Gz H1 n0 src (.dQ t x) (.dQ t y)
 | fn {f:Fn}{a b a' b':List AV}:de H1 n0 src a a'→de H1 n0 src b b'→Gz H1 n0 src (.fn f a b) (.fn f a' b')
inductive de(H1:Y)(n0:Nat)(src:List Nat):List AV→List AV→Prop where
 | nil:de H1 n0 src [] []
 | cons {x y:AV}{r s:List AV}:Gz H1 n0 src x y→de H1 n0 src r s→de H1 n0 src (x::r) (y::s)
end
section
variable {H1:Y}{n0:Nat}{src:List Nat}
theorem de.len:∀{xs ys:List AV},de H1 n0 src xs ys→ys.length=xs.length
 | _,_,.nil=>rfl
 | _,_,.cons _ h=>by simp[h.len]
theorem Gz.isAgg{x y:AV}(h:Gz H1 n0 src x y):y.isAgg=x.isAgg∧y.ax=x.ax:=by
 cases h with
 | agg h=>exact ⟨rfl,h.len⟩
 | _=>exact ⟨rfl,rfl⟩
theorem Gz.jj{x y:AV}(h:Gz H1 n0 src x y){u:Value}(hk:jj x u):jj y u:=by
 cases h with
 | agg h=>obtain ⟨us,h1,h2⟩:=hk;exact ⟨us,h1,by rw[h2,h.len]⟩
 | _=>exact hk
theorem qb{id:Nat}(h:id<n0):cF n0 src id=some id:=by unfold cF;rw[if_pos h]
end
def gu(bA:aH)(n0:Nat)(src:List Nat):aH:=fun i=>if i<n0 then bA i else (src[i - n0]?).bind bA
structure Es(bA:aH)(H1:Y)(n0:Nat)(src:List Nat)(H2:Y):Prop where
 nodup:src.Nodup
 aaB:∀s∈src,n0≤s
 len:H2.length=n0+src.length
 live:∀id k,Y.find H2 id=some k→(id<n0∧∃k1,Y.find H1 id=some k1)∨∃s,src[id - n0]? = some s∧n0≤id∧∃k1,Y.find H1 s=some k1
section
variable {bA:aH}{H1:Y}{n0:Nat}{src:List Nat}{H2:Y}
theorem Gq{s:Nat}{i:Nat}{l:List Nat}(h:l.idxOf? s=some i):l[i]? = some s:=by
 induction l generalizing i with
 | nil=>simp at h
 | cons x r ih =>
  rw[List.idxOf?_cons] at h
  split at h
  ·rename_i e
   cases h
   simp at e
   simp[e]
  ·rw[Option.map_eq_some_iff] at h
   obtain ⟨j,h1,rfl⟩:=h
   simpa using ih h1
theorem rK{s:Nat}{i:Nat}{l:List Nat}(hn:l.Nodup)(h:l[i]? = some s):l.idxOf? s=some i:=by
 induction l generalizing i with
 | nil=>simp at h
 | cons x r ih =>
  rw[List.idxOf?_cons]
  cases i with
  | zero=>simp at h;simp[h]
  | succ i =>
   simp at h
   have hx:¬(x == s)=true:=by
    intro e
    have e':x=s:=by simpa using e
    have:=(List.nodup_cons.1 hn).1
    exact this (e'▸List.mem_of_getElem? h)
   rw[if_neg hx,ih (List.nodup_cons.1 hn).2 h]
   rfl
theorem wP{id id':Nat}(h:cF n0 src id=some id'):gu bA n0 src id'=bA id:=by
 unfold cF at h
 unfold gu
 split at h
 ·cases h;rw[if_pos (by assumption)]
 ·rw[Option.map_eq_some_iff] at h
  obtain ⟨i,h1,rfl⟩:=h
  rw[if_neg (by omega),show n0+i - n0=i from by omega,Gq h1]
  rfl
theorem Gr(hc:Es bA H1 n0 src H2){b:Nat}(h:Own (gu bA n0 src) H2 b):∃id,bA id=some b∧(∃k1,Y.find H1 id=some k1)∧cF n0 src id≠none:=by
 obtain ⟨id,k,h1,h2⟩:=h
 unfold gu at h1
 rcases hc.live id k h2 with ⟨g1,g2⟩ | ⟨s,g1,g2,g3⟩
 ·rw[if_pos g1] at h1
  exact ⟨id,h1,g2,by rw[qb g1];simp⟩
 ·rw[if_neg (by omega),g1] at h1
  refine ⟨s,h1,g3,?_⟩
  unfold cF
  rw[if_neg (by have:=hc.aaB s (List.mem_of_getElem? g1);omega),rK hc.nodup g1]
  simp
theorem pe(hc:Es bA H1 n0 src H2){b:Nat}(h:Own (gu bA n0 src) H2 b):Own bA H1 b:=by
 obtain ⟨id,h1,⟨k1,h2⟩,_⟩:=Gr hc h
 exact ⟨id,k1,h1,h2⟩
theorem z8(hc:Es bA H1 n0 src H2){w1:World}:Later (fun id=>cF n0 src id=some id) bA (gu bA n0 src) (Own bA H1) (Own (gu bA n0 src) H2) w1 w1 :=
 ⟨fun id b hid hm=>by rw[wP hid];exact hm,Nat.le_refl _,fun b hb ho eA=>ho (pe hc eA),fun _ _ _=>rfl,fun _ _=>rfl⟩
mutual
theorem Gz.R{w1:World}(hR:Rel bA H1 w1)(hc:Es bA H1 n0 src H2):∀{x y:AV},Gz H1 n0 src x y→∀{g:Nat→Option Value},R bA (Own bA H1) w1 x g→R (gu bA n0 src) (Own (gu bA n0 src) H2) w1 y g
 | _,_,.same hi,g,h=>jr (z8 hc) _ _ _ hi (fun _ _ h=>h) h
 | _,_,.CD hi fE,g,h=>by
  obtain ⟨b,c',cur,e,fr,v1,v2,v3,v4,v5,v6,v7⟩:=h
  refine ⟨b,c',cur,e,fr,by rw[wP hi];exact v1,v2,v3,v4,fun m hm=>?_,v6,v7⟩
  rcases fE with rfl | rfl
  ·exact v5 m hm
  ·simp at hm
 | _,_,.acU hi,g,h=>by
  obtain ⟨b,h1,h2⟩:=h
  exact ⟨b,by rw[wP hi];exact h1,h2⟩
 | _,_,.aE (k:=k) (id:=id) (off:=off) (n:=n) (c:=c) (blk:=blk) (ys:=ys) h1 h2 h3 h4 h5,g,h=>by
  obtain ⟨b,c',cur,e,fr,v1,v2,v3,v4,v5,v6,v7⟩:=h
  have oV:((blk.es.drop off).take n).length=n:=by simp;omega
  have nn:ys.length=n:=by rw[h5.len,oV]
  refine ⟨_,c',by rw[nn];exact v2,by omega,v4,fun h=>by simp at h,fun hp=>⟨b,off*k,rfl,?_,gW v6,?_⟩,trivial⟩
  ·intro ho
   obtain ⟨id',g1,⟨k1,g2⟩,g3⟩:=Gr hc ho
   have:=hR.inj id' id b g1 v1 (by rw[g2];rfl) (by rw[h2];rfl)
   rw[this] at g3
   exact g3 h1
  ·obtain ⟨_,q9,cap,a1,a2,a3,a4,a5,a6⟩:=(hR.blk id b blk v1 h2).gY v6
   have h7:=hJ (n:=n) (jv (f:=off) a6)
   rw[h3,Nat.zero_add] at h7
   exact de.Rl hR hc h5 h7
 | _,_,.an (k:=k) (xs:=xs) (ys:=ys) hl,g,h=>by
  obtain ⟨a,c,h1,h2,h3,h4,h5,h6⟩:=h
  have nn:=hl.len
  refine ⟨a,c,by rw[nn];exact h1,by omega,h3,h4,fun hp=>?_,trivial⟩
  obtain ⟨b,off,e1,e2,e3,e4⟩:=h5 (by omega)
  exact ⟨b,off,e1,fun ho=>e2 (pe hc ho),e3,de.Rl hR hc hl e4⟩
 | _,_,.acV (k:=k) (xs:=xs) (ys:=ys) hl,g,h=>by
  obtain ⟨a,c,h1,h2,h3,h4,h5,h6⟩:=h
  have nn:=hl.len
  refine ⟨a,c,by rw[nn];exact h1,by omega,h3,h4,fun hp=>?_,by rw[nn];exact h6.1,fun hp=>by simp at hp⟩
  obtain ⟨b,off,e1,e2,e3,e4⟩:=h5 (by omega)
  exact ⟨b,off,e1,fun ho=>e2 (pe hc ho),e3,de.Rl hR hc hl e4⟩
 | _,_,.nil,g,h=>by
  obtain ⟨a,c,h1,h2,h3,h4,h5,h6⟩:=h
  exact ⟨a,c,h1,h2,h3,h4,fun hp=>by simp at hp,trivial⟩
 | _,_,.Zc,g,h=>by
  obtain ⟨a,c,h1,h2,h3,h4,h5,h6⟩:=h
  exact ⟨a,c,h1,h2,h3,h4,fun hp=>by simp at hp,h6.1,fun hp=>by simp at hp⟩
 | _,_,.agg hl,g,h=>de.Rs hR hc hl h
 | _,_,.aG hl,g,h=>by
  obtain ⟨us,h1,h2⟩:=h
  exact ⟨us,h1,de.Rt hR hc hl h2⟩
 | _,_,.dQ hx,g,h=>by
  obtain ⟨u,h1,h2,h3⟩:=h
  exact ⟨u,h1,hx.jj h2,Gz.R hR hc hx h3⟩
 | _,_,.fn ha hb,g,h=>by
  obtain ⟨us,ws,h1,h2,h3⟩:=h
  exact ⟨us,ws,h1,de.Rt hR hc ha h2,de.Rt hR hc hb h3⟩
theorem de.Rl{w1:World}(hR:Rel bA H1 w1)(hc:Es bA H1 n0 src H2):∀{xs ys:List AV},de H1 n0 src xs ys→∀{b k off:Nat},Rl bA (Own bA H1) w1 b k xs off→Rl (gu bA n0 src) (Own (gu bA n0 src) H2) w1 b k ys off
 | _,_,.nil,b,k,off,_=>trivial
 | _,_,.cons hx hr,b,k,off,h=>⟨by rw[hx.isAgg.2];exact h.1,by rw[hx.isAgg.1];exact h.2.1,Gz.R hR hc hx h.2.2.1,de.Rl hR hc hr h.2.2.2⟩
theorem de.Rs{w1:World}(hR:Rel bA H1 w1)(hc:Es bA H1 n0 src H2):∀{xs ys:List AV},de H1 n0 src xs ys→∀{g:Nat→Option Value},Rs bA (Own bA H1) w1 xs g→Rs (gu bA n0 src) (Own (gu bA n0 src) H2) w1 ys g
 | _,_,.nil,g,_=>trivial
 | _,_,.cons hx hr,g,h=>⟨by rw[hx.isAgg.1];exact h.1,Gz.R hR hc hx h.2.1,h.2.2.1,de.Rs hR hc hr h.2.2.2⟩
theorem de.Rt{w1:World}(hR:Rel bA H1 w1)(hc:Es bA H1 n0 src H2):∀{xs ys:List AV},de H1 n0 src xs ys→∀{us:List Value},Rt bA (Own bA H1) w1 xs us→Rt (gu bA n0 src) (Own (gu bA n0 src) H2) w1 ys us
 | _,_,.nil,us,h=>h
 | _,_,.cons hx hr,us,h=>by
  obtain ⟨v,s,h1,h2,h3,h4⟩:=h
  exact ⟨v,s,h1,hx.jj h2,Gz.R hR hc hx h3,de.Rt hR hc hr h4⟩
end
end
theorem de.RE{bA:aH}{H1 H2:Y}{n0:Nat}{src:List Nat}{w1:World}(hR:Rel bA H1 w1)(hc:Es bA H1 n0 src H2):∀{xs ys:List AV},de H1 n0 src xs ys→∀{es:List MapEntry},RE bA (Own bA H1) w1 xs es→RE (gu bA n0 src) (Own (gu bA n0 src) H2) w1 ys es
 | _,_,.nil,_,h=>h
 | _,_,.cons hx hr,_,h=>by
  obtain ⟨e,s,h1,h2,h3⟩:=h
  exact ⟨e,s,h1,⟨hx.jj h2.1,Gz.R hR hc hx h2.2⟩,de.RE hR hc hr h3⟩
def CE(H1:Y)(n0:Nat)(src:List Nat)(k1 k:aK):Prop:=k.k=k1.k∧k.ty=k1.ty∧(k.exact=true→k1.exact=true)∧de H1 n0 src k1.es k.es
def acW(H1:Y)(n0:Nat)(src:List Nat):cr→cr→Prop
 | .ret x,.ret y=>Gz H1 n0 src x y
 | .bF x,.bF y=>Gz H1 n0 src x y
 | _,_=>False
theorem lh{H H1 H2:Y}(src:List Nat){e1 e:cr}(hl:H2.length=H.length+src.length)(hn:src.Nodup)(ha:∀s∈src,H.length≤s)
  (hold:∀id k,id<H.length→Y.find H2 id=some k→(Y.find H id=some k∧Y.find H1 id=some k)∨∃k1,Y.find H1 id=some k1∧CE H1 H.length src k1 k)
  (qP:∀i s k,src[i]? = some s→Y.find H2 (H.length+i)=some k→∃k1,Y.find H1 s=some k1∧CE H1 H.length src k1 k)
  (hz:acW H1 H.length src e1 e):eo H e1 H1 e H2:=by
 intro φ w bA w1 en Ef he hR hS
 have hc:Es bA H1 H.length src H2:=by
  refine ⟨hn,ha,hl,fun id k hk=>?_⟩
  by_cases hid:id<H.length
  ·left
   rcases hold id k hid hk with ⟨_,h2⟩ | ⟨k1,h2,_⟩
   ·exact ⟨hid,k,h2⟩
   ·exact ⟨hid,k1,h2⟩
  ·right
   have hlt:=Y.au hk
   have hi:id - H.length<src.length:=by omega
   have hs:src[id - H.length]? = some src[id - H.length]:=by simp[hi]
   obtain ⟨k1,h1,_⟩:=qP _ _ k hs (by rw[show H.length+(id - H.length)=id from by omega];exact hk)
   exact ⟨_,hs,by omega,k1,h1⟩
 have SQ:∀id b,gu bA H.length src id=some b→(id<H.length∧bA id=some b)∨∃s,src[id - H.length]? = some s∧H.length≤id∧bA s=some b:=by
  intro id b h
  unfold gu at h
  split at h
  ·exact .inl ⟨by assumption,h⟩
  ·rw[Option.bind_eq_some_iff] at h
   obtain ⟨s,h1,h2⟩:=h
   exact .inr ⟨s,h1,by omega,h2⟩
 have Mn:∀id k b,Y.find H2 id=some k→gu bA H.length src id=some b→∃s,bA s=some b∧(Y.find H1 s).isSome∧cF H.length src s=some id:=by
  intro id k b h1 h2
  rcases SQ id b h2 with ⟨g1,g2⟩ | ⟨s,g1,g2,g3⟩
  ·refine ⟨id,g2,?_,qb g1⟩
   rcases hc.live id k h1 with ⟨_,k1,g⟩ | ⟨s,_,g,_⟩
   ·rw[g];rfl
   ·omega
  ·refine ⟨s,g3,?_,?_⟩
   ·rcases hc.live id k h1 with ⟨g,_⟩ | ⟨s',g4,_,k1,g5⟩
    ·omega
    ·rw[g1] at g4;cases g4;rw[g5];rfl
   ·unfold cF
    rw[if_neg (by have:=ha s (List.mem_of_getElem? g1);omega),rK hn g1]
    simp only[Option.map_some]
    congr 1
    omega
 refine ⟨gu bA H.length src,?_,⟨hR.gZ.less fun b ho=>pe hc ho,fun id b h=>?_,fun i j b hi hj gJ kG=>?_,fun id b k h1 h2=>?_⟩,⟨⟨fun id b _ h=>?_,hS.size,fun b hb ho eA=>hS.own b hb ho (pe hc eA),hS.same,hS.shape⟩,hS.os,hS.tape,hS.output,by omega,fun id hid=>?_⟩⟩
 ·cases e1 with
  | ret x =>
   cases e with
   | bF y=>exact hz.elim
   | ret y =>
    cases en with
    | returned v=>exact ⟨Gz.jj hz he.1,Gz.R hR hc hz he.2⟩
    | _=>exact he.elim
  | bF x =>
   cases e with
   | ret y=>exact hz.elim
   | bF y =>
    cases en with
    | panicked c=>obtain ⟨v,older,rfl,ho,hv⟩:=he;exact ⟨v,older,rfl,ho,Gz.jj hz hv.1,Gz.R hR hc hz hv.2⟩
    | _=>exact he.elim
 ·rcases SQ id b h with ⟨g1,g2⟩ | ⟨s,g1,g2,g3⟩
  ·exact ⟨by omega,(hR.dom id b g2).2⟩
  ·have:=(List.getElem?_eq_some_iff.1 g1).1
   exact ⟨by omega,(hR.dom s b g3).2⟩
 ·obtain ⟨k1,e1⟩:=Option.isSome_iff_exists.1 gJ
  obtain ⟨k2,e2⟩:=Option.isSome_iff_exists.1 kG
  obtain ⟨s1,a1,a2,a3⟩:=Mn i k1 b e1 hi
  obtain ⟨s2,b1,b2,b3⟩:=Mn j k2 b e2 hj
  have:=hR.inj s1 s2 b a1 b1 a2 b2
  rw[this,b3] at a3
  exact (Option.some.inj a3).symm
 ·have hblk:∀{s:Nat}{k1:aK},bA s=some b→Y.find H1 s=some k1→CE H1 H.length src k1 k→gX (gu bA H.length src) (Own (gu bA H.length src) H2) w1 k b:=by
   intro s k1 g1 g2 ⟨z1,z2,z3,z4⟩
   rcases hR.blk s b k1 g1 g2 with ⟨h0,c1,c2,a1,a2,a3,a4,a5,a6⟩ | ⟨h0,ht,bH,clock,a1,a2,a3,a4⟩ | ⟨h0,ht,r,ts,tm,e,a1,a2⟩ | ⟨h0,ht,bH,clock,x,r,e,a1,a2,a3,a4,a5⟩ | ⟨h0,ht,bm,clock,seen,a1,a2⟩
   ·refine .inl ⟨by rw[z1];exact h0,c1,c2,by rw[z2];exact a1,by rw[z1];exact a2,by rw[z4.len];exact a3,fun h=>by rw[z4.len];exact a4 (z3 h),a5,?_⟩
    rw[z1]
    exact de.Rl hR hc z4 a6
   ·exact .inr (.inl ⟨by rw[z1];exact h0,by rw[z2];exact ht,bH,clock,a1,a2,a3,de.RE hR hc z4 a4⟩)
   ·rw[e] at z4
    generalize kX:k.es=es at z4
    cases z4 with
    | cons zx zr =>
     cases zx with
     | same hi=>exact .inr (.inr (.inl ⟨by rw[z1];exact h0,by rw[z2];exact ht,r,_,tm,kX,a1,de.Rt hR hc zr a2⟩))
   ·rw[e] at z4
    generalize kX:k.es=es at z4
    cases z4 with
    | cons zx zr=>exact .inr (.inr (.inr (.inl ⟨by rw[z1];exact h0,by rw[z2];exact ht,bH,clock,_,_,kX,a1,a2,a3,⟨Gz.jj zx a4.1,Gz.R hR hc zx a4.2⟩,de.RE hR hc zr a5⟩)))
   ·exact .inr (.inr (.inr (.inr ⟨by rw[z1];exact h0,by rw[z2];exact ht,bm,clock,seen,a1,de.Rt hR hc z4 a2⟩)))
  rcases SQ id b h1 with ⟨g1,g2⟩ | ⟨s,g1,g2,g3⟩
  ·rcases hold id k g1 h2 with ⟨h3,h4⟩ | ⟨k1,h3,h4⟩
   ·have h5:φ id=some b:=by rw[←hS.old id g1];exact g2
    have R3:=AV.dU (q:=fun i=>cF H.length src i=some i) (fun i ⟨b',hb'⟩=>qb (Ef.dom i b' hb').1) _ (Ef.blk id b k h5 h3).ids
    exact (hR.blk id b k g2 h4).later (z8 hc) rfl R3
   ·exact hblk g2 h3 h4
  ·obtain ⟨k1,h3,h4⟩:=qP (id - H.length) s k g1 (by rw[show H.length+(id - H.length)=id from by omega];exact h2)
   exact hblk g3 h3 h4
 ·have h4:=(Ef.dom id b h).1
  unfold gu
  rw[if_pos h4,hS.old id h4]
  exact h
 ·unfold gu
  rw[if_pos hid]
  exact hS.old id hid
mutual
inductive Le:AV→AV→Prop where
 | refl {x:AV}:Le x x
 | an {k:Nat}{xs ys:List AV}{room:Option (List AV)}:mJ xs ys→Le (.an k xs room) (.an k ys none)
 | nil {k k':Nat}{room:Option (List AV)}:Le (.an k [] room) (.an k' [] none)
 | agg {xs ys:List AV}:mJ xs ys→Le (.agg xs) (.agg ys)
 | aE {k id off n:Nat}{c:Option Nat}:Le (.aE k id off n c) (.aE k id off n none)
inductive mJ:List AV→List AV→Prop where
 | nil:mJ [] []
 | cons {x y:AV}{r s:List AV}:Le x y→mJ r s→mJ (x::r) (y::s)
end
theorem mJ.refl:∀{l:List AV},mJ l l
 | []=>.nil
 | _::_=>.cons .refl mJ.refl
theorem mJ.len:∀{xs ys:List AV},mJ xs ys→ys.length=xs.length
 | _,_,.nil=>rfl
 | _,_,.cons _ h=>by simp[h.len]
theorem Le.isAgg{x y:AV}(h:Le x y):y.isAgg=x.isAgg∧y.ax=x.ax:=by
 cases h with
 | agg h=>exact ⟨rfl,h.len⟩
 | _=>exact ⟨rfl,rfl⟩
theorem Le.jj{x y:AV}(h:Le x y){u:Value}(hk:jj x u):jj y u:=by
 cases h with
 | agg h=>obtain ⟨us,h1,h2⟩:=hk;exact ⟨us,h1,by rw[h2,h.len]⟩
 | _=>exact hk
section
variable {φ:aH}{O:Nat→Prop}{w:World}
mutual
theorem Le.R:∀{x y:AV},Le x y→∀{g:Nat→Option Value},R φ O w x g→R φ O w y g
 | _,_,.refl,g,h=>h
 | _,_,.an hl,g,h=>by
  obtain ⟨a,c,h1,h2,h3,h4,h5,h6⟩:=h
  have nn:=hl.len
  refine ⟨a,c,by rw[nn];exact h1,by omega,h3,h4,fun hp=>?_,trivial⟩
  obtain ⟨b,off,e1,e2,e3,e4⟩:=h5 (by omega)
  exact ⟨b,off,e1,e2,e3,mJ.Rl hl e4⟩
 | _,_,.nil,g,h=>by
  obtain ⟨a,c,h1,h2,h3,h4,h5,h6⟩:=h
  exact ⟨a,c,h1,h2,h3,h4,fun hp=>by simp at hp,trivial⟩
 | _,_,.agg hl,g,h=>mJ.Rs hl h
 | _,_,.aE,g,h=>by
  obtain ⟨b,c',cur,e,fr,v1,v2,v3,v4,v5,v6,v7⟩:=h
  exact ⟨b,c',cur,e,fr,v1,v2,v3,v4,fun m hm=>by simp at hm,v6,v7⟩
theorem mJ.Rl:∀{xs ys:List AV},mJ xs ys→∀{b k off:Nat},Rl φ O w b k xs off→Rl φ O w b k ys off
 | _,_,.nil,b,k,off,_=>trivial
 | _,_,.cons hx hr,b,k,off,h=>⟨by rw[hx.isAgg.2];exact h.1,by rw[hx.isAgg.1];exact h.2.1,Le.R hx h.2.2.1,mJ.Rl hr h.2.2.2⟩
theorem mJ.Rs:∀{xs ys:List AV},mJ xs ys→∀{g:Nat→Option Value},Rs φ O w xs g→Rs φ O w ys g
 | _,_,.nil,g,_=>trivial
 | _,_,.cons hx hr,g,h=>⟨by rw[hx.isAgg.1];exact h.1,Le.R hx h.2.1,h.2.2.1,mJ.Rs hr h.2.2.2⟩
theorem mJ.Rt:∀{xs ys:List AV},mJ xs ys→∀{us:List Value},Rt φ O w xs us→Rt φ O w ys us
 | _,_,.nil,us,h=>h
 | _,_,.cons hx hr,us,h=>by
  obtain ⟨v,s,h1,h2,h3,h4⟩:=h
  exact ⟨v,s,h1,hx.jj h2,Le.R hx h3,mJ.Rt hr h4⟩
end
end
theorem Zd{P:Program}{f:FuncId}{args args':List AV}{H H':Y}{e:cr}(hl:mJ args args')(h:D P f args' H e H'):D P f args H e H' :=
 ⟨h.1,fun φ w vs hR ha=>h.2 φ w vs hR (hl.Rt ha)⟩
inductive oe(id:Nat)(blk:aK):List AV→List AV→Prop where
 | nil:oe id blk [] []
 | keep {x:AV}{r s:List AV}:oe id blk r s→oe id blk (x::r) (x::s)
 | aE {k off n:Nat}{c:Option Nat}{r s:List AV}:blk.k=k→off+n≤blk.es.length→oe id blk r s→oe id blk (.aE k id off n c::r) (.an k ((blk.es.drop off).take n) none::s)
theorem xQ{φ:aH}{H:Y}{id:Nat}{w:World}:Later (fun _=>True) φ φ (Own φ H) (Own φ (Y.set H id none)) w w :=
 ⟨fun _ _ _ h=>h,Nat.le_refl _,fun b _ ho eA=>ho (Ca eA),fun _ _ _=>rfl,fun _ _=>rfl⟩
theorem oe.Rt{φ:aH}{H:Y}{w:World}(hR:Rel φ H w){id:Nat}{blk:aK}(hf:Y.find H id=some blk):∀{xs ys:List AV},oe id blk xs ys→∀{us:List Value},Rt φ (Own φ H) w xs us→Rt φ (Own φ (Y.set H id none)) w ys us
 | _,_,.nil,us,h=>h
 | _,_,.keep hr,us,h=>by
  obtain ⟨v,s,h1,h2,h3,h4⟩:=h
  exact ⟨v,s,h1,h2,jr xQ _ _ _ (AV.jK _) (fun _ _ h=>h) h3,oe.Rt hR hf hr h4⟩
 | _,_,.aE (k:=k) (off:=off) (n:=n) hk hn hr,us,h=>by
  obtain ⟨v,s,h1,h2,h3,h4⟩:=h
  refine ⟨v,s,h1,h2,?_,oe.Rt hR hf hr h4⟩
  obtain ⟨b,c',cur,e,fr,v1,v2,v3,v4,v5,v6,v7⟩:=h3
  have oV:((blk.es.drop off).take n).length=n:=by simp;omega
  refine ⟨_,c',by rw[oV];exact v2,by omega,v4,fun h=>by simp at h,fun hp=>⟨b,off*k,rfl,?_,gW v6,?_⟩,trivial⟩
  ·rintro ⟨i,k2,g1,g2⟩
   obtain ⟨g3,g4⟩:=ig g2
   exact g3 (hR.inj i id b g1 v1 (by rw[g4];rfl) (by rw[hf];rfl))
  ·obtain ⟨_,q9,cap,a1,a2,a3,a4,a5,a6⟩:=(hR.blk id b blk v1 hf).gY v6
   have h7:=hJ (n:=n) (jv (f:=off) a6)
   rw[hk,Nat.zero_add] at h7
   exact oT xQ b rfl _ _ _ (AV.cq _) h7
theorem aaC{P:Program}{f:FuncId}{args args':List AV}{H H':Y}{e:cr}{id:Nat}{blk:aK}(hf:Y.find H id=some blk)(hz:oe id blk args args')(h:D P f args' (Y.set H id none) e H'):D P f args H e H' :=
 ⟨by have:=h.1;rwa [Y.ah] at this,fun φ w vs hR ha=>by
  obtain ⟨r1,r2⟩:=hR.kill id
  exact (h.2 φ w vs r1 (hz.Rt hR hf ha)).mono fun en w' ⟨φ',h1,h2,h3⟩=>⟨φ',h1,h2,r2.trans h3⟩⟩
theorem aL{H:Y}{b:Option aK}{i:Nat}(h:i=H.length):Y.find (b::H) i=b:=by subst h;exact Y.iO
theorem aj{H:Y}{b:Option aK}{i:Nat}(h:i<H.length):Y.find (b::H) i=Y.find H i:=Y.cJ h
theorem Et{H:Y}{i j:Nat}{x:Option aK}(h:i=j)(hl:i<H.length):Y.find (Y.set H i x) j=x:=by subst h;exact Y.aB hl
theorem sF{H:Y}{i:Nat}{b x:Option aK}(h:i<H.length):Y.set (b::H) i x=b::Y.set H i x:=by
 show (if i=H.length then _ else _)=_
 rw[if_neg (by omega)]
theorem vm{H:Y}{i:Nat}{b x:Option aK}(h:i=H.length):Y.set (b::H) i x=x::H:=by
 show (if i=H.length then _ else _)=_
 rw[if_pos h]
theorem yq{H:Y}{i j:Nat}{x:Option aK}(h:j≠i):Y.find (Y.set H i x) j=Y.find H j:=Y.ak h
def aX(k:Nat)(xs:List AV)(id:Nat):AV:=match xs with
 | []=>.an 0 [] (some [])
 | _::_=>.aE k id 0 xs.length none
def bZ(k:Nat)(ty:TypeId)(xs:List AV):Option aK:=match xs with
 | []=>none
 | _::_=>some ⟨k,xs,false,ty⟩
def iv(xs:List AV)(id:Nat)(H:Y):Y:=match xs with
 | []=>H
 | _::_=>Y.set H id none
section
variable {k id i:Nat}{ty:TypeId}{xs:List AV}{H:Y}
theorem nA(h:xs≠[]):aX k xs id = .aE k id 0 xs.length none:=by cases xs<;>first | exact (h rfl).elim | rfl
theorem bt(h:xs≠[]):bZ k ty xs=some ⟨k,xs,false,ty⟩:=by cases xs<;>first | exact (h rfl).elim | rfl
theorem Oz(h:xs≠[]):iv xs id H=Y.set H id none:=by cases xs<;>first | exact (h rfl).elim | rfl
theorem av:(iv xs id H).length=H.length:=by cases xs<;>simp[iv,Y.ah]
theorem iw(h:i≠id):Y.find (iv xs id H) i=Y.find H i:=by
 cases xs with
 | nil=>rfl
 | cons x r=>exact Y.ak h
theorem Gs{b:Option aK}(h:id<H.length):iv xs id (b::H)=b::iv xs id H:=by
 cases xs with
 | nil=>rfl
 | cons x r=>exact sF h
theorem tS{b:aK}(h:bZ k ty xs=some b):xs≠[]∧b=⟨k,xs,false,ty⟩:=by
 cases xs with
 | nil=>simp[bZ] at h
 | cons x r=>simp[bZ] at h;exact ⟨by simp,h.symm⟩
theorem pf:(aX k xs id).bT=false:=by cases xs<;>rfl
theorem Eu:(aX k xs id).ax=1:=by cases xs<;>rfl
theorem Gt:(aX k xs id).isAgg=false:=by cases xs<;>rfl
theorem rL:(aX k xs id).cells=[aX k xs id]:=by cases xs<;>rfl
theorem Aa:qx (aX k xs id)=xs.length:=by cases xs<;>rfl
theorem xR:oH (aX k xs id)=True:=by cases xs<;>rfl
end
theorem SR{H1:Y}{n0:Nat}{src:List Nat}{k id id':Nat}{xs:List AV}(h:xs≠[]→cF n0 src id=some id'):Gz H1 n0 src (aX k xs id) (aX k xs id'):=by
 cases xs with
 | nil=>exact .same ⟨trivial,trivial⟩
 | cons x r=>exact .CD (h (by simp)) (.inl rfl)
theorem rM{H1:Y}{n0:Nat}{src:List Nat}{k id:Nat}{ty:TypeId}{xs ys:List AV}(h:xs≠[]→cF n0 src id=none)(hf:xs≠[]→Y.find H1 id=bZ k ty xs)(hz:de H1 n0 src xs ys):Gz H1 n0 src (aX k xs id) (.an k ys none):=by
 cases xs with
 | nil =>
  cases hz
  exact .nil
 | cons x r =>
  refine .aE (h (by simp)) (hf (by simp)) rfl (by simp) ?_
  simpa using hz
theorem JV{n0 s:Nat}(h:n0≤s):cF n0 [s] s=some n0:=by
 unfold cF
 rw[if_neg (by omega)]
 simp
theorem oe.refl{id:Nat}{blk:aK}:∀{l:List AV},oe id blk l l
 | []=>.nil
 | _::_=>.keep oe.refl
theorem SS{H:Y}{k:Nat}{ty:TypeId}{xs ys:List AV}{id:Nat}(hf:xs≠[]→Y.find H id=bZ k ty xs)(hl:xs.length+ys.length≤100000000):fq H k ty ys (aX k xs id)∧(ys≠[]∨xs≠[]→jW H k ys (aX k xs id)=aX k (xs++ys) H.length∧ir H k ty ys (aX k xs id)=bZ k ty (xs++ys)::iv xs id H)∧
  (ys=[]→xs=[]→jW H k ys (aX k xs id) = .an 0 [] (some [])∧ir H k ty ys (aX k xs id)=H):=by
 cases xs with
 | nil =>
  cases ys with
  | nil=>refine ⟨?_,fun h=>by simp at h,fun _ _=>⟨rfl,rfl⟩⟩;simp[fq,aX]
  | cons y s=>
   refine ⟨?_,fun _=>⟨?_,?_⟩,fun h=>by simp at h⟩
   ·simp[fq,aX] at hl ⊢;exact hl
   ·simp[jW,aX]
   ·simp[ir,aX,bZ,iv]
 | cons x r =>
  have h1:Y.find H id=some ⟨k,x::r,false,ty⟩:=hf (by simp)
  refine ⟨?_,fun _=>⟨?_,?_⟩,fun _ h=>by simp at h⟩
  ·simp only[fq,aX,h1]
   simp at hl ⊢
   exact hl
  ·simp only[jW,aX,h1]
   simp
   omega
  ·simp only[ir,aX,h1]
   simp[bZ,iv]
theorem bI{P:Program}{c:IC}{K:Post}{ts:List AV}{H:Y}(I:List AV→Y→Prop)(μ:List AV→Y→Nat)(h0:I ts H)(h:∀ts H,I ts H→∀L:List AV→Y→Prop,(∀ts' H',I ts' H'→μ ts' H'<μ ts H→L ts' H')→ES P c (jl L K) ts H):ES P (.loop c) K ts H :=
 zY I μ h0 fun ts H hI=>h ts H hI _ fun _ _ h1 h2=>⟨h1,h2⟩
mutual
inductive View(H:Y):AV→AV→Prop where
 | Z {v:Value}:View H (.Z v) (.Z v)
 | ub:View H .ub .ub
 | an {k:Nat}{xs ys:List AV}{room:Option (List AV)}:ct H xs ys→View H (.an k xs room) (.an k ys none)
 | nil {k k':Nat}{room:Option (List AV)}:View H (.an k [] room) (.an k' [] none)
 | aE {k id off n:Nat}{c:Option Nat}{blk:aK}{ys:List AV}:Y.find H id=some blk→blk.k=k→off+n≤blk.es.length→ct H ((blk.es.drop off).take n) ys→View H (.aE k id off n c) (.an k ys none)
 | ptr {k id j f:Nat}{blk:aK}{e y:AV}:Y.find H id=some blk→blk.es[j]? = some e→blk.k=k→0<k→View H e y→View H (.ptr k id j f) (.lp y f)
 | lp {x y:AV}{f:Nat}:View H x y→View H (.lp x f) (.lp y f)
 | agg {xs ys:List AV}:ct H xs ys→View H (.agg xs) (.agg ys)
 | aG {xs ys:List AV}:ct H xs ys→View H (.aG xs) (.aG ys)
 | dQ {t:TypeId}{x y:AV}:View H x y→View H (.dQ t x) (.dQ t y)
 | fn {f:Fn}{a b a' b':List AV}:ct H a a'→ct H b b'→View H (.fn f a b) (.fn f a' b')
inductive ct(H:Y):List AV→List AV→Prop where
 | nil:ct H [] []
 | cons {x y:AV}{r s:List AV}:View H x y→ct H r s→ct H (x::r) (y::s)
end
section
variable {H:Y}
theorem ct.len:∀{xs ys:List AV},ct H xs ys→ys.length=xs.length
 | _,_,.nil=>rfl
 | _,_,.cons _ h=>by simp[h.len]
theorem View.isAgg{x y:AV}(h:View H x y):y.isAgg=x.isAgg∧y.ax=x.ax:=by
 cases h with
 | agg h=>exact ⟨rfl,h.len⟩
 | _=>exact ⟨rfl,rfl⟩
theorem View.jj{x y:AV}(h:View H x y){u:Value}(hk:jj x u):jj y u:=by
 cases h with
 | agg h=>obtain ⟨us,h1,h2⟩:=hk;exact ⟨us,h1,by rw[h2,h.len]⟩
 | _=>exact hk
theorem View.acX{x y:AV}(h:View H x y):y.isAgg=true→x.isAgg=true:=by
 cases h<;>simp[AV.isAgg]
end
section
variable {φ:aH}{H:Y}{w:World}
mutual
theorem View.R(hR:Rel φ H w):∀{x y:AV},View H x y→∀{g:Nat→Option Value},R φ (Own φ H) w x g→R fL O0 w y g
 | _,_,.Z,g,h=>h
 | _,_,.ub,g,h=>h
 | _,_,.an hl,g,h=>by
  obtain ⟨a,c,h1,h2,h3,h4,h5,h6⟩:=h
  have nn:=hl.len
  refine ⟨a,c,by rw[nn];exact h1,by omega,h3,h4,fun hp=>?_,trivial⟩
  obtain ⟨b,off,e1,e2,e3,e4⟩:=h5 (by omega)
  exact ⟨b,off,e1,qy,e3,ct.Rl hR hl e4⟩
 | _,_,.nil,g,h=>by
  obtain ⟨a,c,h1,h2,h3,h4,h5,h6⟩:=h
  exact ⟨a,c,h1,h2,h3,h4,fun hp=>by simp at hp,trivial⟩
 | _,_,.aE (k:=k) (id:=id) (off:=off) (n:=n) (blk:=blk) h1 h2 h3 h4,g,h=>by
  obtain ⟨b,c',cur,e,fr,v1,v2,v3,v4,v5,v6,v7⟩:=h
  have oV:((blk.es.drop off).take n).length=n:=by simp;omega
  have nn:=h4.len
  rw[oV] at nn
  refine ⟨_,c',by rw[nn];exact v2,by omega,v4,fun h=>by simp at h,fun hp=>⟨b,off*k,rfl,qy,gW v6,?_⟩,trivial⟩
  obtain ⟨_,q9,cap,a1,a2,a3,a4,a5,a6⟩:=(hR.blk id b blk v1 h1).gY v6
  have h7:=hJ (n:=n) (jv (f:=off) a6)
  rw[h2,Nat.zero_add] at h7
  exact ct.Rl hR h4 h7
 | _,_,.ptr (k:=k) (id:=id) (j:=j) (f:=f) (blk:=blk) (e:=e) h1 h2 h3 bW hv,g,h=>by
  obtain ⟨b,g1,g2⟩:=h
  obtain ⟨q9,cap,a1,a2,a3,a4,a5,a6⟩:=(hR.blk id b blk g1 h1).cells (by rw[h3];exact bW)
  rw[ew bW] at g2
  obtain ⟨n1,n2,n3⟩:=uH a6 h2
  rw[h3,Nat.zero_add] at n2 n3
  refine ⟨b,j*k,by rw[g2],qy,gW a1,fun hx=>?_,View.R hR hv n3⟩
  have hxa:e.isAgg=false:=by
   cases hq:e.isAgg with
   | false=>rfl
   | true =>
    have:=hv.isAgg.1
    rw[hx,hq] at this
    simp at this
  exact n2 hxa
 | _,_,.lp hv,g,h=>by
  obtain ⟨b,off,h1,ho,hb,h3,h2⟩:=h
  refine ⟨b,off,h1,qy,hb,fun hx=>h3 ?_,View.R hR hv h2⟩
  rename_i x y f
  cases hq:x.isAgg with
  | false=>rfl
  | true =>
   have:=hv.isAgg.1
   rw[hx,hq] at this
   simp at this
 | _,_,.agg hl,g,h=>ct.Rs hR hl h
 | _,_,.aG hl,g,h=>by
  obtain ⟨us,h1,h2⟩:=h
  exact ⟨us,h1,ct.Rt hR hl h2⟩
 | _,_,.dQ hx,g,h=>by
  obtain ⟨u,h1,h2,h3⟩:=h
  exact ⟨u,h1,hx.jj h2,View.R hR hx h3⟩
 | _,_,.fn ha hb,g,h=>by
  obtain ⟨us,ws,h1,h2,h3⟩:=h
  exact ⟨us,ws,h1,ct.Rt hR ha h2,ct.Rt hR hb h3⟩
theorem ct.Rl(hR:Rel φ H w):∀{xs ys:List AV},ct H xs ys→∀{b k off:Nat},Rl φ (Own φ H) w b k xs off→Rl fL O0 w b k ys off
 | _,_,.nil,b,k,off,_=>trivial
 | _,_,.cons (x:=x) (y:=y) hx hr,b,k,off,h=>by
  have he:=hx.isAgg
  exact ⟨by rw[he.2];exact h.1,by rw[he.1];exact h.2.1,View.R hR hx h.2.2.1,ct.Rl hR hr h.2.2.2⟩
theorem ct.Rs(hR:Rel φ H w):∀{xs ys:List AV},ct H xs ys→∀{g:Nat→Option Value},Rs φ (Own φ H) w xs g→Rs fL O0 w ys g
 | _,_,.nil,g,_=>trivial
 | _,_,.cons (x:=x) (y:=y) hx hr,g,h=>by
  refine ⟨?_,View.R hR hx h.2.1,h.2.2.1,ct.Rs hR hr h.2.2.2⟩
  cases hq:y.isAgg with
  | false=>rfl
  | true=>have:=hx.acX hq;rw[h.1] at this;simp at this
theorem ct.Rt(hR:Rel φ H w):∀{xs ys:List AV},ct H xs ys→∀{us:List Value},Rt φ (Own φ H) w xs us→Rt fL O0 w ys us
 | _,_,.nil,us,h=>h
 | _,_,.cons hx hr,us,h=>by
  obtain ⟨v,s,h1,h2,h3,h4⟩:=h
  exact ⟨v,s,h1,hx.jj h2,View.R hR hx h3,ct.Rt hR hr h4⟩
end
end
inductive Plain:AV→Prop where
 | Z {v:Value}:Plain (.Z v)
 | ub:Plain .ub
 | nil {k:Nat}{room:Option (List AV)}:(room=none∨room=some [])→Plain (.an k [] room)
 | acY:Plain (.aG [])
 | aG {x:AV}{r:List AV}:Plain x→Plain (.aG r)→Plain (.aG (x::r))
theorem Plain.R{x:AV}(h:Plain x):∀{φ φ':aH}{O O':Nat→Prop}{w w':World}{g:Nat→Option Value},R φ O w x g→R φ' O' w' x g:=by
 induction h with
 | Z=>intro φ φ' O O' w w' g h;exact h
 | ub=>intro φ φ' O O' w w' g h;exact h
 | nil hr =>
  intro φ φ' O O' w w' g h
  obtain ⟨a,c,h1,h2,h3,h4,h5,h6⟩:=h
  refine ⟨a,c,h1,h2,h3,h4,fun hp=>by simp at hp,?_⟩
  rcases hr with rfl | rfl
  ·trivial
  ·exact ⟨h6.1,fun hp=>by simp at hp⟩
 | acY =>
  intro φ φ' O O' w w' g h
  obtain ⟨us,h1,h2⟩:=h
  exact ⟨us,h1,h2⟩
 | aG _ _ ih1 ih2 =>
  intro φ φ' O O' w w' g h
  obtain ⟨us,h1,v,s,h2,h3,h4,h5⟩:=h
  obtain ⟨us',e1,e2⟩:=ih2 (φ:=φ) (φ':=φ') (O:=O) (O':=O') (w:=w) (w':=w') (g:=fun _=>some (.tuple s.toArray)) ⟨s.toArray,rfl,h5⟩
  have:us'=s.toArray:=by simpa using e1.symm
  subst this
  exact ⟨us,h1,v,s,h2,h3,ih1 h4,e2⟩
theorem vn{P:Program}{f:FuncId}{args args':List AV}{v:AV}{H:Y}(hv:ct H args args')(hp:Plain v)(h:D P f args' [] (.ret v) []):D P f args H (.ret v) H:=by
 refine ⟨Nat.le_refl _,fun φ w vs hR ha=>(h.2 fL w vs (Mj (hR.gZ.less fun b ho=>(qy ho).elim)) (hv.Rt hR ha)).mono fun en w' ⟨φ',h1,h2,h3⟩=>?_⟩
 have hb:=nx h3
 refine ⟨φ,?_,hR.grow hb.size hb.block,grow_step hb.os hb.tape hb.output hb.size hb.block⟩
 cases en with
 | returned u=>exact ⟨h1.1,hp.R h1.2⟩
 | _=>exact h1.elim
theorem ct.own{H:Y}{k id:Nat}{ty:TypeId}{xs ys:List AV}(hf:xs≠[]→Y.find H id=bZ k ty xs)(hl:ct H xs ys):View H (aX k xs id) (.an k ys none):=by
 cases xs with
 | nil=>cases hl;exact .nil
 | cons x r =>
  refine .aE (hf (by simp)) rfl (by simp) ?_
  simpa using hl
theorem ct.SU{H:Y}{α:Type}{f:α→Value}:∀{l:List α},ct H (l.map fun a=>.Z (f a)) (l.map fun a=>.Z (f a))
 | []=>.nil
 | _::_=>.cons .Z ct.SU
open Go Go.RowKit
set_option linter.defProp false
def kI(n:Int):X:=.k (.Z (.int .i64 n))
def kT:X:=.k (.Z (.bool true))
def kF:X:=.k (.Z (.bool false))
def aV:AV:=.an 0 [] (some [])
def xI(n:Int):PO:=.mv (kI n)
def xA(k s i:Nat):PO:=.fC k (.t s) (.t i)
def xL(s:Nat):PO:=.len (.t s)
def xB(op:BinOp)(a b:Nat):PO:=.az op (.t a) (.t b)
def xN(a:Nat):PO:=.un .not (.t a)
def yD(k a:Nat):HO:=.load k false (.t a)
def yA(k a:Nat):HO:=.load k true (.t a)
def yC(f a b:Nat):HO:=.call f [.t a,.t b]
def iM(n a:Nat):bQ:=⟨some n,none,.p (.mv (.t a))⟩
def iP(n:Nat)(p:PO):bQ:=⟨some n,none,.p p⟩
def iH(n:Nat)(h:HO):bQ:=⟨some n,none,.h h⟩
def iS(k a x:Nat):bQ:=⟨none,none,.h (.store k (.t a) (.t x))⟩
def gM(n g:Nat)(b:Bool)(a:Nat):bQ:=⟨some n,some (g,b),.p (.mv (.t a))⟩
def gP(n g:Nat)(b:Bool)(p:PO):bQ:=⟨some n,some (g,b),.p p⟩
def gH(n g:Nat)(b:Bool)(h:HO):bQ:=⟨some n,some (g,b),.h h⟩
theorem aaD:∀n,kI n = .k (.Z (.int .i64 n)):=fun _=>rfl
theorem aaE:kT = .k (.Z (.bool true)):=rfl
theorem aaF:kF = .k (.Z (.bool false)):=rfl
theorem Xb:aV = .an 0 [] (some []):=rfl
theorem aaG:∀n,xI n = .mv (.k (.Z (.int .i64 n))):=fun _=>rfl
theorem aaH:∀k s i,xA k s i = .fC k (.t s) (.t i):=fun _ _ _=>rfl
theorem aaI:∀s,xL s = .len (.t s):=fun _=>rfl
theorem aaJ:∀op a b,xB op a b = .az op (.t a) (.t b):=fun _ _ _=>rfl
theorem aaK:∀a,xN a = .un .not (.t a):=fun _=>rfl
theorem aaL:∀k a,yD k a = .load k false (.t a):=fun _ _=>rfl
theorem aaM:∀k a,yA k a = .load k true (.t a):=fun _ _=>rfl
theorem aaN:∀f a b,yC f a b = .call f [.t a,.t b]:=fun _ _ _=>rfl
theorem aaO:∀n a,iM n a=⟨some n,none,.p (.mv (.t a))⟩:=fun _ _=>rfl
theorem aaP:∀n p,iP n p=⟨some n,none,.p p⟩:=fun _ _=>rfl
theorem aaQ:∀n h,iH n h=⟨some n,none,.h h⟩:=fun _ _=>rfl
theorem aaR:∀k a x,iS k a x=⟨none,none,.h (.store k (.t a) (.t x))⟩:=fun _ _ _=>rfl
theorem aaS:∀n g b a,gM n g b a=⟨some n,some (g,b),.p (.mv (.t a))⟩:=fun _ _ _ _=>rfl
theorem aaT:∀n g b p,gP n g b p=⟨some n,some (g,b),.p p⟩:=fun _ _ _ _=>rfl
theorem aaU:∀n g b h,gH n g b h=⟨some n,some (g,b),.h h⟩:=fun _ _ _ _=>rfl
def ux:=And.intro aaD<|And.intro aaE<|And.intro aaF<|And.intro Xb<|And.intro aaG<|And.intro aaH<|And.intro aaI<|And.intro aaJ<|And.intro aaK<|And.intro aaL<|And.intro aaM<|And.intro aaN<|And.intro aaO<|And.intro aaP<|And.intro aaQ<|And.intro aaR<|And.intro aaS<|And.intro aaT aaU
def Dk(P:Program)(f:FuncId)(c:IC)(rs:List RV)(n:Nat):Prop :=
 ∀{args:List AV}{H:Y}{Kr:cr→Y→Prop},E P c (wG rs Kr) (args++List.replicate (n - args.length) (.aG [])) H→DK P f args H Kr
theorem aO{P:Program}{f:FuncId}{fn:Func}{ic:IC}{rs:List RV}(hf:P.funcs[f]? = some fn)(hb:fn.body=some (fn.body.getD .skip))(hc:dt P [] (fn.body.getD .skip)=some ic)(hr:nt P fn.results.toList=some rs):Dk P f ic rs fn.ntmps :=
 fun h=>cR (aY:=[]) hf hb hc hr h
set_option maxRecDepth 1000000
inductive Over(H:Y):Y→Prop where
 | refl:Over H H
 | cons {b:Option aK}{G:Y}:Over H G→Over H (b::G)
theorem Over.split{H G:Y}(h:Over H G):∃A,G=A++H:=by
 induction h with
 | refl=>exact ⟨[],rfl⟩
 | @cons b G _ ih=>obtain ⟨A,rfl⟩:=ih;exact ⟨b::A,rfl⟩
theorem da{H G:Y}{x y:AV}(h:Over H G)(hz:Fz G H.length x y):eo H (.ret x) G (.ret y) H:=by
 obtain ⟨A,rfl⟩:=h.split
 exact Ju hz
theorem bL{H G:Y}{v:Value}(h:Over H G):eo H (.ret (.Z v)) G (.ret (.Z v)) H:=da h (.same trivial)
inductive Fu where
 | o
 | s (f:Fu)
def Fu.num:Fu→Nat
 | .o=>0
 | .s f=>f.num+1
theorem ae{P:Program}{a b:IC}{K:Post}{ts:List AV}{H:Y}(h:∀L:List AV→Y→Prop,(∀ts H,ES P b K ts H→L ts H)→ES P a (jl L K) ts H):ES P (.seq a b) K ts H:=h _ (fun _ _ h=>h)
theorem nc2:((2:Nat):Int)=2:=rfl
theorem nc3:((3:Nat):Int)=3:=rfl
theorem nc4:((4:Nat):Int)=4:=rfl
theorem nc5:((5:Nat):Int)=5:=rfl
theorem nc6:((6:Nat):Int)=6:=rfl
theorem nc7:((7:Nat):Int)=7:=rfl
theorem nc8:((8:Nat):Int)=8:=rfl
theorem nc9:((9:Nat):Int)=9:=rfl
theorem acZ:((10:Nat):Int)=10:=rfl
theorem ac0:((11:Nat):Int)=11:=rfl
theorem ac1:((12:Nat):Int)=12:=rfl
theorem SV{A:List (List Nat)}{i:Nat}{v:AV}:yp A i [] v=True:=by
 cases v<;>simp[yp]
theorem OA{A:List (List Nat)}{i j:Nat}{H:Y}{hs:List (Nat×Y×Y)}{v:AV}:yp A i ((j,H,H)::hs) v=yp A i hs v:=by
 cases v<;>simp[yp]
theorem OB{A:List (List Nat)}{i j:Nat}{H G:Y}{hs:List (Nat×Y×Y)}{k id a f:Nat}:yp A i ((j,H,G)::hs) (.ptr k id a f)=((k7 A j i=true→id<H.length→Y.find G id=Y.find H id)∧yp A i hs (.ptr k id a f)):=by
 simp[yp]
theorem Xc{A:List (List Nat)}{i:Nat}{hs:List (Nat×Y×Y)}{x:AV}{f:Nat}:yp A i hs (.lp x f)=True:=rfl
theorem SW{A:List (List Nat)}{i:Nat}{H G:Y}:pc A i [] H G=True:=by simp[pc]
theorem OC{A:List (List Nat)}{i j id:Nat}{ld:List (Nat×Nat)}{H G:Y}:pc A i ((j,id)::ld) H G=((k7 A j i=true→Y.find G id=Y.find H id)∧pc A i ld H G):=by
 simp[pc]
theorem Gu{n:Int}{r:List AV}:j5 (.Z (.int .u8 n)::r)=j5 r:=by simp[j5,mX]
theorem Ev:j5 []=true:=rfl
def strs(l:List ByteArray):List AV:=l.map fun s=>.Z (.string s)
theorem dj(l:List ByteArray):(strs l).length=l.length:=by simp[strs]
theorem OD:strs []=[]:=rfl
def lR(xs:List ByteArray)(k:Nat):ByteArray:=xs.getD k ByteArray.empty
theorem wQ{l:List ByteArray}{k:Nat}(h:k<l.length):(strs l).getD k .top = .Z (.string (lR l k)):=by
 simp[strs,lR,List.getD,h]
theorem str_inj{s t:ByteArray}(h:s.toList=t.toList):s=t:=by
 rw[ByteArray.toList_eq,ByteArray.toList_eq] at h
 cases s with
 | mk s=>cases t with
  | mk t =>
   have e:s=t:=Array.toList_inj.1 h
   subst e
   rfl
theorem rN(s t:ByteArray):(s.toList == t.toList)=decide (s=t):=by
 by_cases h:s=t
 ·subst h;simp
 ·rw[decide_eq_false h,beq_eq_false_iff_ne]
  exact fun e=>h (str_inj e)
theorem SX(a b:Int):(a == b)=decide (a=b):=by
 by_cases h:a=b<;>simp[h]
theorem SY{p:Prop} [Decidable p]:(!decide p)=decide (¬p):=by
 by_cases h:p<;>simp[h]
def Fr:List (Option AV)→List AV→Prop
 | [],[]=>True
 | some v::p,x::r=>x=v∧Fr p r
 | none::p,_::r=>Fr p r
 | _,_=>False
def mk:List (Option AV)→(Nat→AV)→List AV
 | [],_=>[]
 | some v::p,js=>v::mk p (fun i=>js (i+1))
 | none::p,js=>js 0::mk p (fun i=>js (i+1))
theorem Fr.opened:∀{p:List (Option AV)}{ts:List AV},Fr p ts→∃js,ts=mk p js
 | [],[],_=>⟨fun _=>.top,rfl⟩
 | some v::p,x::r,h=>by
  obtain ⟨js,e⟩:=Fr.opened h.2
  refine ⟨fun i=>js (i - 1),?_⟩
  simp only[mk,h.1,Nat.add_sub_cancel]
  rw[e]
 | none::p,x::r,h=>by
  obtain ⟨js,e⟩:=Fr.opened (p:=p) (ts:=r) h
  refine ⟨fun i=>if i=0 then x else js (i - 1),?_⟩
  simp only[mk,if_true,Nat.add_sub_cancel,Nat.add_eq_zero_iff,Nat.one_ne_zero,and_false,if_false]
  rw[e]
 | [],_::_,h=>h.elim
 | some _::_,[],h=>h.elim
 | none::_,[],h=>h.elim
set_option maxRecDepth 100000
theorem OE:∀v_,AV.bT (AV.Z v_)=false:=fun _=>rfl
theorem OG:∀v_,AV.isAgg (AV.Z v_)=false:=fun _=>rfl
theorem JW:∀v_,AV.ax (AV.Z v_)=1:=fun _=>rfl
theorem OH:∀v_,AV.cells (AV.Z v_)=[(AV.Z v_)]:=fun _=>rfl
theorem Xd:∀v_ f0 x0,AV.kW (AV.Z v_) f0 x0=x0:=fun _ _ _=>rfl
theorem JX:∀k_ iY r_,AV.bT (AV.an k_ iY r_)=false:=fun _ _ _=>rfl
theorem JY:∀k_ iY r_,AV.isAgg (AV.an k_ iY r_)=false:=fun _ _ _=>rfl
theorem Gv:∀k_ iY r_,AV.ax (AV.an k_ iY r_)=1:=fun _ _ _=>rfl
theorem JZ:∀k_ iY r_,AV.cells (AV.an k_ iY r_)=[(AV.an k_ iY r_)]:=fun _ _ _=>rfl
theorem S0:∀k_ iY r_ f0 x0,AV.kW (AV.an k_ iY r_) f0 x0=x0:=fun _ _ _ _ _=>rfl
theorem J0:∀k_ i_ o_ n_ c_,AV.bT (AV.aE k_ i_ o_ n_ c_)=false:=fun _ _ _ _ _=>rfl
theorem J1:∀k_ i_ o_ n_ c_,AV.isAgg (AV.aE k_ i_ o_ n_ c_)=false:=fun _ _ _ _ _=>rfl
theorem Gw:∀k_ i_ o_ n_ c_,AV.ax (AV.aE k_ i_ o_ n_ c_)=1:=fun _ _ _ _ _=>rfl
theorem J2:∀k_ i_ o_ n_ c_,AV.cells (AV.aE k_ i_ o_ n_ c_)=[(AV.aE k_ i_ o_ n_ c_)]:=fun _ _ _ _ _=>rfl
theorem S1:∀k_ i_ o_ n_ c_ f0 x0,AV.kW (AV.aE k_ i_ o_ n_ c_) f0 x0=x0:=fun _ _ _ _ _ _ _=>rfl
theorem J3:∀k_ i_ j_ f_,AV.bT (AV.ptr k_ i_ j_ f_)=false:=fun _ _ _ _=>rfl
theorem J4:∀k_ i_ j_ f_,AV.isAgg (AV.ptr k_ i_ j_ f_)=false:=fun _ _ _ _=>rfl
theorem Gx:∀k_ i_ j_ f_,AV.ax (AV.ptr k_ i_ j_ f_)=1:=fun _ _ _ _=>rfl
theorem J5:∀k_ i_ j_ f_,AV.cells (AV.ptr k_ i_ j_ f_)=[(AV.ptr k_ i_ j_ f_)]:=fun _ _ _ _=>rfl
theorem S2:∀k_ i_ j_ f_ f0 x0,AV.kW (AV.ptr k_ i_ j_ f_) f0 x0=x0:=fun _ _ _ _ _ _=>rfl
theorem OI:∀x_ f_,AV.bT (AV.lp x_ f_)=false:=fun _ _=>rfl
theorem OJ:∀x_ f_,AV.isAgg (AV.lp x_ f_)=false:=fun _ _=>rfl
theorem J6:∀x_ f_,AV.ax (AV.lp x_ f_)=1:=fun _ _=>rfl
theorem OL:∀x_ f_,AV.cells (AV.lp x_ f_)=[(AV.lp x_ f_)]:=fun _ _=>rfl
theorem Xe:∀x_ f_ f0 x0,AV.kW (AV.lp x_ f_) f0 x0=x0:=fun _ _ _ _=>rfl
theorem J7:∀wR,AV.bT (AV.agg wR)=false:=fun _=>rfl
theorem J8:∀wR,AV.isAgg (AV.agg wR)=true:=fun _=>rfl
theorem Gy:∀wR,AV.ax (AV.agg wR)=wR.length:=fun _=>rfl
theorem J9:∀wR,AV.cells (AV.agg wR)=wR:=fun _=>rfl
theorem S3:∀wR f0 x0,AV.kW (AV.agg wR) f0 x0=AV.agg (wR.take f0++x0.cells++wR.drop (f0+x0.ax)):=fun _ _ _=>rfl
theorem Ka:∀BO,AV.bT (AV.aG BO)=true:=fun _=>rfl
theorem Kb:∀BO,AV.isAgg (AV.aG BO)=false:=fun _=>rfl
theorem GA:∀BO,AV.ax (AV.aG BO)=1:=fun _=>rfl
theorem Kc:∀BO,AV.cells (AV.aG BO)=[(AV.aG BO)]:=fun _=>rfl
theorem S4:∀BO f0 x0,AV.kW (AV.aG BO) f0 x0=x0:=fun _ _ _=>rfl
theorem OM:∀f_ a_ b_,AV.bT (AV.fn f_ a_ b_)=false:=fun _ _ _=>rfl
theorem OO:∀f_ a_ b_,AV.isAgg (AV.fn f_ a_ b_)=false:=fun _ _ _=>rfl
theorem Ke:∀f_ a_ b_,AV.ax (AV.fn f_ a_ b_)=1:=fun _ _ _=>rfl
theorem OP:∀f_ a_ b_,AV.cells (AV.fn f_ a_ b_)=[(AV.fn f_ a_ b_)]:=fun _ _ _=>rfl
theorem Xf:∀f_ a_ b_ f0 x0,AV.kW (AV.fn f_ a_ b_) f0 x0=x0:=fun _ _ _ _ _=>rfl
theorem Kf:∀t_ x_,AV.bT (AV.dQ t_ x_)=false:=fun _ _=>rfl
theorem Kg:∀t_ x_,AV.isAgg (AV.dQ t_ x_)=false:=fun _ _=>rfl
theorem GB:∀t_ x_,AV.ax (AV.dQ t_ x_)=1:=fun _ _=>rfl
theorem Ki:∀t_ x_,AV.cells (AV.dQ t_ x_)=[(AV.dQ t_ x_)]:=fun _ _=>rfl
theorem S5:∀t_ x_ f0 x0,AV.kW (AV.dQ t_ x_) f0 x0=x0:=fun _ _ _ _=>rfl
theorem OQ:AV.bT (AV.ub)=false:=rfl
theorem OS:AV.isAgg (AV.ub)=false:=rfl
theorem Kj:AV.ax (AV.ub)=1:=rfl
theorem OT:AV.cells (AV.ub)=[(AV.ub)]:=rfl
theorem Xg:∀f0 x0,AV.kW (AV.ub) f0 x0=x0:=fun  _ _=>rfl
theorem Kk:AV.bT (AV.top)=true:=rfl
theorem Kl:AV.isAgg (AV.top)=false:=rfl
theorem GC:AV.ax (AV.top)=1:=rfl
theorem Km:AV.cells (AV.top)=[(AV.top)]:=rfl
theorem S6:∀f0 x0,AV.kW (AV.top) f0 x0=x0:=fun  _ _=>rfl
theorem OU:∀k_ iY i_ f0 x0,AV.kW (aX k_ iY i_) f0 x0=x0:=fun k_ iY i_ f0 x0=>by cases iY<;>rfl
theorem OV:∀k_ iY r_,qx (.an k_ iY r_)=iY.length:=fun _ _ _=>rfl
theorem OX:∀k_ i_ o_ n_ c_,qx (.aE k_ i_ o_ n_ c_)=n_:=fun _ _ _ _ _=>rfl
theorem Kn:∀k_ iY r_,oH (.an k_ iY r_)=True:=fun _ _ _=>rfl
theorem Ko:∀k_ i_ o_ n_ c_,oH (.aE k_ i_ o_ n_ c_)=True:=fun _ _ _ _ _=>rfl
theorem Ks:oH (.Z (.slice none 0 0))=True:=rfl
theorem OY:qx (.Z (.slice none 0 0))=0:=rfl
theorem OZ:∀H_ k_ di gK r_,td H_ k_ (.an di gK r_)=(di=k_∨gK=[]):=fun _ _ _ _ _=>rfl
theorem O1:∀H_ k_ di mK rO n_ c_,td H_ k_ (.aE di mK rO n_ c_)=match Y.find H_ mK with
 | some blk=>di=k_∧blk.k=k_∧rO+n_≤blk.es.length
 | none=>False:=fun _ _ _ _ _ _ _=>rfl
theorem S7:∀H_ di gK r_,mG H_ (.an di gK r_)=gK:=fun _ _ _ _=>rfl
theorem S8:∀H_ di mK rO n_ c_,mG H_ (.aE di mK rO n_ c_)=match Y.find H_ mK with
 | some blk=>(blk.es.drop rO).take n_
 | none=>[]:=fun _ _ _ _ _ _=>rfl
theorem O3:∀H_ k_ qJ gK di iY,fq H_ k_ qJ gK (.an di iY (some []))=((di=k_∨iY=[])∧iY.length+gK.length≤100000000):=fun _ _ _ _ _ _=>rfl
theorem S9:∀H_ k_ qJ gK di mK rO n_,fq H_ k_ qJ gK (.aE di mK rO n_ none)=match Y.find H_ mK with
 | some blk=>(di=k_∧blk.k=k_∧blk.ty=qJ∧rO=0∧n_+gK.length≤100000000)∧blk.exact=false∧n_=blk.es.length
 | none=>False:=fun _ _ _ _ _ _ _ _=>rfl
theorem Ta:∀H_ k_ qJ gK di mK rO n_ m_,fq H_ k_ qJ gK (.aE di mK rO n_ (some m_))=match Y.find H_ mK with
 | some blk=>(di=k_∧blk.k=k_∧blk.ty=qJ∧rO=0∧n_+gK.length≤100000000)∧((blk.exact=true∧m_=blk.es.length∧n_≤m_)∨(blk.exact=false∧n_≤blk.es.length))
 | none=>False:=fun _ _ _ _ _ _ _ _ _=>rfl
theorem O4:∀H_ k_ di iY,jW H_ k_ [] (.an di iY (some [])) = .an di iY (some []):=fun _ _ _ _=>rfl
theorem O5:∀H_ k_ y_ gK di iY,jW H_ k_ (y_::gK) (.an di iY (some [])) = .aE k_ H_.length 0 (iY.length+(y_::gK).length) none:=fun _ _ _ _ _ _=>rfl
theorem Xh:∀H_ k_ gK di mK o_ n_,jW H_ k_ gK (.aE di mK o_ n_ none) = .aE k_ H_.length 0 (n_+gK.length) none:=fun _ _ _ _ _ _ _=>rfl
theorem Xi:∀H_ k_ gK di mK o_ n_ m_,jW H_ k_ gK (.aE di mK o_ n_ (some m_))=if n_+gK.length≤m_ then .aE k_ mK 0 (n_+gK.length) (some m_) else .aE k_ H_.length 0 (n_+gK.length) none:=fun _ _ _ _ _ _ _ _=>rfl
theorem O6:∀H_ k_ qJ di iY,ir H_ k_ qJ [] (.an di iY (some []))=H_:=fun _ _ _ _ _=>rfl
theorem O7:∀H_ k_ qJ y_ gK di iY,ir H_ k_ qJ (y_::gK) (.an di iY (some []))=some ⟨k_,iY++(y_::gK),false,qJ⟩::H_:=fun _ _ _ _ _ _ _=>rfl
theorem Xj:∀H_ k_ qJ gK di mK o_ n_,ir H_ k_ qJ gK (.aE di mK o_ n_ none)=match Y.find H_ mK with
 | some blk=>some ⟨k_,blk.es++gK,false,qJ⟩::Y.set H_ mK none
 | none=>H_:=fun _ _ _ _ _ _ _ _=>rfl
theorem Xk:∀H_ k_ qJ gK di mK o_ n_ m_,ir H_ k_ qJ gK (.aE di mK o_ n_ (some m_))=match Y.find H_ mK with
 | some blk=>if n_+gK.length≤m_ then Y.set H_ mK (some { blk with es:=blk.es.take n_++gK++blk.es.drop (n_+gK.length) }) else some ⟨k_,blk.es.take n_++gK,false,qJ⟩::H_
 | none=>H_:=fun _ _ _ _ _ _ _ _ _=>rfl
theorem Xl:∀H_ k_ i_ o_ n_ c_,GX.ok H_ .cap [.aE k_ i_ o_ n_ (some c_)]=True:=fun _ _ _ _ _ _=>rfl
theorem Xm:∀H_ k_ x_ y_,GX.ok H_ .cap [.an k_ x_ (some y_)]=True:=fun _ _ _ _=>rfl
theorem aaV:∀H_ k_ d_ s_,GX.ok H_ (.copy k_) [d_,s_]=Cb H_ k_ s_ d_:=fun _ _ _ _=>rfl
theorem ac2:∀H_ s_,GX.ok H_ .I3 [.Z (.string s_)]=(s_.size≤100000000):=fun _ _=>rfl
theorem Xn:∀H_ k_ i_ o_ n_ c_,GX.val H_ .cap [.aE k_ i_ o_ n_ (some c_)] = .Z (.int .i64 (c_:Nat)):=fun _ _ _ _ _ _=>rfl
theorem Xo:∀H_ k_ x_ y_,GX.val H_ .cap [.an k_ x_ (some y_)] = .Z (.int .i64 ((x_.length+y_.length:Nat):Int)):=fun _ _ _ _=>rfl
theorem aaW:∀H_ k_ d_ s_,GX.val H_ (.copy k_) [d_,s_] = .Z (.int .i64 ((min (jL s_) (jL d_):Nat):Int)):=fun _ _ _ _=>rfl
theorem ac3:∀H_ s_,GX.val H_ .I3 [.Z (.string s_)] = .an 1 (bD s_) none:=fun _ _=>rfl
theorem hcap:∀H_ l_,GX.heap H_ .cap l_=H_:=fun _ _=>rfl
theorem aaX:∀H_ k_ d_ s_,GX.heap H_ (.copy k_) [d_,s_]=I6 H_ s_ d_:=fun _ _ _ _=>rfl
theorem ac4:∀H_ l_,GX.heap H_ .I3 l_=H_:=fun _ _=>rfl
theorem Xp:∀H_ k_ s_ di i_ o_ n_ c_,Cb H_ k_ s_ (.aE di i_ o_ n_ c_)=match Y.find H_ i_ with
 | some blk=>di=k_∧blk.k=k_∧o_≤blk.es.length∧(blk.exact=false∨o_+min (jL s_) n_≤blk.es.length)∧xG H_ k_ (min (jL s_) n_) s_
 | none=>False:=fun _ _ _ _ _ _ _ _=>rfl
theorem Xq:∀H_ k_ s_ di r_,Cb H_ k_ s_ (.an di [] r_)=xG H_ k_ 0 s_:=fun _ _ _ _ _=>rfl
theorem aaY:∀H_ s_ di i_ o_ n_ c_,I6 H_ s_ (.aE di i_ o_ n_ c_)=match Y.find H_ i_ with
 | some blk=>Y.set H_ i_ (some { blk with es:=blk.es.take o_++ND H_ (min (jL s_) n_) s_++blk.es.drop (o_+min (jL s_) n_) })
 | none=>H_:=fun _ _ _ _ _ _ _=>rfl
theorem aaZ:∀H_ s_ di r_,I6 H_ s_ (.an di [] r_)=H_:=fun _ _ _ _=>rfl
theorem Xr:∀H_ k_ m_ di x_ r_,xG H_ k_ m_ (.an di x_ r_)=((di=k_∨m_=0)∧m_≤x_.length):=fun _ _ _ _ _ _=>rfl
theorem Xs:∀H_ k_ m_ di i_ o_ n_ c_,xG H_ k_ m_ (.aE di i_ o_ n_ c_)=match Y.find H_ i_ with
 | some blk=>di=k_∧blk.k=k_∧m_≤n_∧o_+m_≤blk.es.length
 | none=>False:=fun _ _ _ _ _ _ _ _=>rfl
theorem aa0:∀H_ m_ di x_ r_,ND H_ m_ (.an di x_ r_)=x_.take m_:=fun _ _ _ _ _=>rfl
theorem aa1:∀H_ m_ di i_ o_ n_ c_,ND H_ m_ (.aE di i_ o_ n_ c_)=match Y.find H_ i_ with
 | some blk=>(blk.es.drop o_).take m_
 | none=>[]:=fun _ _ _ _ _ _ _=>rfl
theorem Xt:∀k_ x_ r_,jL (.an k_ x_ r_)=x_.length:=fun _ _ _=>rfl
theorem Xu:∀k_ i_ o_ n_ c_,jL (.aE k_ i_ o_ n_ c_)=n_:=fun _ _ _ _ _=>rfl
theorem ac5:∀H_ p_ a_ b_ c_ d_,GX.ok H_ (.oW p_ [none,none]) [.agg [.Z (.string a_),.Z (.string b_)],.agg [.Z (.string c_),.Z (.string d_)]]=True:=fun _ _ _ _ _ _=>rfl
theorem aa2:∀H_ k_ a_ b_ c_ d_,GX.val H_ (.oW true k_) [.agg [.Z (.string a_),.Z (.string b_)],.agg [.Z (.string c_),.Z (.string d_)]] = .Z (.bool (decide (a_=c_∧b_=d_))):=fun _ _ a b c d=>by
 simp[GX.val,qV,beq_toListBytes,rN,Bool.decide_and]
theorem aa3:∀H_ k_ a_ b_ c_ d_,GX.val H_ (.oW false k_) [.agg [.Z (.string a_),.Z (.string b_)],.agg [.Z (.string c_),.Z (.string d_)]] = .Z (.bool (decide (¬(a_=c_∧b_=d_)))):=fun _ _ a b c d=>by
 simp[GX.val,qV,beq_toListBytes,rN]
theorem ac6:∀H_ p_ k_ l_,GX.heap H_ (.oW p_ k_) l_=H_:=fun _ _ _ _=>rfl
theorem aa4:∀H_ k_ t_ z_ di i_ o_ n_ c_ q_ m_,GX.ok H_ (.nZ k_ t_ z_) [.aE di i_ o_ n_ (some c_),.Z (.int q_ m_)]=match Y.find H_ i_ with
 | some blk=>(di=k_∧blk.k=k_∧o_=0∧n_≤blk.es.length)∧0<m_∧(c_:Int)<n_+m_∧(n_:Int)+m_≤100000000
 | none=>False:=fun _ _ _ _ _ _ _ _ _ _ _=>rfl
theorem aa5:∀H_ k_ t_ z_ di i_ o_ n_ c_ q_ m_,GX.val H_ (.nZ k_ t_ z_) [.aE di i_ o_ n_ c_,.Z (.int q_ m_)] = .aE k_ H_.length 0 (n_+m_.toNat) none:=fun _ _ _ _ _ _ _ _ _ _ _=>rfl
theorem aa6:∀H_ k_ t_ z_ di i_ o_ n_ c_ q_ m_,GX.heap H_ (.nZ k_ t_ z_) [.aE di i_ o_ n_ c_,.Z (.int q_ m_)]=match Y.find H_ i_ with
 | some blk=>some ⟨k_,blk.es.take n_++List.replicate m_.toNat z_,false,t_⟩::H_
 | none=>H_:=fun _ _ _ _ _ _ _ _ _ _ _=>rfl
theorem aa7:∀H_ s_ c_,GX.ok H_ .y8 [.Z (.string s_),.Z (.int .u8 c_)]=True:=fun _ _ _=>rfl
theorem aa8:∀H_ s_ k_ c_,GX.val H_ .y8 [.Z (.string s_),.Z (.int k_ c_)] = .Z (.int .i64 (firstIdx s_ c_.toNat.toUInt8)):=fun _ _ _ _=>rfl
theorem aa9:∀H_ l_,GX.heap H_ .y8 l_=H_:=fun _ _=>rfl
theorem ac7:∀H_ k_ x_ y_ r_ di i_ o_ n_ c_,GX.ok H_ .I4 [.an k_ (x_::y_) r_,.aE di i_ o_ n_ c_]=match Y.find H_ i_ with
 | some _=>0<k_
 | none=>False:=fun _ _ _ _ _ _ _ _ _ _=>rfl
theorem ac8:∀H_ l_,GX.val H_ .I4 l_ = .Z (.bool false):=fun _ _=>rfl
theorem ac9:∀H_ l_,GX.heap H_ .I4 l_=H_:=fun _ _=>rfl
theorem gmk:∀H_,GX.ok H_ .lZ []=True:=fun _=>rfl
theorem gmg:∀H_ q_ z_ o_ i_ j_ k_,GX.ok H_ (.ni q_ z_ o_) [.ptr 0 i_ j_ 0,.Z k_]=(gp q_ k_=true∧qW H_ i_ (ez q_)):=fun _ _ _ _ _ _ _=>rfl
theorem gmp:∀H_ q_ i_ j_ k_ v_,GX.ok H_ (.eI q_) [.ptr 0 i_ j_ 0,.Z k_,v_]=(gp q_ k_=true∧qW H_ i_ (ez q_)):=fun _ _ _ _ _ _=>rfl
theorem gml:∀H_ i_ j_,GX.ok H_ .xE [.ptr 0 i_ j_ 0]=qW H_ i_ (fun _=>True):=fun _ _ _=>rfl
theorem gmd:∀H_ q_ i_ j_ k_,GX.ok H_ (.uK q_) [.ptr 0 i_ j_ 0,.Z k_]=(gp q_ k_=true∧qW H_ i_ (ez q_)):=fun _ _ _ _ _=>rfl
theorem vmk:∀H_,GX.val H_ .lZ [] = .ptr 0 H_.length 0 0:=fun _=>rfl
theorem ada:∀H_ q_ z_ a_ i_ j_ f_ k_,GX.val H_ (.ni q_ z_ true) [.ptr a_ i_ j_ f_,.Z k_] = .aG [lM k_ z_ (kV H_ i_),.Z (.bool (decide (ek k_ (kV H_ i_)<(kV H_ i_).length)))]:=fun _ _ _ _ _ _ _ _=>rfl
theorem adb:∀H_ q_ z_ a_ i_ j_ f_ k_,GX.val H_ (.ni q_ z_ false) [.ptr a_ i_ j_ f_,.Z k_]=lM k_ z_ (kV H_ i_):=fun _ _ _ _ _ _ _ _=>rfl
theorem vmp:∀H_ q_ l_,GX.val H_ (.eI q_) l_ = .top:=fun _ _ _=>rfl
theorem vml:∀H_ a_ i_ j_ f_,GX.val H_ .xE [.ptr a_ i_ j_ f_] = .Z (.int .i64 ((kV H_ i_).length:Nat)):=fun _ _ _ _ _=>rfl
theorem vmd:∀H_ q_ l_,GX.val H_ (.uK q_) l_ = .aG []:=fun _ _ _=>rfl
theorem ade:∀H_ l_,GX.heap H_ .lZ l_=some ⟨0,[],true,0⟩::H_:=fun _ _=>rfl
theorem adf:∀H_ q_ z_ o_ l_,GX.heap H_ (.ni q_ z_ o_) l_=H_:=fun _ _ _ _ _=>rfl
theorem adg:∀H_ q_ a_ i_ j_ f_ k_ v_,GX.heap H_ (.eI q_) [.ptr a_ i_ j_ f_,.Z k_,v_]=qX H_ i_ (n9 k_ v_ (kV H_ i_)):=fun _ _ _ _ _ _ _ _=>rfl
theorem adh:∀H_ l_,GX.heap H_ .xE l_=H_:=fun _ _=>rfl
theorem adi:∀H_ q_ a_ i_ j_ f_ k_,GX.heap H_ (.uK q_) [.ptr a_ i_ j_ f_,.Z k_]=qX H_ i_ (Fh k_ (kV H_ i_)):=fun _ _ _ _ _ _ _=>rfl
theorem Xv:∀H_ i_ p_,qW H_ i_ p_=match Y.find H_ i_ with
 | some blk=>(blk.k=0∧blk.ty=0)∧p_ blk.es
 | none=>False:=fun _ _ _=>rfl
theorem Xw:∀H_ i_,kV H_ i_=match Y.find H_ i_ with
 | some blk=>blk.es
 | none=>[]:=fun _ _=>rfl
theorem Tb:∀H_ i_ e_,qX H_ i_ e_=match Y.find H_ i_ with
 | some blk=>Y.set H_ i_ (some { blk with es:=e_ })
 | none=>H_:=fun _ _ _=>rfl
theorem aba:∀s_,gp none (.string s_)=true:=fun _=>rfl
theorem abb:∀k_ n_,gp (some k_) (.int k_ n_)=true:=fun k_ _=>by cases k_<;>rfl
theorem GD:∀q_,ez q_ []=True:=fun q_=>by simp[ez]
theorem Ew:∀q_ k_ v_ r_,ez q_ (.aG [.Z k_,v_]::r_)=(gp q_ k_=true∧ez q_ r_):=fun q_ k_ v_ r_=>by simp[ez,y9]
theorem Tc:∀a_ b_,l3 (.string a_) (.string b_)=decide (a_=b_):=fun _ _=>rfl
theorem Td:∀k_ q_ a_ b_,l3 (.int k_ a_) (.int q_ b_)=decide (a_=b_):=fun _ _ _ _=>rfl
theorem Xx:∀H_ k_ i_ o_ n_ c_ s_,GX.ok H_ .oy [.aE k_ i_ o_ n_ c_,.Z (.string s_)]=match Y.find H_ i_ with
 | some blk=>k_=1∧blk.k=1∧o_+n_≤blk.es.length∧s_.size≤n_
 | none=>False:=fun _ _ _ _ _ _ _=>rfl
theorem Xy:∀H_ d_ s_,GX.val H_ .oy [d_,.Z (.string s_)] = .Z (.int .i64 (s_.size:Nat)):=fun _ _ _=>rfl
theorem Xz:∀H_ k_ i_ o_ n_ c_ s_,GX.heap H_ .oy [.aE k_ i_ o_ n_ c_,.Z (.string s_)]=match Y.find H_ i_ with
 | some blk=>Y.set H_ i_ (some { blk with es:=blk.es.take o_++bD s_++blk.es.drop (o_+s_.size) })
 | none=>H_:=fun _ _ _ _ _ _ _=>rfl
theorem abc:∀H_ t_ d_ s_,GX.ok H_ (.oX t_) [d_,.Z (.string s_)]=Cc H_ t_ s_ d_:=fun _ _ _ _=>rfl
theorem abd:∀H_ t_ d_ s_,GX.val H_ (.oX t_) [d_,.Z (.string s_)]=I7 H_ s_ d_:=fun _ _ _ _=>rfl
theorem abe:∀H_ t_ d_ s_,GX.heap H_ (.oX t_) [d_,.Z (.string s_)]=Fi H_ t_ s_ d_:=fun _ _ _ _=>rfl
theorem XA:∀H_ t_ s_,Cc H_ t_ s_ (.Z (.slice none 0 0))=(s_.size≤100000000):=fun _ _ _=>rfl
theorem XB:∀H_ t_ s_ k_ i_ o_ n_ c_,Cc H_ t_ s_ (.aE k_ i_ o_ n_ c_)=match Y.find H_ i_ with
  | some blk=>(k_=1∧blk.k=1∧blk.ty=t_∧o_=0∧n_+s_.size≤100000000)∧(match c_ with
   | none=>blk.exact=false∧n_=blk.es.length
   | some m=>(blk.exact=true∧m=blk.es.length∧n_≤m)∨(blk.exact=false∧n_≤blk.es.length))
  | none=>False:=fun _ _ _ _ _ _ _ _=>rfl
theorem abf:∀H_ s_ v_,I7 H_ s_ (.Z v_)=if s_.size=0 then .Z v_ else .aE 1 H_.length 0 s_.size none:=fun _ _ _=>rfl
theorem XC:∀H_ s_ k_ i_ o_ n_,I7 H_ s_ (.aE k_ i_ o_ n_ none) = .aE 1 H_.length 0 (n_+s_.size) none:=fun _ _ _ _ _ _=>rfl
theorem XD:∀H_ s_ k_ i_ o_ n_ m_,I7 H_ s_ (.aE k_ i_ o_ n_ (some m_))=if n_+s_.size≤m_ then .aE 1 i_ 0 (n_+s_.size) (some m_) else .aE 1 H_.length 0 (n_+s_.size) none:=fun _ _ _ _ _ _ _=>rfl
theorem abg:∀H_ t_ s_ v_,Fi H_ t_ s_ (.Z v_)=if s_.size=0 then H_ else some ⟨1,bD s_,false,t_⟩::H_:=fun _ _ _ _=>rfl
theorem XE:∀H_ t_ s_ k_ i_ o_ n_,Fi H_ t_ s_ (.aE k_ i_ o_ n_ none)=match Y.find H_ i_ with
 | some blk=>some ⟨1,blk.es++bD s_,false,t_⟩::Y.set H_ i_ none
 | none=>H_:=fun _ _ _ _ _ _ _=>rfl
theorem abh:∀H_ t_ p_ n_,GX.ok H_ (.s9 t_) [p_,.Z (.int .i64 n_)]=Cd H_ t_ n_ p_:=fun _ _ _ _=>rfl
theorem abi:∀H_ t_ p_ k_ n_,GX.val H_ (.s9 t_) [p_,.Z (.int k_ n_)] = .Z (.string (I8 H_ n_ p_)):=fun _ _ _ _ _=>rfl
theorem abj:∀H_ t_ p_ n_,GX.heap H_ (.s9 t_) [p_,n_]=QW H_ p_:=fun _ _ _ _=>rfl
theorem XF:∀H_ t_ n_,Cd H_ t_ n_ (.Z (.pointer none))=(n_=0):=fun _ _ _=>rfl
theorem XG:∀H_ t_ n_ k_ i_ j_ f_,Cd H_ t_ n_ (.ptr k_ i_ j_ f_)=match Y.find H_ i_ with
 | some blk=>(k_=1∧blk.k=1∧blk.ty=t_∧j_=0∧f_=0∧0<n_∧n_.toNat≤blk.es.length)∧∃s,blk.es.take n_.toNat=bD s
 | none=>False:=fun _ _ _ _ _ _ _=>rfl
theorem abk:∀H_ n_ v_,I8 H_ n_ (.Z v_)=⟨#[]⟩:=fun _ _ _=>rfl
theorem abl:∀H_ n_ k_ i_ j_ f_,I8 H_ n_ (.ptr k_ i_ j_ f_)=match Y.find H_ i_ with
 | some blk=>mB (blk.es.take n_.toNat)
 | none=>⟨#[]⟩:=fun _ _ _ _ _ _=>rfl
theorem abm:∀H_ v_,QW H_ (.Z v_)=H_:=fun _ _=>rfl
theorem abn:∀H_ k_ i_ j_ f_,QW H_ (.ptr k_ i_ j_ f_)=Y.set H_ i_ none:=fun _ _ _ _ _=>rfl
theorem adj:∀H_ k_ i_ o_ n_ c_,GX.ok H_ .nj [.aE k_ i_ o_ n_ c_]=(0<k_∧0<n_):=fun _ _ _ _ _ _=>rfl
theorem adk:∀H_,GX.ok H_ .nj [.Z (.slice none 0 0)]=True:=fun _=>rfl
theorem adl:∀H_ k_ i_ o_ n_ c_,GX.val H_ .nj [.aE k_ i_ o_ n_ c_] = .ptr k_ i_ o_ 0:=fun _ _ _ _ _ _=>rfl
theorem adm:∀H_ v_,GX.val H_ .nj [.Z v_] = .Z (.pointer none):=fun _ _=>rfl
theorem sW:∀H_ l_,GX.heap H_ .nj l_=H_:=fun _ _=>rfl
theorem abo:∀H_ p_ x_,GX.ok H_ (.n8 p_) [x_]=zb x_:=fun _ _ _=>rfl
theorem XH:∀H_ x_,GX.val H_ (.n8 true) [x_] = .Z (.bool (j6 x_)):=fun _ _=>rfl
theorem XI:∀H_ x_,GX.val H_ (.n8 false) [x_] = .Z (.bool (!j6 x_)):=fun _ _=>rfl
theorem abp:∀H_ p_ l_,GX.heap H_ (.n8 p_) l_=H_:=fun _ _ _=>rfl
theorem Te:∀k_ i_ j_ f_,zb (.ptr k_ i_ j_ f_)=(0<k_):=fun _ _ _ _=>rfl
theorem Tf:zb (.Z (.pointer none))=True:=rfl
theorem O8:∀k_ i_ j_ f_,j6 (.ptr k_ i_ j_ f_)=false:=fun _ _ _ _=>rfl
theorem O9:j6 (.Z (.pointer none))=true:=rfl
theorem adn:∀H_ p_ k_ i_ j_ f_ di i2_ j2_ f2_,GX.ok H_ (.Fg p_) [.ptr k_ i_ j_ f_,.ptr di i2_ j2_ f2_]=((k_=di∧i_=i2_∧j_=j2_∧f_=f2_)∧0<k_):=fun _ _ _ _ _ _ _ _ _ _=>rfl
theorem ado:∀H_ p_ l_,GX.val H_ (.Fg p_) l_ = .Z (.bool p_):=fun _ _ _=>rfl
theorem adp:∀H_ p_ l_,GX.heap H_ (.Fg p_) l_=H_:=fun _ _ _=>rfl
theorem adq:∀H_ k_ i_ j_ f_,GX.ok H_ .I5 [.ptr k_ i_ j_ f_]=match Y.find H_ i_ with
 | some blk=>blk.k=k_∧0<k_∧j_<blk.es.length∧f_<k_
 | none=>False:=fun _ _ _ _ _=>rfl
theorem adr:∀H_ x_,GX.val H_ .I5 [x_]=x_:=fun _ _=>rfl
theorem ads:∀H_ l_,GX.heap H_ .I5 l_=H_:=fun _ _=>rfl
theorem XJ:∀H_ t_ k_ i_ j_ f_,GX.ok H_ (.tC t_) [.ptr k_ i_ j_ f_]=match Y.find H_ i_ with
 | some blk=>(k_=2∧blk.k=2∧j_=0∧f_=0∧blk.exact=true∧blk.es.length=1)∧t_.contains blk.ty=true
 | none=>False:=fun _ _ _ _ _ _=>rfl
theorem XK:∀H_ t_ x_,GX.val H_ (.tC t_) [x_]=x_:=fun _ _ _=>rfl
theorem XL:∀H_ t_ l_,GX.heap H_ (.tC t_) l_=H_:=fun _ _ _=>rfl
theorem XM:∀H_ x_,GX.ok H_ .qU [x_]=True:=fun _ _=>rfl
theorem XN:∀H_ x_,GX.val H_ .qU [x_]=x_:=fun _ _=>rfl
theorem XO:∀H_ l_,GX.heap H_ .qU l_=H_:=fun _ _=>rfl
theorem abq:∀H_ s_ c_,GX.ok H_ .xF [.Z (.string s_),.Z (.int .u8 c_)]=True:=fun _ _ _=>rfl
theorem abr:∀H_ s_ k_ c_,GX.val H_ .xF [.Z (.string s_),.Z (.int k_ c_)] = .Z (.int .i64 (Lib.countByte s_.data.toList c_.toNat.toUInt8:Nat)):=fun _ _ _ _=>rfl
theorem abt:∀H_ l_,GX.heap H_ .xF l_=H_:=fun _ _=>rfl
theorem abu:∀H_ k_ t_ z_ di q_ m_,GX.ok H_ (.nZ k_ t_ z_) [.an di [] (some []),.Z (.int q_ m_)]=(0<m_∧m_≤100000000):=fun _ _ _ _ _ _ _=>rfl
theorem abv:∀H_ k_ t_ z_ di x_ r_ q_ m_,GX.val H_ (.nZ k_ t_ z_) [.an di x_ r_,.Z (.int q_ m_)] = .aE k_ H_.length 0 m_.toNat none:=fun _ _ _ _ _ _ _ _ _=>rfl
theorem abw:∀H_ k_ t_ z_ di x_ r_ m_,GX.heap H_ (.nZ k_ t_ z_) [.an di x_ r_,m_]=some ⟨k_,[],false,t_⟩::H_:=fun _ _ _ _ _ _ _ _=>rfl
def vu:=And.intro Ks<|And.intro OY<|And.intro @abu<|And.intro @abv<|And.intro @abw<|And.intro @Xx<|And.intro @Xy<|And.intro @Xz<|And.intro @abc<|And.intro @abd<|And.intro @abe<|And.intro @XA<|And.intro @XB<|And.intro @abf<|And.intro @XC<|And.intro @XD<|And.intro @abg<|And.intro @XE<|And.intro @abh<|And.intro @abi<|And.intro @abj<|And.intro @XF<|And.intro @XG<|And.intro @abk<|And.intro @abl<|And.intro @abm<|And.intro @abn<|And.intro @adj<|And.intro @adk<|And.intro @adl<|And.intro @adm<|And.intro @sW<|And.intro @abo<|And.intro @XH<|And.intro @XI<|And.intro @abp<|And.intro @Te<|And.intro @Tf<|And.intro @O8<|And.intro @O9<|And.intro @adn<|And.intro @ado<|And.intro @adp<|And.intro @adq<|And.intro @adr<|And.intro @ads<|And.intro @XJ<|And.intro @XK<|And.intro @XL<|And.intro @XM<|And.intro @XN<|And.intro @XO<|And.intro @abq<|And.intro @abr<|@abt
theorem hmc:∀H_ t_ k_ i_ j_ f_,GX.heap H_ .sB [.dQ t_ (.ptr k_ i_ j_ f_)]=some ⟨0,kV H_ i_,true,0⟩::H_:=fun _ _ _ _ _ _=>rfl
theorem hnm:∀H_ p_ l_,GX.heap H_ (.xD p_) l_=H_:=fun _ _ _=>rfl
def vg:=And.intro @gmk<|And.intro @gmg<|And.intro @gmp<|And.intro @gml<|And.intro @gmd<|And.intro @vmk<|And.intro @ada<|And.intro @adb<|And.intro @vmp<|And.intro @vml<|And.intro @vmd<|And.intro @ade<|And.intro @adf<|And.intro @adg<|And.intro @adh<|And.intro @adi<|And.intro @Xv<|And.intro @Xw<|And.intro @Tb<|And.intro @aba<|And.intro @abb<|And.intro @GD<|And.intro @Ew<|And.intro @Tc<|And.intro @Td<|And.intro @aa7<|And.intro @aa8<|And.intro @aa9<|And.intro @ac7<|And.intro @ac8<|And.intro @ac9<|And.intro @ac5<|And.intro @aa2<|And.intro @aa3<|And.intro @ac6<|And.intro @aa4<|And.intro @aa5<|And.intro @aa6<|And.intro @Si<|And.intro @Oo<|And.intro @Xl<|And.intro @Xm<|And.intro @aaV<|And.intro @ac2<|And.intro @Xn<|And.intro @Xo<|And.intro @aaW<|And.intro @ac3<|And.intro @hcap<|And.intro @aaX<|And.intro @ac4<|And.intro @Xp<|And.intro @Xq<|And.intro @aaY<|And.intro @aaZ<|And.intro @Xr<|And.intro @Xs<|And.intro @aa0<|And.intro @aa1<|And.intro @Xt<|@Xu
theorem onf:∀Ab p_ x_,PO.ok Ab (.qN p_ x_)=Eh (Ab x_):=fun _ _ _=>rfl
theorem vnf:∀Ab p_ x_,PO.val Ab (.qN p_ x_)=JA p_ (Ab x_):=fun _ _ _=>rfl
theorem otp:∀Ab t_ x_,PO.ok Ab (.s8 t_ x_)=Ei t_ (Ab x_):=fun _ _ _=>rfl
theorem vtp:∀Ab t_ x_,PO.val Ab (.s8 t_ x_)=JB (Ab x_):=fun _ _ _=>rfl
def vf:=And.intro @onf<|And.intro @vnf<|And.intro @otp<|And.intro @vtp<|And.intro @Eh.eq_def<|And.intro @JA.eq_def<|And.intro @Ei.eq_def<|@JB.eq_def
def vk:=And.intro @ite_true.{1}<|And.intro @ite_false.{1}<|And.intro @eq_self.{1}<|And.intro @forall_const.{1}<|@implies_true.{1}
def vl:=And.intro @Y.ah<|And.intro @av<|And.intro @List.length_cons.{0}<|@List.length_nil.{0}
def va:=And.intro @Od<|And.intro @WW<|And.intro @JG<|And.intro @F6<|And.intro @Oe<|And.intro @Og<|And.intro @JH<|And.intro @F7<|And.intro @JI<|And.intro @Oi<|And.intro @Oh<|And.intro @JJ<|And.intro @F8<|And.intro @F9<|And.intro @Oj<|And.intro @Sj<|And.intro @Sk<|And.intro @Sl<|And.intro @Sm<|And.intro @Ol<|And.intro @JL<|And.intro @Sn<|And.intro @Ga<|And.intro @Ek<|And.intro @JM<|And.intro @JN<|And.intro @Gb<|And.intro @El<|And.intro @Gc<|And.intro @JO<|And.intro @Gd<|And.intro @Em<|And.intro @Ge<|And.intro @JP<|And.intro @Sp<|And.intro @Sq<|And.intro @Sr<|And.intro @Ss<|And.intro @Oq<|And.intro @Om<|And.intro @Su<|And.intro @WX<|And.intro @Sv<|And.intro @Mi<|And.intro @Gf<|And.intro @Cy<|And.intro @Sw<|And.intro @WY<|And.intro @Gg<|And.intro @Gh<|And.intro @Sx<|And.intro @Sy<|And.intro @Sz<|And.intro @SA<|And.intro @Ot<|And.intro @Cz<|And.intro @Ou<|And.intro @Ov<|And.intro @SB<|And.intro @SC<|And.intro @SD<|And.intro @SK<|And.intro @W3<|And.intro @W4<|And.intro @W5<|And.intro @W6<|And.intro @SL<|And.intro @SM<|And.intro @SN<|And.intro @Oy<|And.intro @W7<|And.intro @W8<|And.intro @W9<|And.intro @gf.eq_1<|And.intro @gf.eq_2<|And.intro @gf.eq_3<|And.intro @jf.eq_1<|And.intro @jf.eq_2<|And.intro @jf.eq_3<|And.intro @oneOf.eq_def<|And.intro @PO.ok.eq_1<|And.intro @PO.ok.eq_2<|And.intro @PO.ok.eq_3<|And.intro @PO.ok.eq_4<|And.intro @PO.ok.eq_5<|And.intro @PO.ok.eq_6<|And.intro @PO.ok.eq_7<|And.intro @PO.ok.eq_8<|And.intro @PO.ok.eq_9<|And.intro @PO.ok.eq_10<|And.intro @PO.ok.eq_11<|And.intro @PO.ok.eq_12<|And.intro @PO.ok.eq_13<|And.intro @PO.ok.eq_14<|And.intro @PO.ok.eq_15<|And.intro @PO.ok.eq_16<|And.intro @PO.ok.eq_17<|And.intro @PO.ok.eq_18<|And.intro @PO.ok.eq_19<|And.intro @PO.ok.eq_20<|And.intro @PO.ok.eq_21<|And.intro @PO.ok.eq_22<|And.intro @PO.ok.eq_23<|And.intro @PO.ok.eq_24<|And.intro @PO.ok.eq_25<|And.intro @PO.ok.eq_26<|And.intro @PO.ok.eq_27<|And.intro @PO.ok.eq_28<|And.intro @PO.val.eq_1<|And.intro @PO.val.eq_2<|And.intro @PO.val.eq_3<|And.intro @PO.val.eq_4<|And.intro @PO.val.eq_5<|And.intro @PO.val.eq_6<|And.intro @PO.val.eq_7<|And.intro @PO.val.eq_8<|And.intro @PO.val.eq_9<|And.intro @PO.val.eq_10<|And.intro @PO.val.eq_11<|And.intro @PO.val.eq_12<|And.intro @PO.val.eq_13<|And.intro @PO.val.eq_14<|And.intro @PO.val.eq_15<|And.intro @PO.val.eq_16<|And.intro @PO.val.eq_17<|And.intro @PO.val.eq_18<|And.intro @PO.val.eq_19<|And.intro @PO.val.eq_20<|And.intro @PO.val.eq_21<|And.intro @PO.val.eq_22<|And.intro @PO.val.eq_23<|And.intro @PO.val.eq_24<|And.intro @PO.val.eq_25<|And.intro @PO.val.eq_26<|And.intro @PO.val.eq_27<|And.intro @PO.val.eq_28<|And.intro @Jv.eq_def<|And.intro @R6.eq_def<|And.intro @R7.eq_def<|And.intro @shF.eq_def<|And.intro @R8.eq_def<|And.intro @unF.eq_def<|And.intro @Jw.eq_def<|And.intro @Y7.eq_def<|And.intro @R9.eq_def<|And.intro @Y8.eq_def<|And.intro @Ma.eq_def<|And.intro @Sa.eq_def<|And.intro @Mb.eq_def<|And.intro @Sb.eq_def<|And.intro @Md.eq_def<|And.intro @FU.eq_def<|And.intro @Mc.eq_def<|And.intro @Gu<|And.intro @Ev<|And.intro @Sc.eq_def<|And.intro @zQ.eq_def<|And.intro @zR.eq_def<|And.intro @Mf.eq_def<|And.intro @FV.eq_def<|And.intro @rA.eq_def<|And.intro @Mg.eq_def<|And.intro @wI.eq_def<|And.intro @FW.eq_def<|And.intro @yR.eq_def<|And.intro @Sd.eq_def<|And.intro @Eg.eq_def<|And.intro @Se.eq_def<|And.intro @l8.eq_1<|And.intro @l8.eq_2<|And.intro @fp.eq_1<|And.intro @fp.eq_2<|And.intro @zS.eq_def<|And.intro @FX.eq_def<|And.intro @Jx.eq_def<|And.intro @zT.eq_def<|And.intro @Sf.eq_def<|And.intro @mmF.eq_def<|And.intro @Jy.eq_def<|And.intro @Y9.eq_def<|And.intro @Mh.eq_def<|And.intro @Jz.eq_def<|And.intro @oc.eq_1<|And.intro @oc.eq_2<|And.intro @tP.eq_1<|And.intro @tP.eq_2<|And.intro @s7.eq_def<|And.intro @IX.eq_def<|And.intro @E5.eq_def<|And.intro @tc.eq_def<|And.intro @BK.eq_def<|And.intro @xO.eq_def<|And.intro @vc.eq_def<|And.intro @lc.eq_1<|And.intro @lc.eq_2<|And.intro @pb.eq_1<|And.intro @pb.eq_2<|And.intro @pX.eq_def<|And.intro @aU.eq_def<|And.intro @Sh.eq_def<|And.intro @X.ev.eq_1<|And.intro @X.ev.eq_2<|And.intro @bR.eq_1<|And.intro @bR.eq_2<|And.intro @AV.sub.eq_def<|And.intro @AV.gI.eq_def<|And.intro @List.getD_cons_succ.{0}<|And.intro @List.getD_cons_zero.{0}<|And.intro @List.set_cons_succ.{0}<|And.intro @List.set_cons_zero.{0}<|And.intro @List.length_cons.{0}<|And.intro @List.length_nil.{0}<|And.intro @List.replicate.eq_1.{0}<|And.intro @List.replicate.eq_2.{0}<|And.intro @List.cons_append.{0}<|And.intro @List.nil_append.{0}<|And.intro @List.append_nil.{0}<|And.intro @List.append_assoc.{0}<|And.intro @List.map_cons.{0,0}<|And.intro @List.map_nil.{0,0}<|And.intro @List.drop_succ_cons.{0}<|And.intro @List.drop_zero.{0}<|And.intro @List.take_succ_cons.{0}<|And.intro @List.take_zero.{0}<|And.intro @List.drop_nil.{0}<|And.intro @List.take_nil.{0}<|And.intro @List.getD_nil.{0}<|And.intro @Nat.zero_add<|And.intro @Nat.add_zero<|And.intro @Nat.add_left_cancel_iff<|And.intro @Nat.add_right_cancel_iff<|And.intro @Nat.left_eq_add<|And.intro @Nat.add_eq_left<|And.intro @Nat.add_eq_zero_iff<|And.intro @Nat.succ_ne_self<|And.intro @Option.isSome_some.{0}<|And.intro @Option.isSome_none.{0}<|And.intro @Option.getD_some.{0}<|And.intro @Option.getD_none.{0}<|And.intro @Option.map_some.{0,0}<|And.intro @Option.map_none.{0,0}<|And.intro @Bool.not_true<|And.intro @Bool.not_false<|And.intro @Bool.or_true<|And.intro @Bool.true_or<|And.intro @Bool.or_false<|And.intro @Bool.false_or<|And.intro @Bool.not_eq_true<|And.intro @true_and<|And.intro @and_true<|And.intro @false_and<|And.intro @and_false<|And.intro @true_or<|And.intro @or_true<|And.intro @or_false<|And.intro @false_or<|And.intro @and_self<|And.intro @Bool.false_eq_true<|And.intro @not_true<|And.intro @not_false_iff<|And.intro @decide_true<|And.intro @decide_false<|And.intro @beq_self_eq_true.{0}<|And.intro @nc2<|And.intro @nc3<|And.intro @nc4<|And.intro @nc5<|And.intro @nc6<|And.intro @nc7<|And.intro @nc8<|And.intro @nc9<|And.intro @acZ<|And.intro @ac0<|And.intro @ac1<|And.intro @Int.natCast_zero<|And.intro @Int.natCast_one<|And.intro @SV<|And.intro @OA<|And.intro @OB<|And.intro @Xc<|And.intro @SW<|And.intro @OC<|And.intro @k7.eq_def<|And.intro @jV.eq_def<|And.intro @false_implies<|And.intro @Bool.not_eq_eq_eq_not<|And.intro @List.contains_cons.{0}<|And.intro @List.contains_nil.{0}<|And.intro @Bool.and_self<|And.intro @Bool.true_and<|And.intro @Bool.and_true<|And.intro @Bool.false_and<|And.intro @Bool.and_false<|And.intro @true_implies<|And.intro @Nat.add_assoc<|And.intro @rN<|And.intro @Int.toNat_natCast<|And.intro @dj<|And.intro @OD<|And.intro @SX<|And.intro @SY<|And.intro @bne.eq_def.{0}<|@wrap_i64
def vs:=And.intro ux<|And.intro @OV<|And.intro @OX<|And.intro @Kn<|And.intro @Ko<|And.intro @OZ<|And.intro @O1<|And.intro @S7<|And.intro @S8<|And.intro @O3<|And.intro @S9<|And.intro @Ta<|And.intro @O4<|And.intro @O5<|And.intro @Xh<|And.intro @Xi<|And.intro @O6<|And.intro @O7<|And.intro @Xj<|And.intro @Xk<|And.intro @OE<|And.intro @OG<|And.intro @JW<|And.intro @OH<|And.intro @Xd<|And.intro @JX<|And.intro @JY<|And.intro @Gv<|And.intro @JZ<|And.intro @S0<|And.intro @J0<|And.intro @J1<|And.intro @Gw<|And.intro @J2<|And.intro @S1<|And.intro @J3<|And.intro @J4<|And.intro @Gx<|And.intro @J5<|And.intro @S2<|And.intro @OI<|And.intro @OJ<|And.intro @J6<|And.intro @OL<|And.intro @Xe<|And.intro @J7<|And.intro @J8<|And.intro @Gy<|And.intro @J9<|And.intro @S3<|And.intro @Ka<|And.intro @Kb<|And.intro @GA<|And.intro @Kc<|And.intro @S4<|And.intro @OM<|And.intro @OO<|And.intro @Ke<|And.intro @OP<|And.intro @Xf<|And.intro @Kf<|And.intro @Kg<|And.intro @GB<|And.intro @Ki<|And.intro @S5<|And.intro @OQ<|And.intro @OS<|And.intro @Kj<|And.intro @OT<|And.intro @Xg<|And.intro @Kk<|And.intro @Kl<|And.intro @GC<|And.intro @Km<|@S6
def vh:=And.intro @Y.find.eq_1<|And.intro @Y.find.eq_2<|And.intro @Y.set.eq_1<|@Y.set.eq_2
def vw:=And.intro @aL<|And.intro @aj<|And.intro @Et<|And.intro @yq<|And.intro @sF<|And.intro @vm<|And.intro @Y.ah<|And.intro @iw<|And.intro @Gs<|And.intro @av<|And.intro @pf<|And.intro @Eu<|And.intro @Gt<|And.intro @rL<|And.intro @OU<|And.intro @Aa<|@xR
theorem wS{P Q:Prop}(q:Q)(h:P=Q:=by simp -implicitDefEqProofs (maxSteps:=99999999) (disch:=first | omega | (simp only[vl];first | done | omega)) only[va,vg,vs,vw,vk,simprocAttr]<;>rfl):P:=h.symm▸q
theorem Pa{a P Q:Prop}(x1:a)(q:Q)(h:a→P=Q:=by intro x1;simp -implicitDefEqProofs (maxSteps:=99999999) (disch:=first | omega | (simp only[vl];first | done | omega)) only[x1,va,vg,vs,vw,vk,simprocAttr]<;>rfl):P:=(h x1).symm▸q
theorem zA4{a b c d P Q:Prop}(x1:a)(x2:b)(x3:c)(x4:d)(q:Q)(h:a→b→c→d→P=Q:=by intro x1 x2 x3 x4;simp -implicitDefEqProofs (maxSteps:=99999999) (disch:=first | omega | (simp only[vl];first | done | omega)) only[x1,x2,x3,x4,va,vg,vs,vw,vk,simprocAttr]<;>rfl):P:=(h x1 x2 x3 x4).symm▸q
theorem aN{P Q:Prop}(q:Q)(h:P=Q:=by simp -implicitDefEqProofs (maxSteps:=99999999) (disch:=first | omega | (simp only[vl];first | done | omega)) only[vu,va,vg,vs,vw,vk,simprocAttr]<;>rfl):P:=h.symm▸q
theorem ee{a P Q:Prop}(x1:a)(q:Q)(h:a→P=Q:=by intro x1;simp -implicitDefEqProofs (maxSteps:=99999999) (disch:=first | omega | (simp only[vl];first | done | omega)) only[x1,vu,va,vg,vs,vw,vk,simprocAttr]<;>rfl):P:=(h x1).symm▸q
theorem eL{a b P Q:Prop}(x1:a)(x2:b)(q:Q)(h:a→b→P=Q:=by intro x1 x2;simp -implicitDefEqProofs (maxSteps:=99999999) (disch:=first | omega | (simp only[vl];first | done | omega)) only[x1,x2,vu,va,vg,vs,vw,vk,simprocAttr]<;>rfl):P:=(h x1 x2).symm▸q
theorem vo{a b c P Q:Prop}(x1:a)(x2:b)(x3:c)(q:Q)(h:a→b→c→P=Q:=by intro x1 x2 x3;simp -implicitDefEqProofs (maxSteps:=99999999) (disch:=first | omega | (simp only[vl];first | done | omega)) only[x1,x2,x3,vu,va,vg,vs,vw,vk,simprocAttr]<;>rfl):P:=(h x1 x2 x3).symm▸q
theorem Tg{a b c d P Q:Prop}(x1:a)(x2:b)(x3:c)(x4:d)(q:Q)(h:a→b→c→d→P=Q:=by intro x1 x2 x3 x4;simp -implicitDefEqProofs (maxSteps:=99999999) (disch:=first | omega | (simp only[vl];first | done | omega)) only[x1,x2,x3,x4,vu,va,vg,vs,vw,vk,simprocAttr]<;>rfl):P:=(h x1 x2 x3 x4).symm▸q
theorem GF{a b c d i P Q:Prop}(x1:a)(x2:b)(x3:c)(x4:d)(x5:i)(q:Q)(h:a→b→c→d→i→P=Q:=by intro x1 x2 x3 x4 x5;simp -implicitDefEqProofs (maxSteps:=99999999) (disch:=first | omega | (simp only[vl];first | done | omega)) only[x1,x2,x3,x4,x5,vu,va,vg,vs,vw,vk,simprocAttr]<;>rfl):P:=(h x1 x2 x3 x4 x5).symm▸q
theorem zB6{a b c d i j P Q:Prop}(x1:a)(x2:b)(x3:c)(x4:d)(x5:i)(x6:j)(q:Q)(h:a→b→c→d→i→j→P=Q:=by intro x1 x2 x3 x4 x5 x6;simp -implicitDefEqProofs (maxSteps:=99999999) (disch:=first | omega | (simp only[vl];first | done | omega)) only[x1,x2,x3,x4,x5,x6,vu,va,vg,vs,vw,vk,simprocAttr]<;>rfl):P:=(h x1 x2 x3 x4 x5 x6).symm▸q
theorem nW{a b c d i j k P Q:Prop}(x1:a)(x2:b)(x3:c)(x4:d)(x5:i)(x6:j)(x7:k)(q:Q)(h:a→b→c→d→i→j→k→P=Q:=by intro x1 x2 x3 x4 x5 x6 x7;simp -implicitDefEqProofs (maxSteps:=99999999) (disch:=first | omega | (simp only[vl];first | done | omega)) only[x1,x2,x3,x4,x5,x6,x7,vu,va,vg,vs,vw,vk,simprocAttr]<;>rfl):P:=(h x1 x2 x3 x4 x5 x6 x7).symm▸q
theorem zB8{a b c d i j k l P Q:Prop}(x1:a)(x2:b)(x3:c)(x4:d)(x5:i)(x6:j)(x7:k)(x8:l)(q:Q)(h:a→b→c→d→i→j→k→l→P=Q:=by intro x1 x2 x3 x4 x5 x6 x7 x8;simp -implicitDefEqProofs (maxSteps:=99999999) (disch:=first | omega | (simp only[vl];first | done | omega)) only[x1,x2,x3,x4,x5,x6,x7,x8,vu,va,vg,vs,vw,vk,simprocAttr]<;>rfl):P:=(h x1 x2 x3 x4 x5 x6 x7 x8).symm▸q
theorem aZ{P Q:Prop}(q:Q)(h:P=Q:=by simp -implicitDefEqProofs (maxSteps:=99999999) (disch:=first | omega | (simp only[vl];first | done | omega)) only[vu,vg,va,vs,vw,vk,simprocAttr]<;>rfl):P:=h.symm▸q
theorem iz{a P Q:Prop}(x1:a)(q:Q)(h:a→P=Q:=by intro x1;simp -implicitDefEqProofs (maxSteps:=99999999) (disch:=first | omega | (simp only[vl];first | done | omega)) only[x1,vu,vg,va,vs,vw,vk,simprocAttr]<;>rfl):P:=(h x1).symm▸q
theorem yt{a b P Q:Prop}(x1:a)(x2:b)(q:Q)(h:a→b→P=Q:=by intro x1 x2;simp -implicitDefEqProofs (maxSteps:=99999999) (disch:=first | omega | (simp only[vl];first | done | omega)) only[x1,x2,vu,vg,va,vs,vw,vk,simprocAttr]<;>rfl):P:=(h x1 x2).symm▸q
theorem wT{a b c P Q:Prop}(x1:a)(x2:b)(x3:c)(q:Q)(h:a→b→c→P=Q:=by intro x1 x2 x3;simp -implicitDefEqProofs (maxSteps:=99999999) (disch:=first | omega | (simp only[vl];first | done | omega)) only[x1,x2,x3,vu,vg,va,vs,vw,vk,simprocAttr]<;>rfl):P:=(h x1 x2 x3).symm▸q
theorem qc{a b c d P Q:Prop}(x1:a)(x2:b)(x3:c)(x4:d)(q:Q)(h:a→b→c→d→P=Q:=by intro x1 x2 x3 x4;simp -implicitDefEqProofs (maxSteps:=99999999) (disch:=first | omega | (simp only[vl];first | done | omega)) only[x1,x2,x3,x4,vu,vg,va,vs,vw,vk,simprocAttr]<;>rfl):P:=(h x1 x2 x3 x4).symm▸q
theorem BP{a b c d i P Q:Prop}(x1:a)(x2:b)(x3:c)(x4:d)(x5:i)(q:Q)(h:a→b→c→d→i→P=Q:=by intro x1 x2 x3 x4 x5;simp -implicitDefEqProofs (maxSteps:=99999999) (disch:=first | omega | (simp only[vl];first | done | omega)) only[x1,x2,x3,x4,x5,vu,vg,va,vs,vw,vk,simprocAttr]<;>rfl):P:=(h x1 x2 x3 x4 x5).symm▸q
theorem zC8{a b c d i j k l P Q:Prop}(x1:a)(x2:b)(x3:c)(x4:d)(x5:i)(x6:j)(x7:k)(x8:l)(q:Q)(h:a→b→c→d→i→j→k→l→P=Q:=by intro x1 x2 x3 x4 x5 x6 x7 x8;simp -implicitDefEqProofs (maxSteps:=99999999) (disch:=first | omega | (simp only[vl];first | done | omega)) only[x1,x2,x3,x4,x5,x6,x7,x8,vu,vg,va,vs,vw,vk,simprocAttr]<;>rfl):P:=(h x1 x2 x3 x4 x5 x6 x7 x8).symm▸q
theorem zD0{P Q:Prop}(q:Q)(h:P=Q:=by simp -implicitDefEqProofs (maxSteps:=99999999) (disch:=omega) only[va,vg,vs,vh,vk,simprocAttr]<;>rfl):P:=h.symm▸q
theorem Pb{a P Q:Prop}(x1:a)(q:Q)(h:a→P=Q:=by intro x1;simp -implicitDefEqProofs (maxSteps:=99999999) (disch:=omega) only[x1,va,vg,vs,vh,vk,simprocAttr]<;>rfl):P:=(h x1).symm▸q
theorem zD2{a b P Q:Prop}(x1:a)(x2:b)(q:Q)(h:a→b→P=Q:=by intro x1 x2;simp -implicitDefEqProofs (maxSteps:=99999999) (disch:=omega) only[x1,x2,va,vg,vs,vh,vk,simprocAttr]<;>rfl):P:=(h x1 x2).symm▸q
theorem zE0{P Q:Prop}(q:Q)(h:P=Q:=by simp -implicitDefEqProofs (maxSteps:=99999999) (disch:=omega) only[vu,va,vg,vs,vh,vk,simprocAttr]<;>rfl):P:=h.symm▸q
def nl(s:ByteArray):Int:=Lib.indexByte s.data.toList 10
def XP(s:ByteArray):Bool:=decide (s≠ByteArray.empty) && (decide (nl s<0) || decide ((s.size:Int) - 1≤nl s))
def good(xs:List ByteArray)(k:Nat):Bool:=XP (lR xs k) && (!decide (nl (lR xs k)<0) || decide (k+1=xs.length))
def aeP(xs:List ByteArray):Prop:=xs.length≤100000000∧∀s∈xs,s.size≤100000000
structure Hk where
 at_:Int
 old:List ByteArray
 new:List ByteArray
abbrev hkr(h:Hk)(ro rn:Option (List AV)):AV:=.agg [.Z (.int .i64 h.at_),.an 1 (strs h.old) ro,.an 1 (strs h.new) rn]
abbrev hk(h:Hk):AV:=hkr h none none
section
variable {α:Type}
def mI(q:IntKind)(f:α→AV)(M:List (Int×α)):List AV:=M.map fun p=>.aG [.Z (.int q p.1),f p.2]
theorem tT(q:IntKind)(f:α→AV)(M:List (Int×α)):(mI q f M).length=M.length:=by simp[mI]
theorem abx(q:IntKind)(f:α→AV)(M:List (Int×α)):ez (some q) (mI q f M):=fun x hx=>by
 obtain ⟨p,_,rfl⟩:=List.mem_map.1 hx
 simp[y9,gp]
theorem XQ(q:IntKind)(f:α→AV)(M:List (Int×α)):ez (some q) (mI q f M)=True:=by simp[abx]
def Ac(k:Int):List (Int×α)→Nat
 | []=>0
 | p::r=>if k=p.1 then 0 else Ac k r+1
def jg(k:Int):List (Int×α)→Option α
 | []=>none
 | p::r=>if k=p.1 then some p.2 else jg k r
def tU(k:Int)(a:α):List (Int×α)→List (Int×α)
 | []=>[(k,a)]
 | p::r=>if k=p.1 then (k,a)::r else p::tU k a r
theorem vp{q:IntKind}{f:α→AV}{k:Int}:∀{M:List (Int×α)},ek (.int q k) (mI q f M)=Ac k M
 | []=>rfl
 | p::r=>by
  show (if pM _ _=true then 0 else ek _ (mI q f r)+1)=_
  rw[vp (M:=r)]
  simp[pM,l3,Ac]
theorem GG{k:Int}:∀{M:List (Int×α)},(decide (Ac k M<M.length))=(jg k M).isSome
 | []=>rfl
 | p::r=>by
  have ih:=GG (k:=k) (M:=r)
  unfold Ac jg
  by_cases h:k=p.1
  ·simp[h]
  ·simp only[if_neg h,List.length_cons,Nat.add_lt_add_iff_right,ih]
theorem GH{q:IntKind}{f:α→AV}{k:Int}{z:AV}:∀{M:List (Int×α)},lM (.int q k) z (mI q f M)=((jg k M).map f).getD z
 | []=>rfl
 | p::r=>by
  have ih:=GH (q:=q) (f:=f) (k:=k) (z:=z) (M:=r)
  unfold lM at ih ⊢
  rw[vp,tT] at ih ⊢
  unfold Ac jg
  by_cases h:k=p.1
  ·simp[h,mI,QV]
  ·simp only[if_neg h,List.length_cons,Nat.add_lt_add_iff_right] at ih ⊢
   rw[←ih]
   rfl
theorem Ad{q:IntKind}{f:α→AV}{k:Int}{a:α}:∀{M:List (Int×α)},n9 (.int q k) (f a) (mI q f M)=mI q f (tU k a M)
 | []=>rfl
 | p::r=>by
  have ih:=Ad (q:=q) (f:=f) (k:=k) (a:=a) (M:=r)
  unfold n9 at ih ⊢
  rw[vp,tT] at ih ⊢
  unfold Ac tU
  by_cases h:k=p.1
  ·simp[h,mI]
  ·simp only[if_neg h,List.length_cons,Nat.add_lt_add_iff_right]
   split
   ·rename_i hlt
    rw[if_pos hlt] at ih
    show _::(mI q f r).set _ _=_::mI q f _
    rw[←ih]
   ·rename_i hlt
    rw[if_neg hlt] at ih
    show _::(mI q f r++_)=_::mI q f _
    rw[←ih]
theorem CF{k:Int}:∀{M:List (Int×α)},k∈M.map (·.1)↔(jg k M).isSome=true
 | []=>by simp[jg]
 | p::r=>by
  have ih:=CF (k:=k) (M:=r)
  unfold jg
  by_cases h:k=p.1
  ·simp[h]
  ·simp only[List.map_cons,List.mem_cons,h,false_or,if_neg,not_false_iff,ih]
end
set_option maxRecDepth 1000000
def Th:IC:=(.seq (.ops [iH 1 (.box 4 25 (.t 0)),iP 2 (xI 0)]) (.seq (.ops [iH 3 (.alloc (.Z (.int .i64 0)) 3),⟨none,none,(.h (.store 1 (.t 3) (kI 0)))⟩]) (.seq (.ops [iP 4 (.mw (.func 171) [] [(.t 3)]),iH 5 (yA 4 1),⟨(some 6),none,(.h (.dK 4 25 (.agg [(.Z (.int .u8 0)),(.Z (.string ⟨#[]⟩)),(.Z (.int .i64 0)),aV]) 1 [(0,(.t 5))]))⟩,iH 7 (yC 115 4 6)]) (.seq (.ops [iH 8 (yD 1 3),iM 2 8]) .ret))))
theorem aby:Dk Tryz.prog 112 Th [(.t 2)] 9:=aO (fn:=Tryz.f112) Tryz.func112 (by kernel_rfl) (by kernel_rfl) (by kernel_rfl)
def Ze:IC:=(.seq (.ops [iP 6 (.mv kF)]) (.seq (.ops [iM 10 0,iH 11 (.call 69 [(.t 10)]),iM 9 11,iP 12 (.ext (.t 9) 0),iP 13 (.ext (.t 9) 1),iH 7 (.alloc (.agg [aV,(.Z (.bool .false))]) 116),iS 2 7 12,iM 8 13]) (.seq (.block 0 (.seq (.ops [iM 15 2,iP 16 (.az .lss (.t 15) (kI 0)),iM 14 16]) (.cond (.t 14) (.seq (.ops [iP 6 (.mv kF)]) .ret) (.seq (.ops [iP 18 (.af 1 (.t 7)),iH 19 (yD 1 18),iM 17 19]) (.cond (.t 17) (.seq (.ops [iM 20 1,iP 21 (.af 0 (.t 7)),iH 22 (yD 1 21),iP 23 (.fC 1 (.t 22) (kI 0)),iH 24 (yD 1 23),iH 25 (yC 127 20 24),iM 6 25]) .ret) .skip))))) (.seq (.ops [iM 26 2,iP 27 (.af 0 (.t 7)),iH 28 (yD 1 27),iP 29 (xL 28),iP 30 (xB .lss 26 29),iM 31 30,gM 32 31 .true 1,gP 33 31 .true (.af 0 (.t 7)),gH 34 31 .true (yD 1 33),gM 35 31 .true 2,gP 36 31 .true (xA 1 34 35),gH 37 31 .true (yD 1 36),gH 38 31 .true (yC 127 32 37),iP 39 (.pick (.t 31) (.t 38) kF),iM 6 39]) .ret))))
theorem adt:Dk Tryz.prog 71 Ze [(.t 6)] 40:=aO (fn:=Tryz.f71) Tryz.func71 (by kernel_rfl) (by kernel_rfl) (by kernel_rfl)
def Zf:IC:=(.seq (.ops [iH 1 (.box 4 25 (.t 0)),iP 2 (.mv kF)]) (.seq (.ops [iH 3 (.alloc (.Z .nilFunc) 113)]) (.seq (.ops [iP 4 (.mw (.func 68) [] [(.t 3)]),iS 1 3 4]) (.seq (.ops [iH 5 (yD 1 3),iH 6 (yA 4 1),iH 7 (.bM (.t 5) [(.t 6),(kI 1)]),iM 2 7]) .ret))))
theorem adu:Dk Tryz.prog 40 Zf [(.t 2)] 8:=aO (fn:=Tryz.f40) Tryz.func40 (by kernel_rfl) (by kernel_rfl) (by kernel_rfl)
def Ti:IC:=(.seq (.ops [iM 6 1,iP 7 (xL 6),iP 8 (xI 0)]) (.block 0 (.loop (.seq (.ops [iP 9 (xB .lss 8 7)]) (.seq (.cond (.t 9) .skip (.exit 0)) (.seq (.block 1 (.seq (.ops [iP 10 (xA 4 6 8),iH 11 (yA 4 10),⟨(some 5),none,(.h (.alloc (.agg [(.Z (.int .u8 0)),(.Z (.string ⟨#[]⟩)),(.Z (.int .i64 0)),aV]) 25))⟩,iS 4 5 11]) (.seq (.ops [iM 12 0,iH 13 (yA 4 5),iH 14 (.bM (.t 12) [(.t 13)])]) (.ops [iM 15 0,iP 16 (.af 3 (.t 5)),iH 17 (yD 1 16),iH 18 (yC 115 15 17)])))) (.ops [iP 19 (.az .add (.t 8) (kI 1)),iM 8 19])))))))
theorem abz:Dk Tryz.prog 115 Ti [] 20:=aO (fn:=Tryz.f115) Tryz.func115 (by kernel_rfl) (by kernel_rfl) (by kernel_rfl)
def Tj:IC:=(.seq (.ops [iH 2 (.box 4 25 (.t 0))]) (.ops [iH 3 (yD 1 1),iP 4 (.az .add (.t 3) (kI 1)),iS 1 1 4]))
theorem abA:Dk Tryz.prog 171 Tj [] 5:=aO (fn:=Tryz.f171) Tryz.func171 (by kernel_rfl) (by kernel_rfl) (by kernel_rfl)
def Tk:IC:=(.seq (.ops [iP 2 (.mv kF)]) (.seq (.ops [iH 3 (.dK 1 22 (.Z (.int .u8 0)) 5 [(0,(.k (.Z (.int .u8 2)))),(1,(.k (.Z (.int .u8 4)))),(2,(.k (.Z (.int .u8 6)))),(3,(.k (.Z (.int .u8 22)))),(4,(.k (.Z (.int .u8 25))))]),iM 4 0,iH 5 (yC 121 3 4),iM 2 5]) .ret))
theorem abB:Dk Tryz.prog 117 Tk [(.t 2)] 6:=aO (fn:=Tryz.f117) Tryz.func117 (by kernel_rfl) (by kernel_rfl) (by kernel_rfl)
def Tl:IC:=(.seq (.ops [iP 4 (.mv kF)]) (.seq (.seq (.ops [iM 5 1]) (.block 0 (.seq (.ops [iP 7 (.az .eql (.t 5) (.k (.Z (.int .u8 200)))),iM 6 7]) (.cond (.t 6) (.seq (.ops [iM 8 0,iP 9 (.az .geq (.t 8) (.k (.Z (.int .u8 20)))),iM 10 9,gM 11 10 .true 0,gP 12 10 .true (.az .leq (.t 11) (.k (.Z (.int .u8 29)))),iP 13 (.pick (.t 10) (.t 12) kF),iM 4 13]) .ret) (.seq (.ops [iP 15 (.az .eql (.t 5) (.k (.Z (.int .u8 201)))),iM 14 15]) (.cond (.t 14) (.seq (.ops [iM 16 0,iP 17 (.az .geq (.t 16) (.k (.Z (.int .u8 6)))),iM 18 17,gM 19 18 .true 0,gP 20 18 .true (.az .leq (.t 19) (.k (.Z (.int .u8 12)))),iP 21 (.pick (.t 18) (.t 20) kF),iM 22 21,gM 23 22 .false 0,gP 24 22 .false (.az .eql (.t 23) (.k (.Z (.int .u8 5)))),iP 25 (.pick (.t 22) kT (.t 24)),iM 4 25]) .ret) (.seq (.ops [iP 27 (.az .eql (.t 5) (.k (.Z (.int .u8 202)))),iM 26 27]) (.cond (.t 26) (.seq (.ops [iM 28 0,iP 29 (.az .eql (.t 28) (.k (.Z (.int .u8 22)))),iM 30 29,gM 31 30 .false 0,gP 32 30 .false (.az .eql (.t 31) (.k (.Z (.int .u8 26)))),iP 33 (.pick (.t 30) kT (.t 32)),iM 4 33]) .ret) .skip)))))))) (.seq (.ops [iM 34 0,iM 35 1,iP 36 (xB .eql 34 35),iM 4 36]) .ret)))
theorem abC:Dk Tryz.prog 127 Tl [(.t 4)] 37:=aO (fn:=Tryz.f127) Tryz.func127 (by kernel_rfl) (by kernel_rfl) (by kernel_rfl)
def Zg:IC:=(.seq (.ops [iH 3 (.box 4 25 (.t 0)),iP 5 (.mv kF)]) (.seq (.ops [iP 11 (.af 0 (.t 3)),iH 12 (yD 1 11),iH 13 (.call 69 [(.t 12)]),iM 10 13,iP 14 (.ext (.t 10) 0),iP 15 (.ext (.t 10) 1),iH 6 (.alloc (.agg [aV,(.Z (.bool .false))]) 116),iS 2 6 14,iM 7 15]) (.seq (.seq (.ops [iM 16 7,iP 17 (xN 16),iM 18 17,gM 19 18 .false 1,gP 20 18 .false (.az .gtr (.t 19) (kI 40)),iP 21 (.pick (.t 18) kT (.t 20)),iM 22 21,gH 23 22 .false (yA 4 3),gH 24 22 .false (.call 70 [(.t 23)]),gP 25 22 .false (xN 24),iP 26 (.pick (.t 22) kT (.t 25)),iM 27 26,gP 28 27 .false (.af 1 (.t 6)),gH 29 27 .false (yD 1 28),gP 30 27 .false (xN 29),gM 31 27 .false 30,gP 32 31 .true (.af 3 (.t 3)),gH 33 31 .true (yD 1 32),gP 34 31 .true (xL 33),gP 35 31 .true (.af 0 (.t 6)),gH 36 31 .true (yD 1 35),gP 37 31 .true (xL 36),gP 38 31 .true (xB .neq 34 37),gP 39 27 .false (.pick (.t 31) (.t 38) kF),iP 40 (.pick (.t 27) kT (.t 39))]) (.cond (.t 40) (.seq (.ops [iP 5 (.mv kF)]) .ret) .skip)) (.seq (.seq (.ops [iP 41 (.af 3 (.t 3)),iH 42 (yD 1 41),iP 43 (xL 42),iP 44 (xI 0)]) (.block 0 (.loop (.seq (.ops [iP 45 (xB .lss 44 43)]) (.seq (.cond (.t 45) .skip (.exit 0)) (.seq (.block 1 (.seq (.ops [iM 46 44,iP 47 (xA 4 42 44),iH 48 (yA 4 47),⟨(some 9),none,(.h (.alloc (.agg [(.Z (.int .u8 0)),(.Z (.string ⟨#[]⟩)),(.Z (.int .i64 0)),aV]) 25))⟩,iM 8 46,iS 4 9 48]) (.seq (.ops [iP 49 (.af 0 (.t 3)),iH 50 (yD 1 49),iP 51 (.af 0 (.t 9)),iH 52 (yD 1 51),iM 53 8,iH 54 (.call 71 [(.t 50),(.t 52),(.t 53)]),iP 55 (xN 54),iM 56 55,gH 57 56 .false (yD 1 2),gH 58 56 .false (yA 4 9),gM 59 56 .false 1,gP 60 56 .false (.az .add (.t 59) (kI 1)),gH 61 56 .false (.bM (.t 57) [(.t 58),(.t 60)]),gP 62 56 .false (xN 61),iP 63 (.pick (.t 56) kT (.t 62))]) (.cond (.t 63) (.seq (.ops [iP 5 (.mv kF)]) .ret) .skip)))) (.ops [iP 64 (.az .add (.t 44) (kI 1)),iM 44 64]))))))) (.seq (.ops [iP 65 (.af 0 (.t 3)),iH 66 (yD 1 65),iP 67 (.az .neq (.t 66) (.k (.Z (.int .u8 7)))),iM 68 67,gP 69 68 .false (.af 3 (.t 3)),gH 70 68 .false (yD 1 69),gP 71 68 .false (.fC 4 (.t 70) (kI 0)),gP 72 68 .false (.af 0 (.t 71)),gH 73 68 .false (yD 1 72),gP 74 68 .false (.az .eql (.t 73) (.k (.Z (.int .u8 22)))),iP 75 (.pick (.t 68) kT (.t 74)),iM 76 75,gP 77 76 .false (.af 3 (.t 3)),gH 78 76 .false (yD 1 77),gP 79 76 .false (.fC 4 (.t 78) (kI 0)),gP 80 76 .false (.af 3 (.t 79)),gH 81 76 .false (yD 1 80),gP 82 76 .false (.fC 4 (.t 81) (kI 0)),gP 83 76 .false (.af 0 (.t 82)),gH 84 76 .false (yD 1 83),gP 85 76 .false (.az .eql (.t 84) (.k (.Z (.int .u8 22)))),iP 86 (.pick (.t 76) kT (.t 85)),iM 5 86]) .ret)))))
theorem adw:Dk Tryz.prog 68 Zg [(.t 5)] 87:=aO (fn:=Tryz.f68) Tryz.func68 (by kernel_rfl) (by kernel_rfl) (by kernel_rfl)
def Zh:IC:=(.seq (.ops [iH 1 (.box 4 25 (.t 0)),iP 2 (.mv kF)]) (.seq (.ops [iP 4 (.mw (.func 125) [] [(.t 1)]),iM 3 4]) (.seq (.block 0 (.seq (.ops [iP 6 (.af 0 (.t 1)),iH 7 (yD 1 6),iP 8 (.az .eql (.t 7) (.k (.Z (.int .u8 20)))),iM 5 8]) (.cond (.t 5) (.seq (.ops [iP 9 (.af 1 (.t 1)),iH 10 (yD 1 9),⟨(some 11),none,(.p (.az .eql (.t 10) (.k (.Z (.string ⟨#[]⟩)))))⟩,iM 12 11,gP 13 12 .true (.af 2 (.t 1)),gH 14 12 .true (yD 1 13),gP 15 12 .true (.az .geq (.t 14) (kI 0)),iP 16 (.pick (.t 12) (.t 15) kF),iM 2 16]) .ret) (.seq (.ops [iP 18 (.af 0 (.t 1)),iH 19 (yD 1 18),iP 20 (.az .eql (.t 19) (.k (.Z (.int .u8 21)))),iM 17 20]) (.cond (.t 17) (.seq (.ops [iP 21 (.af 1 (.t 1)),iH 22 (yD 1 21),⟨(some 23),none,(.p (.az .eql (.t 22) (.k (.Z (.string ⟨#[]⟩)))))⟩,iM 24 23,gP 25 24 .true (.af 2 (.t 1)),gH 26 24 .true (yD 1 25),gP 27 24 .true (.Br .shr (.t 26) (.k (.Z (.int .u64 1)))),gP 28 24 .true (.az .eql (.t 27) (kI 0)),iP 29 (.pick (.t 24) (.t 28) kF),iM 2 29]) .ret) (.seq (.ops [iP 31 (.af 2 (.t 1)),iH 32 (yD 1 31),iP 33 (.az .neq (.t 32) (kI 0)),iM 30 33]) (.cond (.t 30) (.seq (.ops [iP 2 (.mv kF)]) .ret) (.seq (.ops [iP 35 (.af 0 (.t 1)),iH 36 (yD 1 35),iH 37 (.call 117 [(.t 36)]),iM 34 37]) (.cond (.t 34) (.seq (.ops [iP 38 (.af 1 (.t 1)),iH 39 (yD 1 38),iH 40 (.call 43 [(.t 39)]),iM 2 40]) .ret) (.seq (.ops [iP 42 (.af 0 (.t 1)),iH 43 (yD 1 42),iP 44 (.az .eql (.t 43) (.k (.Z (.int .u8 23)))),iM 41 44]) (.cond (.t 41) (.seq (.ops [iM 45 3,⟨(some 46),none,(.h (.bM (.t 45) [(.k (.Z (.string ⟨#[45,32,33]⟩)))]))⟩,iM 2 46]) .ret) (.seq (.ops [iP 48 (.af 0 (.t 1)),iH 49 (yD 1 48),iP 50 (.az .eql (.t 49) (.k (.Z (.int .u8 24)))),iM 47 50]) (.cond (.t 47) (.seq (.ops [iM 51 3,⟨(some 52),none,(.h (.bM (.t 51) [(.k (.Z (.string ⟨#[124,124,32,38,38,32,61,61,32,33,61,32,60,32,60,61,32,62,32,62,61,32,43,32,45,32,42,32,47,32,37]⟩)))]))⟩,iM 2 52]) .ret) .skip))))))))))))) (.seq (.ops [iP 53 (.af 1 (.t 1)),iH 54 (yD 1 53),⟨(some 55),none,(.p (.az .eql (.t 54) (.k (.Z (.string ⟨#[]⟩)))))⟩,iM 2 55]) .ret))))
theorem adx:Dk Tryz.prog 70 Zh [(.t 2)] 56:=aO (fn:=Tryz.f70) Tryz.func70 (by kernel_rfl) (by kernel_rfl) (by kernel_rfl)
def Tm:IC:=(.seq (.ops [iP 3 (.mv kF)]) (.seq (.cH [iP 4 (.af 1 (.t 1)),iH 5 (yD 1 4),⟨(some 6),none,(.p (.az .neq (.t 5) (.k (.Z (.string ⟨#[]⟩)))))⟩,iM 7 6,gM 8 7 .true 0,gH 9 7 .true (.call 126 [(.t 8)]),gP 10 7 .true (.af 1 (.t 1)),gH 11 7 .true (yD 1 10),gH 12 7 .true (yC 59 9 11),iP 13 (.pick (.t 7) (.t 12) kF),iM 3 13] [[],[0],[1,0],[2,1,0],[3,2,1,0],[4,3,2,1,0],[3,2,1,0],[6,3,2,1,0],[5,4,3,2,1,0,7,6],[3,2,1,0,8,5,4,7,6],[9,3,2,1,0,8,5,4,7,6]]) .ret))
theorem abD:Dk Tryz.prog 125 Tm [(.t 3)] 14:=aO (fn:=Tryz.f125) Tryz.func125 (by kernel_rfl) (by kernel_rfl) (by kernel_rfl)
def Tn:IC:=(.seq (.ops [iH 2 (.alloc (.agg [aV,(.Z (.bool .false))]) 116)]) (.seq (.ops [iM 3 0,iP 4 (.build [aV,(.Z (.bool .false))] [(0,1,(.t 3))]),iS 2 2 4]) .ret))
theorem abE:Dk Tryz.prog 123 Tn [(.c 2 2 .true)] 5:=aO (fn:=Tryz.f123) Tryz.func123 (by kernel_rfl) (by kernel_rfl) (by kernel_rfl)
def Tp:IC:=(.seq (.ops [iH 2 (.alloc (.agg [aV,(.Z (.bool .false))]) 116)]) (.seq (.ops [iM 3 0,iH 4 (.dK 1 22 (.Z (.int .u8 0)) 1 [(0,(.t 3))]),iP 5 (.build [aV,(.Z (.bool .false))] [(0,1,(.t 4)),(1,1,kT)]),iS 2 2 5]) .ret))
theorem abF:Dk Tryz.prog 124 Tp [(.c 2 2 .true)] 6:=aO (fn:=Tryz.f124) Tryz.func124 (by kernel_rfl) (by kernel_rfl) (by kernel_rfl)
def Tq:IC:=(.seq (.ops [iP 6 (.mv kF)]) (.seq (.seq (.ops [iM 10 0,iP 11 (xL 10),iM 12 1,iP 13 (xL 12),iP 14 (xB .neq 11 13)]) (.cond (.t 14) (.seq (.ops [iP 6 (.mv kF)]) .ret) .skip)) (.seq (.seq (.ops [iM 15 0,iP 16 (xL 15),iP 17 (xI 0)]) (.block 0 (.loop (.seq (.ops [iP 18 (xB .lss 17 16)]) (.seq (.cond (.t 18) .skip (.exit 0)) (.seq (.block 1 (.seq (.ops [iM 19 17,iP 20 (xA 4 15 17),iH 21 (yA 4 20),⟨(some 8),none,(.h (.alloc (.agg [(.Z (.int .u8 0)),(.Z (.string ⟨#[]⟩)),(.Z (.int .i64 0)),aV]) 25))⟩,iM 7 19,iS 4 8 21]) (.seq (.ops [iM 22 1,iM 23 7,iP 24 (xA 4 22 23),iH 25 (yA 4 24),⟨(some 9),none,(.h (.alloc (.agg [(.Z (.int .u8 0)),(.Z (.string ⟨#[]⟩)),(.Z (.int .i64 0)),aV]) 25))⟩,iS 4 9 25]) (.seq (.ops [iM 26 2,iH 27 (yA 4 8),iH 28 (yA 4 9),iH 29 (.bM (.t 26) [(.t 27),(.t 28)]),iP 30 (xN 29)]) (.cond (.t 30) (.seq (.ops [iP 6 (.mv kF)]) .ret) .skip))))) (.ops [iP 31 (.az .add (.t 17) (kI 1)),iM 17 31]))))))) (.seq (.ops [iP 6 (.mv kT)]) .ret))))
theorem abG:Dk Tryz.prog 122 Tq [(.t 6)] 32:=aO (fn:=Tryz.f122) Tryz.func122 (by kernel_rfl) (by kernel_rfl) (by kernel_rfl)
def Ts:IC:=(.seq (.ops [iP 4 (.mv kF)]) (.seq (.ops [iM 5 0,iM 6 1,iH 7 (yC 178 5 6),iP 8 (.az .geq (.t 7) (kI 0)),iM 4 8]) .ret))
theorem abH:Dk Tryz.prog 121 Ts [(.t 4)] 9:=aO (fn:=Tryz.f121) Tryz.func121 (by kernel_rfl) (by kernel_rfl) (by kernel_rfl)
def Tt:IC:=(.seq (.ops [iP 4 (xI 0)]) (.seq (.seq (.ops [iM 6 0,iP 7 (xL 6),iP 8 (xI 0)]) (.block 0 (.loop (.seq (.ops [iP 9 (xB .lss 8 7)]) (.seq (.cond (.t 9) .skip (.exit 0)) (.seq (.block 1 (.seq (.ops [iM 10 8,iM 5 10]) (.seq (.ops [iM 11 1,iM 12 0,iM 13 5,iP 14 (xA 1 12 13),iH 15 (yD 1 14),iP 16 (xB .eql 11 15)]) (.cond (.t 16) (.seq (.ops [iM 17 5,iM 4 17]) .ret) .skip)))) (.ops [iP 18 (.az .add (.t 8) (kI 1)),iM 8 18]))))))) (.seq (.ops [iP 4 (xI (-1))]) .ret)))
theorem abI:Dk Tryz.prog 178 Tt [(.t 4)] 19:=aO (fn:=Tryz.f178) Tryz.func178 (by kernel_rfl) (by kernel_rfl) (by kernel_rfl)
def Zi:IC:=(.seq (.ops [iH 2 (.alloc (.agg [aV,(.Z (.bool .false))]) 116),iP 3 (.mv kF)]) (.seq (.ops [iP 4 (.mv (.k (.fn (.func 123) [] [])))]) (.seq (.ops [iP 5 (.mv (.k (.fn (.func 124) [] [])))]) (.seq (.ops [iH 9 (.gx .lZ []),iM 10 5,iH 11 (.bM (.t 10) [(.k (.Z (.int .u8 2)))]),⟨none,none,(.h (.gx (.eI (some .u8)) [(.t 9),(.k (.Z (.int .u8 1))),(.t 11)]))⟩,iM 12 4,iH 13 (.dK 1 22 (.Z (.int .u8 0)) 2 [(0,(.k (.Z (.int .u8 3)))),(1,(.k (.Z (.int .u8 5))))]),iH 14 (.bM (.t 12) [(.t 13)]),⟨none,none,(.h (.gx (.eI (some .u8)) [(.t 9),(.k (.Z (.int .u8 2))),(.t 14)]))⟩,iM 15 5,iH 16 (.bM (.t 15) [(.k (.Z (.int .u8 4)))]),⟨none,none,(.h (.gx (.eI (some .u8)) [(.t 9),(.k (.Z (.int .u8 3))),(.t 16)]))⟩,iM 17 4,iH 18 (.bM (.t 17) [(.k aV)]),⟨none,none,(.h (.gx (.eI (some .u8)) [(.t 9),(.k (.Z (.int .u8 4))),(.t 18)]))⟩,iM 19 5,iH 20 (.bM (.t 19) [(.k (.Z (.int .u8 201)))]),⟨none,none,(.h (.gx (.eI (some .u8)) [(.t 9),(.k (.Z (.int .u8 5))),(.t 20)]))⟩,iM 21 4,iH 22 (.dK 1 22 (.Z (.int .u8 0)) 1 [(0,(.k (.Z (.int .u8 200))))]),iH 23 (.bM (.t 21) [(.t 22)]),⟨none,none,(.h (.gx (.eI (some .u8)) [(.t 9),(.k (.Z (.int .u8 6))),(.t 23)]))⟩,iM 24 4,iH 25 (.dK 1 22 (.Z (.int .u8 0)) 2 [(0,(.k (.Z (.int .u8 202)))),(1,(.k (.Z (.int .u8 200))))]),iH 26 (.bM (.t 24) [(.t 25)]),⟨none,none,(.h (.gx (.eI (some .u8)) [(.t 9),(.k (.Z (.int .u8 7))),(.t 26)]))⟩,iM 27 4,iH 28 (.dK 1 22 (.Z (.int .u8 0)) 3 [(0,(.k (.Z (.int .u8 200)))),(1,(.k (.Z (.int .u8 5)))),(2,(.k (.Z (.int .u8 5))))]),iH 29 (.bM (.t 27) [(.t 28)]),⟨none,none,(.h (.gx (.eI (some .u8)) [(.t 9),(.k (.Z (.int .u8 8))),(.t 29)]))⟩,iM 30 4,iH 31 (.dK 1 22 (.Z (.int .u8 0)) 2 [(0,(.k (.Z (.int .u8 200)))),(1,(.k (.Z (.int .u8 5))))]),iH 32 (.bM (.t 30) [(.t 31)]),⟨none,none,(.h (.gx (.eI (some .u8)) [(.t 9),(.k (.Z (.int .u8 9))),(.t 32)]))⟩,iM 33 4,iH 34 (.dK 1 22 (.Z (.int .u8 0)) 1 [(0,(.k (.Z (.int .u8 200))))]),iH 35 (.bM (.t 33) [(.t 34)]),⟨none,none,(.h (.gx (.eI (some .u8)) [(.t 9),(.k (.Z (.int .u8 10))),(.t 35)]))⟩,iM 36 4,iH 37 (.dK 1 22 (.Z (.int .u8 0)) 1 [(0,(.k (.Z (.int .u8 200))))]),iH 38 (.bM (.t 36) [(.t 37)]),⟨none,none,(.h (.gx (.eI (some .u8)) [(.t 9),(.k (.Z (.int .u8 11))),(.t 38)]))⟩,iM 39 4,iH 40 (.dK 1 22 (.Z (.int .u8 0)) 1 [(0,(.k (.Z (.int .u8 25))))]),iH 41 (.bM (.t 39) [(.t 40)]),⟨none,none,(.h (.gx (.eI (some .u8)) [(.t 9),(.k (.Z (.int .u8 12))),(.t 41)]))⟩,iM 42 4,iH 43 (.bM (.t 42) [(.k aV)]),⟨none,none,(.h (.gx (.eI (some .u8)) [(.t 9),(.k (.Z (.int .u8 20))),(.t 43)]))⟩,iM 44 4,iH 45 (.bM (.t 44) [(.k aV)]),⟨none,none,(.h (.gx (.eI (some .u8)) [(.t 9),(.k (.Z (.int .u8 21))),(.t 45)]))⟩,iM 46 4,iH 47 (.bM (.t 46) [(.k aV)]),⟨none,none,(.h (.gx (.eI (some .u8)) [(.t 9),(.k (.Z (.int .u8 22))),(.t 47)]))⟩,iM 48 4,iH 49 (.dK 1 22 (.Z (.int .u8 0)) 1 [(0,(.k (.Z (.int .u8 200))))]),iH 50 (.bM (.t 48) [(.t 49)]),⟨none,none,(.h (.gx (.eI (some .u8)) [(.t 9),(.k (.Z (.int .u8 23))),(.t 50)]))⟩,iM 51 4,iH 52 (.dK 1 22 (.Z (.int .u8 0)) 2 [(0,(.k (.Z (.int .u8 200)))),(1,(.k (.Z (.int .u8 200))))]),iH 53 (.bM (.t 51) [(.t 52)]),⟨none,none,(.h (.gx (.eI (some .u8)) [(.t 9),(.k (.Z (.int .u8 24))),(.t 53)]))⟩,iM 54 5,iH 55 (.bM (.t 54) [(.k (.Z (.int .u8 200)))]),⟨none,none,(.h (.gx (.eI (some .u8)) [(.t 9),(.k (.Z (.int .u8 25))),(.t 55)]))⟩,iM 56 4,iH 57 (.dK 1 22 (.Z (.int .u8 0)) 2 [(0,(.k (.Z (.int .u8 200)))),(1,(.k (.Z (.int .u8 200))))]),iH 58 (.bM (.t 56) [(.t 57)]),⟨none,none,(.h (.gx (.eI (some .u8)) [(.t 9),(.k (.Z (.int .u8 26))),(.t 58)]))⟩,iM 59 4,iH 60 (.dK 1 22 (.Z (.int .u8 0)) 2 [(0,(.k (.Z (.int .u8 200)))),(1,(.k (.Z (.int .u8 200))))]),iH 61 (.bM (.t 59) [(.t 60)]),⟨none,none,(.h (.gx (.eI (some .u8)) [(.t 9),(.k (.Z (.int .u8 27))),(.t 61)]))⟩,iM 62 4,iH 63 (.dK 1 22 (.Z (.int .u8 0)) 1 [(0,(.k (.Z (.int .u8 200))))]),iH 64 (.bM (.t 62) [(.t 63)]),⟨none,none,(.h (.gx (.eI (some .u8)) [(.t 9),(.k (.Z (.int .u8 28))),(.t 64)]))⟩,iM 65 4,iH 66 (.bM (.t 65) [(.k aV)]),⟨none,none,(.h (.gx (.eI (some .u8)) [(.t 9),(.k (.Z (.int .u8 29))),(.t 66)]))⟩,iM 67 9,iM 68 0,iH 69 (.gx (.ni (some .u8) (.agg [aV,(.Z (.bool .false))]) .true) [(.t 67),(.t 68)]),iM 8 69,iP 70 (.ext (.t 8) 0),iP 71 (.ext (.t 8) 1),iH 6 (.alloc (.agg [aV,(.Z (.bool .false))]) 116),iS 2 6 70,iM 7 71]) (.seq (.ops [iH 72 (yA 2 6),iM 73 7,iS 2 2 72,iM 3 73]) .ret)))))
theorem ady:Dk Tryz.prog 69 Zi [(.c 2 2 .true),(.t 3)] 74:=aO (fn:=Tryz.f69) Tryz.func69 (by kernel_rfl) (by kernel_rfl) (by kernel_rfl)
def Zj:IC:=(.seq (.ops [iP 4 (.mv kF)]) (.seq (.ops [iM 5 0,iM 6 1,iH 7 (yC 114 5 6),iP 8 (.az .geq (.t 7) (kI 0)),iM 4 8]) .ret))
theorem adz:Dk Tryz.prog 59 Zj [(.t 4)] 9:=aO (fn:=Tryz.f59) Tryz.func59 (by kernel_rfl) (by kernel_rfl) (by kernel_rfl)
def Tu:IC:=(.seq (.ops [iP 4 (xI 0)]) (.seq (.seq (.ops [iM 6 0,iP 7 (xL 6),iP 8 (xI 0)]) (.block 0 (.loop (.seq (.ops [iP 9 (xB .lss 8 7)]) (.seq (.cond (.t 9) .skip (.exit 0)) (.seq (.block 1 (.seq (.ops [iM 10 8,iM 5 10]) (.seq (.ops [iM 11 1,iM 12 0,iM 13 5,iP 14 (xA 1 12 13),iH 15 (yD 1 14),iP 16 (xB .eql 11 15)]) (.cond (.t 16) (.seq (.ops [iM 17 5,iM 4 17]) .ret) .skip)))) (.ops [iP 18 (.az .add (.t 8) (kI 1)),iM 8 18]))))))) (.seq (.ops [iP 4 (xI (-1))]) .ret)))
theorem abJ:Dk Tryz.prog 114 Tu [(.t 4)] 19:=aO (fn:=Tryz.f114) Tryz.func114 (by kernel_rfl) (by kernel_rfl) (by kernel_rfl)
def Tv:IC:=(.seq (.ops [⟨(some 2),none,(.p (.mv (.k (.Z (.string ⟨#[]⟩)))))⟩]) (.seq (.ops [iM 3 0,iH 4 (.call 175 [(.t 3)]),iM 2 4]) .ret))
theorem abK:Dk Tryz.prog 118 Tv [(.t 2)] 5:=aO (fn:=Tryz.f118) Tryz.func118 (by kernel_rfl) (by kernel_rfl) (by kernel_rfl)
def Tw:IC:=(.seq (.ops [⟨(some 2),none,(.p (.mv (.k (.Z (.string ⟨#[]⟩)))))⟩]) (.seq (.seq (.ops [iM 4 0,iP 5 (.fW (.t 4)),iP 6 (.az .eql (.t 5) (kI 0))]) (.cond (.t 6) (.seq (.ops [⟨(some 2),none,(.p (.mv (.k (.Z (.string ⟨#[]⟩)))))⟩]) .ret) .skip)) (.seq (.ops [iM 7 0,iP 8 (.fW (.t 7)),iH 9 (.lN 1 5 (.Z (.int .u8 0)) (.t 8) (.t 8)),iM 3 9]) (.seq (.ops [iM 10 3,iM 11 0,iH 12 (.gx .oy [(.t 10),(.t 11)])]) (.seq (.ops [iM 13 3,iP 14 (.fC 1 (.t 13) (kI 0)),iM 15 3,iP 16 (xL 15),iH 17 (.gx (.s9 5) [(.t 14),(.t 16)]),iM 2 17]) .ret)))))
theorem abL:Dk Tryz.prog 175 Tw [(.t 2)] 18:=aO (fn:=Tryz.f175) Tryz.func175 (by kernel_rfl) (by kernel_rfl) (by kernel_rfl)
def Zk:IC:=(.seq (.ops [iP 2 (.mv kF)]) (.seq (.seq (.ops [iM 4 0,⟨(some 5),none,(.p (.az .eql (.t 4) (.k (.Z (.string ⟨#[]⟩)))))⟩,iM 6 5,gM 7 6 .false 0,gP 8 6 .false (.fW (.t 7)),gP 9 6 .false (.az .gtr (.t 8) (kI 24)),iP 10 (.pick (.t 6) kT (.t 9)),iM 11 10,gM 12 11 .false 0,gP 13 11 .false (.fg (.t 12) (kI 0)),gH 14 11 .false (.call 72 [(.t 13)]),gP 15 11 .false (xN 14),iP 16 (.pick (.t 11) kT (.t 15)),iM 17 16,gH 18 17 .false (.call 73 []),gM 19 17 .false 0,gH 20 17 .false (yC 59 18 19),iP 21 (.pick (.t 17) kT (.t 20))]) (.cond (.t 21) (.seq (.ops [iP 2 (.mv kF)]) .ret) .skip)) (.seq (.seq (.ops [iM 22 0,iP 23 (.fW (.t 22)),iP 24 (xI 0)]) (.block 0 (.loop (.seq (.ops [iP 25 (xB .lss 24 23)]) (.seq (.cond (.t 25) .skip (.exit 0)) (.seq (.block 1 (.seq (.ops [iM 26 24,iM 3 26]) (.seq (.ops [iM 27 0,iM 28 3,iP 29 (.fg (.t 27) (.t 28)),iH 30 (.call 74 [(.t 29)]),iP 31 (xN 30)]) (.cond (.t 31) (.seq (.ops [iP 2 (.mv kF)]) .ret) .skip)))) (.ops [iP 32 (.az .add (.t 24) (kI 1)),iM 24 32]))))))) (.seq (.ops [iP 2 (.mv kT)]) .ret))))
theorem adA:Dk Tryz.prog 43 Zk [(.t 2)] 33:=aO (fn:=Tryz.f43) Tryz.func43 (by kernel_rfl) (by kernel_rfl) (by kernel_rfl)
def Zl:IC:=(.seq (.ops [iP 2 (.mv kF)]) (.seq (.ops [iM 3 0,iP 4 (.az .or (.t 3) (.k (.Z (.int .u8 32)))),iP 5 (.az .geq (.t 4) (.k (.Z (.int .u8 97)))),iM 6 5,gM 7 6 .true 0,gP 8 6 .true (.az .or (.t 7) (.k (.Z (.int .u8 32)))),gP 9 6 .true (.az .leq (.t 8) (.k (.Z (.int .u8 122)))),iP 10 (.pick (.t 6) (.t 9) kF),iM 11 10,gM 12 11 .false 0,gP 13 11 .false (.az .eql (.t 12) (.k (.Z (.int .u8 95)))),iP 14 (.pick (.t 11) kT (.t 13)),iM 2 14]) .ret))
theorem adB:Dk Tryz.prog 72 Zl [(.t 2)] 15:=aO (fn:=Tryz.f72) Tryz.func72 (by kernel_rfl) (by kernel_rfl) (by kernel_rfl)
def Zm:IC:=(.seq (.ops [iP 0 (.mv (.k aV))]) (.seq (.ops [⟨(some 1),none,(.h (.call 126 [(.k (.Z (.string ⟨#[102,117,110,99,32,118,97,114,32,105,102,32,101,108,115,101,32,119,104,105,108,101,32,114,101,116,117,114,110,32,112,114,105,110,116,32,116,114,117,101,32,102,97,108,115,101,32,108,101,110,32,114,101,97,100]⟩)))]))⟩,iM 0 1]) .ret))
theorem adC:Dk Tryz.prog 73 Zm [(.t 0)] 2:=aO (fn:=Tryz.f73) Tryz.func73 (by kernel_rfl) (by kernel_rfl) (by kernel_rfl)
def Zn:IC:=(.seq (.ops [iP 2 (.mv kF)]) (.seq (.ops [iM 3 0,iH 4 (.call 72 [(.t 3)]),iM 5 4,gM 6 5 .false 0,gP 7 5 .false (.az .geq (.t 6) (.k (.Z (.int .u8 48)))),gM 8 5 .false 7,gM 9 8 .true 0,gP 10 8 .true (.az .leq (.t 9) (.k (.Z (.int .u8 57)))),gP 11 5 .false (.pick (.t 8) (.t 10) kF),iP 12 (.pick (.t 5) kT (.t 11)),iM 2 12]) .ret))
theorem adD:Dk Tryz.prog 74 Zn [(.t 2)] 13:=aO (fn:=Tryz.f74) Tryz.func74 (by kernel_rfl) (by kernel_rfl) (by kernel_rfl)
def Kt:IC:=(.seq (.ops [iP 6 (.mv kF)]) (.seq (.ops [iM 8 0,iH 9 (.call 131 [(.t 8)]),iM 7 9]) (.seq (.seq (.ops [iM 10 2,iP 11 (.az .lss (.t 10) (kI 0)),iM 12 11,gM 13 12 .false 7,gP 14 12 .false (.az .geq (.t 13) (kI 0)),gM 15 12 .false 14,gM 16 15 .true 2,gM 17 15 .true 7,gP 18 15 .true (xB .geq 16 17),gP 19 12 .false (.pick (.t 15) (.t 18) kF),iP 20 (.pick (.t 12) kT (.t 19))]) (.cond (.t 20) (.seq (.ops [iP 6 (.mv kF)]) .ret) .skip)) (.seq (.seq (.ops [iM 21 0]) (.block 0 (.seq (.ops [iP 23 (.az .eql (.t 21) (.k (.Z (.int .u8 1)))),iM 22 23]) (.cond (.t 22) (.seq (.ops [iM 24 1,iP 25 (.az .eql (.t 24) (.k (.Z (.int .u8 2)))),iM 6 25]) .ret) (.seq (.ops [iP 27 (.az .eql (.t 21) (.k (.Z (.int .u8 2)))),iM 26 27]) (.cond (.t 26) (.seq (.ops [iM 28 2,iP 29 (.az .eql (.t 28) (kI 0)),iM 30 29,gM 31 30 .true 1,gP 32 30 .true (.az .eql (.t 31) (.k (.Z (.int .u8 3)))),iP 33 (.pick (.t 30) (.t 32) kF),iM 34 33,gM 35 34 .false 2,gP 36 34 .false (.az .eql (.t 35) (kI 1)),gM 37 34 .false 36,gM 38 37 .true 1,gP 39 37 .true (.az .eql (.t 38) (.k (.Z (.int .u8 5)))),gP 40 34 .false (.pick (.t 37) (.t 39) kF),iP 41 (.pick (.t 34) kT (.t 40)),iM 6 41]) .ret) (.seq (.ops [iP 43 (.az .eql (.t 21) (.k (.Z (.int .u8 3)))),iM 42 43]) (.cond (.t 42) (.seq (.ops [iM 44 1,iP 45 (.az .eql (.t 44) (.k (.Z (.int .u8 4)))),iM 6 45]) .ret) (.seq (.ops [iP 47 (.az .eql (.t 21) (.k (.Z (.int .u8 5)))),iM 46 47]) (.cond (.t 46) (.seq (.ops [iM 48 1,iH 49 (.call 183 [(.t 48)]),iM 6 49]) .ret) (.seq (.ops [iP 51 (.az .eql (.t 21) (.k (.Z (.int .u8 7)))),iM 50 51]) (.cond (.t 50) (.seq (.ops [iM 52 2,iP 53 (.az .eql (.t 52) (kI 0)),iM 54 53,gM 55 54 .true 1,gP 56 54 .true (.az .eql (.t 55) (.k (.Z (.int .u8 22)))),gM 57 54 .true 56,gM 58 57 .false 1,gP 59 57 .false (.az .eql (.t 58) (.k (.Z (.int .u8 26)))),gP 60 54 .true (.pick (.t 57) kT (.t 59)),iP 61 (.pick (.t 54) (.t 60) kF),iM 62 61,gM 63 62 .false 2,gP 64 62 .false (.az .eql (.t 63) (kI 1)),gM 65 62 .false 64,gM 66 65 .true 1,gH 67 65 .true (.call 130 [(.t 66)]),gP 68 62 .false (.pick (.t 65) (.t 67) kF),iP 69 (.pick (.t 62) kT (.t 68)),iM 6 69]) .ret) (.seq (.seq (.ops [iP 71 (.az .eql (.t 21) (.k (.Z (.int .u8 8)))),iM 70 71]) (.cond (.t 70) .skip (.ops [iP 72 (.az .eql (.t 21) (.k (.Z (.int .u8 9)))),iM 70 72]))) (.cond (.t 70) (.seq (.ops [iM 73 2,iP 74 (.az .eql (.t 73) (kI 0)),iM 75 74,gM 76 75 .true 1,gH 77 75 .true (.call 130 [(.t 76)]),iP 78 (.pick (.t 75) (.t 77) kF),iM 79 78,gM 80 79 .false 2,gP 81 79 .false (.az .gtr (.t 80) (kI 0)),gM 82 79 .false 81,gM 83 82 .true 1,gP 84 82 .true (.az .eql (.t 83) (.k (.Z (.int .u8 5)))),gP 85 79 .false (.pick (.t 82) (.t 84) kF),iP 86 (.pick (.t 79) kT (.t 85)),iM 6 86]) .ret) (.seq (.ops [iP 88 (.az .eql (.t 21) (.k (.Z (.int .u8 12)))),iM 87 88]) (.cond (.t 87) (.seq (.ops [iM 89 1,iP 90 (.az .eql (.t 89) (.k (.Z (.int .u8 25)))),iM 6 90]) .ret) .skip)))))))))))))))) (.seq (.ops [iM 91 1,iH 92 (.call 130 [(.t 91)]),iM 6 92]) .ret)))))
theorem Tx:Dk Tryz.prog 133 Kt [(.t 6)] 93:=aO (fn:=Tryz.f133) Tryz.func133 (by kernel_rfl) (by kernel_rfl) (by kernel_rfl)
def Ty:IC:=(.seq (.ops [iH 1 (.box 4 25 (.t 0)),iP 2 (.mv kF)]) (.seq (.ops [iH 3 (yA 4 1),iH 4 (.call 77 [(.t 3),(kI 40)]),iM 2 4]) .ret))
theorem Zo:Dk Tryz.prog 46 Ty [(.t 2)] 5:=aO (fn:=Tryz.f46) Tryz.func46 (by kernel_rfl) (by kernel_rfl) (by kernel_rfl)
def Ku:IC:=(.seq (.ops [iP 2 (xI 0)]) (.seq (.seq (.ops [iM 3 0]) (.block 0 (.seq (.seq (.ops [iP 5 (.az .eql (.t 3) (.k (.Z (.int .u8 1)))),iM 4 5]) (.cond (.t 4) .skip (.seq (.ops [iP 6 (.az .eql (.t 3) (.k (.Z (.int .u8 3)))),iM 4 6]) (.cond (.t 4) .skip (.seq (.ops [iP 7 (.az .eql (.t 3) (.k (.Z (.int .u8 5)))),iM 4 7]) (.cond (.t 4) .skip (.ops [iP 8 (.az .eql (.t 3) (.k (.Z (.int .u8 25)))),iM 4 8]))))))) (.cond (.t 4) (.seq (.ops [iP 2 (xI (-1))]) .ret) (.seq (.seq (.ops [iP 10 (.az .eql (.t 3) (.k (.Z (.int .u8 2)))),iM 9 10]) (.cond (.t 9) .skip (.seq (.ops [iP 11 (.az .eql (.t 3) (.k (.Z (.int .u8 7)))),iM 9 11]) (.cond (.t 9) .skip (.seq (.ops [iP 12 (.az .eql (.t 3) (.k (.Z (.int .u8 9)))),iM 9 12]) (.cond (.t 9) .skip (.seq (.ops [iP 13 (.az .eql (.t 3) (.k (.Z (.int .u8 24)))),iM 9 13]) (.cond (.t 9) .skip (.seq (.ops [iP 14 (.az .eql (.t 3) (.k (.Z (.int .u8 26)))),iM 9 14]) (.cond (.t 9) .skip (.ops [iP 15 (.az .eql (.t 3) (.k (.Z (.int .u8 27)))),iM 9 15]))))))))))) (.cond (.t 9) (.seq (.ops [iP 2 (xI 2)]) .ret) (.seq (.ops [iP 17 (.az .eql (.t 3) (.k (.Z (.int .u8 8)))),iM 16 17]) (.cond (.t 16) (.seq (.ops [iP 2 (xI 3)]) .ret) (.seq (.seq (.ops [iP 19 (.az .eql (.t 3) (.k (.Z (.int .u8 6)))),iM 18 19]) (.cond (.t 18) .skip (.seq (.ops [iP 20 (.az .eql (.t 3) (.k (.Z (.int .u8 10)))),iM 18 20]) (.cond (.t 18) .skip (.seq (.ops [iP 21 (.az .eql (.t 3) (.k (.Z (.int .u8 11)))),iM 18 21]) (.cond (.t 18) .skip (.seq (.ops [iP 22 (.az .eql (.t 3) (.k (.Z (.int .u8 23)))),iM 18 22]) (.cond (.t 18) .skip (.seq (.ops [iP 23 (.az .eql (.t 3) (.k (.Z (.int .u8 28)))),iM 18 23]) (.cond (.t 18) .skip (.ops [iP 24 (.az .eql (.t 3) (.k (.Z (.int .u8 12)))),iM 18 24]))))))))))) (.cond (.t 18) (.seq (.ops [iP 2 (xI 1)]) .ret) .skip)))))))))) (.seq (.ops [iP 2 (xI 0)]) .ret)))
theorem Tz:Dk Tryz.prog 131 Ku [(.t 2)] 25:=aO (fn:=Tryz.f131) Tryz.func131 (by kernel_rfl) (by kernel_rfl) (by kernel_rfl)
def Kv:IC:=(.seq (.ops [iP 2 (.mv kF)]) (.seq (.ops [iM 3 0,iP 4 (.az .geq (.t 3) (.k (.Z (.int .u8 6)))),iM 5 4,gM 6 5 .true 0,gP 7 5 .true (.az .leq (.t 6) (.k (.Z (.int .u8 12)))),iP 8 (.pick (.t 5) (.t 7) kF),iM 9 8,gM 10 9 .false 0,gP 11 9 .false (.az .eql (.t 10) (.k (.Z (.int .u8 5)))),iP 12 (.pick (.t 9) kT (.t 11)),iM 2 12]) .ret))
theorem TA:Dk Tryz.prog 183 Kv [(.t 2)] 13:=aO (fn:=Tryz.f183) Tryz.func183 (by kernel_rfl) (by kernel_rfl) (by kernel_rfl)
def Kw:IC:=(.seq (.ops [iP 2 (.mv kF)]) (.seq (.ops [iM 3 0,iP 4 (.az .geq (.t 3) (.k (.Z (.int .u8 20)))),iM 5 4,gM 6 5 .true 0,gP 7 5 .true (.az .leq (.t 6) (.k (.Z (.int .u8 29)))),iP 8 (.pick (.t 5) (.t 7) kF),iM 2 8]) .ret))
theorem TB:Dk Tryz.prog 130 Kw [(.t 2)] 9:=aO (fn:=Tryz.f130) Tryz.func130 (by kernel_rfl) (by kernel_rfl) (by kernel_rfl)
def TC:IC:=(.seq (.ops [iH 2 (.box 4 25 (.t 0)),iP 4 (.mv kF)]) (.seq (.ops [iP 9 (.af 0 (.t 2)),iH 10 (yD 1 9),iP 11 (.az .geq (.t 10) (.k (.Z (.int .u8 1)))),iM 12 11,gP 13 12 .true (.af 0 (.t 2)),gH 14 12 .true (yD 1 13),gP 15 12 .true (.az .leq (.t 14) (.k (.Z (.int .u8 12)))),iP 16 (.pick (.t 12) (.t 15) kF),iM 17 16,gP 18 17 .false (.af 0 (.t 2)),gH 19 17 .false (yD 1 18),gH 20 17 .false (.call 130 [(.t 19)]),iP 21 (.pick (.t 17) kT (.t 20)),iM 5 21]) (.seq (.ops [iP 22 (.af 2 (.t 2)),iH 23 (yD 1 22),iP 24 (.az .eql (.t 23) (kI 0)),iM 25 24,gP 26 25 .false (.af 0 (.t 2)),gH 27 25 .false (yD 1 26),gP 28 25 .false (.az .eql (.t 27) (.k (.Z (.int .u8 20)))),gM 29 25 .false 28,gP 30 29 .true (.af 2 (.t 2)),gH 31 29 .true (yD 1 30),gP 32 29 .true (.az .gtr (.t 31) (kI 0)),gP 33 25 .false (.pick (.t 29) (.t 32) kF),iP 34 (.pick (.t 25) kT (.t 33)),iM 35 34,gP 36 35 .false (.af 0 (.t 2)),gH 37 35 .false (yD 1 36),gP 38 35 .false (.az .eql (.t 37) (.k (.Z (.int .u8 21)))),gM 39 35 .false 38,gP 40 39 .true (.af 2 (.t 2)),gH 41 39 .true (yD 1 40),gP 42 39 .true (.az .eql (.t 41) (kI 1)),gP 43 35 .false (.pick (.t 39) (.t 42) kF),iP 44 (.pick (.t 35) kT (.t 43)),iM 6 44]) (.seq (.ops [iP 45 (.af 0 (.t 2)),iH 46 (yD 1 45),iH 47 (.call 131 [(.t 46)]),iM 7 47]) (.seq (.seq (.ops [iM 48 1,iP 49 (.az .lss (.t 48) (kI 1)),iM 50 49,gM 51 50 .false 5,gP 52 50 .false (xN 51),iP 53 (.pick (.t 50) kT (.t 52)),iM 54 53,gM 55 54 .false 6,gP 56 54 .false (xN 55),iP 57 (.pick (.t 54) kT (.t 56)),iM 58 57,gH 59 58 .false (yA 4 2),gH 60 58 .false (.call 132 [(.t 59)]),gP 61 58 .false (xN 60),iP 62 (.pick (.t 58) kT (.t 61)),iM 63 62,gM 64 63 .false 7,gP 65 63 .false (.az .geq (.t 64) (kI 0)),gM 66 63 .false 65,gP 67 66 .true (.af 3 (.t 2)),gH 68 66 .true (yD 1 67),gP 69 66 .true (xL 68),gM 70 66 .true 7,gP 71 66 .true (xB .neq 69 70),gP 72 63 .false (.pick (.t 66) (.t 71) kF),iP 73 (.pick (.t 63) kT (.t 72))]) (.cond (.t 73) (.seq (.ops [iP 4 (.mv kF)]) .ret) .skip)) (.seq (.seq (.ops [iP 8 (xI 0)]) (.block 0 (.loop (.seq (.seq (.ops [iM 74 8,iP 75 (.af 3 (.t 2)),iH 76 (yD 1 75),iP 77 (xL 76),iP 78 (xB .lss 74 77)]) (.cond (.t 78) .skip (.exit 0))) (.seq (.block 1 (.seq (.cH [iP 81 (.af 0 (.t 2)),iH 82 (yD 1 81),iP 83 (.af 3 (.t 2)),iH 84 (yD 1 83),iM 85 8,iP 86 (xA 4 84 85),iP 87 (.af 0 (.t 86)),iH 88 (yD 1 87),iM 89 8,iH 90 (.call 133 [(.t 82),(.t 88),(.t 89)]),iP 91 (xN 90),iM 92 91,gP 93 92 .false (.af 3 (.t 2)),gH 94 92 .false (yD 1 93),gM 95 92 .false 8,gP 96 92 .false (xA 4 94 95),gH 97 92 .false (yA 4 96),gM 98 92 .false 1,gP 99 92 .false (.az .sub (.t 98) (kI 1)),gH 100 92 .false (yC 77 97 99),gP 101 92 .false (xN 100),iP 102 (.pick (.t 92) kT (.t 101))] [[],[0],[],[2],[],[3,2,4],[5,3,2,4],[6,5,3,2,4],[],[1,0,7,6,5,3,2,4,8],[9,1,0,7,6,5,3,2,4,8],[10,9,1,0,7,6,5,3,2,4,8],[11,10,9,1,0,7,6,5,3,2,4,8],[12,11,10,9,1,0,7,6,5,3,2,4,8],[11,10,9,1,0,7,6,5,3,2,4,8],[13,12,11,10,9,1,0,7,6,5,3,2,4,8,14],[15,13,12,11,10,9,1,0,7,6,5,3,2,4,8,14],[11,10,9,1,0,7,6,5,3,2,4,8],[17,11,10,9,1,0,7,6,5,3,2,4,8],[16,15,13,12,11,10,9,1,0,7,6,5,3,2,4,8,14,18,17],[19,16,15,13,12,11,10,9,1,0,7,6,5,3,2,4,8,14,18,17],[11,10,9,1,0,7,6,5,3,2,4,8,20,19,16,15,13,12,14,18,17]]) (.cond (.t 102) (.seq (.ops [iP 4 (.mv kF)]) .ret) .skip))) (.ops [iM 79 8,iP 80 (.az .add (.t 79) (kI 1)),iM 8 80])))))) (.seq (.ops [iP 103 (.af 0 (.t 2)),iH 104 (yD 1 103),iP 105 (.az .neq (.t 104) (.k (.Z (.int .u8 7)))),iM 106 105,gP 107 106 .false (.af 3 (.t 2)),gH 108 106 .false (yD 1 107),gP 109 106 .false (.fC 4 (.t 108) (kI 0)),gP 110 106 .false (.af 0 (.t 109)),gH 111 106 .false (yD 1 110),gP 112 106 .false (.az .neq (.t 111) (.k (.Z (.int .u8 26)))),iP 113 (.pick (.t 106) kT (.t 112)),iM 114 113,gP 115 114 .false (.af 3 (.t 2)),gH 116 114 .false (yD 1 115),gP 117 114 .false (.fC 4 (.t 116) (kI 0)),gP 118 114 .false (.af 3 (.t 117)),gH 119 114 .false (yD 1 118),gP 120 114 .false (.fC 4 (.t 119) (kI 0)),gP 121 114 .false (.af 0 (.t 120)),gH 122 114 .false (yD 1 121),gP 123 114 .false (.az .eql (.t 122) (.k (.Z (.int .u8 22)))),iP 124 (.pick (.t 114) kT (.t 123)),iM 4 124]) .ret)))))))
theorem Zp:Dk Tryz.prog 77 TC [(.t 4)] 125:=aO (fn:=Tryz.f77) Tryz.func77 (by kernel_rfl) (by kernel_rfl) (by kernel_rfl)
def TD:IC:=(.seq (.ops [iH 1 (.box 4 25 (.t 0)),iP 2 (.mv kF)]) (.seq (.seq (.ops [iP 5 (.af 0 (.t 1)),iH 6 (yD 1 5),iH 7 (.call 182 [(.t 6)])]) (.cond (.t 7) (.seq (.ops [iP 8 (.af 1 (.t 1)),iH 9 (yD 1 8),iH 10 (.call 47 [(.t 9)]),iM 2 10]) .ret) .skip)) (.seq (.seq (.ops [iP 11 (.af 0 (.t 1)),iH 12 (yD 1 11),iP 13 (.az .eql (.t 12) (.k (.Z (.int .u8 23))))]) (.cond (.t 13) (.seq (.ops [iP 14 (.af 1 (.t 1)),iH 15 (yD 1 14),⟨(some 16),none,(.p (.az .eql (.t 15) (.k (.Z (.string ⟨#[45]⟩)))))⟩,iM 17 16,gP 18 17 .false (.af 1 (.t 1)),gH 19 17 .false (yD 1 18),⟨(some 20),(some (17,.false)),(.p (.az .eql (.t 19) (.k (.Z (.string ⟨#[33]⟩)))))⟩,iP 21 (.pick (.t 17) kT (.t 20)),iM 2 21]) .ret) .skip)) (.seq (.seq (.ops [iP 22 (.af 0 (.t 1)),iH 23 (yD 1 22),iP 24 (.az .neq (.t 23) (.k (.Z (.int .u8 24))))]) (.cond (.t 24) (.seq (.ops [iP 25 (.af 1 (.t 1)),iH 26 (yD 1 25),⟨(some 27),none,(.p (.az .eql (.t 26) (.k (.Z (.string ⟨#[]⟩)))))⟩,iM 2 27]) .ret) .skip)) (.seq (.ops [⟨(some 28),none,(.h (.dK 1 9 (.Z (.string ⟨#[]⟩)) 13 [(0,(.k (.Z (.string ⟨#[124,124]⟩)))),(1,(.k (.Z (.string ⟨#[38,38]⟩)))),(2,(.k (.Z (.string ⟨#[61,61]⟩)))),(3,(.k (.Z (.string ⟨#[33,61]⟩)))),(4,(.k (.Z (.string ⟨#[60]⟩)))),(5,(.k (.Z (.string ⟨#[60,61]⟩)))),(6,(.k (.Z (.string ⟨#[62]⟩)))),(7,(.k (.Z (.string ⟨#[62,61]⟩)))),(8,(.k (.Z (.string ⟨#[43]⟩)))),(9,(.k (.Z (.string ⟨#[45]⟩)))),(10,(.k (.Z (.string ⟨#[42]⟩)))),(11,(.k (.Z (.string ⟨#[47]⟩)))),(12,(.k (.Z (.string ⟨#[37]⟩))))]))⟩,iM 3 28]) (.seq (.seq (.ops [iP 4 (xI 0)]) (.block 0 (.loop (.seq (.seq (.ops [iM 29 4,iM 30 3,iP 31 (xL 30),iP 32 (xB .lss 29 31)]) (.cond (.t 32) .skip (.exit 0))) (.seq (.block 1 (.seq (.cH [iP 35 (.af 1 (.t 1)),iH 36 (yD 1 35),iM 37 3,iM 38 4,iP 39 (xA 1 37 38),iH 40 (yD 1 39),iP 41 (xB .eql 36 40)] [[],[0],[],[],[2,3],[4,2,3],[1,0,5,4,2,3]]) (.cond (.t 41) (.seq (.ops [iP 2 (.mv kT)]) .ret) .skip))) (.ops [iM 33 4,iP 34 (.az .add (.t 33) (kI 1)),iM 4 34])))))) (.seq (.ops [iP 2 (.mv kF)]) .ret)))))))
theorem abM:Dk Tryz.prog 132 TD [(.t 2)] 42:=aO (fn:=Tryz.f132) Tryz.func132 (by kernel_rfl) (by kernel_rfl) (by kernel_rfl)
def Kx:IC:=(.seq (.ops [iP 2 (.mv kF)]) (.seq (.ops [iM 3 0,iP 4 (.az .eql (.t 3) (.k (.Z (.int .u8 2)))),iM 5 4,gM 6 5 .false 0,gP 7 5 .false (.az .eql (.t 6) (.k (.Z (.int .u8 4)))),iP 8 (.pick (.t 5) kT (.t 7)),iM 9 8,gM 10 9 .false 0,gP 11 9 .false (.az .eql (.t 10) (.k (.Z (.int .u8 6)))),iP 12 (.pick (.t 9) kT (.t 11)),iM 13 12,gM 14 13 .false 0,gP 15 13 .false (.az .eql (.t 14) (.k (.Z (.int .u8 22)))),iP 16 (.pick (.t 13) kT (.t 15)),iM 17 16,gM 18 17 .false 0,gP 19 17 .false (.az .eql (.t 18) (.k (.Z (.int .u8 25)))),iP 20 (.pick (.t 17) kT (.t 19)),iM 2 20]) .ret))
theorem TE:Dk Tryz.prog 182 Kx [(.t 2)] 21:=aO (fn:=Tryz.f182) Tryz.func182 (by kernel_rfl) (by kernel_rfl) (by kernel_rfl)
def TF:IC:=(.seq (.ops [iP 2 (.mv kF)]) (.seq (.seq (.ops [iM 4 0,⟨(some 5),none,(.p (.az .eql (.t 4) (.k (.Z (.string ⟨#[]⟩)))))⟩,iM 6 5,gM 7 6 .false 0,gP 8 6 .false (.fW (.t 7)),gP 9 6 .false (.az .gtr (.t 8) (kI 24)),iP 10 (.pick (.t 6) kT (.t 9)),iM 11 10,gM 12 11 .false 0,gP 13 11 .false (.fg (.t 12) (kI 0)),gH 14 11 .false (.call 78 [(.t 13)]),gP 15 11 .false (xN 14),iP 16 (.pick (.t 11) kT (.t 15)),iM 17 16,gM 18 17 .false 0,gH 19 17 .false (.call 80 []),gH 20 17 .false (yC 79 18 19),iP 21 (.pick (.t 17) kT (.t 20))]) (.cond (.t 21) (.seq (.ops [iP 2 (.mv kF)]) .ret) .skip)) (.seq (.seq (.ops [iP 3 (xI 0)]) (.block 0 (.loop (.seq (.seq (.ops [iM 22 3,iM 23 0,iP 24 (.fW (.t 23)),iP 25 (xB .lss 22 24)]) (.cond (.t 25) .skip (.exit 0))) (.seq (.block 1 (.seq (.ops [iM 28 0,iM 29 3,iP 30 (.fg (.t 28) (.t 29)),iH 31 (.call 78 [(.t 30)]),iP 32 (xN 31),iM 33 32,gM 34 33 .true 0,gM 35 33 .true 3,gP 36 33 .true (.fg (.t 34) (.t 35)),gH 37 33 .true (.call 81 [(.t 36)]),gP 38 33 .true (xN 37),iP 39 (.pick (.t 33) (.t 38) kF)]) (.cond (.t 39) (.seq (.ops [iP 2 (.mv kF)]) .ret) .skip))) (.ops [iM 26 3,iP 27 (.az .add (.t 26) (kI 1)),iM 3 27])))))) (.seq (.ops [iP 2 (.mv kT)]) .ret))))
theorem Zq:Dk Tryz.prog 47 TF [(.t 2)] 40:=aO (fn:=Tryz.f47) Tryz.func47 (by kernel_rfl) (by kernel_rfl) (by kernel_rfl)
def TG:IC:=(.seq (.ops [iP 2 (.mv kF)]) (.seq (.ops [iM 3 0,iP 4 (.az .geq (.t 3) (.k (.Z (.int .u8 97)))),iM 5 4,gM 6 5 .true 0,gP 7 5 .true (.az .leq (.t 6) (.k (.Z (.int .u8 122)))),iP 8 (.pick (.t 5) (.t 7) kF),iM 9 8,gM 10 9 .false 0,gP 11 9 .false (.az .geq (.t 10) (.k (.Z (.int .u8 65)))),gM 12 9 .false 11,gM 13 12 .true 0,gP 14 12 .true (.az .leq (.t 13) (.k (.Z (.int .u8 90)))),gP 15 9 .false (.pick (.t 12) (.t 14) kF),iP 16 (.pick (.t 9) kT (.t 15)),iM 17 16,gM 18 17 .false 0,gP 19 17 .false (.az .eql (.t 18) (.k (.Z (.int .u8 95)))),iP 20 (.pick (.t 17) kT (.t 19)),iM 2 20]) .ret))
theorem Zr:Dk Tryz.prog 78 TG [(.t 2)] 21:=aO (fn:=Tryz.f78) Tryz.func78 (by kernel_rfl) (by kernel_rfl) (by kernel_rfl)
def TH:IC:=(.seq (.ops [iP 4 (.mv kF)]) (.seq (.seq (.ops [iP 5 (xI 0)]) (.block 0 (.loop (.seq (.seq (.ops [iM 6 5,iM 7 1,iP 8 (xL 7),iP 9 (xB .lss 6 8)]) (.cond (.t 9) .skip (.exit 0))) (.seq (.block 1 (.seq (.ops [iM 12 1,iM 13 5,iP 14 (xA 1 12 13),iH 15 (yD 1 14),iM 16 0,iP 17 (xB .eql 15 16)]) (.cond (.t 17) (.seq (.ops [iP 4 (.mv kT)]) .ret) .skip))) (.ops [iM 10 5,iP 11 (.az .add (.t 10) (kI 1)),iM 5 11])))))) (.seq (.ops [iP 4 (.mv kF)]) .ret)))
theorem Zs:Dk Tryz.prog 79 TH [(.t 4)] 18:=aO (fn:=Tryz.f79) Tryz.func79 (by kernel_rfl) (by kernel_rfl) (by kernel_rfl)
def Zt:IC:=(.seq (.ops [iP 0 (.mv (.k aV))]) (.seq (.ops [⟨(some 1),none,(.h (.dK 1 9 (.Z (.string ⟨#[]⟩)) 11 [(0,(.k (.Z (.string ⟨#[102,117,110,99]⟩)))),(1,(.k (.Z (.string ⟨#[118,97,114]⟩)))),(2,(.k (.Z (.string ⟨#[105,102]⟩)))),(3,(.k (.Z (.string ⟨#[101,108,115,101]⟩)))),(4,(.k (.Z (.string ⟨#[119,104,105,108,101]⟩)))),(5,(.k (.Z (.string ⟨#[114,101,116,117,114,110]⟩)))),(6,(.k (.Z (.string ⟨#[112,114,105,110,116]⟩)))),(7,(.k (.Z (.string ⟨#[116,114,117,101]⟩)))),(8,(.k (.Z (.string ⟨#[102,97,108,115,101]⟩)))),(9,(.k (.Z (.string ⟨#[108,101,110]⟩)))),(10,(.k (.Z (.string ⟨#[114,101,97,100]⟩))))]))⟩,iM 0 1]) .ret))
theorem adE:Dk Tryz.prog 80 Zt [(.t 0)] 2:=aO (fn:=Tryz.f80) Tryz.func80 (by kernel_rfl) (by kernel_rfl) (by kernel_rfl)
def TI:IC:=(.seq (.ops [iP 2 (.mv kF)]) (.seq (.ops [iM 3 0,iP 4 (.az .geq (.t 3) (.k (.Z (.int .u8 48)))),iM 5 4,gM 6 5 .true 0,gP 7 5 .true (.az .leq (.t 6) (.k (.Z (.int .u8 57)))),iP 8 (.pick (.t 5) (.t 7) kF),iM 2 8]) .ret))
theorem Zu:Dk Tryz.prog 81 TI [(.t 2)] 9:=aO (fn:=Tryz.f81) Tryz.func81 (by kernel_rfl) (by kernel_rfl) (by kernel_rfl)
inductive Nd where
 | mk (kind:Int)(text:ByteArray)(num:Int)(kids:List Nd)
def Nd.kind:Nd→Int | ⟨k,_,_,_⟩=>k
def Nd.text:Nd→ByteArray | ⟨_,s,_,_⟩=>s
def Nd.num:Nd→Int | ⟨_,_,n,_⟩=>n
def Nd.kids:Nd→List Nd | ⟨_,_,_,l⟩=>l
theorem Nd.eta(t:Nd):t=⟨t.kind,t.text,t.num,t.kids⟩:=by cases t;rfl
theorem Nd.ext'{a b:Nd}(h1:a.kind=b.kind)(h2:a.text=b.text)(h3:a.num=b.num)(h4:a.kids=b.kids):a=b:=by
 cases a;cases b
 simp only[Nd.kind,Nd.text,Nd.num,Nd.kids] at h1 h2 h3 h4
 subst h1 h2 h3 h4
 rfl
mutual
def Nd.size:Nd→Nat
 | ⟨_,_,_,l⟩=>1+Nd.aw l
def Nd.aw:List Nd→Nat
 | []=>0
 | t::r=>t.size+Nd.aw r
end
theorem Nd.size_eq(t:Nd):t.size=1+Nd.aw t.kids:=by cases t;simp[Nd.size,Nd.kids]
theorem Nd.size_pos(t:Nd):0<t.size:=by rw[Nd.size_eq];omega
theorem Nd.eN{l:List Nd}{t:Nd}(h:t∈l):t.size≤Nd.aw l:=by
 induction l with
 | nil=>cases h
 | cons x r ih =>
  rcases List.mem_cons.1 h with rfl | h
  ·simp only[Nd.aw];omega
  ·have:=ih h;simp only[Nd.aw];omega
theorem Nd.qd{t k:Nd}(h:k∈t.kids):k.size<t.size:=by
 have:=Nd.eN h
 rw[Nd.size_eq t]
 omega
theorem Nd.tj(a b:List Nd):Nd.aw (a++b)=Nd.aw a+Nd.aw b:=by
 induction a with
 | nil=>simp[Nd.aw]
 | cons x r ih=>simp only[List.cons_append,Nd.aw,ih];omega
theorem Nd.ind{p:Nd→Prop}(h:∀t,(∀k∈t.kids,p k)→p t)(t:Nd):p t:=by
 have key:∀n:Nat,∀t:Nd,t.size≤n→p t:=by
  intro n
  induction n with
  | zero=>intro t ht;have:=t.size_pos;omega
  | succ n ih=>intro t ht;exact h t fun k hk=>ih k (by have:=Nd.qd hk;omega)
 exact key _ t (Nat.le_refl _)
mutual
def fH:Nd→AV
 | ⟨k,s,n,l⟩=>.agg [.Z (.int .u8 k),.Z (.string s),.Z (.int .i64 n),.an 4 (bC l) none]
def bC:List Nd→List AV
 | []=>[]
 | t::r=>fH t::bC r
end
theorem ki(t:Nd):fH t = .agg [.Z (.int .u8 t.kind),.Z (.string t.text),.Z (.int .i64 t.num),.an 4 (bC t.kids) none]:=by cases t;simp[fH,Nd.kind,Nd.text,Nd.num,Nd.kids]
theorem vt(l:List Nd):bC l=l.map fH:=by
 induction l with
 | nil=>rfl
 | cons x r ih=>simp[bC,ih]
theorem aF(l:List Nd):(bC l).length=l.length:=by simp[vt]
theorem Pc(t:Nd)(l:List Nd):bC (t::l)=fH t::bC l:=by simp[bC]
def Nd.none:Nd:=⟨0,⟨#[]⟩,0,[]⟩
def aC(l:List Nd)(k:Nat):Nd:=l.getD k Nd.none
theorem gv{l:List Nd}{k:Nat}(h:k<l.length):aC l k=l[k]:=by simp[aC,List.getD,h]
theorem e8{l:List Nd}{k:Nat}(h:k<l.length):aC l k∈l:=by rw[gv h];exact List.getElem_mem _
theorem Pd{l:List Nd}{k:Nat}(h:k<l.length):(bC l).getD k .top=fH (aC l k):=by simp[vt,aC,List.getD,h]
theorem dm{l:List Nd}{k:Nat}(h:k<l.length):(bC l).getD k .top = .agg [.Z (.int .u8 (aC l k).kind),.Z (.string (aC l k).text),.Z (.int .i64 (aC l k).num),.an 4 (bC (aC l k).kids) none]:=by rw[Pd h,ki]
def dF(t:Nd)(ro:Option (List AV)):AV:=.agg [.Z (.int .u8 t.kind),.Z (.string t.text),.Z (.int .i64 t.num),.an 4 (bC t.kids) ro]
theorem aM(t:Nd)(ro:Option (List AV)):dF t ro = .agg [.Z (.int .u8 t.kind),.Z (.string t.text),.Z (.int .i64 t.num),.an 4 (bC t.kids) ro]:=rfl
theorem jN(t:Nd):dF t none=fH t:=(ki t).symm
mutual
def lj:Nd→Nd→Bool
 | ⟨k,s,n,l⟩,⟨k',s',n',l'⟩=>decide (k=k') && decide (s=s') && decide (n=n') && l9 l l'
def l9:List Nd→List Nd→Bool
 | [],[]=>true
 | a::r,b::q=>lj a b && l9 r q
 | _,_=>false
end
theorem CG(l:List Nd)(ih:∀a∈l,∀b,lj a b=true↔a=b):∀m,l9 l m=true↔l=m:=by
 induction l with
 | nil=>intro m;cases m<;>simp[l9]
 | cons x r fI =>
  intro m
  cases m with
  | nil=>simp[l9]
  | cons y q =>
   simp only[l9,Bool.and_eq_true,List.cons.injEq]
   rw[ih x (by simp),fI (fun a ha=>ih a (by simp[ha]))]
theorem tV(a b:Nd):lj a b=true↔a=b:=by
 revert b
 induction a using Nd.ind with
 | _ a ih =>
  intro b
  cases a with
  | mk k s n l =>
   cases b with
   | mk k' s' n' l' =>
    simp only[lj,Bool.and_eq_true,decide_eq_true_eq,Nd.mk.injEq]
    rw[CG l ih]
    constructor
    ·rintro ⟨⟨⟨a,b⟩,c⟩,d⟩;exact ⟨a,b,c,d⟩
    ·rintro ⟨a,b,c,d⟩;exact ⟨⟨⟨a,b⟩,c⟩,d⟩
theorem tW(l m:List Nd):l9 l m=true↔l=m:=CG l (fun a _=>tV a) m
theorem rP(a:Nd):lj a a=true:=(tV a a).2 rfl
theorem Pe(a b:Nd):lj a b=(decide (a.kind=b.kind) && decide (a.text=b.text) && decide (a.num=b.num) && l9 a.kids b.kids):=by cases a;cases b;rfl
def gL:List (Int×(List Int×Bool)):=[(1,[2],true),(2,[3,5],false),(3,[4],true),(4,[],false),(5,[201],true),(6,[200],false),(7,[202,200],false),(8,[200,5,5],false),(9,[200,5],false),(10,[200],false),(11,[200],false),(12,[25],false),(20,[],false),(21,[],false),(22,[],false),(23,[200],false),(24,[200,200],false),(25,[200],true),(26,[200,200],false),(27,[200,200],false),(28,[200],false),(29,[],false)]
def kj(k:Int):Option (List Int×Bool):=jg k gL
def dY(k:Int):Bool:=decide (20≤k) && decide (k≤29)
def mb(k:Int):Bool:=decide (6≤k) && decide (k≤12) || decide (k=5)
def vy(k f:Int):Bool:=if f=200 then dY k else if f=201 then mb k else if f=202 then decide (k=22) || decide (k=26) else decide (k=f)
def tX(p k at_:Int):Bool :=
 if at_<0 then false
 else if ((kj p).getD ([],false)).2 then vy k (((kj p).getD ([],false)).1.getD 0 0)
 else decide (at_<((kj p).getD ([],false)).1.length) && vy k (((kj p).getD ([],false)).1.getD at_.toNat 0)
def eT(k:Int):Bool:=decide (k=2) || decide (k=4) || decide (k=6) || decide (k=22) || decide (k=25)
def dZ(k:Int):Int :=
 if k=1∨k=3∨k=5∨k=25 then -1
 else if k=2∨k=7∨k=9∨k=24∨k=26∨k=27 then 2
 else if k=8 then 3
 else if k=6∨k=10∨k=11∨k=23∨k=28∨k=12 then 1
 else 0
def dB(p k at_:Int):Bool :=
 if at_<0∨(dZ p≥0∧at_≥dZ p) then false
 else if p=1 then decide (k=2)
 else if p=2 then decide (at_=0∧k=3) || decide (at_=1∧k=5)
 else if p=3 then decide (k=4)
 else if p=5 then mb k
 else if p=7 then decide (at_=0∧(k=22∨k=26)) || (decide (at_=1) && dY k)
 else if p=8∨p=9 then (decide (at_=0) && dY k) || decide (at_ > 0∧k=5)
 else if p=12 then decide (k=25)
 else dY k
theorem rQ(p:Int):(kj p=none∧∀x∈gL,p≠x.1)∨p∈gL.map (·.1):=by
 by_cases h:p∈gL.map (·.1)
 ·exact .inr h
 ·refine .inl ⟨?_,fun x hx e=>h (List.mem_map.2 ⟨x,hx,e.symm⟩)⟩
  cases hr:kj p with
  | none=>rfl
  | some v=>exact absurd (CF.2 (by unfold kj at hr;rw[hr];rfl)) h
theorem Ky(p k at_:Int):tX p k at_=dB p k at_:=by
 rcases rQ p with ⟨h,hn⟩ | h
 ·have e:tX p k at_=false:=by
   unfold tX
   rw[h]
   split
   ·rfl
   ·simp
    intro h1;omega
  rw[e]
  have h0:dZ p=0:=by
   have g:∀n:Int,n∈gL.map (·.1)→p≠n:=fun n hm=>by
    obtain ⟨x,hx,rfl⟩:=List.mem_map.1 hm
    exact hn x hx
   have g1:=fun n=>g n
   unfold dZ
   rw[if_neg,if_neg,if_neg (g 8 (by decide)),if_neg]
   ·rintro (h | h | h | h | h | h)
    ·exact g 6 (by decide) h
    ·exact g 10 (by decide) h
    ·exact g 11 (by decide) h
    ·exact g 23 (by decide) h
    ·exact g 28 (by decide) h
    ·exact g 12 (by decide) h
   ·rintro (h | h | h | h | h | h)
    ·exact g 2 (by decide) h
    ·exact g 7 (by decide) h
    ·exact g 9 (by decide) h
    ·exact g 24 (by decide) h
    ·exact g 26 (by decide) h
    ·exact g 27 (by decide) h
   ·rintro (h | h | h | h)
    ·exact g 1 (by decide) h
    ·exact g 3 (by decide) h
    ·exact g 5 (by decide) h
    ·exact g 25 (by decide) h
  unfold dB
  rw[h0,if_pos (by omega)]
 ·by_cases c:at_<0
  ·unfold tX dB
   rw[if_pos c,if_pos (.inl c)]
  obtain ⟨a,rfl⟩:∃a:Nat,at_=a:=⟨at_.toNat,by omega⟩
  simp only[gL,List.map_cons,List.map_nil,List.mem_cons,List.not_mem_nil,or_false] at h
  have q0:∀a:Nat,¬((a:Int)+1+1+1<0):=fun a=>by omega
  have q1:∀a:Nat,¬((a:Int)+1+1+1<1):=fun a=>by omega
  have q2:∀a:Nat,¬((a:Int)+1+1+1<2):=fun a=>by omega
  have q3:∀a:Nat,¬((a:Int)+1+1+1<3):=fun a=>by omega
  have q4:∀a:Nat,0≤(a:Int)+1+1+1:=fun a=>by omega
  have r1:∀a:Nat,1≤(a:Int)+1+1+1:=fun a=>by omega
  have r2:∀a:Nat,2≤(a:Int)+1+1+1:=fun a=>by omega
  have r3:∀a:Nat,3≤(a:Int)+1+1+1:=fun a=>by omega
  have r4:∀a:Nat,¬(a:Int)+1+1+1=0:=fun a=>by omega
  have r5:∀a:Nat,0<(a:Int)+1+1+1:=fun a=>by omega
  rcases h with rfl | rfl | rfl | rfl | rfl | rfl | rfl | rfl | rfl | rfl | rfl | rfl | rfl | rfl | rfl | rfl | rfl | rfl | rfl | rfl | rfl | rfl <;>
   rcases a with _ | _ | _ | a<;>simp[tX,dB,dZ,kj,gL,jg,vy,dY,mb]<;>simp only[q0,q1,q2,q3,q4,r1,r2,r3,r4,r5,decide_false,decide_true,Bool.not_false,Bool.not_true,Bool.false_and,Bool.true_and,Bool.and_false]
set_option maxRecDepth 100000
theorem am{F H:Y}(h:Over H F){a b:Bool}(e:a=b):eo H (.ret (.Z (.bool a))) F (.ret (.Z (.bool b))) H:=by
 subst e
 exact da h (.same trivial)
def Kz(x:AV):AV:=x
theorem eX(q:IntKind)(k:Int)(v:AV)(M:List (Int×AV)):n9 (.int q k) v (mI q Kz M)=mI q Kz (tU k v M):=Ad (f:=Kz) (a:=v)
theorem dP(q:IntKind)(k:Int)(v:AV):n9 (.int q k) v []=mI q Kz [(k,v)]:=Ad (f:=Kz) (a:=v) (M:=[])
theorem cA(k:Int)(v:AV):tU k v ([]:List (Int×AV))=[(k,v)]:=rfl
theorem bV(k j:Int)(v u:AV)(r:List (Int×AV)):tU k v ((j,u)::r)=if k=j then (k,v)::r else (j,u)::tU k v r:=rfl
def vz(l:List Int):AV:=if l=[] then .an 0 [] (some []) else .an 1 (l.map fun n=>.Z (.int .u8 n)) (some [])
def GI(r:List Int×Bool):AV:=.agg [vz r.1,.Z (.bool r.2)]
def tY:List (Int×AV):=gL.map fun p=>(p.1,GI p.2)
theorem wU{α β:Type}(g:α→β)(k:Int):∀(M:List (Int×α)),jg k (M.map fun p=>(p.1,g p.2))=(jg k M).map g
 | []=>rfl
 | p::r=>by
  have ih:=wU g k r
  simp only[List.map_cons,jg]
  split
  ·rfl
  ·exact ih
def kL(k:Int):List Int×Bool:=(kj k).getD ([],false)
theorem Pf(k:Int):(jg k tY).getD (.agg [.an 0 [] (some []),.Z (.bool false)])=GI (kL k):=by
 unfold tY kL kj
 rw[wU]
 cases jg k gL<;>rfl
theorem KA(k:Int):(jg k tY).isSome=(kj k).isSome:=by
 unfold tY kj
 rw[wU]
 cases jg k gL<;>rfl
theorem abN(x:AV)(H:Y)(h1:x.bT=false∧x.isAgg=false∧x.ax=1∧x.cells=[x])(h2:x.ids (· < H.length)):D Tryz.prog 123 [x] H (.ret (.agg [x,.Z (.bool false)])) H:=by
 obtain ⟨a1,a2,a3,a4⟩:=h1
 refine aD (Nat.le_refl _) (abE (aA ?_))
 simp only[Tn,ux]
 refine zA4 a1 a2 a3 a4 ?_
 exact da (.cons .refl) (.same ⟨h2,trivial,trivial⟩)
theorem XS(k:Int)(H:Y):D Tryz.prog 124 [.Z (.int .u8 k)] H (.ret (.agg [.an 1 [.Z (.int .u8 k)] (some []),.Z (.bool true)])) H:=by
 refine aD (Nat.le_refl _) (abF (aA ?_))
 simp only[Tp,ux]
 refine aN ?_
 exact da (.cons .refl) (.same ⟨⟨⟨trivial,trivial⟩,trivial⟩,trivial,trivial⟩)
theorem Pg{q:IntKind}{k:Int}{z:AV}{M:List (Int×AV)}:lM (.int q k) z (mI q Kz M)=(jg k M).getD z:=by
 rw[GH]
 cases jg k M<;>rfl
theorem Ph{q:IntKind}{k:Int}{M:List (Int×AV)}:(decide (ek (.int q k) (mI q Kz M)<M.length))=(jg k M).isSome:=by rw[vp];exact GG
set_option maxHeartbeats 0 in
theorem Mo(k:Int)(H:Y):D Tryz.prog 69 [.Z (.int .u8 k)] H (.ret (.aG [GI (kL k),.Z (.bool (kj k).isSome)])) H:=by
 have ok:=XQ (α:=AV)
 have g1:=fun (n:Int)(H:Y)=>XS n H
 have g2:=fun (x:AV)(H:Y)=>abN x H
 have c1:bN Tryz.prog 123=true:=by kernel_rfl
 have c2:bN Tryz.prog 124=true:=by kernel_rfl
 refine aD (Nat.le_refl _) (ady (aA ?_))
 simp only[Zi,ux]
 refine ae fun L hL=>?_
 refine aN ?_
 refine hL _ _ ?_
 clear hL
 refine ae fun L hL=>?_
 refine aN ?_
 refine hL _ _ ?_
 clear hL
 refine ae fun L hL=>?_
 refine aN ?_
 refine hL _ _ ?_
 clear hL
 refine ae fun L hL=>?_
 refine eL c1 c2 ?_
 refine ai (g1 _ _) ?_
 refine nW c1 c2 ok @eX @dP @bV @cA ?_
 refine ai (g2 _ _ ⟨rfl,rfl,rfl,rfl⟩ (by simp[AV.ids,AV.cy,AV.fe])) ?_
 refine nW c1 c2 ok @eX @dP @bV @cA ?_
 refine ai (g1 _ _) ?_
 refine nW c1 c2 ok @eX @dP @bV @cA ?_
 refine ai (g2 _ _ ⟨rfl,rfl,rfl,rfl⟩ (by simp[AV.ids,AV.cy,AV.fe])) ?_
 refine nW c1 c2 ok @eX @dP @bV @cA ?_
 refine ai (g1 _ _) ?_
 refine nW c1 c2 ok @eX @dP @bV @cA ?_
 refine ai (g2 _ _ ⟨rfl,rfl,rfl,rfl⟩ (by simp[AV.ids,AV.cy,AV.fe])) ?_
 refine nW c1 c2 ok @eX @dP @bV @cA ?_
 refine ai (g2 _ _ ⟨rfl,rfl,rfl,rfl⟩ (by simp[AV.ids,AV.cy,AV.fe])) ?_
 refine nW c1 c2 ok @eX @dP @bV @cA ?_
 refine ai (g2 _ _ ⟨rfl,rfl,rfl,rfl⟩ (by simp[AV.ids,AV.cy,AV.fe])) ?_
 refine nW c1 c2 ok @eX @dP @bV @cA ?_
 refine ai (g2 _ _ ⟨rfl,rfl,rfl,rfl⟩ (by simp[AV.ids,AV.cy,AV.fe])) ?_
 refine nW c1 c2 ok @eX @dP @bV @cA ?_
 refine ai (g2 _ _ ⟨rfl,rfl,rfl,rfl⟩ (by simp[AV.ids,AV.cy,AV.fe])) ?_
 refine nW c1 c2 ok @eX @dP @bV @cA ?_
 refine ai (g2 _ _ ⟨rfl,rfl,rfl,rfl⟩ (by simp[AV.ids,AV.cy,AV.fe])) ?_
 refine nW c1 c2 ok @eX @dP @bV @cA ?_
 refine ai (g2 _ _ ⟨rfl,rfl,rfl,rfl⟩ (by simp[AV.ids,AV.cy,AV.fe])) ?_
 refine nW c1 c2 ok @eX @dP @bV @cA ?_
 refine ai (g2 _ _ ⟨rfl,rfl,rfl,rfl⟩ (by simp[AV.ids,AV.cy,AV.fe])) ?_
 refine nW c1 c2 ok @eX @dP @bV @cA ?_
 refine ai (g2 _ _ ⟨rfl,rfl,rfl,rfl⟩ (by simp[AV.ids,AV.cy,AV.fe])) ?_
 refine nW c1 c2 ok @eX @dP @bV @cA ?_
 refine ai (g2 _ _ ⟨rfl,rfl,rfl,rfl⟩ (by simp[AV.ids,AV.cy,AV.fe])) ?_
 refine nW c1 c2 ok @eX @dP @bV @cA ?_
 refine ai (g2 _ _ ⟨rfl,rfl,rfl,rfl⟩ (by simp[AV.ids,AV.cy,AV.fe])) ?_
 refine nW c1 c2 ok @eX @dP @bV @cA ?_
 refine ai (g2 _ _ ⟨rfl,rfl,rfl,rfl⟩ (by simp[AV.ids,AV.cy,AV.fe])) ?_
 refine nW c1 c2 ok @eX @dP @bV @cA ?_
 refine ai (g1 _ _) ?_
 refine nW c1 c2 ok @eX @dP @bV @cA ?_
 refine ai (g2 _ _ ⟨rfl,rfl,rfl,rfl⟩ (by simp[AV.ids,AV.cy,AV.fe])) ?_
 refine nW c1 c2 ok @eX @dP @bV @cA ?_
 refine ai (g2 _ _ ⟨rfl,rfl,rfl,rfl⟩ (by simp[AV.ids,AV.cy,AV.fe])) ?_
 refine nW c1 c2 ok @eX @dP @bV @cA ?_
 refine ai (g2 _ _ ⟨rfl,rfl,rfl,rfl⟩ (by simp[AV.ids,AV.cy,AV.fe])) ?_
 refine nW c1 c2 ok @eX @dP @bV @cA ?_
 refine ai (g2 _ _ ⟨rfl,rfl,rfl,rfl⟩ (by simp[AV.ids,AV.cy,AV.fe])) ?_
 have ke:=Pf k
 have hsome:=(Ph (q:=.u8) (k:=k) (M:=tY)).trans (KA k)
 rw[show tY.length=22 from rfl] at hsome
 obtain ⟨x,b,hR⟩:∃x b,GI (kL k) = .agg [x,.Z (.bool b)]:=⟨_,_,rfl⟩
 have hx:x.ids (· < H.length)∧x.isAgg=false∧x.bT=false∧x.ax=1∧x.cells=[x]:=by
  have e:x=vz (kL k).1:=by unfold GI at hR;cases hR;rfl
  rw[e]
  unfold vz
  split
  ·exact ⟨⟨trivial,trivial⟩,rfl,rfl,rfl,rfl⟩
  ·exact ⟨⟨AV.oS.2 (by intro y hy;obtain ⟨n,_,rfl⟩:=List.mem_map.1 hy;trivial),trivial⟩,rfl,rfl,rfl,rfl⟩
 rw[hR] at ke
 generalize (kj k).isSome=s at *
 simp only[tY,gL,GI,vz,List.map_cons,List.map_nil,reduceCtorEq,if_false,if_true] at ke hsome
 simp -implicitDefEqProofs (maxSteps:=99999999) (disch:=first | omega | (simp only[vl];first | done | omega)) only[vu,c1,c2,ok,eX,dP,bV,cA,Pg,tT,ke,hsome,hx.2.1,hx.2.2.1,hx.2.2.2.1,hx.2.2.2.2,va,vg,vs,vw,vk,simprocAttr]
 refine hL _ _ ?_
 clear hL
 simp -implicitDefEqProofs (maxSteps:=99999999) (disch:=first | omega | (simp only[vl];first | done | omega)) only[vu,hx.2.1,hx.2.2.1,hx.2.2.2.1,hx.2.2.2.2,va,vg,vs,vw,vk,simprocAttr]
 rw[hR]
 refine da (.cons (.cons (.cons .refl))) (.same ?_)
 exact ⟨⟨hx.1,trivial,trivial⟩,trivial,trivial⟩
def Ae(l:List Int):List AV:=l.map fun n=>.Z (.int .u8 n)
theorem jO(l:List Int):(Ae l).length=l.length:=by simp[Ae]
def qz(xs:List Int)(k:Nat):Int:=xs.getD k 0
theorem GJ{l:List Int}{k:Nat}(h:k<l.length):(Ae l).getD k .top = .Z (.int .u8 (qz l k)):=by
 simp[Ae,qz,List.getD,h]
def vA(l:List Int)(s:Int):Bool:=l.any fun x=>decide (x=s)
def Af(l:List Int)(s:Int):Int:=if vA l s=true then (l.findIdx (fun x=>decide (x=s)):Nat) else -1
theorem sG{l:List Int}{k:Nat}(h:k<l.length):qz l k=l[k]:=by simp[qz,List.getD,h]
theorem TJ{l:List Int}{s:Int}{k:Nat}(h:k<l.length)(h1:qz l k=s):vA l s=true:=by
 rw[sG h] at h1
 exact List.any_eq_true.2 ⟨l[k],List.getElem_mem h,by simp[h1]⟩
theorem KB{l:List Int}{s:Int}(h2:∀j,j<l.length→¬qz l j=s):vA l s=false:=by
 cases h:vA l s
 ·rfl
 ·obtain ⟨x,hx,e⟩:=List.any_eq_true.1 h
  obtain ⟨j,hj,rfl⟩:=List.getElem_of_mem hx
  exact absurd (by rw[sG hj];simpa using e) (h2 j hj)
theorem TK{l:List Int}{s:Int}{k:Nat}(h:k<l.length)(h1:qz l k=s)(h2:∀j,j<k→¬qz l j=s):Af l s=k:=by
 unfold Af
 rw[if_pos (TJ h h1),(List.findIdx_eq h).2 ⟨by rw[sG h] at h1;simp[h1],fun j hj=>?_⟩]
 have:=h2 j hj
 rw[sG (by omega)] at this
 simp[this]
theorem KC{l:List Int}{s:Int}(h2:∀j,j<l.length→¬qz l j=s):Af l s=-1:=by
 unfold Af
 rw[KB h2]
 rfl
theorem TL(l:List Int)(s:Int):decide (Af l s≥0)=vA l s:=by
 unfold Af
 cases vA l s<;>simp
set_option maxHeartbeats 4000000 in
theorem Pj(l:List Int)(ro:Option (List AV))(s:Int)(hl:l.length≤1000000)(H:Y):D Tryz.prog 178 [.an 1 (Ae l) ro,.Z (.int .u8 s)] H (.ret (.Z (.int .i64 (Af l s)))) H:=by
 refine aD (Nat.le_refl _) (abI (aA ?_))
 simp only[Tt,ux]
 refine ae fun L hL=>?_
 refine Pa @jO ?_
 refine hL _ _ ?_
 clear hL
 refine ae fun L hL=>?_
 refine Pa @jO ?_
 refine bI (fun ts F=>∃k:Nat,(k≤l.length∧∀j,j<k→¬qz l j=s)∧F=H∧Fr [some (.an 1 (Ae l) ro),some (.Z (.int .u8 s)),none,none,none,none,none,some (.Z (.int .i64 l.length)),some (.Z (.int .i64 k)),none,none,none,none,none,none,none,none,none,none] ts) (fun ts _=>l.length - (aU (ts.getD 8 .top)).toNat) ?_ ?_
 ·exact ⟨0,⟨Nat.zero_le _,fun j h=>absurd h (Nat.not_lt_zero _)⟩,rfl,by simp[Fr]⟩
 rintro ts F ⟨k,⟨hk,hp⟩,rfl,bx⟩ L2 cK
 obtain ⟨js,rfl⟩:=bx.opened
 clear bx
 by_cases hd:k<l.length
 ·have c1:(k:Int)<l.length:=by omega
  have hg:=GJ hd
  by_cases e:s=qz l k
  ·have hi:=TK hd e.symm hp
   simp -implicitDefEqProofs (maxSteps:=99999999) (disch:=first | omega | (simp only[vl];first | done | omega)) only[mk,c1,hg,jO,←e,va,vg,vs,vw,vk,simprocAttr]
   rw[hi]
   exact ⟨by omega,bL .refl⟩
  ·simp -implicitDefEqProofs (maxSteps:=99999999) (disch:=first | omega | (simp only[vl];first | done | omega)) only[mk,c1,hg,jO,e,va,vg,vs,vw,vk,simprocAttr]
   refine ⟨by omega,cK _ _ ⟨k+1,⟨by omega,fun j hj=>?_⟩,rfl,by simp[Fr]⟩ (by simp[aU,mk];omega)⟩
   rcases Nat.lt_succ_iff_lt_or_eq.1 hj with h' | rfl
   ·exact hp j h'
   ·exact fun h=>e h.symm
 ·have c1:¬(k:Int)<l.length:=by omega
  have hi:=KC fun j hj=>hp j (by omega)
  simp -implicitDefEqProofs (maxSteps:=99999999) (disch:=first | omega | (simp only[vl];first | done | omega)) only[mk,c1,va,vg,vs,vw,vk,simprocAttr]
  refine hL _ _ ?_
  clear hL
  refine wS ?_
  rw[hi]
  exact bL .refl
theorem vB(l:List Int)(ro:Option (List AV))(s:Int)(hl:l.length≤1000000)(H:Y):D Tryz.prog 121 [.an 1 (Ae l) ro,.Z (.int .u8 s)] H (.ret (.Z (.bool (vA l s)))) H:=by
 refine aD (Nat.le_refl _) (abH (aA ?_))
 have he:=TL l s
 simp -implicitDefEqProofs (maxSteps:=99999999) (disch:=first | omega | (simp only[vl];first | done | omega)) only[vu,Ts,va,vg,vs,vw,vk,simprocAttr]
 refine ai (Pj l ro s hl _) ?_
 refine aN ?_
 exact am .refl he
def kM(l:List ByteArray)(s:ByteArray):Bool:=l.any fun x=>decide (x=s)
def fg(l:List ByteArray)(s:ByteArray):Int:=if kM l s=true then (l.findIdx (fun x=>decide (x=s)):Nat) else -1
theorem sH{l:List ByteArray}{k:Nat}(h:k<l.length):lR l k=l[k]:=by simp[lR,List.getD,h]
theorem Ag{l:List ByteArray}{s:ByteArray}{k:Nat}(h:k<l.length)(h1:lR l k=s):kM l s=true:=by
 rw[sH h] at h1
 exact List.any_eq_true.2 ⟨l[k],List.getElem_mem h,by simp[h1]⟩
theorem tZ{l:List ByteArray}{s:ByteArray}(h2:∀j,j<l.length→¬lR l j=s):kM l s=false:=by
 cases h:kM l s
 ·rfl
 ·obtain ⟨x,hx,e⟩:=List.any_eq_true.1 h
  obtain ⟨j,hj,rfl⟩:=List.getElem_of_mem hx
  exact absurd (by rw[sH hj];simpa using e) (h2 j hj)
theorem TM{l:List ByteArray}{s:ByteArray}{k:Nat}(h:k<l.length)(h1:lR l k=s)(h2:∀j,j<k→¬lR l j=s):fg l s=k:=by
 unfold fg
 rw[if_pos (Ag h h1),(List.findIdx_eq h).2 ⟨by rw[sH h] at h1;simp[h1],fun j hj=>?_⟩]
 have:=h2 j hj
 rw[sH (by omega)] at this
 simp[this]
theorem KD{l:List ByteArray}{s:ByteArray}(h2:∀j,j<l.length→¬lR l j=s):fg l s=-1:=by
 unfold fg
 rw[tZ h2]
 rfl
theorem TN(l:List ByteArray)(s:ByteArray):decide (fg l s≥0)=kM l s:=by
 unfold fg
 cases kM l s<;>simp
set_option maxHeartbeats 4000000 in
theorem Pk(l:List ByteArray)(ro:Option (List AV))(s:ByteArray)(hl:l.length≤1000000)(H:Y):D Tryz.prog 114 [.an 1 (strs l) ro,.Z (.string s)] H (.ret (.Z (.int .i64 (fg l s)))) H:=by
 refine aD (Nat.le_refl _) (abJ (aA ?_))
 simp only[Tu,ux]
 refine ae fun L hL=>?_
 refine Pa @dj ?_
 refine hL _ _ ?_
 clear hL
 refine ae fun L hL=>?_
 refine Pa @dj ?_
 refine bI (fun ts F=>∃k:Nat,(k≤l.length∧∀j,j<k→¬lR l j=s)∧F=H∧Fr [some (.an 1 (strs l) ro),some (.Z (.string s)),none,none,none,none,none,some (.Z (.int .i64 l.length)),some (.Z (.int .i64 k)),none,none,none,none,none,none,none,none,none,none] ts) (fun ts _=>l.length - (aU (ts.getD 8 .top)).toNat) ?_ ?_
 ·exact ⟨0,⟨Nat.zero_le _,fun j h=>absurd h (Nat.not_lt_zero _)⟩,rfl,by simp[Fr]⟩
 rintro ts F ⟨k,⟨hk,hp⟩,rfl,bx⟩ L2 cK
 obtain ⟨js,rfl⟩:=bx.opened
 clear bx
 by_cases hd:k<l.length
 ·have c1:(k:Int)<l.length:=by omega
  have hg:=wQ hd
  by_cases e:s=lR l k
  ·have hi:=TM hd e.symm hp
   simp -implicitDefEqProofs (maxSteps:=99999999) (disch:=first | omega | (simp only[vl];first | done | omega)) only[mk,c1,hg,dj,←e,va,vg,vs,vw,vk,simprocAttr]
   rw[hi]
   exact ⟨by omega,bL .refl⟩
  ·simp -implicitDefEqProofs (maxSteps:=99999999) (disch:=first | omega | (simp only[vl];first | done | omega)) only[mk,c1,hg,dj,e,va,vg,vs,vw,vk,simprocAttr]
   refine ⟨by omega,cK _ _ ⟨k+1,⟨by omega,fun j hj=>?_⟩,rfl,by simp[Fr]⟩ (by simp[aU,mk];omega)⟩
   rcases Nat.lt_succ_iff_lt_or_eq.1 hj with h' | rfl
   ·exact hp j h'
   ·exact fun h=>e h.symm
 ·have c1:¬(k:Int)<l.length:=by omega
  have hi:=KD fun j hj=>hp j (by omega)
  simp -implicitDefEqProofs (maxSteps:=99999999) (disch:=first | omega | (simp only[vl];first | done | omega)) only[mk,c1,va,vg,vs,vw,vk,simprocAttr]
  refine hL _ _ ?_
  clear hL
  refine wS ?_
  rw[hi]
  exact bL .refl
theorem vC(l:List ByteArray)(ro:Option (List AV))(s:ByteArray)(hl:l.length≤1000000)(H:Y):D Tryz.prog 59 [.an 1 (strs l) ro,.Z (.string s)] H (.ret (.Z (.bool (kM l s)))) H:=by
 refine aD (Nat.le_refl _) (adz (aA ?_))
 have he:=TN l s
 simp -implicitDefEqProofs (maxSteps:=99999999) (disch:=first | omega | (simp only[vl];first | done | omega)) only[vu,Zj,va,vg,vs,vw,vk,simprocAttr]
 refine ai (Pk l ro s hl _) ?_
 refine aN ?_
 exact am .refl he
theorem GK{l:List Int}(h:l≠[]):vz l = .an 1 (Ae l) (some []):=if_neg h
theorem Zv(k f:Int)(H:Y):D Tryz.prog 127 [.Z (.int .u8 k),.Z (.int .u8 f)] H (.ret (.Z (.bool (vy k f)))) H:=by
 refine aD (Nat.le_refl _) (abC (aA ?_))
 simp only[Tl,ux]
 by_cases c1:f=200
 ·by_cases g1:k≥20
  ·refine eL c1 g1 ?_
   exact am .refl (by simp[vy,c1,dY];intro;omega)
  ·refine eL c1 g1 ?_
   exact am .refl (by simp[vy,c1,dY];omega)
 by_cases c2:f=201
 ·by_cases g1:k≥6
  ·by_cases g2:k≤12
   ·refine vo c2 g1 g2 ?_
    exact am .refl (by simp[vy,c2,mb];omega)
   ·refine vo c2 g1 g2 ?_
    exact am .refl (by simp[vy,c2,mb];omega)
  ·refine eL c2 g1 ?_
   exact am .refl (by simp[vy,c2,mb];omega)
 by_cases c3:f=202
 ·by_cases g1:k=22
  ·refine eL c3 g1 ?_
   exact am .refl (by simp[vy,c3,g1])
  ·refine eL c3 g1 ?_
   exact am .refl (by simp[vy,c3,g1])
 refine vo c1 c2 c3 ?_
 exact am .refl (by simp[vy,c1,c2,c3])
theorem CH{p:Int}(h:(kL p).2=true):(kL p).1≠[]:=by
 rcases rQ p with ⟨hn,_⟩ | hm
 ·unfold kL at h;rw[hn] at h;cases h
 ·simp only[gL,List.map_cons,List.map_nil,List.mem_cons,List.not_mem_nil,or_false] at hm
  rcases hm with rfl | rfl | rfl | rfl | rfl | rfl | rfl | rfl | rfl | rfl | rfl | rfl | rfl | rfl | rfl | rfl | rfl | rfl | rfl | rfl | rfl | rfl<;>first | (exact absurd h (by decide)) | (simp[kL,kj,gL,jg])
theorem GL(l:List Int):qx (vz l)=l.length∧oH (vz l)∧(vz l).bT=false∧(vz l).isAgg=false∧(vz l).ax=1∧(vz l).cells=[vz l]:=by
 unfold vz
 split
 ·rename_i h;subst h;exact ⟨rfl,trivial,rfl,rfl,rfl,rfl⟩
 ·exact ⟨by simp[qx],trivial,rfl,rfl,rfl,rfl⟩
set_option maxHeartbeats 4000000 in
theorem XT(p k a:Int)(H:Y):D Tryz.prog 71 [.Z (.int .u8 p),.Z (.int .u8 k),.Z (.int .i64 a)] H (.ret (.Z (.bool (tX p k a)))) H:=by
 refine aD (Nat.le_refl _) (adt (aA ?_))
 simp only[Ze,ux]
 have hr:=Mo p
 unfold GI at hr
 have hP:tX p k a=if a<0 then false else if (kL p).2 then vy k ((kL p).1.getD 0 0) else decide (a<(kL p).1.length) && vy k ((kL p).1.getD a.toNat 0):=rfl
 have hall:=CH (p:=p)
 generalize (kj p).isSome=s at *
 obtain ⟨l,b,hG⟩:∃l b,kL p=(l,b):=⟨_,_,rfl⟩
 rw[hG] at hr hP hall
 simp only at hr hP hall
 obtain ⟨k1,k2,k3,k4,k5,k6⟩:=GL l
 refine ae fun L hL=>?_
 refine aN ?_
 refine hL _ _ ?_
 clear hL
 refine ae fun L hL=>?_
 refine aN ?_
 refine ai (hr _) ?_
 simp -implicitDefEqProofs (maxSteps:=99999999) (disch:=first | omega | (simp only[vl];first | done | omega)) only[vu,k3,k4,k5,k6,va,vg,vs,vw,vk,simprocAttr]
 refine hL _ _ ?_
 clear hL
 refine ae fun L hL=>?_
 by_cases c1:a<0
 ·simp -implicitDefEqProofs (maxSteps:=99999999) (disch:=first | omega | (simp only[vl];first | done | omega)) only[vu,c1,k3,k4,k5,k6,va,vg,vs,vw,vk,simprocAttr]
  exact am (.cons .refl) (by rw[hP,if_pos c1])
 rw[if_neg c1] at hP
 cases b
 case true =>
  have hne:=hall rfl
  obtain ⟨x,r,rfl⟩:=List.exists_cons_of_ne_nil hne
  rw[GK hne] at *
  simp -implicitDefEqProofs (maxSteps:=99999999) (disch:=first | omega | (simp only[vl];first | done | omega)) only[vu,c1,jO,Ae,List.map_cons,va,vg,vs,vw,vk,simprocAttr]
  refine ⟨by omega,ai (Zv _ _ _) ?_⟩
  refine aN ?_
  exact am (.cons .refl) (by rw[hP];rfl)
 case false =>
  simp only[Bool.false_eq_true,if_false] at hP
  simp -implicitDefEqProofs (maxSteps:=99999999) (disch:=first | omega | (simp only[vl];first | done | omega)) only[vu,c1,k3,k4,k5,k6,va,vg,vs,vw,vk,simprocAttr]
  refine hL _ _ ?_
  clear hL
  by_cases c2:a<l.length
  ·have hne:l≠[]:=fun e=>by rw[e] at c2;simp at c2;omega
   obtain ⟨n,rfl⟩:∃n:Nat,a=n:=⟨a.toNat,by omega⟩
   have hn:n<l.length:=by omega
   rw[GK hne] at *
   simp -implicitDefEqProofs (maxSteps:=99999999) (disch:=first | omega | (simp only[vl];first | done | omega)) only[vu,c2,jO,GJ hn,va,vg,vs,vw,vk,simprocAttr]
   refine ⟨by omega,ai (Zv _ _ _) ?_⟩
   refine aN ?_
   exact am (.cons .refl) (by rw[hP];simp[c2,hn,qz])
  ·simp -implicitDefEqProofs (maxSteps:=99999999) (disch:=first | omega | (simp only[vl];first | done | omega)) only[vu,c2,k1,k2,k3,k4,k5,k6,va,vg,vs,vw,vk,simprocAttr]
   exact am (.cons .refl) (by rw[hP];simp[c2])
theorem Ah(k:Int):vA [2,4,6,22,25] k=eT k:=by
 simp[vA,eT,eq_comm,Bool.or_assoc]
theorem GM(k:Int)(H:Y):D Tryz.prog 117 [.Z (.int .u8 k)] H (.ret (.Z (.bool (eT k)))) H:=by
 refine aD (Nat.le_refl _) (abB (aA ?_))
 simp only[Tk,ux]
 have hc:=vB [2,4,6,22,25] (some []) k (by decide)
 rw[show Ae [2,4,6,22,25]=[.Z (.int .u8 2),.Z (.int .u8 4),.Z (.int .u8 6),.Z (.int .u8 22),.Z (.int .u8 25)] from rfl] at hc
 refine aN ?_
 refine ai (hc _) ?_
 refine aN ?_
 exact am .refl (Ah k)
theorem dR{F H:Y}(h:Over H F){a b:Int}(e:a=b):eo H (.ret (.Z (.int .i64 a))) F (.ret (.Z (.int .i64 b))) H:=by
 subst e
 exact da h (.same trivial)
theorem GN(k:Int)(H:Y):D Tryz.prog 131 [.Z (.int .u8 k)] H (.ret (.Z (.int .i64 (dZ k)))) H:=by
 refine aD (Nat.le_refl _) (Tz (aA ?_))
 simp only[Ku,ux]
 by_cases c1:k=1
 ·subst c1
  refine aN ?_
  exact dR .refl rfl
 by_cases c3:k=3
 ·subst c3
  refine aN ?_
  exact dR .refl rfl
 by_cases c5:k=5
 ·subst c5
  refine aN ?_
  exact dR .refl rfl
 by_cases nX:k=25
 ·subst nX
  refine aN ?_
  exact dR .refl rfl
 by_cases c2:k=2
 ·subst c2
  refine aN ?_
  exact dR .refl rfl
 by_cases c7:k=7
 ·subst c7
  refine aN ?_
  exact dR .refl rfl
 by_cases c9:k=9
 ·subst c9
  refine aN ?_
  exact dR .refl rfl
 by_cases c24:k=24
 ·subst c24
  refine aN ?_
  exact dR .refl rfl
 by_cases c26:k=26
 ·subst c26
  refine aN ?_
  exact dR .refl rfl
 by_cases c27:k=27
 ·subst c27
  refine aN ?_
  exact dR .refl rfl
 by_cases c8:k=8
 ·subst c8
  refine aN ?_
  exact dR .refl rfl
 by_cases c6:k=6
 ·subst c6
  refine aN ?_
  exact dR .refl rfl
 by_cases c10:k=10
 ·subst c10
  refine aN ?_
  exact dR .refl rfl
 by_cases c11:k=11
 ·subst c11
  refine aN ?_
  exact dR .refl rfl
 by_cases c23:k=23
 ·subst c23
  refine aN ?_
  exact dR .refl rfl
 by_cases c28:k=28
 ·subst c28
  refine aN ?_
  exact dR .refl rfl
 by_cases c12:k=12
 ·subst c12
  refine aN ?_
  exact dR .refl rfl
 simp -implicitDefEqProofs (maxSteps:=99999999) (disch:=first | omega | (simp only[vl];first | done | omega)) only[vu,c1,c3,c5,nX,c2,c7,c9,c24,c26,c27,c8,c6,c10,c11,c23,c28,c12,va,vg,vs,vw,vk,simprocAttr]
 exact dR .refl (by simp[dZ,c1,c3,c5,nX,c2,c7,c9,c24,c26,c27,c8,c6,c10,c11,c23,c28,c12])
theorem CI(k:Int)(H:Y):D Tryz.prog 182 [.Z (.int .u8 k)] H (.ret (.Z (.bool (eT k)))) H:=by
 refine aD (Nat.le_refl _) (TE (aA ?_))
 simp only[Kx,ux]
 by_cases c2:k=2
 ·subst c2
  refine aN ?_
  exact am .refl rfl
 by_cases c4:k=4
 ·subst c4
  refine aN ?_
  exact am .refl rfl
 by_cases c6:k=6
 ·subst c6
  refine aN ?_
  exact am .refl rfl
 by_cases nY:k=22
 ·subst nY
  refine aN ?_
  exact am .refl rfl
 by_cases nX:k=25
 ·subst nX
  refine aN ?_
  exact am .refl rfl
 refine GF c2 c4 c6 nY nX ?_
 exact am .refl (by simp[eT,c2,c4,c6,nY,nX])
theorem TQ(k:Int)(H:Y):D Tryz.prog 183 [.Z (.int .u8 k)] H (.ret (.Z (.bool (mb k)))) H:=by
 refine aD (Nat.le_refl _) (TA (aA ?_))
 simp only[Kv,ux]
 by_cases c5:k=5
 ·subst c5
  refine aN ?_
  exact am .refl rfl
 by_cases g1:k≥6
 ·by_cases g2:k≤12
  ·refine vo c5 g1 g2 ?_
   exact am .refl (by simp[mb,c5];omega)
  ·refine vo c5 g1 g2 ?_
   exact am .refl (by simp[mb,c5];omega)
 ·refine eL c5 g1 ?_
  exact am .refl (by simp[mb,c5];omega)
theorem lS(k:Int)(H:Y):D Tryz.prog 130 [.Z (.int .u8 k)] H (.ret (.Z (.bool (dY k)))) H:=by
 refine aD (Nat.le_refl _) (TB (aA ?_))
 simp only[Kw,ux]
 by_cases g1:k≥20
 ·by_cases g2:k≤29
  ·refine eL g1 g2 ?_
   exact am .refl (by simp[dY];omega)
  ·refine eL g1 g2 ?_
   exact am .refl (by simp[dY];omega)
 ·refine ee g1 ?_
  exact am .refl (by simp[dY];omega)
set_option maxHeartbeats 0 in
theorem TR(p k a:Int)(H:Y):D Tryz.prog 133 [.Z (.int .u8 p),.Z (.int .u8 k),.Z (.int .i64 a)] H (.ret (.Z (.bool (dB p k a)))) H:=by
 refine aD (Nat.le_refl _) (Tx (aA ?_))
 simp only[Kt,ux]
 obtain ⟨m,hm⟩:∃m,dZ p=m:=⟨_,rfl⟩
 refine ae fun L hL=>?_
 refine aN ?_
 refine hL _ _ ?_
 clear hL
 refine ae fun L hL=>?_
 refine aN ?_
 refine ai (GN p _) ?_
 refine ee hm ?_
 refine hL _ _ ?_
 clear hL
 refine ae fun L hL=>?_
 by_cases c0:a<0
 ·have hq:dB p k a=false:=by unfold dB;rw[if_pos (.inl c0)]
  refine ee c0 ?_
  exact am .refl hq.symm
 by_cases c1:m≥0∧a≥m
 ·have hq:dB p k a=false:=by unfold dB;rw[hm,if_pos (.inr c1)]
  simp -implicitDefEqProofs (maxSteps:=99999999) (disch:=first | omega | (simp only[vl];first | done | omega)) only[vu,c0,c1.1,c1.2,va,vg,vs,vw,vk,simprocAttr]
  exact am .refl hq.symm
 have hq:dB p k a=if p=1 then decide (k=2)
  else if p=2 then decide (a=0∧k=3) || decide (a=1∧k=5)
  else if p=3 then decide (k=4)
  else if p=5 then mb k
  else if p=7 then decide (a=0∧(k=22∨k=26)) || (decide (a=1) && dY k)
  else if p=8∨p=9 then (decide (a=0) && dY k) || decide (a > 0∧k=5)
  else if p=12 then decide (k=25)
  else dY k:=by
  unfold dB
  rw[if_neg (by rw[hm];exact fun h=>h.elim c0 c1)]
 suffices ∀b1 b2 b3 b4 b5 b6 b7 b8 b9 b10 b11,L ([.Z (.int .u8 p),.Z (.int .u8 k),.Z (.int .i64 a),.aG [],.aG [],.aG [],.Z (.bool false),.Z (.int .i64 m),.Z (.int .u8 p),.Z (.int .i64 m),b1,b2,b3,b4,b5,b6,b7,b8,b9,b10,b11,.aG [],.aG [],.aG [],.aG [],.aG [],.aG [],.aG [],.aG [],.aG [],.aG [],.aG [],.aG [],.aG [],.aG [],.aG [],.aG [],.aG [],.aG [],.aG [],.aG [],.aG [],.aG [],.aG [],.aG [],.aG [],.aG [],.aG [],.aG [],.aG [],.aG [],.aG [],.aG [],.aG [],.aG [],.aG [],.aG [],.aG [],.aG [],.aG [],.aG [],.aG [],.aG [],.aG [],.aG [],.aG [],.aG [],.aG [],.aG [],.aG [],.aG [],.aG [],.aG [],.aG [],.aG [],.aG [],.aG [],.aG [],.aG [],.aG [],.aG [],.aG [],.aG [],.aG [],.aG [],.aG [],.aG [],.aG [],.aG [],.aG [],.aG [],.aG [],.aG []]) H by
  by_cases c2:m≥0
  ·have c3:¬a≥m:=fun h=>c1 ⟨c2,h⟩
   refine vo c0 c2 c3 ?_
   exact this _ _ _ _ _ _ _ _ _ _ _
  ·refine eL c0 c2 ?_
   exact this _ _ _ _ _ _ _ _ _ _ _
 intro b1 b2 b3 b4 b5 b6 b7 b8 b9 b10 b11
 clear hm c1
 by_cases p1:p=1
 ·subst p1
  refine hL _ _ ?_
  clear hL
  refine ae fun L hL=>?_
  refine aN ?_
  exact am .refl (by simp[hq])
 by_cases p2:p=2
 ·subst p2
  refine hL _ _ ?_
  clear hL
  refine ae fun L hL=>?_
  by_cases ca:a=0
  ·subst ca
   by_cases ck:k=3
   ·subst ck
    refine aN ?_
    exact am .refl (by simp[hq])
   ·skip
    refine ee ck ?_
    exact am .refl (by simp[hq,ck])
  by_cases cb:a=1
  ·subst cb
   refine aN ?_
   exact am .refl (by simp[hq])
  refine eL ca cb ?_
  exact am .refl (by simp[hq,ca,cb])
 by_cases p3:p=3
 ·subst p3
  refine hL _ _ ?_
  clear hL
  refine ae fun L hL=>?_
  refine aN ?_
  exact am .refl (by simp[hq])
 by_cases p5:p=5
 ·subst p5
  refine hL _ _ ?_
  clear hL
  refine ae fun L hL=>?_
  refine aN ?_
  refine ai (TQ _ _) ?_
  refine aN ?_
  exact am .refl (by simp[hq])
 by_cases p7:p=7
 ·subst p7
  refine hL _ _ ?_
  clear hL
  refine ae fun L hL=>?_
  by_cases ca:a=0
  ·subst ca
   by_cases ck:k=22
   ·subst ck
    refine aN ?_
    exact am .refl (by simp[hq])
   by_cases cl:k=26
   ·subst cl
    refine aN ?_
    exact am .refl (by simp[hq])
   simp -implicitDefEqProofs (maxSteps:=99999999) (disch:=first | omega | (simp only[vl];first | done | omega)) only[vu,ck,cl,va,vg,vs,vw,vk,simprocAttr]
   exact am .refl (by simp[hq,ck,cl])
  by_cases cb:a=1
  ·subst cb
   refine aN ?_
   refine ai (lS _ _) ?_
   refine aN ?_
   exact am .refl (by simp[hq])
  refine eL ca cb ?_
  exact am .refl (by simp[hq,ca,cb])
 by_cases p8:p=8
 ·subst p8
  refine hL _ _ ?_
  clear hL
  refine ae fun L hL=>?_
  by_cases ca:a=0
  ·subst ca
   cases hx:dY k
   ·refine aN ?_
    refine ai (lS _ _) ?_
    refine ee hx ?_
    exact am .refl (by simp[hq,hx])
   ·refine aN ?_
    refine ai (lS _ _) ?_
    refine ee hx ?_
    exact am .refl (by simp[hq,hx])
  by_cases cb:a > 0
  ·skip
   refine eL ca cb ?_
   exact am .refl (by simp[hq,ca,cb])
  omega
 by_cases p9:p=9
 ·subst p9
  refine hL _ _ ?_
  clear hL
  refine ae fun L hL=>?_
  by_cases ca:a=0
  ·subst ca
   cases hx:dY k
   ·refine aN ?_
    refine ai (lS _ _) ?_
    refine ee hx ?_
    exact am .refl (by simp[hq,hx])
   ·refine aN ?_
    refine ai (lS _ _) ?_
    refine ee hx ?_
    exact am .refl (by simp[hq,hx])
  by_cases cb:a > 0
  ·skip
   refine eL ca cb ?_
   exact am .refl (by simp[hq,ca,cb])
  omega
 by_cases XU:p=12
 ·subst XU
  refine hL _ _ ?_
  clear hL
  refine ae fun L hL=>?_
  refine aN ?_
  exact am .refl (by simp[hq])
 refine hL _ _ ?_
 clear hL
 refine ae fun L hL=>?_
 refine zB8 p1 p2 p3 p5 p7 p8 p9 XU ?_
 refine hL _ _ ?_
 clear hL
 refine zB8 p1 p2 p3 p5 p7 p8 p9 XU ?_
 refine ai (lS _ _) ?_
 refine aN ?_
 exact am .refl (by simp[hq,p1,p2,p3,p5,p7,p8,p9,XU])
def xS(k:Int):Int:=IntKind.u8.wrap ↑(BitVec.ofInt IntKind.u8.bits k ||| BitVec.ofInt IntKind.u8.bits 32).toNat
theorem vD(k:Int):IntKind.u8.wrap ↑(BitVec.ofInt IntKind.u8.bits k ||| BitVec.ofInt IntKind.u8.bits 32).toNat=xS k:=rfl
def tq(k:Int):Bool:=decide (97≤xS k∧xS k≤122) || decide (k=95)
def og(k:Int):Bool:=decide (97≤k∧k≤122) || decide (65≤k∧k≤90) || decide (k=95)
def rR(k:Int):Bool:=decide (48≤k∧k≤57)
theorem CJ{k:Int}(h0:0≤k)(h1:k<256):tq k=og k:=by
 have h:∀n:Fin 256,tq (n.val:Int)=og (n.val:Int):=by decide +kernel
 have:=h ⟨k.toNat,by omega⟩
 rwa [show ((k.toNat:Nat):Int)=k by omega] at this
theorem wV(k:Int)(H:Y):D Tryz.prog 72 [.Z (.int .u8 k)] H (.ret (.Z (.bool (tq k)))) H:=by
 refine aD (Nat.le_refl _) (adB (aA ?_))
 simp only[Zl,ux]
 by_cases g3:k=95
 ·subst g3
  have g1:xS 95≥97:=by decide +kernel
  have g2:¬xS 95≤122:=by decide +kernel
  refine vo @vD g1 g2 ?_
  exact am .refl (by simp[tq])
 by_cases g1:xS k≥97
 ·by_cases g2:xS k≤122
  ·refine vo @vD g1 g2 ?_
   exact am .refl (by simp[tq,g1,g2])
  ·refine Tg @vD g1 g2 g3 ?_
   exact am .refl (by simp[tq,g2,g3])
 ·have g2:¬97≤xS k:=g1
  refine vo @vD g1 g3 ?_
  exact am .refl (by simp[tq,g2,g3])
theorem TS(k:Int)(H:Y):D Tryz.prog 74 [.Z (.int .u8 k)] H (.ret (.Z (.bool (tq k || rR k)))) H:=by
 refine aD (Nat.le_refl _) (adD (aA ?_))
 simp only[Zn,ux]
 refine aN ?_
 refine ai (wV _ _) ?_
 cases h:tq k
 ·by_cases g1:k≥48
  ·by_cases g2:k≤57
   ·refine eL g1 g2 ?_
    exact am .refl (by simp[rR,g2];omega)
   ·refine eL g1 g2 ?_
    exact am .refl (by simp[rR,g2])
  ·refine ee g1 ?_
   exact am .refl (by simp[rR];omega)
 ·refine aN ?_
  exact am .refl rfl
theorem ua(k:Int)(H:Y):D Tryz.prog 78 [.Z (.int .u8 k)] H (.ret (.Z (.bool (og k)))) H:=by
 refine aD (Nat.le_refl _) (Zr (aA ?_))
 simp only[TG,ux]
 by_cases g1:k≥97
 ·by_cases g2:k≤122
  ·refine eL g1 g2 ?_
   exact am .refl (by simp[og,g2];omega)
  ·have g3:k≥65:=by omega
   have g4:¬k≤90:=by omega
   have g5:¬k=95:=by omega
   refine GF g1 g2 g3 g4 g5 ?_
   exact am .refl (by simp[og,g2,g4,g5])
 ·by_cases g3:k≥65
  ·by_cases g4:k≤90
   ·refine vo g1 g3 g4 ?_
    exact am .refl (by simp[og,g4];omega)
   ·by_cases g5:k=95
    ·refine Tg g1 g3 g4 g5 ?_
     exact am .refl (by simp[og,g5])
    ·refine Tg g1 g3 g4 g5 ?_
     exact am .refl (by simp[og,g4,g5];omega)
  ·have g5:¬k=95:=by omega
   refine vo g1 g3 g5 ?_
   exact am .refl (by simp[og,g5];omega)
theorem Pm(k:Int)(H:Y):D Tryz.prog 81 [.Z (.int .u8 k)] H (.ret (.Z (.bool (rR k)))) H:=by
 refine aD (Nat.le_refl _) (Zu (aA ?_))
 simp only[TI,ux]
 by_cases g1:k≥48
 ·by_cases g2:k≤57
  ·refine eL g1 g2 ?_
   exact am .refl (by simp[rR,g2];omega)
  ·refine eL g1 g2 ?_
   exact am .refl (by simp[rR,g2])
 ·refine ee g1 ?_
  exact am .refl (by simp[rR];omega)
def oh:List ByteArray:=[⟨#[102,117,110,99]⟩,⟨#[118,97,114]⟩,⟨#[105,102]⟩,⟨#[101,108,115,101]⟩,⟨#[119,104,105,108,101]⟩,⟨#[114,101,116,117,114,110]⟩,⟨#[112,114,105,110,116]⟩,⟨#[116,114,117,101]⟩,⟨#[102,97,108,115,101]⟩,⟨#[108,101,110]⟩,⟨#[114,101,97,100]⟩]
theorem Pn(H:Y):D Tryz.prog 80 [] H (.ret (.an 1 (strs oh) (some []))) H:=by
 refine aD (Nat.le_refl _) (adE (aA ?_))
 simp only[Zt,ux]
 refine aN ?_
 exact da .refl (.same ⟨⟨trivial,trivial,trivial,trivial,trivial,trivial,trivial,trivial,trivial,trivial,trivial,trivial⟩,trivial⟩)
open Go.RowKit Go.Shelf
theorem TT {φ : aH} {H : Y} {w : World} (h : yh φ H w) : Lib.TabIs Tryz.prog w "strings.asciiSpace" .u8 Lib.asciiSpaceTab := by
 obtain ⟨⟨e,fr,h1⟩,_⟩:=h _ (List.mem_cons_self ..)
 unfold Lib.TabIs World.var?
 have hg : Tryz.prog.globalNamed "strings.asciiSpace" = some 0 := by kernel_rfl
 rw[hg]
 simp only[Option.bind_some,h1]
 congr 2
theorem GP{φ:aH}{O:Nat→Prop}{w:World}{b:Nat}:∀(l:List ByteArray)(off:Nat),(∀j (h:j<l.length),cC w b (off+j) 0=some (.string l[j]))→Rl φ O w b 1 (strs l) off
 | [],_,_=>trivial
 | x::r,off,h=>by
  have h0:=h 0 (by simp)
  simp only[Nat.add_zero,List.getElem_cons_zero] at h0
  refine ⟨rfl,fun _=>⟨_,h0,rfl⟩,h0,GP r (off+1) fun j hj=>?_⟩
  have:=h (j+1) (by simp;omega)
  rw[show off+1+j=off+(j+1) by omega]
  simpa using this
theorem wW(s:ByteArray)(l:List ByteArray)(hl:(Lib.fields s.data.toList).map (fun x=>(⟨x.toArray⟩:ByteArray))=l)(hs:s.size<4294967281)(hascii:∀(j:Nat) b,s.data.toList[j]? = some b→b.toNat<128)(hn:l.length≤1000000)(H:Y):D Tryz.prog 126 [.Z (.string s)] H (.ret (.an 1 (strs l) none)) H:=by
 refine ⟨Nat.le_refl _,fun φ w vs hR ha=>?_⟩
 obtain ⟨a,r,e1,a1,a2,e3⟩:=ha
 have ea:a = .string s:=bP ⟨a1,a2⟩
 have e3':r=[]:=e3
 have hvs:vs=#[.string s]:=by
  cases vs
  simp only at e1
  rw[e1,ea,e3']
 rw[hvs]
 refine (Any.strings_Fields Qo (by kernel_rfl) (by kernel_rfl) s w hs hascii (TT hR.gZ)).mono fun en w' ⟨he,hw⟩=>?_
 have eF:(Lib.fields s.data.toList).length=l.length:=by rw[←hl];simp
 have hcells:((Lib.fields s.data.toList).map fun l=>Value.string ⟨l.toArray⟩)=l.map Value.string:=by rw[←hl];simp[Function.comp_def]
 rw[hcells] at hw
 rw[eF] at he
 have hold:∀b,b<w.heap.size→w'.heap[b]? = w.heap[b]?:=fun b hb=>by rw[hw];exact heap_alloc_old w _ hb
 have hsz:w'.heap.size=w.heap.size+1:=by rw[hw];exact World.size_alloc w _
 have hno:¬Own φ H w.heap.size:=by
  rintro ⟨id,k,g1,_⟩
  have:=(hR.dom id _ g1).2
  omega
 refine ⟨φ,?_,hR.grow (by omega) hold,grow_step (by rw[hw];rfl) (by rw[hw];rfl) (by rw[hw];rfl) (by omega) hold⟩
 rw[he]
 refine ⟨rfl,_,l.length,?_,?_,?_,fun h=>by simp at h,fun _=>⟨w.heap.size,0,rfl,hno,by omega,GP l 0 fun j hj=>?_⟩,trivial⟩
 ·simp[eM,Value.cells,strs]
 ·simp[strs]
 ·unfold maxLen;omega
 ·unfold cC
  rw[hw,World.cell?_alloc_at _ _ _ _ rfl]
  rw[show 0+j+0=j by omega,List.getElem?_toArray,List.getElem?_map,List.getElem?_eq_getElem hj]
  rfl
def eH(s:ByteArray)(k:Nat):Int:=((s.data.getD k 0).toNat:Int)
theorem CL(s:ByteArray)(k:Nat):0≤eH s k:=by unfold eH;omega
theorem CM(s:ByteArray)(k:Nat):eH s k<256:=by
 unfold eH
 have:=(s.data.getD k 0).toNat_lt
 omega
def oI(k:Int):Bool:=og k || rR k
theorem abO(s:ByteArray)(k:Nat):(tq (eH s k) || rR (eH s k))=oI (eH s k):=by
 rw[CJ (CL s k) (CM s k)];rfl
def CN(s:ByteArray):Bool:=(List.range s.size).all fun k=>oI (eH s k)
theorem Mp{s:ByteArray}{k:Nat}(hk:¬k<s.size)(h:∀j,j<k→oI (eH s j)=true):CN s=true :=
 List.all_eq_true.2 fun j hj=>h j (by have:=List.mem_range.1 hj;omega)
theorem Mq{s:ByteArray}{k:Nat}(hk:k<s.size)(h:oI (eH s k)=false):CN s=false:=by
 cases e:CN s
 ·rfl
 ·have:=List.all_eq_true.1 e k (List.mem_range.2 hk)
  rw[h] at this
  cases this
def iA(s:ByteArray):Bool:=!decide (s.size=0) && decide (s.size≤24) && og (eH s 0) && !kM oh s && CN s
theorem TU{s:ByteArray}(h:¬s=⟨#[]⟩):s.size≠0:=fun e=>h (by
 cases s with
 | mk d=>exact congrArg _ (Array.eq_empty_of_size_eq_zero e))
theorem GQ(H:Y):D Tryz.prog 73 [] H (.ret (.an 1 (strs oh) none)) H:=by
 have hf:=wW ⟨#[102,117,110,99,32,118,97,114,32,105,102,32,101,108,115,101,32,119,104,105,108,101,32,114,101,116,117,114,110,32,112,114,105,110,116,32,116,114,117,101,32,102,97,108,115,101,32,108,101,110,32,114,101,97,100]⟩ oh (by decide +kernel) (by decide +kernel) (fun j b h=>by
  have h2:∀b∈([102,117,110,99,32,118,97,114,32,105,102,32,101,108,115,101,32,119,104,105,108,101,32,114,101,116,117,114,110,32,112,114,105,110,116,32,116,114,117,101,32,102,97,108,115,101,32,108,101,110,32,114,101,97,100]:List UInt8),b.toNat<128:=by decide +kernel
  exact h2 b (List.mem_of_getElem? h)) (by decide)
 refine aD (Nat.le_refl _) (adC (aA ?_))
 simp only[Zm,ux]
 refine aN ?_
 refine ai (hf _) ?_
 refine aN ?_
 exact da .refl (.same ⟨⟨trivial,trivial,trivial,trivial,trivial,trivial,trivial,trivial,trivial,trivial,trivial,trivial⟩,trivial⟩)
set_option maxHeartbeats 4000000 in
theorem abP(l:List ByteArray)(ro:Option (List AV))(s:ByteArray)(hl:l.length≤1000000)(H:Y):D Tryz.prog 79 [.Z (.string s),.an 1 (strs l) ro] H (.ret (.Z (.bool (kM l s)))) H:=by
 refine aD (Nat.le_refl _) (Zs (aA ?_))
 simp only[TH,ux]
 refine ae fun L hL=>?_
 refine Pa @dj ?_
 refine hL _ _ ?_
 clear hL
 refine ae fun L hL=>?_
 refine Pa @dj ?_
 refine bI (fun ts F=>∃k:Nat,(k≤l.length∧∀j,j<k→¬lR l j=s)∧F=H∧Fr [some (.Z (.string s)),some (.an 1 (strs l) ro),none,none,some (.Z (.bool false)),some (.Z (.int .i64 k)),none,none,none,none,none,none,none,none,none,none,none,none] ts) (fun ts _=>l.length - (aU (ts.getD 5 .top)).toNat) ?_ ?_
 ·exact ⟨0,⟨Nat.zero_le _,fun j h=>absurd h (Nat.not_lt_zero _)⟩,rfl,by simp[Fr]⟩
 rintro ts F ⟨k,⟨hk,hp⟩,rfl,bx⟩ L2 cK
 obtain ⟨js,rfl⟩:=bx.opened
 clear bx
 by_cases hd:k<l.length
 ·have c1:(k:Int)<l.length:=by omega
  have hg:=wQ hd
  by_cases e:lR l k=s
  ·have hi:=Ag hd e
   simp -implicitDefEqProofs (maxSteps:=99999999) (disch:=first | omega | (simp only[vl];first | done | omega)) only[mk,c1,hg,dj,e,va,vg,vs,vw,vk,simprocAttr]
   rw[hi]
   exact ⟨by omega,bL .refl⟩
  ·simp -implicitDefEqProofs (maxSteps:=99999999) (disch:=first | omega | (simp only[vl];first | done | omega)) only[mk,c1,hg,dj,e,va,vg,vs,vw,vk,simprocAttr]
   refine ⟨by omega,cK _ _ ⟨k+1,⟨by omega,fun j hj=>?_⟩,rfl,by simp[Fr]⟩ (by simp[aU,mk];omega)⟩
   rcases Nat.lt_succ_iff_lt_or_eq.1 hj with h' | rfl
   ·exact hp j h'
   ·exact e
 ·have c1:¬(k:Int)<l.length:=by omega
  have hi:=tZ fun j hj=>hp j (by omega)
  simp -implicitDefEqProofs (maxSteps:=99999999) (disch:=first | omega | (simp only[vl];first | done | omega)) only[mk,c1,dj,va,vg,vs,vw,vk,simprocAttr]
  refine hL _ _ ?_
  clear hL
  refine wS ?_
  rw[hi]
  exact bL .refl
set_option maxHeartbeats 4000000 in
theorem TV(s:ByteArray)(H:Y):D Tryz.prog 47 [.Z (.string s)] H (.ret (.Z (.bool (iA s)))) H:=by
 refine aD (Nat.le_refl _) (Zq (aA ?_))
 simp only[TF,ux]
 have hb:((s.data.getD (0:Int).toNat 0).toNat:Int)=eH s 0:=rfl
 have nT:∀k:Nat,((s.data.getD (k:Int).toNat 0).toNat:Int)=eH s k:=fun k=>rfl
 have GR:∀k:Nat,((s.data.getD k 0).toNat:Int)=eH s k:=fun k=>rfl
 refine ae fun L hL=>?_
 refine aN ?_
 refine hL _ _ ?_
 clear hL
 refine ae fun L hL=>?_
 by_cases c0:s=⟨#[]⟩
 ·subst c0
  refine aN ?_
  exact am .refl rfl
 have z0:=TU c0
 by_cases c1:(s.size:Int) > 24
 ·refine eL c0 c1 ?_
  exact am .refl (by unfold iA;simp;omega)
 cases c2:og (eH s 0)
 ·refine GF c0 c1 hb nT GR ?_
  refine ⟨by omega,ai (ua _ _) ?_⟩
  refine ee c2 ?_
  exact am .refl (by simp[iA,c2])
 refine GF c0 c1 hb nT GR ?_
 refine ⟨by omega,ai (ua _ _) ?_⟩
 refine ee c2 ?_
 refine ai (Pn _) ?_
 refine ee c2 ?_
 refine ai (abP oh _ s (by decide) _) ?_
 cases c3:kM oh s
 rotate_left
 ·refine aN ?_
  exact am .refl (by simp[iA,c3])
 refine aN ?_
 refine hL _ _ ?_
 clear hL
 refine ae fun L hL=>?_
 refine aN ?_
 have hs:s.size≤24:=by omega
 have hN:iA s=CN s:=by simp[iA,c2,c3,z0,hs]
 refine bI (fun ts F=>∃k:Nat,(k≤s.size∧∀j,j<k→oI (eH s j)=true)∧F=H∧Fr [some (.Z (.string s)),none,some (.Z (.bool false)),some (.Z (.int .i64 k)),none,none,none,none,none,none,none,none,none,none,none,none,none,none,none,none,none,none,none,none,none,none,none,none,none,none,none,none,none,none,none,none,none,none,none,none] ts) (fun ts _=>s.size - (aU (ts.getD 3 .top)).toNat) ?_ ?_
 ·exact ⟨0,⟨Nat.zero_le _,fun j h=>absurd h (Nat.not_lt_zero _)⟩,rfl,by simp[Fr]⟩
 rintro ts F ⟨k,⟨hk,hp⟩,rfl,bx⟩ L2 cK
 obtain ⟨js,rfl⟩:=bx.opened
 clear bx
 by_cases hd:k<s.size
 ·have d1:(k:Int)<s.size:=by omega
  simp -implicitDefEqProofs (maxSteps:=99999999) (disch:=first | omega | (simp only[vl];first | done | omega)) only[mk,d1,hb,nT,GR,va,vg,vs,vw,vk,simprocAttr]
  refine ⟨by omega,ai (ua _ _) ?_⟩
  cases e1:og (eH s k)
  ·refine Tg e1 hb nT GR ?_
   refine ⟨by omega,ai (Pm _ _) ?_⟩
   cases e2:rR (eH s k)
   ·refine aN ?_
    exact am .refl (by rw[hN,Mq hd (by simp[oI,e1,e2])])
   ·refine aN ?_
    refine cK _ _ ⟨k+1,⟨by omega,fun j hj=>?_⟩,rfl,by simp[Fr]⟩ (by simp[aU,mk];omega)
    rcases Nat.lt_succ_iff_lt_or_eq.1 hj with h' | rfl
    ·exact hp j h'
    ·simp[oI,e1,e2]
  ·refine ee e1 ?_
   refine cK _ _ ⟨k+1,⟨by omega,fun j hj=>?_⟩,rfl,by simp[Fr]⟩ (by simp[aU,mk];omega)
   rcases Nat.lt_succ_iff_lt_or_eq.1 hj with h' | rfl
   ·exact hp j h'
   ·simp[oI,e1]
 ·have d1:¬(k:Int)<s.size:=by omega
  simp -implicitDefEqProofs (maxSteps:=99999999) (disch:=first | omega | (simp only[vl];first | done | omega)) only[mk,d1,va,vg,vs,vw,vk,simprocAttr]
  refine hL _ _ ?_
  clear hL
  refine wS ?_
  exact am .refl (by rw[hN,Mp hd hp])
set_option maxHeartbeats 4000000 in
theorem Mr(s:ByteArray)(H:Y):D Tryz.prog 43 [.Z (.string s)] H (.ret (.Z (.bool (iA s)))) H:=by
 refine aD (Nat.le_refl _) (adA (aA ?_))
 simp only[Zk,ux]
 have hb:((s.data.getD (0:Int).toNat 0).toNat:Int)=eH s 0:=rfl
 have nT:∀k:Nat,((s.data.getD (k:Int).toNat 0).toNat:Int)=eH s k:=fun k=>rfl
 have GR:∀k:Nat,((s.data.getD k 0).toNat:Int)=eH s k:=fun k=>rfl
 refine ae fun L hL=>?_
 refine aN ?_
 refine hL _ _ ?_
 clear hL
 refine ae fun L hL=>?_
 by_cases c0:s=⟨#[]⟩
 ·subst c0
  refine aN ?_
  exact am .refl rfl
 have z0:=TU c0
 by_cases c1:(s.size:Int) > 24
 ·refine eL c0 c1 ?_
  exact am .refl (by unfold iA;simp;omega)
 have lY:=CJ (CL s 0) (CM s 0)
 cases c2:og (eH s 0)
 ·refine GF c0 c1 hb nT GR ?_
  refine ⟨by omega,ai (wV _ _) ?_⟩
  refine eL lY c2 ?_
  exact am .refl (by simp[iA,c2])
 refine GF c0 c1 hb nT GR ?_
 refine ⟨by omega,ai (wV _ _) ?_⟩
 refine eL lY c2 ?_
 refine ai (GQ _) ?_
 refine ee c2 ?_
 refine ai (vC oh _ s (by decide) _) ?_
 cases c3:kM oh s
 rotate_left
 ·refine aN ?_
  exact am .refl (by simp[iA,c3])
 refine aN ?_
 refine hL _ _ ?_
 clear hL
 refine ae fun L hL=>?_
 refine aN ?_
 have hs:s.size≤24:=by omega
 have hN:iA s=CN s:=by simp[iA,c2,c3,z0,hs]
 refine bI (fun ts F=>∃k:Nat,(k≤s.size∧∀j,j<k→oI (eH s j)=true)∧F=H∧Fr [some (.Z (.string s)),none,some (.Z (.bool false)),none,none,none,none,none,none,none,none,none,none,none,none,none,none,none,none,none,none,none,none,some (.Z (.int .i64 s.size)),some (.Z (.int .i64 k)),none,none,none,none,none,none,none,none] ts) (fun ts _=>s.size - (aU (ts.getD 24 .top)).toNat) ?_ ?_
 ·exact ⟨0,⟨Nat.zero_le _,fun j h=>absurd h (Nat.not_lt_zero _)⟩,rfl,by simp[Fr]⟩
 rintro ts F ⟨k,⟨hk,hp⟩,rfl,bx⟩ L2 cK
 obtain ⟨js,rfl⟩:=bx.opened
 clear bx
 by_cases hd:k<s.size
 ·have d1:(k:Int)<s.size:=by omega
  have hw:=abO s k
  simp -implicitDefEqProofs (maxSteps:=99999999) (disch:=first | omega | (simp only[vl];first | done | omega)) only[mk,d1,hb,nT,GR,va,vg,vs,vw,vk,simprocAttr]
  refine ⟨by omega,ai (TS _ _) ?_⟩
  rw[hw]
  cases e1:oI (eH s k)
  ·refine aN ?_
   exact am .refl (by rw[hN,Mq hd e1])
  ·refine aN ?_
   refine cK _ _ ⟨k+1,⟨by omega,fun j hj=>?_⟩,rfl,by simp[Fr]⟩ (by simp[aU,mk];omega)
   rcases Nat.lt_succ_iff_lt_or_eq.1 hj with h' | rfl
   ·exact hp j h'
   ·exact e1
 ·have d1:¬(k:Int)<s.size:=by omega
  simp -implicitDefEqProofs (maxSteps:=99999999) (disch:=first | omega | (simp only[vl];first | done | omega)) only[mk,d1,va,vg,vs,vw,vk,simprocAttr]
  refine hL _ _ ?_
  clear hL
  refine wS ?_
  exact am .refl (by rw[hN,Mp hd hp])
def qf(l:List ByteArray)(s:ByteArray):Bool:=!decide (s=⟨#[]⟩) && kM l s
def Ai:List ByteArray:=[⟨#[45]⟩,⟨#[33]⟩]
def oJ:List ByteArray:=[⟨#[124,124]⟩,⟨#[38,38]⟩,⟨#[61,61]⟩,⟨#[33,61]⟩,⟨#[60]⟩,⟨#[60,61]⟩,⟨#[62]⟩,⟨#[62,61]⟩,⟨#[43]⟩,⟨#[45]⟩,⟨#[42]⟩,⟨#[47]⟩,⟨#[37]⟩]
def jm(t:Nd):Bool :=
 if t.kind=20 then decide (t.text=⟨#[]⟩) && decide (t.num≥0)
 else if t.kind=21 then decide (t.text=⟨#[]⟩) && (decide (t.num=0) || decide (t.num=1))
 else if ¬t.num=0 then false
 else if eT t.kind then iA t.text
 else if t.kind=23 then qf Ai t.text
 else if t.kind=24 then qf oJ t.text
 else decide (t.text=⟨#[]⟩)
theorem GS(s:ByteArray)(l:List ByteArray)(hl:l.length≤1000000)(hf:∀H,D Tryz.prog 126 [.Z (.string s)] H (.ret (.an 1 (strs l) none)) H)(t:Nd)(ro:Option (List AV))(H:Y):D Tryz.prog 125 [.Z (.string s),.ptr 4 H.length 0 0] (some ⟨4,[dF t ro],true,25⟩::H) (.ret (.Z (.bool (qf l t.text)))) (some ⟨4,[dF t ro],true,25⟩::H):=by
 refine aD (Nat.le_refl _) (abD (aA ?_))
 simp only[Tm,ux]
 rw[aM]
 obtain ⟨k,tx,n,kids⟩:=t
 simp only[Nd.kind,Nd.text,Nd.num,Nd.kids]
 refine ae fun L hL=>?_
 refine aN ?_
 refine hL _ _ ?_
 clear hL
 refine ae fun L hL=>?_
 by_cases c0:tx=⟨#[]⟩
 ·subst c0
  refine aN ?_
  refine hL _ _ ?_
  clear hL
  refine aN ?_
  exact am .refl (by simp[qf])
 ·refine ee c0 ?_
  refine aJ (hf _) ?_
  refine aN ?_
  refine aJ (vC l none tx hl _) ?_
  refine aN ?_
  refine hL _ _ ?_
  clear hL
  refine aN ?_
  exact am .refl (by simp[qf,c0])
theorem TW(H:Y):D Tryz.prog 126 [.Z (.string ⟨#[45,32,33]⟩)] H (.ret (.an 1 (strs Ai) none)) H :=
 wW _ Ai (by decide +kernel) (by decide +kernel) (fun j b h=>by
  have h2:∀b∈([45,32,33]:List UInt8),b.toNat<128:=by decide +kernel
  exact h2 b (List.mem_of_getElem? h)) (by decide) H
theorem TX(H:Y):D Tryz.prog 126 [.Z (.string ⟨#[124,124,32,38,38,32,61,61,32,33,61,32,60,32,60,61,32,62,32,62,61,32,43,32,45,32,42,32,47,32,37]⟩)] H (.ret (.an 1 (strs oJ) none)) H :=
 wW _ oJ (by decide +kernel) (by decide +kernel) (fun j b h=>by
  have h2:∀b∈([124,124,32,38,38,32,61,61,32,33,61,32,60,32,60,61,32,62,32,62,61,32,43,32,45,32,42,32,47,32,37]:List UInt8),b.toNat<128:=by decide +kernel
  exact h2 b (List.mem_of_getElem? h)) (by decide) H
theorem adF(n:Int):decide (n.fdiv (2 ^ min 1 IntKind.i64.bits)=0)=(decide (n=0) || decide (n=1)):=by
 rw[show min 1 IntKind.i64.bits=1 from rfl,show (2 ^ 1:Int)=2 from rfl,Int.fdiv_eq_ediv_of_nonneg _ (by omega),Bool.eq_iff_iff]
 simp
 omega
theorem XV(t:Nd)(ro:Option (List AV))(H:Y):D Tryz.prog 70 [dF t ro] H (.ret (.Z (.bool (jm t)))) H:=by
 have hA:=fun H=>GS _ Ai (by decide) TW t ro H
 have hB:=fun H=>GS _ oJ (by decide) TX t ro H
 have cl:bN Tryz.prog 125=true:=by kernel_rfl
 refine aD (Nat.le_refl _) (adx (aA ?_))
 simp only[Zh,ux]
 rw[aM] at *
 have hP:jm t=jm ⟨t.kind,t.text,t.num,t.kids⟩:=by rw[←t.eta]
 rw[hP]
 clear hP
 obtain ⟨k,tx,n,kids⟩:=t
 simp only[Nd.kind,Nd.text,Nd.num,Nd.kids] at hA hB ⊢
 refine ae fun L hL=>?_
 refine aN ?_
 refine hL _ _ ?_
 clear hL
 refine ae fun L hL=>?_
 simp -implicitDefEqProofs (maxSteps:=99999999) (disch:=first | omega | (simp only[vl];first | done | omega)) only[vu,cl,va,vg,vs,vw,vk,simprocAttr]
 refine hL _ _ ?_
 clear hL
 refine ae fun L hL=>?_
 by_cases GU:k=20
 ·subst GU
  by_cases c0:tx=⟨#[]⟩
  ·subst c0
   refine aN ?_
   exact am (.cons .refl) (by simp[jm,Nd.kind,Nd.text,Nd.num])
  ·refine ee c0 ?_
   exact am (.cons .refl) (by simp[jm,Nd.kind,Nd.text,Nd.num,c0])
 by_cases GV:k=21
 ·subst GV
  by_cases c0:tx=⟨#[]⟩
  ·subst c0
   refine aN ?_
   exact am (.cons .refl) (by simp[jm,Nd.kind,Nd.text,Nd.num];exact adF n)
  ·refine ee c0 ?_
   exact am (.cons .refl) (by simp[jm,Nd.kind,Nd.text,Nd.num,c0])
 by_cases n0:n=0
 rotate_left
 ·refine vo GU GV n0 ?_
  exact am (.cons .refl) (by simp[jm,Nd.kind,Nd.text,Nd.num,GU,GV,n0])
 subst n0
 cases hn:eT k
 rotate_left
 ·refine eL GU GV ?_
  refine ai (GM _ _) ?_
  rw[hn]
  refine eL GU GV ?_
  refine ai (Mr _ _) ?_
  refine aN ?_
  exact am (.cons .refl) (by simp[jm,Nd.kind,Nd.text,Nd.num,GU,GV,hn])
 refine eL GU GV ?_
 refine ai (GM _ _) ?_
 rw[hn]
 by_cases KE:k=23
 ·subst KE
  refine aN ?_
  refine ⟨cl,ai (hA _) ?_⟩
  refine aN ?_
  exact am (.cons .refl) (by simp[jm,Nd.kind,Nd.text,Nd.num,hn])
 by_cases KF:k=24
 ·subst KF
  refine aN ?_
  refine ⟨cl,ai (hB _) ?_⟩
  refine aN ?_
  exact am (.cons .refl) (by simp[jm,Nd.kind,Nd.text,Nd.num,hn])
 refine eL KE KF ?_
 refine hL _ _ ?_
 clear hL
 refine aN ?_
 exact am (.cons .refl) (by rw[Bool.eq_iff_iff];simp[jm,Nd.kind,Nd.text,Nd.num,hn,GU,GV,KE,KF];exact ⟨fun h=>decide_eq_true h,of_decide_eq_true⟩)
def jD(t:Nd):Bool :=
 if eT t.kind then iA t.text
 else if t.kind=23 then decide (t.text=⟨#[45]⟩) || decide (t.text=⟨#[33]⟩)
 else if ¬t.kind=24 then decide (t.text=⟨#[]⟩)
 else kM oJ t.text
set_option maxHeartbeats 4000000 in
theorem XW(t:Nd)(ro:Option (List AV))(H:Y):D Tryz.prog 132 [dF t ro] H (.ret (.Z (.bool (jD t)))) H:=by
 refine aD (Nat.le_refl _) (abM (aA ?_))
 simp only[TD,ux]
 rw[aM] at *
 have hP:jD t=jD ⟨t.kind,t.text,t.num,t.kids⟩:=by rw[←t.eta]
 rw[hP]
 clear hP
 obtain ⟨k,tx,n,kids⟩:=t
 simp only[Nd.kind,Nd.text,Nd.num,Nd.kids]
 refine ae fun L hL=>?_
 refine aN ?_
 refine hL _ _ ?_
 clear hL
 refine ae fun L hL=>?_
 cases hn:eT k
 rotate_left
 ·refine aN ?_
  refine ai (CI _ _) ?_
  rw[hn]
  refine aN ?_
  refine ai (TV _ _) ?_
  refine aN ?_
  exact am (.cons .refl) (by simp[jD,Nd.kind,Nd.text,hn])
 refine aN ?_
 refine ai (CI _ _) ?_
 rw[hn]
 refine aN ?_
 refine hL _ _ ?_
 clear hL
 refine ae fun L hL=>?_
 by_cases KE:k=23
 ·subst KE
  by_cases c0:tx=⟨#[45]⟩
  ·subst c0
   refine aN ?_
   exact am (.cons .refl) (by simp[jD,Nd.kind,Nd.text,hn])
  by_cases c1:tx=⟨#[33]⟩
  ·subst c1
   refine ee c0 ?_
   exact am (.cons .refl) (by simp[jD,Nd.kind,Nd.text,hn])
  ·refine eL c0 c1 ?_
   exact am (.cons .refl) (by simp[jD,Nd.kind,Nd.text,hn,c0,c1])
 refine ee KE ?_
 refine hL _ _ ?_
 clear hL
 refine ae fun L hL=>?_
 by_cases KF:k=24
 rotate_left
 ·refine ee KF ?_
  exact am (.cons .refl) (by rw[Bool.eq_iff_iff];simp[jD,Nd.kind,Nd.text,hn,KE,KF];exact ⟨fun h=>decide_eq_true h,of_decide_eq_true⟩)
 subst KF
 refine aN ?_
 refine hL _ _ ?_
 clear hL
 refine ae fun L hL=>?_
 refine aN ?_
 refine hL _ _ ?_
 clear hL
 refine ae fun L hL=>?_
 have adG : [AV.Z (.string ⟨#[124,124]⟩),.Z (.string ⟨#[38,38]⟩),.Z (.string ⟨#[61,61]⟩),.Z (.string ⟨#[33,61]⟩),.Z (.string ⟨#[60]⟩),.Z (.string ⟨#[60,61]⟩),.Z (.string ⟨#[62]⟩),.Z (.string ⟨#[62,61]⟩),.Z (.string ⟨#[43]⟩),.Z (.string ⟨#[45]⟩),.Z (.string ⟨#[42]⟩),.Z (.string ⟨#[47]⟩),.Z (.string ⟨#[37]⟩)]=strs oJ:=rfl
 have hq:jD ⟨24,tx,n,kids⟩=kM oJ tx:=by simp[jD,Nd.kind,Nd.text,hn]
 rw[adG,hq]
 have hlen:oJ.length=13:=rfl
 generalize oJ=l at *
 refine aN ?_
 refine bI (fun ts F=>∃k:Nat,(k≤l.length∧∀j,j<k→¬lR l j=tx)∧F=some ⟨4,[.agg [.Z (.int .u8 24),.Z (.string tx),.Z (.int .i64 n),.an 4 (bC kids) ro]],true,25⟩::H∧Fr [none,some (.ptr 4 H.length 0 0),some (.Z (.bool false)),some (.an 1 (strs l) (some [])),some (.Z (.int .i64 k)),none,none,none,none,none,none,none,none,none,none,none,none,none,none,none,none,none,none,none,none,none,none,none,none,none,none,none,none,none,none,none,none,none,none,none,none,none] ts) (fun ts _=>l.length - (aU (ts.getD 4 .top)).toNat) ?_ ?_
 ·exact ⟨0,⟨Nat.zero_le _,fun j h=>absurd h (Nat.not_lt_zero _)⟩,rfl,by simp[Fr]⟩
 rintro ts F ⟨k,⟨hk,hp⟩,rfl,bx⟩ L2 cK
 obtain ⟨js,rfl⟩:=bx.opened
 clear bx
 by_cases hd:k<l.length
 ·have c1:(k:Int)<l.length:=by omega
  have hg:=wQ hd
  by_cases e:tx=lR l k
  ·have hi:=Ag hd e.symm
   simp -implicitDefEqProofs (maxSteps:=99999999) (disch:=first | omega | (simp only[vl];first | done | omega)) only[mk,c1,hg,dj,←e,va,vg,vs,vw,vk,simprocAttr]
   rw[hi]
   exact ⟨by omega,bL (.cons .refl)⟩
  ·simp -implicitDefEqProofs (maxSteps:=99999999) (disch:=first | omega | (simp only[vl];first | done | omega)) only[mk,c1,hg,dj,e,va,vg,vs,vw,vk,simprocAttr]
   refine ⟨by omega,cK _ _ ⟨k+1,⟨by omega,fun j hj=>?_⟩,rfl,by simp[Fr]⟩ (by simp[aU,mk];omega)⟩
   rcases Nat.lt_succ_iff_lt_or_eq.1 hj with h' | rfl
   ·exact hp j h'
   ·exact fun h=>e h.symm
 ·have c1:¬(k:Int)<l.length:=by omega
  have hi:=tZ fun j hj=>hp j (by omega)
  simp -implicitDefEqProofs (maxSteps:=99999999) (disch:=first | omega | (simp only[vl];first | done | omega)) only[mk,c1,dj,va,vg,vs,vw,vk,simprocAttr]
  refine hL _ _ ?_
  clear hL
  refine wS ?_
  rw[hq,hi]
  exact bL (.cons .refl)
theorem ams(l:List ByteArray)(s:ByteArray)(h:kM l ⟨#[]⟩=false):qf l s=kM l s:=by
 unfold qf
 by_cases e:s=⟨#[]⟩
 ·rw[e,h];simp
 ·simp[e]
def GW(t:Nd):Bool:=(kj t.kind).isSome && jm t && ((kL t.kind).2 || decide (t.kids.length=(kL t.kind).1.length))
def gT(k:Int):Bool:=(decide (k≥1) && decide (k≤12)) || dY k
def lT(k n:Int):Bool:=decide (n=0) || (decide (k=20) && decide (n > 0)) || (decide (k=21) && decide (n=1))
def nB(t:Nd):Bool:=gT t.kind && lT t.kind t.num && jD t && (decide (dZ t.kind<0) || decide ((t.kids.length:Int)=dZ t.kind))
theorem CO(t:Nd):GW t=nB t:=by
 obtain ⟨k,s,n,l⟩:=t
 unfold GW nB
 simp only[Nd.kind,Nd.kids,Nd.num]
 rcases rQ k with ⟨h,hn⟩ | h
 ·have g:∀m:Int,m∈gL.map (·.1)→k≠m:=fun m hm=>by
   obtain ⟨x,hx,rfl⟩:=List.mem_map.1 hm
   exact hn x hx
  have e:gT k=false:=by
   have g1:=fun m (hm:m∈gL.map (·.1))=>g m hm
   simp only[gL,List.map_cons,List.map_nil] at g1
   have:=g1 1 (by decide);have:=g1 2 (by decide);have:=g1 3 (by decide);have:=g1 4 (by decide);have:=g1 5 (by decide);have:=g1 6 (by decide);have:=g1 7 (by decide);have:=g1 8 (by decide);have:=g1 9 (by decide);have:=g1 10 (by decide);have:=g1 11 (by decide);have:=g1 12 (by decide);have:=g1 20 (by decide);have:=g1 21 (by decide);have:=g1 22 (by decide);have:=g1 23 (by decide);have:=g1 24 (by decide);have:=g1 25 (by decide);have:=g1 26 (by decide);have:=g1 27 (by decide);have:=g1 28 (by decide);have:=g1 29 (by decide)
   unfold gT dY
   rw[←Bool.not_eq_true]
   simp
   omega
  rw[h,e]
  simp
 ·simp only[gL,List.map_cons,List.map_nil,List.mem_cons,List.not_mem_nil,or_false] at h
  have q1:decide ((l.length:Int)=1)=decide (l.length=1):=by rw[Bool.eq_iff_iff];simp;omega
  have q2:decide ((l.length:Int)=2)=decide (l.length=2):=by rw[Bool.eq_iff_iff];simp;omega
  have q3:decide ((l.length:Int)=3)=decide (l.length=3):=by rw[Bool.eq_iff_iff];simp;omega
  have q0:(decide (n=0) || decide (0<n))=decide (0≤n):=by rw[Bool.eq_iff_iff];simp;omega
  have e1:=ams Ai s (by decide +kernel)
  have e2:=ams oJ s (by decide +kernel)
  have e3:kM Ai s=(decide (s=⟨#[45]⟩) || decide (s=⟨#[33]⟩)):=by
   simp[kM,Ai,eq_comm]
  rw[e3] at e1
  rcases h with rfl | rfl | rfl | rfl | rfl | rfl | rfl | rfl | rfl | rfl | rfl | rfl | rfl | rfl | rfl | rfl | rfl | rfl | rfl | rfl | rfl | rfl<;>simp[kL,kj,gL,jg,gT,dY,lT,dZ,jm,jD,Nd.kind,Nd.text,Nd.num,eT,e1,e2]
  all_goals first
   | (simp only[q1,q2,q3];done)
   | rfl
   | (simp only[q0];ac_rfl)
   | (simp only[q1,q2,q3];rfl)
   | ac_rfl
theorem Over.len{H G:Y}(h:Over H G):H.length≤G.length:=by
 obtain ⟨A,rfl⟩:=h.split
 simp
theorem Over.find{H G:Y}(h:Over H G){i:Nat}(hi:i<H.length):Y.find G i=Y.find H i:=by
 obtain ⟨A,rfl⟩:=h.split
 exact Y.bw hi
theorem Over.trans{A B C:Y}(h:Over A B)(k:Over B C):Over A C:=by
 induction k with
 | refl=>exact h
 | cons _ ih=>exact .cons ih
theorem Nd.iZ(l:List Nd):l.length≤Nd.aw l:=by
 induction l with
 | nil=>simp[Nd.aw]
 | cons x r ih=>have:=x.size_pos;simp only[List.length_cons,Nd.aw];omega
theorem Nd.GY(t:Nd):t.kids.length<t.size:=by
 have:=Nd.iZ t.kids
 rw[Nd.size_eq]
 omega
def tt(k:Int)(l:List Nd):Bool:=!decide (k=7) || !decide ((aC l 0).kind=26) || decide ((aC (aC l 0).kids 0).kind=22)
mutual
def bB:Nd→Nat→Bool
 | ⟨k,s,n,l⟩,m=>decide (1≤m) && nB ⟨k,s,n,l⟩ && ko k l 0 (m - 1) && tt k l
def ko:Int→List Nd→Nat→Nat→Bool
 | _,[],_,_=>true
 | p,t::r,a,m=>dB p t.kind a && bB t m && ko p r (a+1) m
end
theorem lm(t:Nd)(m:Nat):bB t m=(decide (1≤m) && nB t && ko t.kind t.kids 0 (m - 1) && tt t.kind t.kids):=by
 cases t
 simp only[bB,Nd.kind,Nd.kids]
theorem ol(p:Int)(m:Nat):∀(l:List Nd)(a:Nat),ko p l a m=true↔∀j,j<l.length→dB p (aC l j).kind (a+j:Nat)=true∧bB (aC l j) m=true
 | [],a=>by simp[ko]
 | t::r,a=>by
  have ih:=ol p m r (a+1)
  simp only[ko,Bool.and_eq_true,ih]
  constructor
  ·rintro ⟨⟨h1,h2⟩,h3⟩ j hj
   cases j with
   | zero=>exact ⟨h1,h2⟩
   | succ j =>
    have:=h3 j (by simpa using hj)
    rw[show a+(j+1)=a+1+j by omega]
    simpa [aC] using this
  ·intro h
   refine ⟨h 0 (by simp),fun j hj=>?_⟩
   have:=h (j+1) (by simpa using hj)
   rw[show a+(j+1)=a+1+j by omega] at this
   simpa [aC] using this
theorem sI{p:Int}{l:List Nd}{m k:Nat}(hk:k<l.length)(h:dB p (aC l k).kind k=false∨bB (aC l k) m=false):ko p l 0 m=false:=by
 cases e:ko p l 0 m
 ·rfl
 ·have:=(ol p m l 0).1 e k hk
  rw[Nat.zero_add] at this
  rcases h with h | h
  ·rw[h] at this;exact absurd this.1 (by simp)
  ·rw[h] at this;exact absurd this.2 (by simp)
theorem CQ{p:Int}{l:List Nd}{m k:Nat}(hk:¬k<l.length)(h:∀j,j<k→dB p (aC l j).kind j=true∧bB (aC l j) m=true):ko p l 0 m=true :=
 (ol p m l 0).2 fun j hj=>by rw[Nat.zero_add];exact h j (by omega)
theorem GZ{t:Nd}(hk:t.kind=7)(h:nB t=true):t.kids.length=2:=by
 simp only[nB,hk,Bool.and_eq_true] at h
 have:=h.2
 simp[dZ] at this
 omega
theorem Aj{t:Nd}{m:Nat}(hk:t.kind=26)(h:bB t m=true):t.kids.length=2:=by
 rw[lm] at h
 simp only[Bool.and_eq_true] at h
 have h:=h.1.1.2
 simp only[nB,hk,Bool.and_eq_true] at h
 have:=h.2
 simp[dZ] at this
 omega
theorem CR{k:Int}(h:dB 7 k 0=true):k=22∨k=26:=by
 simp[dB,dZ] at h
 omega
set_option maxHeartbeats 0 in
theorem Po(t:Nd):∀(ro:Option (List AV))(m:Nat)(d:Int)(hd:d=41 - m)(TY:m≤41)(hz:t.size≤1000000)(id:Nat)(H:Y)(hf:Y.find H id=some ⟨1,[.fn (.func 68) [] [.ptr 1 id 0 0]],true,113⟩),D Tryz.prog 68 [dF t ro,.Z (.int .i64 d),.ptr 1 id 0 0] H (.ret (.Z (.bool (bB t m)))) H:=by
 induction t using Nd.ind with
 | _ t ih =>
  intro ro m d hd TY hz id H hf
  have mc:=Nd.GY t
  have hid:id<H.length:=Y.au hf
  have cl:bN Tryz.prog 68=true:=by kernel_rfl
  have hP:=lm t m
  rw[←CO] at hP
  unfold GW at hP
  have Rv:∀H,D Tryz.prog 70 [.agg [.Z (.int .u8 t.kind),.Z (.string t.text),.Z (.int .i64 t.num),.an 4 (bC t.kids) ro]] H (.ret (.Z (.bool (jm t)))) H:=fun H=>XV t ro H
  have gq:∀h:t.kind=7,nB t=true→t.kids.length=2:=fun h h2=>GZ h h2
  have hls:GW t=nB t:=CO t
  unfold GW at hls
  refine aD (Nat.le_refl _) (adw (aA ?_))
  simp only[Zg,ux]
  rw[aM]
  have hr:=Mo t.kind
  unfold GI at hr
  have hall:=CH (p:=t.kind)
  generalize (kj t.kind).isSome=s at *
  obtain ⟨l,b,hG⟩:∃l b,kL t.kind=(l,b):=⟨_,_,rfl⟩
  rw[hG] at hr hP hall hls
  simp only at hr hP hall hls
  obtain ⟨k1,k2,k3,k4,k5,k6⟩:=GL l
  have fF:∀H F:Y,Over H F→bB t m=false→eo H (.ret (.Z (.bool false))) F (.ret (.Z (.bool (bB t m)))) H:=fun H F h e=>by rw[e];exact bL h
  refine ae fun L hL=>?_
  refine aN ?_
  refine hL _ _ ?_
  clear hL
  refine ae fun L hL=>?_
  refine aN ?_
  refine ai (hr _) ?_
  simp -implicitDefEqProofs (maxSteps:=99999999) (disch:=first | omega | (simp only[vl];first | done | omega)) only[vu,k3,k4,k5,k6,va,vg,vs,vw,vk,simprocAttr]
  refine hL _ _ ?_
  clear hL
  refine ae fun L hL=>?_
  cases s
  ·refine aN ?_
   exact fF _ _ (.cons (.cons .refl)) (by rw[hP];simp)
  by_cases c1:d > 40
  ·refine ee c1 ?_
   exact fF _ _ (.cons (.cons .refl)) (by rw[hP];simp;omega)
  refine ee c1 ?_
  refine ai (Rv _) ?_
  cases hs:jm t
  ·refine aN ?_
   exact fF _ _ (.cons (.cons .refl)) (by rw[hP];simp[hs])
  by_cases c2:b=false∧¬t.kids.length=l.length
  ·obtain ⟨rfl,c2⟩:=c2
   have c3:¬(t.kids.length:Int)=l.length:=by omega
   simp -implicitDefEqProofs (maxSteps:=99999999) (disch:=first | omega | (simp only[vl];first | done | omega)) only[vu,c3,k1,k2,k3,k4,k5,k6,aF,va,vg,vs,vw,vk,simprocAttr]
   exact fF _ _ (.cons (.cons .refl)) (by rw[hP];simp[c2])
  have TZ:nB t=true:=by
   rw[←hls,hs]
   cases b
   ·simp only[Bool.true_and,Bool.false_or,decide_eq_true_eq]
    exact Decidable.byContradiction fun h=>c2 ⟨rfl,h⟩
   ·rfl
  have hm:1≤m:=by omega
  have Ak:bB t m=(ko t.kind t.kids 0 (m - 1) && tt t.kind t.kids):=by
   rw[lm,TZ]
   simp[hm]
  clear hP
  suffices key:∀ts,Fr [none,some (.Z (.int .i64 d)),some (.ptr 1 id 0 0),some (.ptr 4 H.length 0 0),none,some (.Z (.bool false)),none,none,none,none,none,none,none,none,none,none,none,none,none,none,none,none,none,none,none,none,none,none,none,none,none,none,none,none,none,none,none,none,none,none,none,none,none,none,none,none,none,none,none,none,none,none,none,none,none,none,none,none,none,none,none,none,none,none,none,none,none,none,none,none,none,none,none,none,none,none,none,none,none,none,none,none,none,none,none,none,none] ts→L ts (some ⟨2,[.agg [vz l,.Z (.bool b)]],true,116⟩::some ⟨4,[.agg [.Z (.int .u8 t.kind),.Z (.string t.text),.Z (.int .i64 t.num),.an 4 (bC t.kids) ro]],true,25⟩::H) by
   cases b
   ·have c3:t.kids.length=l.length:=Decidable.byContradiction fun h=>c2 ⟨rfl,h⟩
    have c4:(t.kids.length:Int)=l.length:=by omega
    simp -implicitDefEqProofs (maxSteps:=99999999) (disch:=first | omega | (simp only[vl];first | done | omega)) only[vu,c4,k1,k2,k3,k4,k5,k6,aF,va,vg,vs,vw,vk,simprocAttr]
    exact key _ (by simp[Fr])
   ·simp -implicitDefEqProofs (maxSteps:=99999999) (disch:=first | omega | (simp only[vl];first | done | omega)) only[vu,k1,k2,k3,k4,k5,k6,aF,va,vg,vs,vw,vk,simprocAttr]
    exact key _ (by simp[Fr])
  intro ts bx
  obtain ⟨js,rfl⟩:=bx.opened
  clear bx
  refine hL _ _ ?_
  clear hL
  refine ae fun L hL=>?_
  simp -implicitDefEqProofs (maxSteps:=99999999) (disch:=first | omega | (simp only[vl];first | done | omega)) only[mk,aF,va,vg,vs,vw,vk,simprocAttr]
  have hnone:dF=fun t ro=>AV.agg [.Z (.int .u8 t.kind),.Z (.string t.text),.Z (.int .i64 t.num),.an 4 (bC t.kids) ro]:=rfl
  refine bI (fun ts F=>∃k:Nat,(k≤t.kids.length∧∀j,j<k→dB t.kind (aC t.kids j).kind j=true∧bB (aC t.kids j) (m - 1)=true)∧(Over H F∧H.length<F.length∧Y.find F H.length=some ⟨4,[.agg [.Z (.int .u8 t.kind),.Z (.string t.text),.Z (.int .i64 t.num),.an 4 (bC t.kids) ro]],true,25⟩∧Y.find F id=some ⟨1,[.fn (.func 68) [] [.ptr 1 id 0 0]],true,113⟩)∧Fr [none,some (.Z (.int .i64 d)),some (.ptr 1 id 0 0),some (.ptr 4 H.length 0 0),none,some (.Z (.bool false)),none,none,none,none,none,none,none,none,none,none,none,none,none,none,none,none,none,none,none,none,none,none,none,none,none,none,none,none,none,none,none,none,none,none,none,none,some (.an 4 (bC t.kids) ro),some (.Z (.int .i64 t.kids.length)),some (.Z (.int .i64 k)),none,none,none,none,none,none,none,none,none,none,none,none,none,none,none,none,none,none,none,none,none,none,none,none,none,none,none,none,none,none,none,none,none,none,none,none,none,none,none,none,none,none] ts) (fun ts _=>t.kids.length - (aU (ts.getD 44 .top)).toNat) ?_ ?_
  ·refine ⟨0,⟨Nat.zero_le _,fun j h=>absurd h (Nat.not_lt_zero _)⟩,⟨.cons (.cons .refl),by simp only[List.length_cons];omega,?_,?_⟩,by simp[Fr]⟩
   ·rw[aj (by simp),aL rfl]
   ·rw[aj (by simp;omega),aj hid,hf]
  rintro ts F ⟨k,⟨hk,hp⟩,⟨f1,f2,f3,f4⟩,bx⟩ L2 cK
  obtain ⟨js,rfl⟩:=bx.opened
  clear bx
  by_cases Al:k<t.kids.length
  ·have d1:(k:Int)<t.kids.length:=by omega
   have hg:=dm Al
   have eJ:=e8 Al
   simp -implicitDefEqProofs (maxSteps:=99999999) (disch:=first | omega | (simp only[vl];first | done | omega)) only[mk,d1,hg,f3,f4,aF,va,vg,vs,vw,vk,simprocAttr]
   refine ⟨by omega,ai (XT _ _ _ _) ?_⟩
   rw[Ky]
   cases e1:dB t.kind (aC t.kids k).kind k
   ·refine aN ?_
    exact fF _ _ (.cons f1) (by rw[Ak,sI Al (.inl e1)];rfl)
   refine eL f3 f4 ?_
   refine ⟨cl,ai (ih _ eJ none (m - 1) _ (by omega) (by omega) (by have:=Nd.qd eJ;omega) id _ (by rw[aj (by omega),f4])) ?_⟩
   cases e2:bB (aC t.kids k) (m - 1)
   ·refine aN ?_
    exact fF _ _ (.cons f1) (by rw[Ak,sI Al (.inr e2)];rfl)
   refine aN ?_
   refine cK _ _ ⟨k+1,⟨by omega,fun j hj=>?_⟩,⟨.cons f1,by simp;omega,by rw[aj (by omega),f3],by rw[aj (by omega),f4]⟩,by simp[Fr]⟩ (by simp[aU,mk];omega)
   rcases Nat.lt_succ_iff_lt_or_eq.1 hj with h' | rfl
   ·exact hp j h'
   ·exact ⟨e1,e2⟩
  ·have d1:¬(k:Int)<t.kids.length:=by omega
   have hR:=CQ Al hp
   simp -implicitDefEqProofs (maxSteps:=99999999) (disch:=first | omega | (simp only[vl];first | done | omega)) only[mk,d1,f3,va,vg,vs,vw,vk,simprocAttr]
   refine hL _ _ ?_
   clear hL
   by_cases g7:t.kind=7
   ·have h2:=gq g7 TZ
    have eW:¬k<2:=by omega
    have vE:=dm (l:=t.kids) (k:=0) (by omega)
    have o7:=hp 0 (by omega)
    rw[g7] at o7
    have h0:(0:Int)<(2:Nat):=by omega
    by_cases g22:(aC t.kids 0).kind=22
    ·rw[g22] at vE
     refine zB6 f3 g7 vE @aF h2 h0 ?_
     exact am f1 (by rw[Ak,hR,g7];simp[tt,g22])
    ·have KG:(aC t.kids 0).kind=26:=by
      rcases CR o7.1 with h | h
      ·exact absurd h g22
      ·exact h
     have i2:=Aj KG o7.2
     have yu:=dm (l:=(aC t.kids 0).kids) (k:=0) (by omega)
     rw[KG] at vE
     refine zB8 f3 g7 vE yu @aF h2 i2 h0 ?_
     exact am f1 (by rw[Ak,hR,g7];simp[tt,KG])
   ·refine eL f3 g7 ?_
    exact am f1 (by rw[Ak,hR];simp[tt,g7])
theorem CS(t:Nd)(ro:Option (List AV))(hz:t.size≤1000000)(H:Y):D Tryz.prog 40 [dF t ro] H (.ret (.Z (.bool (bB t 40)))) H:=by
 have cl:bN Tryz.prog 68=true:=by kernel_rfl
 have hr:=Po t ro 40 1 rfl (by omega) hz
 rw[aM] at hr ⊢
 refine aD (Nat.le_refl _) (adu (aA ?_))
 simp only[Zf,ux]
 refine ae fun L hL=>?_
 refine aN ?_
 refine hL _ _ ?_
 clear hL
 refine ae fun L hL=>?_
 refine aN ?_
 refine hL _ _ ?_
 clear hL
 refine ae fun L hL=>?_
 simp -implicitDefEqProofs (maxSteps:=99999999) (disch:=first | omega | (simp only[vl];first | done | omega)) only[vu,cl,va,vg,vs,vw,vk,simprocAttr]
 refine hL _ _ ?_
 clear hL
 refine ae fun L hL=>?_
 refine aN ?_
 refine ⟨cl,ai (hr (H.length+1) _ (aL (by simp))) ?_⟩
 refine aN ?_
 refine hL _ _ ?_
 clear hL
 refine aN ?_
 exact am (.cons (.cons .refl)) rfl
end Go.Proofs.YtnoplgongieehaaGreatDoor
