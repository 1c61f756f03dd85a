import Derived.Test.YtnoplgongieehaaGreatDoorM1
import Derived.Laws.IdiomStrings
import Derived.Laws.StructEq
import Derived.ChangeKeysEq
import Derived.Laws.Externs
import Derived.KernelRfl
import Derived.Lib.AppendZerosOnto
import Derived.Lib.UnsafeStr
import Derived.Lib.BufferWrite
import Derived.Lib.Builder
import Derived.RangeFuncRecord
namespace Go.Proofs.YtnoplgongieehaaGreatDoor
open Go.RowKit
set_option linter.unusedVariables false
set_option linter.unusedSimpArgs false
section
variable {P:Program}
theorem NQ{φ:aH}{H:Y}{w:World}(hR:Rel φ H w){k:Nat}{x:AV}{v:Value}(hv:VR φ (Own φ H) w x v){K:List AV→Prop}(h:Fj H k x K):∃ys,K ys∧Src φ (Own φ H) w k ys v:=by
 cases x<;>try exact False.elim h
 ·exact ⟨_,h.2,Src.LR hv h.1⟩
 ·obtain ⟨blk,h1,⟨rfl,h2,h3⟩,h4⟩:=h
  exact ⟨_,h4,Src.sA hR hv h1 h2 h3⟩
theorem NR{H:Y}{id:Nat}{b:Option aK}(h:Y.find H id=b)(hl:id<H.length):Y.set H id b=H:=by
 induction H with
 | nil=>rfl
 | cons x r ih =>
  simp only[Y.set]
  simp only[Y.find] at h
  split
  ·rename_i e;rw[if_pos e] at h;rw[h]
  ·rename_i e
   rw[if_neg e] at h
   rw[ih h (by simp at hl;omega)]
theorem set_set{id:Nat}(b c:Option aK):∀(H:Y),Y.set (Y.set H id b) id c=Y.set H id c
 | []=>rfl
 | x::r=>by
  simp only[Y.set]
  split
  ·rename_i e;simp only[Y.set];rw[if_pos e]
  ·rename_i e;simp only[Y.set,Y.ah];rw[if_neg e,set_set b c r]
theorem Cj{H:Y}{id:Nat}{b x:Option aK}(hl:id<H.length):Y.set (b::H) id x=b::Y.set H id x:=by
 simp only[Y.set]
 rw[if_neg (by omega)]
theorem eE{w:World}{b off:Nat}{cur:Array Value}{t:TypeId}{fr:Nat×Nat}(h:w.heap[b]? = some (.cells cur t fr))(i:Nat):cC w b off i=cur[off+i]?:=by
 simp[cC,World.cell?,h]
theorem zt{φ:aH}{H:Y}{w:World}(hR:Rel φ H w){t ty e:TypeId}{inf:TypeInfo}(ht:P.underlying t=some (.slice e))(hi:P.info? e=some inf)(bW:0<inf.size)
  {id b n c' cap:Nat}{blk:aK}{cur:Array Value}{ys:List AV}{v:Value}(hm:φ id=some b)(hf:Y.find H id=some blk)(hb:w.heap[b]? = some (.cells cur blk.ty (0,0)))(hsz:cur.size=cap*blk.k)(hk:blk.k=inf.size)(hty:blk.ty=e)
  (hel:blk.es.length≤cap)(hex:blk.exact=true→cap=blk.es.length)(lK:cap≤maxLen)(NI:Rl φ (Own φ H) w b blk.k blk.es 0)(hv:Src φ (Own φ H) w inf.size ys v)(hn:n≤blk.es.length)(hroom:n+ys.length≤c')(hc:c'≤cap)
  (es':List AV)(kX:es'=blk.es.take n++ys++blk.es.drop (n+ys.length))(Ri:blk.exact=true→cap=es'.length) :
  ∃w',(Builtin.append_ #[t,t] ty #[.slice (some ⟨b,0,none⟩) n c',v]).run P w = .ok (.slice (some ⟨b,0,none⟩) (n+ys.length) c') w'∧
   Rel φ (Y.set H id (some { blk with es:=es' })) w'∧Step φ H w φ (Y.set H id (some { blk with es:=es' })) w':=by
 obtain ⟨a2,c2,news,rfl,n2,n3,n4,n5,n6⟩:=hv.ex
 obtain ⟨f1,f2⟩:=nc NI
 have pN:(flat blk.es).length=blk.es.length*blk.k:=cN f1
 have nn:(flat ys).length=ys.length*inf.size:=cN n3
 have hcm:blk.es.length*blk.k≤cap*blk.k:=Nat.mul_le_mul_right _ hel
 have hnm:n*blk.k≤blk.es.length*blk.k:=Nat.mul_le_mul_right _ hn
 have hnc:(n+ys.length)*blk.k≤cap*blk.k:=Nat.mul_le_mul_right _ (by omega)
 have Rj:(n+ys.length)*blk.k=n*blk.k+ys.length*blk.k:=Nat.add_mul _ _ _
 rw[←hk] at n2 n3 nn
 by_cases hy:0<ys.length
 ·obtain ⟨ad,rfl,hnews⟩:=n6 hy
  have hrun:=run_append_room (P:=P) w t ty e inf ht hi b n c' cur (by rw[←hty];exact hb) ad ys.length c2 news (by rw[n2,hk]) hnews n5 hroom (by rw[n2,hsz,←hk];omega)
  have zu:∀x∈es',x.ax=blk.k:=by
   intro x hx
   rw[kX] at hx
   rcases List.mem_append.1 hx with hx | hx
   ·rcases List.mem_append.1 hx with hx | hx
    ·exact f1 x (List.mem_of_mem_take hx)
    ·exact n3 x hx
   ·exact f1 x (List.mem_of_mem_drop hx)
  have zj:flat es'=(flat blk.es).take (n*blk.k)++flat ys++(flat blk.es).drop (n*blk.k+ys.length*blk.k):=by
   rw[kX,dz,dz,ng f1,kU f1,Rj]
  have zw:es'.length≤cap:=by rw[kX];simp;omega
  have fR:(cur.toList.take (n*blk.k)).length=n*blk.k:=by simp;omega
  have lY:((flat blk.es).take (n*blk.k)).length=n*blk.k:=by rw[List.length_take,pN];exact Nat.min_eq_left hnm
  have hw:=hR.write (by rw[hk];exact bW) hm hf hb hsz es' (fV:=(cur.toList.take (n*inf.size)++news++cur.toList.drop (n*inf.size+news.length)).toArray) (by simp[n2,←hk];omega) zw lK Ri zu (by
   rw[zj,←hk]
   refine cZ (cZ (bS (fun q hq=>?_) (ju (n:=n*blk.k) f2)) (bS (fun q hq=>?_) n4)) (bS (fun q hq=>?_) (jt (f:=n*blk.k+ys.length*blk.k) f2))
   ·have fM:q<n*blk.k:=by rw[lY] at hq;exact hq
    simp only[List.getElem?_toArray]
    rw[List.append_assoc,List.getElem?_append_left (by omega),List.getElem?_take_of_lt fM,eE hb]
    simp
   ·have fM:q<ys.length*blk.k:=by rw[nn] at hq;exact hq
    rw[lY]
    simp only[List.getElem?_toArray]
    rw[List.getElem?_append_left (by rw[List.length_append,fR,n2];omega),List.getElem?_append_right (by omega),fR]
    congr 1
    omega
   ·have hl:((flat blk.es).take (n*blk.k)++flat ys).length=n*blk.k+ys.length*blk.k:=by rw[List.length_append,lY,nn]
    rw[hl]
    simp only[List.getElem?_toArray]
    have dW:(cur.toList.take (n*blk.k)++news).length=n*blk.k+ys.length*blk.k:=by rw[List.length_append,fR,n2]
    rw[List.getElem?_append_right (by omega),dW,eE hb,n2]
    simp)
  exact ⟨_,hrun,hw.1,hw.2⟩
 ·have hy0:ys=[]:=List.length_eq_zero_iff.1 (by omega)
  subst hy0
  have he:es'=blk.es:=by rw[kX];simp
  have hz:=uI (P:=P) (w:=w) (ty:=ty) ht hi (base:=some ⟨b,0,none⟩) (a:=a2) (c':=c2) (show n≤c' by simpa using hroom)
  have gq:Y.set H id (some { blk with es:=es' })=H:=by
   rw[he]
   exact NR hf (Y.au hf)
  rw[gq]
  exact ⟨w,by simpa using hz,hR,Step.refl _ _ _⟩
theorem kY{φ:aH}{O:Nat→Prop}{w:World}{k id n c' b:Nat}{c:Option Nat}{cur:Array Value}{e:TypeId}{fr:Nat×Nat}(h1:φ id=some b)(h2:n≤c')(h3:c'≤maxLen)(h4:∀m,c=some m→c'=m)(h5:w.heap[b]? = some (.cells cur e fr))(h6:cur.size=c'*k) :
  VR φ O w (.aE k id 0 n c) (.slice (some ⟨b,0,none⟩) n c') :=
 ⟨rfl,b,c',cur,e,fr,h1,by simp[eM,Value.cells],h2,h3,h4,h5,by rw[h6];congr 1;omega⟩
theorem WD{o:Oper}{t e:TypeId}{inf:TypeInfo}{z:Value}{s x:Operand}{s' x':X}{args:Array Operand}{ats:Array TypeId}(ho:o.op = .call { callee:=.builtin .append,args,argTypes:=ats })(ha:args.toList=[s,x])(dy:ats.toList=[t,t])
  (ht:P.underlying t=some (.slice e))(hi:P.info? e=some inf)(hz:inf.zero=some z)(hzs:z.cells.size=inf.size)(bW:0<inf.size)(hby:inf.bytes≤1000)(hs:bj s=some s')(hx:bj x=some x'):cw P o (.dD inf.size e s' x'):=by
 intro φ H w ts a hR hr K Kp h next Q hn oZ
 obtain rfl:args=#[s,x]:=by apply Array.toList_inj.1;simpa using ha
 obtain rfl:ats=#[t,t]:=by apply Array.toList_inj.1;simpa using dy
 have hv:=ay hr hs
 have hw:=ay hr hx
 have hex:∀{r:Value}{w':World},(Builtin.append_ #[t,t] o.type #[a.eval s,a.eval x]).run P w = .ok r w'→(execOp a.eval o).run P w = .ok (.value r) w':=by
  intro r w' h1
  simp only[execOp,ho,resolve,invoke,builtin,Sem.run_bind,Sem.run_pure,Result.andThen_ok,List.map_toArray,List.map_cons,List.map_nil,h1]
 simp only[HO.bn] at h
 obtain ⟨ys,h,hsrc⟩:=NQ hR hw h
 split at h
 ·rename_i k' xs he
  rw[he] at hv
  obtain ⟨⟨g1,g2⟩,g3,g4⟩:=h
  obtain ⟨ad,c,wj,c1,c2,c3,c4,c5⟩:=fZ hv
  by_cases hy:ys=[]
  ·subst hy
   obtain ⟨a2,cc,news,e2,_⟩:=hsrc.ex
   refine aR (hex ?_) (hn _ _ _ _ _ (g3 rfl) hv hR (Step.refl _ _ _))
   rw[wj,e2]
   exact uI ht hi c1
  ·have hpos:0<ys.length:=List.length_pos_iff.2 hy
   have hcap:c=xs.length:=by have:=c5.1;simpa using this
   obtain ⟨c',w',r1,r2,r3,r4⟩:=qS (P:=P) hR (ty:=o.type) ht hi hz hzs hby bW (Src.LR hv g1) hsrc hpos g2 ⟨ad,c,wj,by omega,c3⟩
   exact aR (hex r1) (hn _ _ _ _ _ (g4 hy) r4 r2 r3)
 ·rename_i k' id off n c he
  rw[he] at hv
  obtain ⟨blk,h1,⟨rfl,hk,hty,rfl,hb8⟩,h⟩:=h
  obtain ⟨b,c',cur,e',fr,v1,v2,v3,v4,v5,v6,v7⟩:=ga hv
  obtain ⟨_,q9,cap,a1,a2,a3,a4,a5,a6⟩:=(hR.blk id b blk v1 h1).gY v6
  rw[v6] at a1
  cases a1
  have fE:c'=cap:=by
   rw[v7,hk] at a2
   have:(0+c')=cap:=Nat.eq_of_mul_eq_mul_right bW a2
   omega
  subst fE
  rw[Nat.zero_mul] at v2
  have Ck:id<H.length:=Y.au h1
  cases c with
  | none =>
   obtain ⟨⟨g1,g2⟩,g3⟩:=h
   by_cases hroom:n+ys.length≤c'
   ·obtain ⟨w',r1,r2,r3⟩:=zt (P:=P) hR (ty:=o.type) ht hi bW v1 h1 v6 a2 hk hty a3 a4 a5 a6 hsrc (Nat.le_of_eq g2) hroom (Nat.le_refl _) (blk.es++ys) (by
     rw[g2,List.take_length,List.drop_of_length_le (by omega),List.append_nil]) (fun h=>by rw[g1] at h;simp at h)
    have Fw:Y.find (Y.set H id (some { blk with es:=blk.es++ys })) id=some { blk with es:=blk.es++ys }:=Y.aB Ck
    obtain ⟨m1,m2⟩:=r2.move v1 Fw
    have gq:Y.set (Y.set H id (some { blk with es:=blk.es++ys })) id none=Y.set H id none:=set_set _ _ _
    rw[Y.ah,gq] at m1 m2
    have Rh:({ blk with es:=blk.es++ys }:aK)=⟨inf.size,blk.es++ys,false,e⟩:=by
     cases blk
     simp only at hk hty g1
     subst hk
     subst hty
     subst g1
     rfl
    rw[Rh] at m1 m2 r3
    have hcell:=r3.toLater.cells v6
    obtain ⟨fV,fr',q1,q2⟩:=hcell
    refine aR (hex (by rw[v2];exact r1)) (hn _ _ _ _ _ g3 (kY (by simp[aH.add]) hroom v4 (fun m hm=>by simp at hm) q1 (by rw[q2,v7];congr 1;omega)) m1 (r3.trans m2))
   ·have hpos:0<ys.length:=by omega
    obtain ⟨c2,w',r1,r2,r3,r4⟩:=qS (P:=P) hR (ty:=o.type) ht hi hz hzs hby bW (xs:=blk.es) (s:=a.eval s) (by
     have:=Src.sA hR hv h1 hk (by omega)
     rwa [List.drop_zero,g2,List.take_length] at this) hsrc hpos (by omega) ⟨_,c',by rw[v2,g2],by omega,fun h=>by simp at h⟩
    obtain ⟨k1,k2⟩:=r2.kill id
    rw[Cj Ck] at k1 k2
    refine aR (hex r1) (hn _ _ _ _ _ ?_ (k2.vr r4) k1 (r3.trans k2))
    rw[←g2]
    exact g3
  | some m =>
   obtain ⟨g1,g4,g5⟩:=h
   have hcm:=v5 m rfl
   subst hcm
   have g3:n≤blk.es.length:=by
    rcases g1 with ⟨_,h2,h3⟩ | ⟨_,h2⟩
    ·omega
    ·exact h2
   by_cases hroom:n+ys.length≤c'
   ·obtain ⟨w',r1,r2,r3⟩:=zt (P:=P) hR (ty:=o.type) ht hi bW v1 h1 v6 a2 hk hty a3 a4 a5 a6 hsrc g3 hroom (Nat.le_refl _) _ rfl (fun hx=>by
     rcases g1 with ⟨_,h2,h3⟩ | ⟨h2,_⟩
     ·have kX:(blk.es.take n++ys++blk.es.drop (n+ys.length)).length=blk.es.length:=by simp;omega
      rw[kX];exact h2
     ·rw[h2] at hx;simp at hx)
    obtain ⟨fV,fr',q1,q2⟩:=r3.toLater.cells v6
    exact aR (hex (by rw[v2];exact r1)) (hn _ _ _ _ _ (g4 hroom) (kY v1 hroom v4 (fun m hm=>by simpa using hm) q1 (by rw[q2,v7];congr 1;omega)) r2 r3)
   ·have hpos:0<ys.length:=by omega
    have hl:(blk.es.take n).length=n:=by simp;omega
    obtain ⟨c2,w',r1,r2,r3,r4⟩:=qS (P:=P) hR (ty:=o.type) ht hi hz hzs hby bW (xs:=blk.es.take n) (s:=a.eval s) (by
     have:=Src.sA hR hv h1 hk (by omega)
     rwa [List.drop_zero] at this) hsrc hpos (by rw[hl];omega) ⟨_,c',by rw[v2,hl],by rw[hl];omega,fun h=>by simp at h⟩
    rw[hl] at r1 r4
    exact aR (hex r1) (hn _ _ _ _ _ (g5 (by omega)) r4 r2 r3)
 ·exact h.elim
theorem jx {f : FuncId} {fn : Func} (h1 : P.funcs[f]? = some fn) (h2 : fn.body.isSome) (h3 : fn.name ≠ "runtime.NumGoroutine") (args : Array Value) (w : World) : (callFunc f args).run P w = .ok (.enter f args) w := by
 have h4 : (fn.name == "runtime.NumGoroutine") = false := by simpa using h3
 have h5:fn.body.isNone=false:=by
  cases hb:fn.body with
  | none=>rw[hb] at h2;simp at h2
  | some c=>rfl
 simp only[callFunc,Sem.run_bind,run_program,Result.andThen_ok,h1,h4,h5,Bool.false_eq_true,if_false,Sem.run_pure]
theorem Cl{o:Oper}{a:Act}{φ:aH}{H:Y}{w:World}{f:FuncId}{vs:Array Value}{ej:List AV}{e:cr}{H':Y}{K Kp:AV→Y→Prop}{next:Act→World→Prop}{Q:Exit→Act→World→Prop}
  (hrun:(execOp a.eval o).run P w = .ok (.enter f vs) w)(hR:Rel φ H w)(ha:Rt φ (Own φ H) w ej vs.toList)(hD:D P f ej H e H')(hK:cr.post K Kp H' e)
  (hn:∀v u φ' H' w',K v H'→VR φ' (Own φ' H') w' v u→Rel φ' H' w'→Step φ H w φ' H' w'→next (a.put o.dst u) w')
  (hp:∀v u φ' H' w',Kp v H'→qG φ' (Own φ' H') w' v u→Rel φ' H' w'→Step φ H w φ' H' w'→Q (.panic u) a w'):o.wp P a w next Q:=by
 unfold Oper.wp
 rw[hrun,Oper.upon_enter]
 refine (hD.2 φ w vs hR ha).mono ?_
 rintro en w' ⟨φ',h1,h2,h3⟩
 cases e with
 | ret v =>
  cases en with
  | returned u=>exact hn _ _ _ _ _ hK h1 h2 h3
  | panicked c=>exact h1.elim
  | outgrown=>exact h1.elim
 | bF v =>
  cases en with
  | returned u=>exact h1.elim
  | panicked c =>
   exact hp _ _ _ _ _ hK h1 h2 h3
  | outgrown=>exact h1.elim
theorem zy{o:Oper}{a:Act}{φ:aH}{H:Y}{w:World}{f:FuncId}{vs:Array Value}{ej:List AV}{K Kp:AV→Y→Prop}{next:Act→World→Prop}{Q:Exit→Act→World→Prop}
  (hrun:(execOp a.eval o).run P w = .ok (.enter f vs) w)(hR:Rel φ H w)(ha:Rt φ (Own φ H) w ej vs.toList)(hD:DK P f ej H (fun e H'=>cr.post K Kp H' e))
  (hn:∀v u φ' H' w',K v H'→VR φ' (Own φ' H') w' v u→Rel φ' H' w'→Step φ H w φ' H' w'→next (a.put o.dst u) w')
  (hp:∀v u φ' H' w',Kp v H'→qG φ' (Own φ' H') w' v u→Rel φ' H' w'→Step φ H w φ' H' w'→Q (.panic u) a w'):o.wp P a w next Q:=by
 unfold Oper.wp
 rw[hrun,Oper.upon_enter]
 refine (hD φ w vs hR ha).mono ?_
 rintro en w' ⟨e,H',φ',h1,hK,h2,h3⟩
 cases e with
 | ret v =>
  cases en with
  | returned u=>exact hn _ _ _ _ _ hK h1 h2 h3
  | panicked c=>exact h1.elim
  | outgrown=>exact h1.elim
 | bF v =>
  cases en with
  | returned u=>exact h1.elim
  | panicked c =>
   exact hp _ _ _ _ _ hK h1 h2 h3
  | outgrown=>exact h1.elim
def HO.Fx(P:Program)(ev:X→AV)(H:Y)(K Kp:AV→Y→Prop):HO→Prop
 | .call f args=>DK P f (args.map ev) H (fun e H'=>cr.post K Kp H' e)
 | .bM f args=>match ev f with
  | .fn (.func g) a b => (∃ fn, P.funcs[g]? = some fn ∧ fn.body.isSome ∧ fn.name ≠ "runtime.NumGoroutine") ∧ DK P g (a ++ args.map ev ++ b) H (fun e H' => cr.post K Kp H' e)
  | _=>False
 | .oY kd x=>Jb K H kd (ev x)
 | q=>HO.bn P ev H K Kp q
theorem NS{o:Oper}{f:FuncId}{args:Array Operand}{ats:Array TypeId}{ej:List X}(ho:o.op = .call { callee:=.value (.func f),args,argTypes:=ats })(hc:bN P f=true)(has:mY args=some ej){φ:aH}{H:Y}{w:World}{ts:List AV}{a:Act}(hR:Rel φ H w)(hr:FR φ (Own φ H) w ts a){K Kp:AV→Y→Prop}(h:HO.Fx P (X.ev ts) H K Kp (.call f ej)){next:Act→World→Prop}{Q:Exit→Act→World→Prop}
  (hn:∀v u φ' H' w',K v H'→VR φ' (Own φ' H') w' v u→Rel φ' H' w'→Step φ H w φ' H' w'→next (a.put o.dst u) w')
  (hp:∀v u φ' H' w',Kp v H'→qG φ' (Own φ' H') w' v u→Rel φ' H' w'→Step φ H w φ' H' w'→Q (.panic u) a w'):o.wp P a w next Q:=by
 unfold bN at hc
 split at hc
 case h_2=>simp at hc
 rename_i fn hf
 simp only[Bool.and_eq_true,Bool.not_eq_true',beq_eq_false_iff_ne] at hc
 refine zy (vs:=args.map a.eval) ?_ hR (by simpa using mA hr has) h hn hp
 simp only[execOp,ho,resolve,Deferred.ofValue,Act.eval,invoke,Sem.run_bind,Sem.run_pure,Result.andThen_ok]
 rw[jx hf hc.1 hc.2]
 simp
theorem Je{o:Oper}{t:Tmp}{args:Array Operand}{ats:Array TypeId}{ej:List X}(ho:o.op = .call { callee:=.value (.tmp t),args,argTypes:=ats })(has:mY args=some ej){φ:aH}{H:Y}{w:World}{ts:List AV}{a:Act}(hR:Rel φ H w)(hr:FR φ (Own φ H) w ts a){K Kp:AV→Y→Prop}(h:HO.Fx P (X.ev ts) H K Kp (.bM (.t t) ej)){next:Act→World→Prop}{Q:Exit→Act→World→Prop}
  (hn:∀v u φ' H' w',K v H'→VR φ' (Own φ' H') w' v u→Rel φ' H' w'→Step φ H w φ' H' w'→next (a.put o.dst u) w')
  (hp:∀v u φ' H' w',Kp v H'→qG φ' (Own φ' H') w' v u→Rel φ' H' w'→Step φ H w φ' H' w'→Q (.panic u) a w'):o.wp P a w next Q:=by
 have hv:VR φ (Own φ H) w (X.ev ts (.t t)) (a.eval (.tmp t)):=ay hr rfl
 simp only[HO.Fx] at h
 split at h
 case h_2=>exact h.elim
 rename_i g A B he
 rw[he] at hv
 obtain ⟨⟨fn,c1,c2,c3⟩,h1⟩:=h
 obtain ⟨us,ws,e1,e2,e3⟩:=y4 hv
 refine zy (vs:=us++args.map a.eval++ws) ?_ hR ?_ h1 hn hp
 ·simp only[execOp,ho,resolve,e1,Deferred.ofValue,invoke,Sem.run_bind,Sem.run_pure,Result.andThen_ok]
  rw[jx c1 c2 c3]
 ·have ha:=mA hr has
  have zz:∀{l m:List AV}{x y:List Value},Rt φ (Own φ H) w l x→Rt φ (Own φ H) w m y→Rt φ (Own φ H) w (l++m) (x++y):=by
   intro l
   induction l with
   | nil=>intro m x y h1 h2;simp only[Rt] at h1;subst h1;simpa using h2
   | cons q r ih =>
    intro m x y h1 h2
    obtain ⟨v,s,rfl,k1,k2,k3⟩:=h1
    exact ⟨v,s++y,rfl,k1,k2,ih k3 h2⟩
  simp only[Array.toList_append,Array.toList_map]
  exact zz (zz e2 ha) e3
theorem Rk{o:Oper}{f:FuncId}{args:Array Operand}{ats:Array TypeId}{ej:List X}(ho:o.op = .call { callee:=.value (.func f),args,argTypes:=ats })(hc:bN P f=true)(has:mY args=some ej):cw P o (.call f ej):=by
 intro φ H w ts a hR hr K Kp h next Q hn hp
 obtain ⟨e,H',h1,h2⟩:=h
 unfold bN at hc
 split at hc
 case h_2=>simp at hc
 rename_i fn hf
 simp only[Bool.and_eq_true,Bool.not_eq_true',beq_eq_false_iff_ne] at hc
 refine Cl (vs:=args.map a.eval) ?_ hR (by simpa using mA hr has) h1 h2 hn hp
 simp only[execOp,ho,resolve,Deferred.ofValue,Act.eval,invoke,Sem.run_bind,Sem.run_pure,Result.andThen_ok]
 rw[jx hf hc.1 hc.2]
 simp
theorem NT{o:Oper}{t:Tmp}{args:Array Operand}{ats:Array TypeId}{ej:List X}(ho:o.op = .call { callee:=.value (.tmp t),args,argTypes:=ats })(has:mY args=some ej):cw P o (.bM (.t t) ej):=by
 intro φ H w ts a hR hr K Kp h next Q hn hp
 have hv:VR φ (Own φ H) w (X.ev ts (.t t)) (a.eval (.tmp t)):=ay hr rfl
 simp only[HO.bn] at h
 split at h
 case h_2=>exact h.elim
 rename_i g A B he
 rw[he] at hv
 obtain ⟨⟨fn,c1,c2,c3⟩,e,H',h1,h2⟩:=h
 obtain ⟨us,ws,e1,e2,e3⟩:=y4 hv
 refine Cl (vs:=us++args.map a.eval++ws) ?_ hR ?_ h1 h2 hn hp
 ·simp only[execOp,ho,resolve,e1,Deferred.ofValue,invoke,Sem.run_bind,Sem.run_pure,Result.andThen_ok]
  rw[jx c1 c2 c3]
 ·have ha:=mA hr has
  have zz:∀{l m:List AV}{x y:List Value},Rt φ (Own φ H) w l x→Rt φ (Own φ H) w m y→Rt φ (Own φ H) w (l++m) (x++y):=by
   intro l
   induction l with
   | nil=>intro m x y h1 h2;simp only[Rt] at h1;subst h1;simpa using h2
   | cons q r ih =>
    intro m x y h1 h2
    obtain ⟨v,s,rfl,k1,k2,k3⟩:=h1
    exact ⟨v,s++y,rfl,k1,k2,ih k3 h2⟩
  simp only[Array.toList_append,Array.toList_map]
  exact zz (zz e2 ha) e3
theorem WG{o:Oper}{x:Operand}{x':X}(ho:o.op = .panic x)(hx:bj x=some x'):cw P o (.bF x'):=by
 intro φ H w ts a hR hr K Kp h next Q hn hp
 have hv:=ay hr hx
 simp only[HO.bn] at h
 split at h
 case h_2=>exact h.elim
 rename_i t v he
 rw[he] at hv
 obtain ⟨u,h1,_⟩:=sy hv
 have hrun:(execOp a.eval o).run P w = .halt (.panic (a.eval x)) w:=by
  simp only[execOp,ho,h1,Instr.panic,Sem.run_bind,run_goPanic,Result.andThen_halt]
 unfold Oper.wp
 rw[hrun,Oper.upon_panic]
 exact hp _ _ _ _ _ h (qG.one hv) hR (Step.refl _ _ _)
theorem Cm{φ:aH}{O:Nat→Prop}{w:World}{b:Nat}:∀(l:List UInt8)(off:Nat),(∀j (h:j<l.length),cC w b (off+j) 0=some (.int .u8 (l[j].toNat:Int)))→Rl φ O w b 1 (l.map fun b=>.Z (.int .u8 b.toNat)) off
 | [],_,_=>trivial
 | x::r,off,h=>by
  have h0:=h 0 (by simp)
  simp only[Nat.add_zero,List.getElem_cons_zero] at h0
  refine ⟨rfl,fun _=>⟨_,h0,rfl⟩,h0,Cm r (off+1) fun j hj=>?_⟩
  have:=h (j+1) (by simpa using hj)
  rw[show off+1+j=off+(j+1) from by omega]
  simpa using this
theorem WH{o:Oper}{s d e:TypeId}{x:Operand}{x':X}(ho:o.op = .convert s d x)(hs:P.underlying s=some .string)(hd:P.underlying d=some (.slice e))(he:P.underlying e=some (.int .u8))(hx:bj x=some x'):cw P o (.gx .I3 [x']):=by
 intro φ H w ts a hR hr K Kp h next Q hn oZ
 have hv:=ay hr hx
 simp only[HO.bn,List.map_cons,List.map_nil] at h
 obtain ⟨h1,h2⟩:=h
 cases pK:X.ev ts x'<;>rw[pK] at h1 h2 hv<;>try exact False.elim h1
 rename_i v
 cases v<;>try exact False.elim h1
 rename_i str
 have h1:str.size≤100000000:=h1
 have hu:=bP hv
 have gen:∀(v:Value)(W1:World),(convert s d (.string str)).run P w = .ok v W1→(execOp a.eval o).run P w = .ok (.value v) W1:=fun v W1 h=>by
  unfold execOp
  simp only[ho,hu,Sem.run_bind,h,Result.andThen_ok,Sem.run_pure]
 have hrun:=gen _ _ (run_bytes_of_string w s d e str hs hd he)
 have hsz:(bD str).length=str.size:=by
  unfold bD
  rw[List.length_map,Array.length_toList]
  rfl
 have hge:=grownCap_ge w str.size 0 e
 have hle:=grownCap_le_maxLen w str.size 0 e (by unfold maxLen;omega)
 generalize hrow:bytesRow str (grownCap w str.size 0 e)=row at hrun
 have hheap:(w.drew.alloc (.cells row e (row.size,row.size+1))).heap[w.heap.size]? = some (.cells row e (row.size,row.size+1)):=heap_alloc_new w.drew _
 have hold:∀b,b<w.heap.size→(w.drew.alloc (.cells row e (row.size,row.size+1))).heap[b]? = w.heap[b]?:=fun b hb=>Below.heap_alloc w.drew _ b hb
 have hsize:(w.drew.alloc (.cells row e (row.size,row.size+1))).heap.size=w.heap.size+1:=World.size_alloc w.drew _
 refine aR hrun (hn _ _ φ H _ h2 ?_ (hR.grow (by omega) hold) (grow_step rfl rfl rfl (by omega) hold))
 have hno:¬Own φ H w.heap.size:=fun ⟨id,blk,g1,_⟩=>by have:=(hR.dom id _ g1).2;omega
 refine ⟨rfl,some ⟨w.heap.size,0,none⟩,grownCap w str.size 0 e,by rw[hsz];rfl,by rw[hsz];exact hge,hle,fun h=>by simp at h,fun _=>⟨w.heap.size,0,rfl,hno,by omega,?_⟩,trivial⟩
 refine Cm str.data.toList 0 fun j hj=>?_
 have hj':j<str.data.size:=by simpa using hj
 rw[eE hheap,←hrow]
 have:=bytesRow_at str (grownCap w str.size 0 e) j hj'
 simpa using this
theorem WI{o:Oper}{t e:TypeId}{x:Operand}{x':X}{args:Array Operand}{ats:Array TypeId}(ho:o.op = .call { callee:=.builtin .cap,args,argTypes:=ats })(ha:args.toList=[x])(dy:ats.toList=[t])(ht:P.underlying t=some (.slice e))(hx:bj x=some x'):cw P o (.gx .cap [x']):=by
 intro φ H w ts a hR hr K Kp h next Q hn oZ
 obtain rfl:args=#[x]:=by apply Array.toList_inj.1;simpa using ha
 obtain rfl:ats=#[t]:=by apply Array.toList_inj.1;simpa using dy
 have hv:=ay hr hx
 have hex:∀{r:Value}{w':World},(Builtin.cap_ #[t] o.type #[a.eval x]).run P w = .ok r w'→(execOp a.eval o).run P w = .ok (.value r) w':=by
  intro r w' h1
  simp only[execOp,ho,resolve,invoke,builtin,Sem.run_bind,Sem.run_pure,Result.andThen_ok,List.map_toArray,List.map_cons,List.map_nil,h1]
 have hcap:∀(ad:Option Addr)(n c:Nat),a.eval x = .slice ad n c→(Builtin.cap_ #[t] o.type #[a.eval x]).run P w = .ok (.int .i64 c) w:=fun ad n c e=>by
  rw[e]
  simp[Builtin.cap_,run_underlying ht,goInt]
 simp only[HO.bn,List.map_cons,List.map_nil] at h
 obtain ⟨h1,h2⟩:=h
 cases pK:X.ev ts x'<;>rw[pK] at h1 h2 hv<;>try exact False.elim h1
 ·rename_i k xs room
  cases room with
  | none=>exact h1.elim
  | some ys =>
   obtain ⟨ad,e1,_⟩:=B8 hv
   exact aR (hex (hcap _ _ _ e1)) (hn _ _ φ H w h2 (cQ rfl) hR (Step.refl _ _ _))
 ·rename_i k id off n c
  cases c with
  | none=>exact h1.elim
  | some c =>
   obtain ⟨b,c',cur,e0,fr,_,e1,_,_,e2,_⟩:=ga hv
   have:=e2 c rfl
   subst this
   exact aR (hex (hcap _ _ _ e1)) (hn _ _ φ H w h2 (cQ rfl) hR (Step.refl _ _ _))
theorem Jf {fn : Func} (hn : fn.name = "internal/bytealg.IndexByteString") : Extern.find fn = some Extern.BytealgIndexByte.indexByte := by
 unfold Extern.find
 rw[hn]
 have h1 : Extern.allGenericRows.lookup "internal/bytealg.IndexByteString" = none := by kernel_rfl
 have h2 : Extern.allTypedRows.lookup "internal/bytealg.IndexByteString" = none := by kernel_rfl
 have h3 : Extern.allRows.lookup "internal/bytealg.IndexByteString" = some Extern.BytealgIndexByte.indexByte := by kernel_rfl
 simp only[h1,h2,h3]
 rfl
theorem NU {fn : Func} (hn : fn.origin = "slices.overlaps") (g1 : Extern.allGenericRows.lookup fn.name = none) (g2 : Extern.allTypedRows.lookup fn.name = none) (g3 : Extern.allRows.lookup fn.name = none) : Extern.find fn = some (Extern.SlicesOverlaps.overlaps fn.params fn.resultTypes) := by
 unfold Extern.find
 have h1 : Extern.allGenericRows.lookup "slices.overlaps" = none := by kernel_rfl
 have h2 : Extern.allTypedRows.lookup "slices.overlaps" = some Extern.SlicesOverlaps.overlaps := by kernel_rfl
 simp only[g1,g2,g3,hn,h1,h2]
 rfl
theorem rf{o:Oper}{f:FuncId}{args:Array Operand}{ats:Array TypeId}{fn:Func}{e:Array Value→Sem Value}{a:Act}{w w':World}{v:Value}(ho:o.op = .call { callee:=.value (.func f),args,argTypes:=ats })(hf:P.funcs[f]? = some fn)(hx:zf fn=true)(he:Extern.find fn=some e)
  (hv:(e (args.map a.eval)).run P w = .ok v w'):(execOp a.eval o).run P w = .ok (.value v) w':=by
 simp only[zf,Bool.and_eq_true,Bool.not_eq_true',Option.isNone_iff_eq_none] at hx
 have:=run_callFunc_extern (P:=P) hf hx.1.2 (by simp[hx.1.1]) hx.2 he (args.map a.eval) w
 rw[hv] at this
 simp only[Result.andThen_ok] at this
 simp only[execOp,ho,resolve,Deferred.ofValue,Act.eval,invoke,Sem.run_bind,Sem.run_pure,Result.andThen_ok,Array.append_empty,Array.empty_append]
 simpa using this
theorem DU {fn : Func} (hn : fn.name = "maps.clone") : Extern.find fn = some Extern.MapsClone.clone := by
 unfold Extern.find
 rw[hn]
 have h1 : Extern.allGenericRows.lookup "maps.clone" = none := by kernel_rfl
 have h2 : Extern.allTypedRows.lookup "maps.clone" = none := by kernel_rfl
 have h3 : Extern.allRows.lookup "maps.clone" = some Extern.MapsClone.clone := by kernel_rfl
 simp only[h1,h2,h3]
 rfl
theorem Jg{H:Y}{l:List AV}(h:GX.ok H .sB l):∃t id j,l=[.dQ t (.ptr 0 id j 0)]∧qW H id fun _=>True:=by
 match l,h with
 | [.dQ t (.ptr 0 id j 0)],h=>exact ⟨t,id,j,rfl,h⟩
theorem Rn{H:Y}{l:List AV}(h:GX.ok H .y8 l):∃s c,l=[.Z (.string s),.Z (.int .u8 c)]:=by
 unfold GX.ok at h
 split at h<;>simp_all
theorem WJ{H:Y}{l:List AV}(h:GX.ok H .I4 l):∃k x xs r k2 id off n c blk,l=[.an k (x::xs) r,.aE k2 id off n c]∧Y.find H id=some blk∧0<k:=by
 match l,h with
 | [.an k (x::xs) r,.aE k2 id off n c],h =>
  simp only[GX.ok] at h
  split at h
  ·rename_i blk hf;exact ⟨_,_,_,_,_,_,_,_,_,blk,rfl,hf,h⟩
  ·exact h.elim
theorem Ro{φ:aH}{H:Y}{w:World}(hR:Rel φ H w){k:Nat}{x:AV}{xs:List AV}{r:Option (List AV)}{k2 id off n:Nat}{c:Option Nat}{blk:aK}{u v:Value}(hu:VR φ (Own φ H) w (.an k (x::xs) r) u)(hv:VR φ (Own φ H) w (.aE k2 id off n c) v)(hf:Y.find H id=some blk)(hk:0<k)
  {t e:TypeId}{inf:TypeInfo}{ps rs:Array TypeId}(hp:ps[0]? = some t)(ht:P.underlying t=some (.slice e))(hi:P.info? e=some inf):(Extern.SlicesOverlaps.overlaps ps rs #[u,v]).run P w = .ok (.bool false) w:=by
 obtain ⟨ad,cu,rfl,c1,c2,c3,c4,c5⟩:=fZ hu
 obtain ⟨b,off',rfl,ho,hb,h1,h2,h3,h4⟩:=c4 (by simp)
 obtain ⟨b2,c',cur,e',fr,v1,rfl,v3,v4,v5,v6,v7⟩:=ga hv
 obtain ⟨_,q9,cap,a1,a2,a3,a4,a5,a6⟩:=(hR.blk id b2 blk v1 hf).gY v6
 have hne:b≠b2:=fun e=>ho (e▸⟨id,blk,v1,hf⟩)
 have hcell:∃q,w.cell? ⟨b,off',none⟩=some q:=by
  cases hx:x.isAgg with
  | false=>obtain ⟨q,hq,_⟩:=h2 hx;exact ⟨q,by simpa [cC] using hq⟩
  | true =>
   cases x<;>simp[AV.isAgg] at hx
   rename_i cs
   cases cs with
   | nil=>simp[AV.ax] at h1;omega
   | cons y ys =>
    obtain ⟨_,_,⟨q,hq,_⟩,_⟩:=h3
    exact ⟨q,by simpa [cC] using hq⟩
 obtain ⟨q,hq⟩:=hcell
 unfold World.cell? at hq
 split at hq
 case h_2=>simp at hq
 rename_i cc ec frc hbc
 have hsz:cc.size≠0:=by
  intro h0
  have:cc=#[]:=Array.eq_empty_of_size_eq_zero h0
  subst this
  simp at hq
 have yl:w.shape? b=some (ec,cc.size):=by simp[World.shape?,hbc]
 have DV:w.shape? b2=some (blk.ty,q9.size):=by simp[World.shape?,a1]
 have hfb:∀o,w.frozen? ⟨b2,o,none⟩=false:=fun o=>by simp[World.frozen?,a1]
 obtain ⟨kA,hkA⟩:∃kA,cc.size=kA+1:=⟨cc.size - 1,by omega⟩
 rw[hkA] at yl
 have hnb:(b != b2)=true:=by simpa using hne
 have acH:(b == b2)=false:=by simpa using hne
 change Sem.run P (α:=Value) (do
  let some t := ps[0]? | stuck "slices.overlaps: no parameter types"
  let .slice elem ← underlying t | stuck "slices.overlaps: slice type expected"
  let size ←sizeOf elem
  match (some ⟨b,off',none⟩:Option Addr),(some ⟨b2,off*k2,none⟩:Option Addr) with
  | some a,some b =>
   if xs.length+1=0∨n=0∨size=0 then pure (Value.bool false)
   else if a.block != b.block && (←frozen a) && (←frozen b) then unsupported .addressObserved
   else do
    if a.block != b.block then do
     noView a;noView b
     if ← mayBeOne a b then return Value.bool ((← choose (.extern "sameAddr.stringBytes" 2)) == 1)
    pure (Value.bool (a.block == b.block && a.off<b.off+n*size && b.off<a.off+(xs.length+1)*size))
  | _,_=>pure (Value.bool false)) w=_
 simp only[hp]
 by_cases hn0:n=0
 ·simp[run_underlying ht,sizeOf,typeInfo,hi,hn0]
 by_cases hs0:inf.size=0
 ·simp[run_underlying ht,sizeOf,typeInfo,hi,hs0]
 cases hfa:w.frozen? ⟨b,off',none⟩<;>cases acI:w.frozen? ⟨b,kA+1,none⟩ <;>
  simp[run_underlying ht,sizeOf,typeInfo,hi,hn0,hs0,hnb,acH,hne,frozen,noView,viewAt,mayBeOne,stringish,shape,Sem.run,yl,DV,hfa,acI,hfb]
theorem WK{o:Oper}{f:FuncId}{args:Array Operand}{ats:Array TypeId}{q:HO}(ho:o.op = .call { callee:=.value (.func f),args,argTypes:=ats })(hq:xH P f args=some q):cw P o q:=by
 unfold xH at hq
 split at hq
 case h_2=>simp at hq
 rename_i fn xs hf hxs
 split at hq
 case isFalse=>simp at hq
 rename_i hx
 intro φ H w ts a hR hr K Kp h next Q hn oZ
 have lP:=mA hr (l:=args.toList) hxs
 have hvs:args.map a.eval=(args.toList.map a.eval).toArray:=by rw[←Array.toList_map]
 split at hq
 ·rename_i hnm
  cases hq
  simp only[HO.bn] at h
  obtain ⟨h1,h2⟩:=h
  obtain ⟨s,c,hl⟩:=Rn h1
  rw[hl] at lP h2
  obtain ⟨u1,r1,e1,o1,p1,u2,r2,e2,o2,p2,e3⟩:=lP
  simp only[Rt] at e3
  subst e3
  have q1:=bP (⟨o1,p1⟩:VR φ (Own φ H) w _ u1)
  have q2:=bP (⟨o2,p2⟩:VR φ (Own φ H) w _ u2)
  refine aR (rf ho hf hx (Jf hnm) ?_) (hn _ _ φ H w h2 (cQ rfl) hR (Step.refl _ _ _))
  rw[hvs,e1,e2,q1,q2]
  exact run_indexByte_string s c w
 split at hq
 case isFalse =>
  split at hq
  case isFalse=>simp at hq
  rename_i hnm
  cases hq
  simp only[HO.bn] at h
  obtain ⟨h1,h2⟩:=h
  obtain ⟨t,id,j,hl,hm⟩:=Jg h1
  rw[hl] at lP h2
  obtain ⟨u1,r1,e1,o1,p1,e3⟩:=lP
  simp only[Rt] at e3
  subst e3
  obtain ⟨y,q1,q2⟩:=sy (⟨o1,p1⟩:VR φ (Own φ H) w _ u1)
  obtain ⟨b,blk,bH,clock,DS,m1,m2,m3,m4,m5,m6,m7,m8,m9⟩:=q8 hR q2 rfl hm
  obtain ⟨wu,lO⟩:=hR.LX ⟨0,blk.es,true,0⟩ (.map bH clock) (fun hl=>.inr (.inl ⟨rfl,rfl,bH,clock,(MapKept.heap_alloc w _).1,m7,m8,kR hl (AV.cq _) m9⟩))
  have h2:K (.dQ t (.ptr 0 H.length 0 0)) (some ⟨0,blk.es,true,0⟩::H):=by
   have yn:K (.dQ t (.ptr 0 H.length 0 0)) (some ⟨0,kV H id,true,0⟩::H):=h2
   rwa [m5] at yn
  refine aR (rf (v:=.iface t (.map (some w.heap.size))) ho hf hx (DU hnm) ?_) (hn _ _ _ _ _ h2 ⟨rfl,_,rfl,rfl,w.heap.size,by simp[aH.add],rfl⟩ wu lO)
  rw[hvs,e1,q1,DS]
  refine Eq.trans (b:=((do
   let o ←getObj b
   match o with
   | .map entries clock=>pure (.iface t (.map (some (←newObj (.map entries clock)))))
   | _ => stuck "maps.clone: a map expected") : Sem Value).run P w) rfl ?_
  simp only[Sem.run_bind,MapKept.run_getObj_map m6,Result.andThen_ok,run_newObj,Sem.run_pure]
  rfl
 rename_i Fy
 cases hq
 simp only[QY,Bool.and_eq_true,beq_iff_eq,Option.isNone_iff_eq_none] at Fy
 obtain ⟨⟨⟨⟨g0,g1⟩,g2⟩,g3⟩,g4⟩:=Fy
 split at g4
 case h_2=>simp at g4
 rename_i t tr pR
 split at g4
 case h_2=>simp at g4
 rename_i e ht
 obtain ⟨inf,hi⟩:=Option.isSome_iff_exists.1 g4
 simp only[HO.bn] at h
 obtain ⟨h1,h2⟩:=h
 obtain ⟨k,x,ys,r,k2,id,off,n,c,blk,hl,Bx,hk⟩:=WJ h1
 rw[hl] at lP h2
 obtain ⟨u1,r1,e1,o1,p1,u2,r2,e2,o2,p2,e3⟩:=lP
 simp only[Rt] at e3
 subst e3
 have o7:fn.params[0]? = some t:=by rw[←Array.getElem?_toList,pR];rfl
 refine aR (rf ho hf hx (NU g0 g1 g2 g3) ?_) (hn _ _ φ H w h2 (cQ rfl) hR (Step.refl _ _ _))
 rw[hvs,e1,e2]
 exact Ro hR ⟨o1,p1⟩ ⟨o2,p2⟩ Bx hk o7 ht hi
theorem Cn{s x:Operand}{t t':TypeId}{q:HO}(h:tD P s x t t'=some q):∃g xs,q = .gx g xs:=by
 unfold tD at h
 repeat' split at h
 all_goals first | (simp at h;done) | (cases h;exact ⟨_,_,rfl⟩)
theorem o8{p:Op}{q:HO}(h:zg P p=some q):∃g xs,q = .gx g xs:=by
 unfold zg at h
 repeat' split at h
 all_goals first | (simp at h;done) | (cases h;exact ⟨_,_,rfl⟩) | (rw[Option.map_eq_some_iff] at h;obtain ⟨_,_,rfl⟩:=h;exact ⟨_,_,rfl⟩)
theorem FA{f:FuncId}{args:Array Operand}{q:HO}(h:xH P f args=some q):∃g xs,q = .gx g xs:=by
 unfold xH at h
 repeat' split at h
 all_goals first | (simp at h;done) | (cases h;exact ⟨_,_,rfl⟩)
theorem L0{r:List (Option IntKind)}:∀{xs ys:List AV},my (none::r) xs ys→∃a xs' b ys',xs = .Z (.string a)::xs'∧ys = .Z (.string b)::ys'∧my r xs' ys':=by
 intro xs ys h
 unfold my at h
 split at h<;>first | exact h.elim | skip
 ·rename_i e;cases e
 ·rename_i e;cases e;exact ⟨_,_,_,_,rfl,rfl,h⟩
 ·rename_i e;cases e
theorem DW{r:List (Option IntKind)}{k:IntKind}:∀{xs ys:List AV},my (some k::r) xs ys→∃a xs' b ys',xs = .Z (.int k a)::xs'∧ys = .Z (.int k b)::ys'∧my r xs' ys':=by
 intro xs ys h
 unfold my at h
 split at h<;>first | exact h.elim | skip
 ·rename_i e;cases e
 ·rename_i e;cases e
 ·rename_i e;cases e;obtain ⟨⟨rfl,rfl⟩,h⟩:=h;exact ⟨_,_,_,_,rfl,rfl,h⟩
theorem DX:∀{xs ys:List AV},my [] xs ys→xs=[]∧ys=[]:=by
 intro xs ys h
 unfold my at h
 split at h<;>first | exact h.elim | skip
 ·exact ⟨rfl,rfl⟩
 ·rename_i e;cases e
 ·rename_i e;cases e
theorem FB{w:World}{d:Nat}:∀{fs:List Field}{ks:List (Option IntKind)}{xs ys:List AV}{i:Nat}{us vs:Array Value},Ce P i fs=some ks→my ks xs ys→(∀j,j<xs.length→∃u,xs[j]? = some (.Z u)∧us[i+j]? = some u)→(∀j,j<ys.length→∃u,ys[j]? = some (.Z u)∧vs[i+j]? = some u)→
  (Op.eqFields (d+1) us vs fs).run P w = .ok (qV xs ys) w
 | [],ks,xs,ys,i,us,vs,hf,hk,hx,hy=>by
  simp only[Ce,Option.some.injEq] at hf
  subst hf
  obtain ⟨rfl,rfl⟩:=DX hk
  simp[Op.eqFields,qV]
 | f::r,ks,xs,ys,i,us,vs,hf,hk,hx,hy=>by
  unfold Ce at hf
  split at hf
  case isFalse=>simp at hf
  rename_i hc
  obtain ⟨c1,c2,c3⟩:=hc
  have c1 : f.name ≠ "_" := by simpa using c1
  have hp:∀{cs:Array Value}{u:Value},cs[i]? = some u→(part f.type cs f.offset).run P w = .ok u w:=by
   intro cs u hu
   unfold eD at c3
   split at c3
   case h_2=>simp at c3
   rename_i dd ii h1 h2
   simp only[Option.some.injEq,Prod.mk.injEq] at c3
   unfold part
   simp[sx h1,c3.2,c2,hu]
  have go:∀{xs ys:List AV}{p q:Value}{ks':List (Option IntKind)}{b:Bool},Ce P (i+1) r=some ks'→my ks' xs ys→(∀j,j<(AV.Z p::xs).length→∃u,(AV.Z p::xs)[j]? = some (.Z u)∧us[i+j]? = some u)→(∀j,j<(AV.Z q::ys).length→∃u,(AV.Z q::ys)[j]? = some (.Z u)∧vs[i+j]? = some u)→
    (Op.equalIn (d+1) f.type p q).run P w = .ok b w→(Op.eqFields (d+1) us vs (f::r)).run P w = .ok (b && qV xs ys) w:=by
   intro xs ys p q ks' b h2 hk hx hy hb
   obtain ⟨u,e1,e2⟩:=hx 0 (by simp)
   obtain ⟨v,e3,e4⟩:=hy 0 (by simp)
   simp at e1 e3
   subst e1
   subst e3
   have ih:=FB (w:=w) (d:=d) (us:=us) (vs:=vs) h2 hk (fun j hj=>by
    obtain ⟨u,g1,g2⟩:=hx (j+1) (by simpa using hj)
    exact ⟨u,by simpa using g1,by rw[←g2];congr 1;omega⟩) (fun j hj=>by
    obtain ⟨u,g1,g2⟩:=hy (j+1) (by simpa using hj)
    exact ⟨u,by simpa using g1,by rw[←g2];congr 1;omega⟩)
   have zA : (f.name ≠ "_") = True := eq_true c1
   simp only[Op.eqFields,zA,if_true,Sem.run_bind,hp (by simpa using e2),hp (by simpa using e4),Result.andThen_ok,hb]
   cases b<;>simp[ih]
  split at hf
  ·rename_i ks' h1 h2
   cases hf
   obtain ⟨a,xs',b,ys',rfl,rfl,hk⟩:=L0 hk
   simp only[qV]
   exact go h2 hk hx hy (by rw[run_equalIn_string w d _ _ _ h1,beq_toListBytes])
  ·rename_i k ks' h1 h2
   cases hf
   obtain ⟨a,xs',b,ys',rfl,rfl,eW⟩:=DW hk
   simp only[qV]
   exact go h2 eW hx hy (run_equalIn_int w d _ _ _ _ _ h1)
  ·simp at hf
theorem o9:∀{ks:List (Option IntKind)}{xs ys:List AV},my ks xs ys→(∀x∈xs,∃u,x = .Z u)∧(∀x∈ys,∃u,x = .Z u)
 | [],_,_,h=>by obtain ⟨rfl,rfl⟩:=DX h;simp
 | none::r,_,_,h=>by
  obtain ⟨a,xs',b,ys',rfl,rfl,hk⟩:=L0 h
  have ih:=o9 hk
  exact ⟨fun x hx=>by rcases List.mem_cons.1 hx with rfl | hx;exact ⟨_,rfl⟩;exact ih.1 x hx,fun x hx=>by rcases List.mem_cons.1 hx with rfl | hx;exact ⟨_,rfl⟩;exact ih.2 x hx⟩
 | some k::r,_,_,h=>by
  obtain ⟨a,xs',b,ys',rfl,rfl,hk⟩:=DW h
  have ih:=o9 hk
  exact ⟨fun x hx=>by rcases List.mem_cons.1 hx with rfl | hx;exact ⟨_,rfl⟩;exact ih.1 x hx,fun x hx=>by rcases List.mem_cons.1 hx with rfl | hx;exact ⟨_,rfl⟩;exact ih.2 x hx⟩
theorem uU{φ:aH}{O:Nat→Prop}{w:World}{xs:List AV}{v:Value}(h:VR φ O w (.agg xs) v)(hs:∀x∈xs,∃u,x = .Z u):∃us,v = .agg us∧∀j,j<xs.length→∃u,xs[j]? = some (.Z u)∧us[0+j]? = some u:=by
 obtain ⟨us,rfl,h1,h2⟩:=yY h
 refine ⟨us,rfl,fun j hj=>?_⟩
 obtain ⟨u,hu⟩:=hs _ (List.getElem_mem hj)
 have hx:xs[j]? = some (.Z u):=by rw[←hu];simp[hj]
 obtain ⟨a1,a2,_⟩:=yK h2 hx
 exact ⟨u,hx,by simpa [R] using a2⟩
theorem zB{w:World}{d:Nat}{e:TypeId}{k:IntKind}{us vs:Array Value}(he:P.underlying e=some (.int k))(hp:∀{cs:Array Value}{i:Nat}{u:Value},cs[i]? = some u→(part e cs i).run P w = .ok u w):∀(m i:Nat){xs ys:List AV},my (List.replicate m (some k)) xs ys→
  (∀j,j<xs.length→∃u,xs[j]? = some (.Z u)∧us[i+j]? = some u)→(∀j,j<ys.length→∃u,ys[j]? = some (.Z u)∧vs[i+j]? = some u)→(Op.eqItems (d+1) e 1 us vs (List.range' i m)).run P w = .ok (qV xs ys) w
 | 0,i,xs,ys,hk,hx,hy=>by
  obtain ⟨rfl,rfl⟩:=DX hk
  simp[Op.eqItems,qV]
 | m+1,i,xs,ys,hk,hx,hy=>by
  obtain ⟨a,xs',b,ys',rfl,rfl,hk'⟩:=DW (r:=List.replicate m (some k)) hk
  obtain ⟨u,e1,e2⟩:=hx 0 (by simp)
  obtain ⟨v,e3,e4⟩:=hy 0 (by simp)
  simp at e1 e3
  subst e1
  subst e3
  rw[Nat.add_zero] at e2 e4
  have ih:=zB (d:=d) he hp m (i+1) hk' (fun j hj=>by
   obtain ⟨u,f1,f2⟩:=hx (j+1) (by simp;omega)
   exact ⟨u,by simpa using f1,by rw[show i+1+j=i+(j+1) by omega];exact f2⟩) (fun j hj=>by
   obtain ⟨u,f1,f2⟩:=hy (j+1) (by simp;omega)
   exact ⟨u,by simpa using f1,by rw[show i+1+j=i+(j+1) by omega];exact f2⟩)
  have hq:(Op.equalIn (d+1) e (.int k a) (.int k b)).run P w = .ok (a == b) w:=by
   simp[Op.equalIn,run_underlying he]
  simp only[List.range'_succ,Op.eqItems,Nat.mul_one,Sem.run_bind,hp e2,hp e4,hq,Result.andThen_ok]
  cases hab:(a == b)
  ·simp[qV,hab]
  ·simp[qV,hab,ih]
theorem L1{o:Oper}{op:BinOp}{t ty:TypeId}{x y:Operand}{x' y':X}{pos:Bool}{ks:List (Option IntKind)}(ho:o.op = .binOp op t x y ty)(ht:I9 P t=some ks)(hop:op=if pos then .eql else .neq)(hx:bj x=some x')(hy:bj y=some y'):cw P o (.gx (.oW pos ks) [x',y']):=by
 intro φ H w ts a hR hr K Kp h next Q hn oZ
 have hv:=ay hr hx
 have hw:=ay hr hy
 simp only[HO.bn,List.map_cons,List.map_nil] at h
 obtain ⟨h1,h2⟩:=h
 cases pK:X.ev ts x'<;>rw[pK] at h1 h2 hv<;>try exact False.elim h1
 cases Rp:X.ev ts y'<;>rw[Rp] at h1 h2 hw<;>try exact False.elim h1
 rename_i xs ys
 have h1:my ks xs ys:=h1
 unfold I9 at ht
 split at ht
 case h_3=>simp at ht
 case h_1 =>
  rename_i fs hs
  split at ht
  case isFalse=>simp at ht
  rename_i hc
  obtain ⟨hsi,hg⟩:=hc
  obtain ⟨us,e1,g1⟩:=uU hv (o9 h1).1
  obtain ⟨vs,e2,g2⟩:=uU hw (o9 h1).2
  have hfo:P.fieldsOf t=fs:=by simp[Program.fieldsOf,hs]
  have hrun:(Op.equalIn (9999+1) t (.agg us) (.agg vs)).run P w = .ok (qV xs ys) w:=by
   rw[run_equalIn_struct w 9999 t us vs (by rw[hfo];exact hs) hsi,hfo]
   exact FB (d:=9998) ht h1 g1 g2
  refine aR ?_ (hn _ _ φ H w h2 (cQ rfl) hR (Step.refl _ _ _))
  cases pos<;>simp at hop<;>subst hop
  ·simp only[execOp,ho,e1,e2,Sem.run_bind,run_eqGuard_agg w _ _ _ _ _ _ hg,Result.andThen_ok,run_neq_struct,hrun,Bool.false_eq_true,if_false,Sem.run_pure]
  ·simp only[execOp,ho,e1,e2,Sem.run_bind,run_eqGuard_agg w _ _ _ _ _ _ hg,Result.andThen_ok,run_eql_struct,hrun,if_true,Sem.run_pure]
 case h_2 =>
  rename_i n e hs
  split at ht
  case isFalse=>simp at ht
  rename_i hc
  obtain ⟨hg,hz⟩:=hc
  split at ht
  case h_2=>simp at ht
  rename_i k he
  simp only[Option.some.injEq] at ht
  subst ht
  obtain ⟨us,e1,g1⟩:=uU hv (o9 h1).1
  obtain ⟨vs,e2,g2⟩:=uU hw (o9 h1).2
  unfold eD at hz
  split at hz
  case h_2=>simp at hz
  rename_i dd ii hu hi
  simp only[Option.some.injEq,Prod.mk.injEq] at hz
  have hc1:P.cellsOf e=1:=by simp[Program.cellsOf,hi,hz.1]
  have hrun:(Op.equalIn (9999+1) t (.agg us) (.agg vs)).run P w = .ok (qV xs ys) w:=by
   rw[Go.run_equalIn_array w 9999 us vs hs hi,hc1,List.range_eq_range']
   refine zB (d:=9998) he (fun {cs i u} WL=>?_) n 0 h1 g1 g2
   unfold part
   simp[sx hu,hz.2,WL]
  refine aR ?_ (hn _ _ φ H w h2 (cQ rfl) hR (Step.refl _ _ _))
  cases pos<;>simp at hop<;>subst hop
  ·simp only[execOp,ho,e1,e2,Sem.run_bind,run_eqGuard_agg w _ _ _ _ _ _ hg,Result.andThen_ok,run_neq_struct,hrun,Bool.false_eq_true,if_false,Sem.run_pure]
  ·simp only[execOp,ho,e1,e2,Sem.run_bind,run_eqGuard_agg w _ _ _ _ _ _ hg,Result.andThen_ok,run_eql_struct,hrun,if_true,Sem.run_pure]
theorem Rq{o:Oper}{t tn e:TypeId}{kn:IntKind}{inf:TypeInfo}{z:Value}{za:AV}{s x:Operand}{s' x':X}{args:Array Operand}{ats:Array TypeId}(ho:o.op = .call { callee:=.builtin .append,args,argTypes:=ats })(ha:args.toList=[s,x])(dy:ats.toList=[t,tn])
  (ht:P.underlying t=some (.slice e))(htn:P.underlying tn=some (.int kn))(hi:P.info? e=some inf)(hz:inf.zero=some z)(hc:eC z=some za)(hk:za.ax=inf.size)(bW:0<inf.size)(hby:inf.bytes≤1000)(uQ:za.bT=false)(hs:bj s=some s')(hx:bj x=some x'):cw P o (.gx (.nZ inf.size e za) [s',x']):=by
 intro φ H w ts a hR hr K Kp h next Q hn oZ
 obtain rfl:args=#[s,x]:=by apply Array.toList_inj.1;simpa using ha
 obtain rfl:ats=#[t,tn]:=by apply Array.toList_inj.1;simpa using dy
 have hv:=ay hr hs
 have hw:=ay hr hx
 have hex:∀{r:Value}{w':World},(Builtin.append_ #[t,tn] o.type #[a.eval s,a.eval x]).run P w = .ok r w'→(execOp a.eval o).run P w = .ok (.value r) w':=by
  intro r w' h1
  simp only[execOp,ho,resolve,invoke,builtin,Sem.run_bind,Sem.run_pure,Result.andThen_ok,List.map_toArray,List.map_cons,List.map_nil,h1]
 simp only[HO.bn,List.map_cons,List.map_nil] at h
 obtain ⟨h1,h2⟩:=h
 cases pK:X.ev ts s'<;>rw[pK] at h1 h2 hv<;>try exact False.elim h1
 ·rename_i k xs room
  cases xs with
  | cons x r=>exact False.elim h1
  | nil =>
  cases room with
  | none=>exact False.elim h1
  | some ys =>
  cases ys with
  | cons y s=>exact False.elim h1
  | nil =>
  cases Rp:X.ev ts x'<;>rw[Rp] at h1 h2 hw<;>try exact False.elim h1
  rename_i u
  cases u<;>try exact False.elim h1
  rename_i kq m
  obtain ⟨hm0,DZ⟩:=h1
  obtain ⟨m',rfl⟩:∃m':Nat,m=m':=⟨m.toNat,by omega⟩
  obtain ⟨ad,c,wj,_,_,_,_,c5⟩:=fZ hv
  have hc0:c=0:=by have:=c5.1;simpa using this
  subst hc0
  have qF:VR φ (Own φ H) w za z:=dJ hc
  have hzs:=fh qF uQ
  rw[hk] at hzs
  have hold:(Builtin.firstCells inf.size 0 (.slice ad 0 0)).run P w.drew = .ok ([]:List Value).toArray w.drew:=by
   cases ad with
   | none=>rfl
   | some ad=>exact run_firstCells_some w.drew inf.size 0 ad 0 0 [] (by simp) fun j u hj=>by simp at hj
  have hmb:m'*inf.bytes≤100000000*1000:=Nat.mul_le_mul (by omega) hby
  have Bv:=Go.Lib.run_append_grow_zeros (P:=P) w t tn o.type e inf z kq kn ht htn hi hz ad 0 0 [] hold m' (by omega) bW (by omega) (by omega) (by omega) (growslice_fits (by omega) (by simpa using (show m'*inf.bytes≤_ from by omega)))
  rw[Nat.zero_add] at Bv
  have hge:=grownCap_ge w m' 0 e
  have hle:=grownCap_le_maxLen w m' 0 e (by unfold maxLen;omega)
  generalize hcap:grownCap w m' 0 e=cap at Bv hge hle
  generalize j7:([]:List Value).toArray++Builtin.zeroCells z.cells m'++Builtin.zeroCells z.cells (cap - m')=arr at Bv
  have hsz:arr.size=cap*inf.size:=by
   rw[←j7]
   simp only[Array.size_append,List.size_toArray,List.length_nil,Nat.zero_add,size_zeroCells,hzs,←Nat.add_mul]
   congr 1;omega
  have hal:=(mQ hR).alloc ⟨inf.size,[],false,e⟩ bW arr cap hsz (Nat.zero_le _) (fun h=>by simp at h) hle (fun x hx=>by simp at hx) trivial
  have eW:K (.aE inf.size H.length 0 m' none) (some ⟨inf.size,[],false,e⟩::H):=by
   simpa [GX.val,GX.heap] using h2
  refine aR (hex (by rw[wj,bP hw];exact Bv)) (hn _ _ _ _ _ eW ?_ hal.1 ((fY φ H w).trans hal.2))
  exact ⟨rfl,w.heap.size,cap,arr,e,(0,0),by simp[aH.add],by simp[eM,Value.cells],hge,hle,fun m hm=>by simp at hm,heap_alloc_new w.drew _,by simpa using hsz⟩
 rename_i k' id off n c
 cases c with
 | none=>exact h1.elim
 | some c =>
 cases Rp:X.ev ts x'<;>rw[Rp] at h1 h2 hw<;>try exact False.elim h1
 rename_i u
 cases u<;>try exact False.elim h1
 rename_i kq m
 simp only[GX.ok] at h1
 split at h1
 case h_2=>exact h1.elim
 rename_i blk hf
 obtain ⟨⟨rfl,hbk,rfl,hn0⟩,hm0,hcm,DZ⟩:=h1
 obtain ⟨b,c',cur,e',fr,v1,v2,v3,v4,v5,v6,v7⟩:=ga hv
 have fE:=v5 c rfl
 subst fE
 have hsrc:Src φ (Own φ H) w inf.size (blk.es.take n) (a.eval s):=by
  have:=Src.sA hR hv hf hbk (by omega)
  rwa [List.drop_zero] at this
 obtain ⟨a2,c2,olds,e1,o2,o3,o4,o5,o6⟩:=hsrc.ex
 have hl:(blk.es.take n).length=n:=by simp;omega
 rw[hl] at e1 o2
 rw[v2] at e1
 cases e1
 obtain ⟨m',rfl⟩:∃m':Nat,m=m':=⟨m.toNat,by omega⟩
 have qF:VR φ (Own φ H) w za z:=dJ hc
 have hzs:=fh qF uQ
 rw[hk] at hzs
 have qT:olds.length=n*inf.size:=o2
 have hold:(Builtin.firstCells inf.size n (.slice (some ⟨b,0*inf.size,none⟩) n c')).run P w.drew = .ok olds.toArray w.drew:=by
  refine run_firstCells_some w.drew inf.size n ⟨b,0*inf.size,none⟩ n c' olds qT fun j u hj=>?_
  have hp:0<(blk.es.take n).length:=by
   rcases Nat.eq_zero_or_pos (blk.es.take n).length with h | h
   ·rw[hl] at h
    rw[h,Nat.zero_mul] at qT
    have:olds=[]:=List.length_eq_zero_iff.1 qT
    subst this
    simp at hj
   ·exact h
  obtain ⟨ad',h,h'⟩:=o6 hp
  cases h
  exact h' j u hj
 have hbytes:(n+m')*inf.bytes≤100000000*1000:=Nat.mul_le_mul (by omega) hby
 have hmb:m'*inf.bytes≤(n+m')*inf.bytes:=Nat.mul_le_mul_right _ (by omega)
 have Bv:=Go.Lib.run_append_grow_zeros (P:=P) w t tn o.type e inf z kq kn ht htn hi hz (some ⟨b,0*inf.size,none⟩) n c' olds hold m' (by omega) bW (by omega) (by omega) (by omega) (growslice_fits (by omega) (by omega))
 have hge:=grownCap_ge w (n+m') c' e
 have hle:=grownCap_le_maxLen w (n+m') c' e (by unfold maxLen;omega)
 generalize hcap:grownCap w (n+m') c' e=cap at Bv hge hle
 generalize j7:olds.toArray++Builtin.zeroCells z.cells m'++Builtin.zeroCells z.cells (cap - (n+m'))=arr at Bv
 have hsz:arr.size=cap*inf.size:=by
  rw[←j7]
  simp only[Array.size_append,List.size_toArray,size_zeroCells,hzs,qT,←Nat.add_mul]
  congr 1;omega
 have QT:=mQ hR
 have hnc:∀x∈blk.es.take n++List.replicate m' za,x.ax=inf.size:=fun x hx=>by
  rcases List.mem_append.1 hx with h | h
  ·exact o3 x h
  ·rw[List.eq_of_mem_replicate h];exact hk
 have QU:Rs φ (Own φ H) w.drew (flat (blk.es.take n++List.replicate m' za)) (fun i=>arr[i]?):=by
  have hlt:Later (fun _=>True) φ φ (Own φ H) (Own φ H) w w.drew:=(fY φ H w).toLater
  refine gC hlt _ _ _ (AV.cq _) (fun i v hv=>hv) ?_
  rw[dz]
  have pN:(flat (blk.es.take n)).length=n*inf.size:=by rw[cN o3,hl]
  refine cZ (bS (fun i hi=>?_) o4) (jw (zc:=z.cells) (qM qF uQ) hk bW m' _ (fun j hj=>?_))
  ·rw[←j7,Array.getElem?_append_left (by simp;omega),Array.getElem?_append_left (by simp;omega)]
   simp
  ·rw[←j7,pN,Array.getElem?_append_left (by simp only[Array.size_append,List.size_toArray,size_zeroCells,hzs,qT];omega),Array.getElem?_append_right (by simp only[List.size_toArray,qT];omega)]
   simp only[List.size_toArray,qT,Nat.add_sub_cancel_left,Builtin.zeroCells]
   rw[hzs]
   have:=pO hzs bW hj
   rwa [hzs] at this
 have hal:=QT.alloc ⟨inf.size,blk.es.take n++List.replicate m' za,false,e⟩ (by assumption) arr cap hsz (by simp;omega) (fun h=>by simp at h) hle hnc QU
 have eW:K (.aE inf.size H.length 0 (n+m') none) (some ⟨inf.size,blk.es.take n++List.replicate m' za,false,e⟩::H):=by
  simpa [GX.val,GX.heap,hf] using h2
 refine aR (hex (by rw[v2,bP hw];exact Bv)) (hn _ _ _ _ _ eW ?_ hal.1 ((fY φ H w).trans hal.2))
 exact ⟨rfl,w.heap.size,cap,arr,e,(0,0),by simp[aH.add],by simp[eM,Value.cells],hge,hle,fun m hm=>by simp at hm,heap_alloc_new w.drew _,by simpa using hsz⟩
theorem Rr{o:Oper}{t e:TypeId}{inf:TypeInfo}{d s:Operand}{d' s':X}{args:Array Operand}{ats:Array TypeId}(ho:o.op = .call { callee:=.builtin .copy,args,argTypes:=ats })(ha:args.toList=[d,s])(dy:ats.toList=[t,t])
  (ht:P.underlying t=some (.slice e))(hi:P.info? e=some inf)(hz:0<inf.size)(hd:bj d=some d')(hs:bj s=some s'):cw P o (.gx (.copy inf.size) [d',s']):=by
 intro φ H w ts a hR hr K Kp h next Q hn oZ
 obtain rfl:args=#[d,s]:=by apply Array.toList_inj.1;simpa using ha
 obtain rfl:ats=#[t,t]:=by apply Array.toList_inj.1;simpa using dy
 have hv:=ay hr hd
 have hw:=ay hr hs
 have hex:∀{r:Value}{w':World},(Builtin.copy_ #[t,t] o.type #[a.eval d,a.eval s]).run P w = .ok r w'→(execOp a.eval o).run P w = .ok (.value r) w':=by
  intro r w' h1
  simp only[execOp,ho,resolve,invoke,builtin,Sem.run_bind,Sem.run_pure,Result.andThen_ok,List.map_toArray,List.map_cons,List.map_nil,h1]
 simp only[HO.bn,List.map_cons,List.map_nil] at h
 obtain ⟨h1,h2⟩:=h
 have src:∀m,xG H inf.size m (X.ev ts s')→m≤jL (X.ev ts s')∧∃ad c,a.eval s = .slice ad (jL (X.ev ts s')) c∧∃ys,ys=ND H m (X.ev ts s')∧ys.length=m∧∃news:List Value,news.length=m*inf.size∧(∀x∈ys,x.ax=inf.size)∧Rs φ (Own φ H) w (flat ys) (fun i=>news[i]?)∧(∀u∈news,u.oneCell'=true)∧
   (0<m→∃aa,ad=some aa∧∀j u,news[j]? = some u→w.cell? (aa.add j)=some u):=by
  intro m hm
  have fin:∀{b off c:Nat}{ys:List AV},Rl φ (Own φ H) w b inf.size ys off→∃news:List Value,news.length=ys.length*inf.size∧(∀x∈ys,x.ax=inf.size)∧Rs φ (Own φ H) w (flat ys) (fun i=>news[i]?)∧(∀u∈news,u.oneCell'=true)∧(0<ys.length→∀j u,news[j]? = some u→w.cell? ((⟨b,off,none⟩:Addr).add j)=some u):=by
   intro b off c ys hl
   obtain ⟨a2,c2,news,e1,n2,n3,n4,n5,n6⟩:=(Src.DN (c:=c) hl).ex
   refine ⟨news,n2,n3,n4,n5,fun h0=>?_⟩
   obtain ⟨ad,e2,n7⟩:=n6 h0
   simp only[Value.slice.injEq] at e1
   rw[←e1.1] at e2
   cases e2
   exact n7
  cases D0:X.ev ts s'<;>rw[D0] at hm hw<;>try exact False.elim hm
  ·rename_i k xs room
   obtain ⟨hk,hl⟩:=hm
   obtain ⟨ad,c,g1,g2,g3,g4,g5,_⟩:=fZ hw
   refine ⟨hl,ad,c,g1,xs.take m,rfl,by simp;omega,?_⟩
   by_cases h0:m=0
   ·subst h0
    exact ⟨[],by simp,by simp,trivial,by simp,fun h=>by omega⟩
   ·obtain ⟨b,off,rfl,g6,g7,g8⟩:=g5 (by omega)
    have hke:k=inf.size:=hk.resolve_right h0
    subst hke
    obtain ⟨news,n2,n3,n4,n5,n6⟩:=fin (c:=c) (hJ (n:=m) g8)
    have DZ:(xs.take m).length=m:=by simp;omega
    rw[DZ] at n2 n6
    exact ⟨news,n2,n3,n4,n5,fun h=>⟨_,rfl,n6 h⟩⟩
  ·rename_i k id off n c
   simp only[xG] at hm
   split at hm
   case h_2=>exact hm.elim
   rename_i blk hf
   obtain ⟨rfl,hbk,hmn,hmo⟩:=hm
   obtain ⟨b,c',cur,e0,fr,g1,g2,g3,g4,g5,g6,g7⟩:=ga hw
   refine ⟨hmn,_,_,g2,(blk.es.drop off).take m,by simp only[ND,hf],by simp;omega,?_⟩
   obtain ⟨_,q9,cap,k1,k2,k3,k4,k5,k6⟩:=(hR.blk id b blk g1 hf).gY g6
   have hl:=hJ (n:=m) (jv (f:=off) k6)
   rw[hbk,Nat.zero_add] at hl
   obtain ⟨news,n2,n3,n4,n5,n6⟩:=fin (c:=0) hl
   have DZ:((blk.es.drop off).take m).length=m:=by simp;omega
   rw[DZ] at n2 n6
   exact ⟨news,n2,n3,n4,n5,fun h=>⟨_,rfl,n6 h⟩⟩
 have lY:∀(ad:Addr),(loadCells ad 0).run P w = .ok #[] w:=fun ad=>by simpa using run_loadCells_list (P:=P) w ad [] (fun j v h=>by simp at h)
 cases hde:X.ev ts d'<;>rw[hde] at h1 h2 hv<;>try exact False.elim h1
 ·rename_i k xs room
  cases xs with
  | cons x r=>exact h1.elim
  | nil =>
   obtain ⟨_,ad,c,e1,_⟩:=src 0 h1
   obtain ⟨bd,cd,e2,_⟩:=fZ hv
   have hrun:(Builtin.copy_ #[t,t] o.type #[a.eval d,a.eval s]).run P w = .ok (.int .i64 0) w:=by
    rw[e1,e2]
    cases ad<;>cases bd<;>simp[Builtin.copy_,run_underlying ht,Builtin.lenOf,Builtin.firstCells,sizeOf,typeInfo,hi,storeCells,lY,goInt]
   have hval:GX.val H (.copy inf.size) [.an k [] room,X.ev ts s'] = .Z (.int .i64 0):=by simp[GX.val,jL]
   rw[hval] at h2
   exact aR (hex hrun) (hn _ _ φ H w h2 (cQ rfl) hR (Step.refl _ _ _))
 ·rename_i k id off n c
  have iU:Cb H inf.size (X.ev ts s') (.aE k id off n c):=h1
  simp only[Cb] at iU
  split at iU
  case h_2=>exact iU.elim
  rename_i blk hf
  obtain ⟨rfl,hbk,hoff,acJ,hsrc⟩:=iU
  obtain ⟨aeR,ad,cs,e1,ys,hys,nn,news,n2,n3,n4,n5,n6⟩:=src _ hsrc
  obtain ⟨b,c',YX,e0,fr0,g1,e2,g3,g4,g5,g6,g7⟩:=ga hv
  obtain ⟨bW,cur,cap,k1,k2,k3,k4,k5,k6⟩:=(hR.blk id b blk g1 hf).gY g6
  rw[k1] at g6
  simp only[Option.some.injEq,Obj.cells.injEq] at g6
  rw[←g6.1] at g7
  generalize hm:min (jL (X.ev ts s')) n=m at *
  have hmn:m≤n:=by omega
  have aeN:off+c'=cap:=by
   have:(off+c')*blk.k=cap*blk.k:=by rw[←k2,g7,hbk]
   exact Nat.eq_of_mul_eq_mul_right (by omega) this
  have hroom:off+m≤cap:=by omega
  have hsz:inf.size=blk.k:=hbk.symm
  rw[hsz] at h2 n2 n3 e2 g7
  have hval:GX.val H (.copy blk.k) [.aE blk.k id off n c,X.ev ts s'] = .Z (.int .i64 (m:Nat)):=by
   show AV.Z (.int .i64 ((min (jL (X.ev ts s')) n:Nat):Int))=_
   rw[hm]
  rw[hval] at h2
  have hheap:GX.heap H (.copy blk.k) [.aE blk.k id off n c,X.ev ts s']=Y.set H id (some { blk with es:=blk.es.take off++ys++blk.es.drop (off+m) }):=by
   show I6 H (X.ev ts s') (.aE blk.k id off n c)=_
   simp only[I6,hf,hm,hys]
  rw[hheap] at h2
  obtain ⟨f1,f2⟩:=nc k6
  have pN:(flat blk.es).length=blk.es.length*blk.k:=cN f1
  have hyk:∀x∈ys,x.ax=blk.k:=n3
  have hyf:(flat ys).length=m*blk.k:=by rw[cN hyk,nn]
  have hnm:off*blk.k≤blk.es.length*blk.k:=Nat.mul_le_mul_right _ hoff
  have hcm:blk.es.length*blk.k≤cap*blk.k:=Nat.mul_le_mul_right _ k3
  have hnc:(off+m)*blk.k≤cap*blk.k:=Nat.mul_le_mul_right _ hroom
  have Rj:(off+m)*blk.k=off*blk.k+m*blk.k:=Nat.add_mul _ _ _
  have hst:=run_storeCells_at (P:=P) b (off*blk.k) blk.ty news 0 cur w k1 (by rw[n2,k2];omega) n5
  have hrun:(Builtin.copy_ #[t,t] o.type #[a.eval d,a.eval s]).run P w = .ok (.int .i64 (m:Nat)) (w.setRow b (cur.toList.take (off*blk.k+0)++news++cur.toList.drop (off*blk.k+0+news.length)).toArray):=by
   rw[e1,e2]
   have Ru:Nat.min (jL (X.ev ts s')) n=m:=hm
   by_cases h0:0<m
   ·obtain ⟨aa,rfl,hnews⟩:=n6 h0
    have wi:=run_loadCells_list (P:=P) w aa news hnews
    rw[n2] at wi
    simp[Builtin.copy_,run_underlying ht,Builtin.lenOf,Builtin.firstCells,sizeOf,typeInfo,hi,hsz,Ru,wi,hst,goInt]
   ·have h00:m=0:=by omega
    have hnil:news=[]:=List.length_eq_zero_iff.1 (by rw[n2,h00,Nat.zero_mul])
    subst hnil
    cases ad with
    | none=>simp[Builtin.copy_,run_underlying ht,Builtin.lenOf,Builtin.firstCells,sizeOf,typeInfo,hi,hsz,Ru,h00,hst,goInt]
    | some ad=>simp[Builtin.copy_,run_underlying ht,Builtin.lenOf,Builtin.firstCells,sizeOf,typeInfo,hi,hsz,Ru,h00,lY,hst,goInt]
  have zu:∀x∈blk.es.take off++ys++blk.es.drop (off+m),x.ax=blk.k:=by
   intro x hx
   rcases List.mem_append.1 hx with hx | hx
   ·rcases List.mem_append.1 hx with hx | hx
    ·exact f1 x (List.mem_of_mem_take hx)
    ·exact hyk x hx
   ·exact f1 x (List.mem_of_mem_drop hx)
  have zj:flat (blk.es.take off++ys++blk.es.drop (off+m))=(flat blk.es).take (off*blk.k)++flat ys++(flat blk.es).drop (off*blk.k+m*blk.k):=by
   rw[dz,dz,ng f1,kU f1,Rj]
  have zw:(blk.es.take off++ys++blk.es.drop (off+m)).length≤cap:=by simp;omega
  have fR:(cur.toList.take (off*blk.k)).length=off*blk.k:=by simp;omega
  have qH:((flat blk.es).take (off*blk.k)).length=off*blk.k:=by rw[List.length_take,pN];exact Nat.min_eq_left hnm
  have hwr:=hR.write bW g1 hf k1 k2 (blk.es.take off++ys++blk.es.drop (off+m)) (fV:=(cur.toList.take (off*blk.k+0)++news++cur.toList.drop (off*blk.k+0+news.length)).toArray) (by simp[n2];omega) zw k5 (fun hx=>by
    have h3:=k4 hx
    rcases acJ with h4 | h4
    ·rw[hx] at h4;simp at h4
    ·simp;omega) zu (by
   rw[zj,Nat.add_zero]
   refine cZ (cZ (bS (fun q hq=>?_) (ju (n:=off*blk.k) f2)) (bS (fun q hq=>?_) n4)) (bS (fun q hq=>?_) (jt (f:=off*blk.k+m*blk.k) f2))
   ·have fM:q<off*blk.k:=by rw[qH] at hq;exact hq
    simp only[List.getElem?_toArray]
    rw[List.append_assoc,List.getElem?_append_left (by omega),List.getElem?_take_of_lt fM,eE k1]
    simp
   ·have fM:q<m*blk.k:=by rw[hyf] at hq;exact hq
    rw[qH]
    simp only[List.getElem?_toArray]
    rw[List.getElem?_append_left (by rw[List.length_append,fR,n2];omega),List.getElem?_append_right (by omega),fR]
    congr 1
    omega
   ·have hl:((flat blk.es).take (off*blk.k)++flat ys).length=off*blk.k+m*blk.k:=by rw[List.length_append,qH,hyf]
    rw[hl]
    simp only[List.getElem?_toArray]
    have dW:(cur.toList.take (off*blk.k)++news).length=off*blk.k+m*blk.k:=by rw[List.length_append,fR,n2]
    rw[List.getElem?_append_right (by omega),dW,eE k1,n2]
    simp)
  exact aR (hex hrun) (hn _ _ φ _ _ h2 (cQ rfl) hwr.1 hwr.2)
theorem Bz{b:Bool}{o:Oper}{op:HO}(h:iQ P b o=some op):cw P o op:=by
 unfold iQ at h
 split at h
 ·rename_i t x ho
  split at h<;>cases h
  exact QZ ho (by assumption) (by assumption)
 ·rename_i t ho
  split at h
  case h_2=>simp at h
  rename_i z hz
  split at h
  case h_2=>simp at h
  rename_i z' hc
  split at h
  case isFalse=>simp at h
  rename_i ht
  cases h
  rw[Option.bind_eq_some_iff] at hz
  obtain ⟨i,h1,h2⟩:=hz
  exact NF ho h1 h2 hc ht.1 ht.2
 ·rename_i t x ho
  split at h
  case h_2=>simp at h
  split at h
  case isFalse=>simp at h
  cases h
  exact Ws (by assumption) ho (by assumption)
 ·rename_i t ln parts ho
  split at h
  case h_2=>simp at h
  rename_i e ht
  split at h
  case h_2=>simp at h
  rename_i i hi
  split at h
  case h_2=>simp at h
  rename_i z ps hz hps
  split at h
  case isFalse=>simp at h
  rename_i hc
  obtain ⟨c1,c2,c3,c4⟩:=hc
  cases h
  rw[Option.bind_eq_some_iff] at hz
  obtain ⟨zv,h1,h2⟩:=hz
  cases b with
  | true=>exact Q0 ho ht hi h1 h2 hps c1 c2 c3 c4
  | false=>exact Wv ho ht hi h1 h2 hps c1 c2 c3 c4
 ·rename_i t x y ho
  split at h<;>cases h
  exact NH ho (by assumption) (by assumption) (by assumption)
 ·rename_i t l c ho
  split at h
  case h_2=>simp at h
  rename_i e ht
  split at h
  case h_2=>simp at h
  rename_i i l' c' hi hl hc
  split at h
  case h_2=>simp at h
  rename_i z hz
  split at h
  case isFalse=>simp at h
  rename_i fE
  obtain ⟨c1,c2,c3,c4⟩:=fE
  cases h
  rw[Option.bind_eq_some_iff] at hz
  obtain ⟨zv,h1,h2⟩:=hz
  exact Q2 ho ht hi h1 h2 hl hc c1 c2 c3 c4
 ·rename_i args ats ho
  split at h
  case h_2=>simp at h
  rename_i s x t t' ha dy
  split at h
  case isFalse =>
   unfold tD at h
   split at h
   case h_2=>simp at h
   rename_i e kn h1 h2
   split at h
   case h_2=>simp at h
   rename_i i s' x' h3 h4 h5
   split at h
   case h_2=>simp at h
   rename_i z h6
   split at h
   case isFalse=>simp at h
   rename_i fE
   obtain ⟨d1,d2,d3,d4⟩:=fE
   cases h
   rw[Option.bind_eq_some_iff] at h6
   obtain ⟨zv,f1,f2⟩:=h6
   exact Rq ho ha dy h1 h2 h3 f1 f2 d1 d2 d3 d4 h4 h5
  rename_i hte
  subst hte
  split at h
  case h_2=>simp at h
  rename_i e ht
  split at h
  case h_2=>simp at h
  rename_i i s' x' hi hs hx
  split at h
  case h_2=>simp at h
  rename_i z hz
  split at h
  case isFalse=>simp at h
  rename_i fE
  cases h
  exact WD ho ha dy ht hi hz fE.1 fE.2.1 fE.2.2 hs hx
 ·rename_i f args ats ho
  split at h
  case isFalse=>exact WK ho h
  rename_i hc
  rw[Option.map_eq_some_iff] at h
  obtain ⟨ej,h1,rfl⟩:=h
  exact Rk ho hc h1
 ·rename_i t args ats ho
  rw[Option.map_eq_some_iff] at h
  obtain ⟨ej,h1,rfl⟩:=h
  exact NT ho h1
 ·rename_i x ho
  rw[Option.map_eq_some_iff] at h
  obtain ⟨x',h1,rfl⟩:=h
  exact WG ho h1
 ·rename_i s d x ho
  split at h
  case h_2=>simp at h
  rename_i e x' h1 h2 h3
  split at h
  case isFalse=>simp at h
  rename_i h4
  cases h
  exact WH ho h1 h2 (y2 h4) h3
 ·rename_i args ats ho
  split at h
  case h_2=>simp at h
  rename_i x t ha dy
  split at h
  case h_2=>simp at h
  rename_i e x' h1 h2
  cases h
  exact WI ho ha dy h1 h2
 ·rename_i args ats ho
  split at h
  case h_2=>simp at h
  rename_i d s t t' ha dy
  split at h
  case isFalse=>simp at h
  rename_i hte
  subst hte
  split at h
  case h_2=>simp at h
  rename_i e ht
  split at h
  case h_2=>simp at h
  rename_i i d' s' hi hd hs
  split at h
  case isFalse=>simp at h
  rename_i hz
  cases h
  exact Rr ho ha dy ht hi hz hd hs
 ·rename_i op t x y ty ho
  split at h
  case h_2=>simp at h
  rename_i ks x' y' h1 h2 h3
  split at h
  ·cases h
   exact L1 ho h1 rfl h2 h3
  ·cases h
   exact L1 ho h1 rfl h2 h3
  ·simp at h
 ·exact WC rfl h
end
section
variable {P:Program}
theorem ik(s:ByteArray):(bD s).length=s.size:=by simp[bD]
theorem oz{s:ByteArray}:∀x∈bD s,x.ax=1:=by
 intro x hx
 simp only[bD,List.mem_map] at hx
 obtain ⟨b,_,rfl⟩:=hx
 rfl
theorem rh(s:ByteArray):flat (bD s)=bD s:=by
 unfold bD
 generalize s.data.toList=l
 induction l with
 | nil=>rfl
 | cons b r ih=>rw[List.map_cons,fD,ih];rfl
theorem wv{φ:aH}{O:Nat→Prop}{w:World}(s:ByteArray):Rs φ O w (bD s) (fun i=>(Lib.strCells s)[i]?):=by
 rw[Lib.strCells_eq]
 unfold bD Lib.byteCells
 generalize s.data.toList=l
 induction l with
 | nil=>trivial
 | cons b r ih=>exact ⟨rfl,rfl,⟨_,rfl,rfl⟩,ih⟩
theorem WM{o:Oper}{b:Builtin}{args:Array Operand}{ats:Array TypeId}{a:Act}{w w':World}{r:Value}(ho:o.op = .call { callee:=.builtin b,args,argTypes:=ats })(hb:∀c,(builtin b ats o.type c (args.map a.eval)).run P w = .ok (.value r) w'):(execOp a.eval o).run P w = .ok (.value r) w':=by
 simp only[execOp,ho,resolve,invoke,Sem.run_bind,Sem.run_pure,Result.andThen_ok]
 exact hb _
theorem NV{o:Oper}{t t' e:TypeId}{d s:Operand}{d' s':X}{args:Array Operand}{ats:Array TypeId}(ho:o.op = .call { callee:=.builtin .copy,args,argTypes:=ats })(ha:args.toList=[d,s])(dy:ats.toList=[t,t'])
  (ht:P.underlying t=some (.slice e))(hi:(P.info? e).map (·.size)=some 1)(hd:bj d=some d')(hs:bj s=some s'):cw P o (.gx .oy [d',s']):=by
 intro φ H w ts a hR hr K Kp h next Q hn oZ
 obtain rfl:args=#[d,s]:=by apply Array.toList_inj.1;simpa using ha
 obtain rfl:ats=#[t,t']:=by apply Array.toList_inj.1;simpa using dy
 have hv:=ay hr hd
 have hw:=ay hr hs
 simp only[HO.bn,List.map_cons,List.map_nil] at h
 obtain ⟨h1,h2⟩:=h
 generalize X.ev ts d'=x1 at h1 h2 hv
 generalize X.ev ts s'=x2 at h1 h2 hw
 match x1,x2,h1 with
 | .aE k id off n c,.Z (.string x),h1 =>
  have iU:=h1
  simp only[GX.ok] at iU
  split at iU
  case h_2=>exact iU.elim
  rename_i blk hf
  obtain ⟨rfl,hbk,hle,BA⟩:=iU
  have Rv:=bP hw
  obtain ⟨b,c',YX,e0,fr0,g1,e2,g3,g4,g5,g6,g7⟩:=ga hv
  obtain ⟨bW,cur,cap,k1,k2,k3,k4,k5,k6⟩:=(hR.blk id b blk g1 hf).gY g6
  rw[hbk,Nat.mul_one] at k2
  rw[Nat.mul_one] at e2
  have hrun:=Lib.run_copy_row_string (P:=P) w t t' o.type e b off n c' x cur blk.ty ht hi k1 BA (by omega)
  have hheap:GX.heap H .oy [.aE 1 id off n c,.Z (.string x)]=Y.set H id (some { blk with es:=blk.es.take off++bD x++blk.es.drop (off+x.size) }):=by
   simp only[GX.heap,hf]
  rw[hheap] at h2
  obtain ⟨f1,f2⟩:=nc k6
  have pN:(flat blk.es).length=blk.es.length:=by rw[cN f1,hbk,Nat.mul_one]
  have il:(Lib.byteCells x.data.toList).length=x.size:=by rw[Lib.byteCells_length];exact (Lib.size_eq x).symm
  have zu:∀y∈blk.es.take off++bD x++blk.es.drop (off+x.size),y.ax=blk.k:=by
   intro y hy
   rcases List.mem_append.1 hy with hy | hy
   ·rcases List.mem_append.1 hy with hy | hy
    ·exact f1 y (List.mem_of_mem_take hy)
    ·rw[hbk];exact oz y hy
   ·exact f1 y (List.mem_of_mem_drop hy)
  have ft:∀j,flat (blk.es.take j)=(flat blk.es).take j:=fun j=>by have:=ng f1 j;rwa [hbk,Nat.mul_one] at this
  have fd:∀j,flat (blk.es.drop j)=(flat blk.es).drop j:=fun j=>by have:=kU f1 j;rwa [hbk,Nat.mul_one] at this
  have oa:(bD x).length=x.size:=ik x
  have hwr:=hR.write bW g1 hf k1 (by rw[hbk,Nat.mul_one];exact k2) (blk.es.take off++bD x++blk.es.drop (off+x.size)) (fV:=(cur.toList.take off++Lib.byteCells x.data.toList++cur.toList.drop (off+x.size)).toArray) (by simp[il];omega) (by simp[oa];omega) k5 (fun hx=>by
    have h3:=k4 hx
    simp[oa];omega) zu (by
   rw[dz,dz,ft,fd,rh]
   have qH:((flat blk.es).take off).length=off:=by rw[List.length_take,pN];omega
   have fR:(cur.toList.take off).length=off:=by simp;omega
   refine cZ (cZ (bS (fun q hq=>?_) (ju (n:=off) f2)) (bS (fun q hq=>?_) (wv x))) (bS (fun q hq=>?_) (jt (f:=off+x.size) f2))
   ·have fM:q<off:=by rw[qH] at hq;exact hq
    simp only[List.getElem?_toArray]
    rw[List.append_assoc,List.getElem?_append_left (by omega),List.getElem?_take_of_lt fM,eE k1]
    simp
   ·rw[oa] at hq
    rw[qH]
    simp only[List.getElem?_toArray]
    rw[List.getElem?_append_left (by rw[List.length_append,fR,il];omega),List.getElem?_append_right (by omega),fR,Lib.strCells_eq]
    congr 1
    omega
   ·have hl:((flat blk.es).take off++bD x).length=off+x.size:=by rw[List.length_append,qH,oa]
    rw[hl]
    simp only[List.getElem?_toArray]
    have dW:(cur.toList.take off++Lib.byteCells x.data.toList).length=off+x.size:=by rw[List.length_append,fR,il]
    rw[List.getElem?_append_right (by omega),dW,eE k1]
    simp)
  refine aR (WM ho fun c=>?_) (hn _ _ φ _ _ h2 (cQ rfl) hwr.1 hwr.2)
  simp only[builtin,Sem.run_bind,Sem.run_pure,List.map_toArray,List.map_cons,List.map_nil,e2,Rv,hrun,Result.andThen_ok]
  rfl
theorem pS{φ:aH}{w:World}{H:Y}(hR:Rel φ H w){t t' ty e:TypeId}{inf:TypeInfo}{z:Value}(ht:P.underlying t=some (.slice e))(ht':P.underlying t'=some .string)(hi:P.info? e=some inf)(hz:inf.zero=some z)(hzs:z.cells.size=1)(hs1:inf.size=1)(hby:inf.bytes=1)
  {xs:List AV}{s:Value}{x:ByteArray}(hs:Src φ (Own φ H) w 1 xs s)(hy:0<x.size)(hb:xs.length+x.size≤100000000)(hc:∃a c,s = .slice a xs.length c∧c<xs.length+x.size∧(a=none→c=0)) :
  ∃c' w',(Builtin.append_ #[t,t'] ty #[s,.string x]).run P w = .ok (.slice (some ⟨w.heap.size,0,none⟩) (xs.length+x.size) c') w'∧
   Rel (φ.add H.length w.heap.size) (some ⟨1,xs++bD x,false,e⟩::H) w'∧Step φ H w (φ.add H.length w.heap.size) (some ⟨1,xs++bD x,false,e⟩::H) w'∧
   VR (φ.add H.length w.heap.size) (Own (φ.add H.length w.heap.size) (some ⟨1,xs++bD x,false,e⟩::H)) w' (.aE 1 H.length 0 (xs.length+x.size) none) (.slice (some ⟨w.heap.size,0,none⟩) (xs.length+x.size) c'):=by
 obtain ⟨a,c,olds,e1,o2,o3,o4,o5,o6⟩:=hs.ex
 obtain ⟨a',c',e3,hlt,hn0⟩:=hc
 rw[e1] at e3
 cases e3
 subst e1
 rw[Nat.mul_one] at o2
 have oa:(bD x).length=x.size:=ik x
 have n2:(Lib.strCells x).length=x.size:=by rw[Lib.strCells_eq,Lib.byteCells_length];exact (Lib.size_eq x).symm
 have QT:=mQ hR
 have uJ:∀(cap:Nat)(arr:Array Value),xs.length+x.size≤cap→cap≤maxLen→arr.size=cap→(∀i,i<(olds++Lib.strCells x).length→arr[i]? = (olds++Lib.strCells x)[i]?)→
   Rel (φ.add H.length w.heap.size) (some ⟨1,xs++bD x,false,e⟩::H) (w.drew.alloc (.cells arr e))∧Step φ H w (φ.add H.length w.heap.size) (some ⟨1,xs++bD x,false,e⟩::H) (w.drew.alloc (.cells arr e))∧
   VR (φ.add H.length w.heap.size) (Own (φ.add H.length w.heap.size) (some ⟨1,xs++bD x,false,e⟩::H)) (w.drew.alloc (.cells arr e)) (.aE 1 H.length 0 (xs.length+x.size) none) (.slice (some ⟨w.heap.size,0,none⟩) (xs.length+x.size) cap):=by
  intro cap arr h1 h2 h3 h4
  have hk:∀y∈xs++bD x,y.ax=1:=fun y hy=>by
   rcases List.mem_append.1 hy with h | h
   ·exact o3 y h
   ·exact oz y h
  have QU:Rs φ (Own φ H) w.drew (flat (xs++bD x)) (fun i=>arr[i]?):=by
   have hl:Later (fun _=>True) φ φ (Own φ H) (Own φ H) w w.drew:=(fY φ H w).toLater
   refine gC hl _ _ _ (AV.cq _) (fun i v hv=>hv) ?_
   rw[dz,rh]
   have qT:(flat xs).length=olds.length:=by rw[cN o3,o2,Nat.mul_one]
   refine cZ (bS (fun i hi=>?_) o4) (bS (fun i hi=>?_) (wv x))
   ·rw[h4 i (by simp;omega),List.getElem?_append_left (by omega)]
   ·rw[h4 _ (by simp;omega),List.getElem?_append_right (by omega)]
    congr 1
    omega
  have:=QT.alloc ⟨1,xs++bD x,false,e⟩ (Nat.zero_lt_one) arr cap (by rw[h3,Nat.mul_one]) (by simp[oa];omega) (fun h=>by simp at h) h2 hk QU
  refine ⟨this.1,(fY φ H w).trans this.2,rfl,?_⟩
  refine ⟨w.heap.size,cap,arr,e,(0,0),by simp[aH.add],by simp[eM,Value.cells],h1,h2,fun m hm=>by simp at hm,heap_alloc_new w.drew _,by simpa using h3⟩
 cases a with
 | none =>
  have hc0:=hn0 rfl
  have hx:xs=[]:=by
   cases xs with
   | nil=>rfl
   | cons y r=>obtain ⟨_,h,_⟩:=o6 (by simp);simp at h
  subst hc0
  subst hx
  have ho:olds=[]:=List.length_eq_zero_iff.1 (by simpa using o2)
  subst ho
  have hr:=run_append_nil_string (P:=P) w t t' ty e inf z ht ht' hi hz x hy (by simp at hb;omega) (by simp at hb;rw[hby];omega)
  simp only[List.length_nil,Nat.zero_add,List.nil_append] at uJ hb ⊢
  have hge:=grownCap_ge w x.size 0 e
  have hxa:x.data.map (fun b=>Value.int .u8 b.toNat)=(Lib.strCells x).toArray:=by
   apply Array.ext'
   simp[Lib.strCells]
  rw[hxa] at hr
  obtain ⟨f1,f2,f3⟩:=uJ (grownCap w x.size 0 e) ((Lib.strCells x).toArray++Builtin.zeroCells z.cells (grownCap w x.size 0 e - x.size)) hge (grownCap_le_maxLen w _ _ _ (by unfold maxLen;omega))
   (by simp only[Array.size_append,List.size_toArray,size_zeroCells,hzs,n2,Nat.mul_one];omega) (fun i hi=>by rw[Array.getElem?_append_left (by simpa using hi)];simp)
  exact ⟨_,_,hr,f1,f2,f3⟩
 | some b =>
  have holds:∀j u,olds[j]? = some u→w.cell? (b.add j)=some u:=fun j u hj=>by
   have hp:0<xs.length:=by
    rcases Nat.eq_zero_or_pos xs.length with h | h
    ·rw[h] at o2
     have:olds=[]:=List.length_eq_zero_iff.1 (by simpa using o2)
     subst this
     simp at hj
    ·exact h
   obtain ⟨ad',h,h'⟩:=o6 hp
   cases h
   exact h' j u hj
  have hr:=Lib.run_append_grow_string (P:=P) w t t' ty e inf z ht ht' hi hz b xs.length c olds (by rw[hs1,Nat.mul_one];exact o2) holds x hlt (by omega) (growslice_fits (by omega) (by rw[hby];omega))
  have hge:=grownCap_ge w (xs.length+x.size) c e
  obtain ⟨f1,f2,f3⟩:=uJ (grownCap w (xs.length+x.size) c e) (olds.toArray++(Lib.strCells x).toArray++Builtin.zeroCells z.cells (grownCap w (xs.length+x.size) c e - (xs.length+x.size))) hge (grownCap_le_maxLen w _ _ _ (by unfold maxLen;omega))
   (by simp only[Array.size_append,List.size_toArray,size_zeroCells,hzs,n2,o2,Nat.mul_one];omega) (fun i hi=>by rw[Array.getElem?_append_left (by simpa using hi)];simp[List.getElem?_append])
  exact ⟨_,_,hr,f1,f2,f3⟩
theorem xK{φ:aH}{H:Y}{w:World}(hR:Rel φ H w){t t' ty e:TypeId}{inf:TypeInfo}(ht:P.underlying t=some (.slice e))(ht':P.underlying t'=some .string)(hi:P.info? e=some inf)(hs1:inf.size=1)
  {id b n c' cap:Nat}{blk:aK}{cur:Array Value}{x:ByteArray}(hm:φ id=some b)(hf:Y.find H id=some blk)(hb:w.heap[b]? = some (.cells cur blk.ty (0,0)))(hsz:cur.size=cap)(hk:blk.k=1)(hty:blk.ty=e)
  (hel:blk.es.length≤cap)(lK:cap≤maxLen)(NI:Rl φ (Own φ H) w b blk.k blk.es 0)(hn:n≤blk.es.length)(hroom:n+x.size≤c')(hc:c'≤cap)
  (es':List AV)(kX:es'=blk.es.take n++bD x++blk.es.drop (n+x.size))(Ri:blk.exact=true→cap=es'.length) :
  ∃w',(Builtin.append_ #[t,t'] ty #[.slice (some ⟨b,0,none⟩) n c',.string x]).run P w = .ok (.slice (some ⟨b,0,none⟩) (n+x.size) c') w'∧
   Rel φ (Y.set H id (some { blk with es:=es' })) w'∧Step φ H w φ (Y.set H id (some { blk with es:=es' })) w':=by
 have hrun:=Lib.run_append_room_string (P:=P) w t t' ty e inf ht ht' hi hs1 b n c' cur (by rw[←hty];exact hb) x hroom (by omega)
 obtain ⟨f1,f2⟩:=nc NI
 have pN:(flat blk.es).length=blk.es.length:=by rw[cN f1,hk,Nat.mul_one]
 have il:(Lib.strCells x).length=x.size:=by rw[Lib.strCells_eq,Lib.byteCells_length];exact (Lib.size_eq x).symm
 have oa:(bD x).length=x.size:=ik x
 have zu:∀y∈es',y.ax=blk.k:=by
  intro y hy
  rw[kX] at hy
  rcases List.mem_append.1 hy with hy | hy
  ·rcases List.mem_append.1 hy with hy | hy
   ·exact f1 y (List.mem_of_mem_take hy)
   ·rw[hk];exact oz y hy
  ·exact f1 y (List.mem_of_mem_drop hy)
 have ft:∀j,flat (blk.es.take j)=(flat blk.es).take j:=fun j=>by have:=ng f1 j;rwa [hk,Nat.mul_one] at this
 have fd:∀j,flat (blk.es.drop j)=(flat blk.es).drop j:=fun j=>by have:=kU f1 j;rwa [hk,Nat.mul_one] at this
 have zw:es'.length≤cap:=by rw[kX];simp[oa];omega
 have hw:=hR.write (by rw[hk];exact Nat.zero_lt_one) hm hf hb (by rw[hk,Nat.mul_one];exact hsz) es' (fV:=(cur.toList.take n++Lib.strCells x++cur.toList.drop (n+x.size)).toArray) (by simp[il];omega) zw lK Ri zu (by
  rw[kX,dz,dz,ft,fd,rh]
  have qH:((flat blk.es).take n).length=n:=by rw[List.length_take,pN];omega
  have fR:(cur.toList.take n).length=n:=by simp;omega
  refine cZ (cZ (bS (fun q hq=>?_) (ju (n:=n) f2)) (bS (fun q hq=>?_) (wv x))) (bS (fun q hq=>?_) (jt (f:=n+x.size) f2))
  ·have fM:q<n:=by rw[qH] at hq;exact hq
   simp only[List.getElem?_toArray]
   rw[List.append_assoc,List.getElem?_append_left (by omega),List.getElem?_take_of_lt fM,eE hb]
   simp
  ·rw[oa] at hq
   rw[qH]
   simp only[List.getElem?_toArray]
   rw[List.getElem?_append_left (by rw[List.length_append,fR,il];omega),List.getElem?_append_right (by omega),fR]
   congr 1
   omega
  ·have hl:((flat blk.es).take n++bD x).length=n+x.size:=by rw[List.length_append,qH,oa]
   rw[hl]
   simp only[List.getElem?_toArray]
   have dW:(cur.toList.take n++Lib.strCells x).length=n+x.size:=by rw[List.length_append,fR,il]
   rw[List.getElem?_append_right (by omega),dW,eE hb]
   simp)
 exact ⟨_,hrun,hw.1,hw.2⟩
theorem Rx{o:Oper}{t t' e:TypeId}{inf:TypeInfo}{z:Value}{d s:Operand}{d' s':X}{args:Array Operand}{ats:Array TypeId}(ho:o.op = .call { callee:=.builtin .append,args,argTypes:=ats })(ha:args.toList=[d,s])(dy:ats.toList=[t,t'])
  (ht:P.underlying t=some (.slice e))(ht':P.underlying t'=some .string)(hi:P.info? e=some inf)(hz:inf.zero=some z)(hzs:z.cells.size=1)(hs1:inf.size=1)(hby:inf.bytes=1)(hd:bj d=some d')(hs:bj s=some s'):cw P o (.gx (.oX e) [d',s']):=by
 intro φ H w ts a hR hr K Kp h next Q hn oZ
 obtain rfl:args=#[d,s]:=by apply Array.toList_inj.1;simpa using ha
 obtain rfl:ats=#[t,t']:=by apply Array.toList_inj.1;simpa using dy
 have hv:=ay hr hd
 have hw:=ay hr hs
 simp only[HO.bn,List.map_cons,List.map_nil] at h
 obtain ⟨h1,h2⟩:=h
 generalize X.ev ts d'=x1 at h1 h2 hv
 generalize X.ev ts s'=x2 at h1 h2 hw
 obtain ⟨x,rfl⟩:∃x,x2 = .Z (.string x):=by
  match x1,x2,h1 with
  | _,.Z (.string x),_=>exact ⟨x,rfl⟩
 have Rv:=bP hw
 have hok:Cc H e x x1:=h1
 have hex:∀{r:Value}{w':World},(Builtin.append_ #[t,t'] o.type #[a.eval d,.string x]).run P w = .ok r w'→(execOp a.eval o).run P w = .ok (.value r) w':=fun {r w'} h1=>WM ho fun c=>by
  simp only[builtin,Sem.run_bind,Sem.run_pure,List.map_toArray,List.map_cons,List.map_nil,Rv,h1,Result.andThen_ok]
 have Co:∀{ad:Option Addr}{x1:AV},(∀id,x1≠id→True)→K (if x.size=0 then x1 else .aE 1 H.length 0 x.size none) (if x.size=0 then H else some ⟨1,bD x,false,e⟩::H)→VR φ (Own φ H) w x1 (a.eval d)→a.eval d = .slice ad 0 0→x.size≤100000000→o.wp P a w next Q:=by
  intro ad x1 _ hK hv he hx
  by_cases h0:x.size=0
  ·rw[if_pos h0,if_pos h0] at hK
   refine aR (hex ?_) (hn _ _ _ _ _ hK hv hR (Step.refl _ _ _))
   have hfc:=Lib.run_firstCells_string (P:=P) w inf.size x
   have hsc:Lib.strCells x=[]:=List.length_eq_zero_iff.1 (by rw[Lib.strCells_length];exact h0)
   rw[h0,hsc] at hfc
   rw[he]
   cases ad<;>simp[Builtin.append_,run_underlying ht,run_underlying ht',sizeOf,typeInfo,hi,Builtin.lenOf,h0,hfc,storeCells]
  ·rw[if_neg h0,if_neg h0] at hK
   obtain ⟨c',w',r1,r2,r3,r4⟩:=pS (P:=P) hR (ty:=o.type) ht ht' hi hz hzs hs1 hby (xs:=[]) (s:=a.eval d) (x:=x) ⟨ad,0,[],he,rfl,by simp,trivial,by simp,fun h=>by simp at h⟩ (by omega) (by simpa using hx) ⟨ad,0,he,by simp;omega,fun _=>rfl⟩
   simp only[List.length_nil,Nat.zero_add,List.nil_append] at r1 r2 r3 r4
   exact aR (hex r1) (hn _ _ _ _ _ hK r4 r2 r3)
 unfold Cc at hok
 split at hok
 ·exact Co (ad:=none) (fun _ _=>trivial) h2 hv (bP hv) hok
 ·rename_i k
  obtain ⟨ad,c,wj,c1,c2,c3,c4,c5⟩:=fZ hv
  have hc0:c=0:=by have:=c5.1;simpa using this
  rw[hc0] at wj
  exact Co (fun _ _=>trivial) h2 hv wj hok
 ·rename_i k id off n c
  split at hok
  case h_2=>exact hok.elim
  rename_i blk hf
  obtain ⟨⟨rfl,hk,hty,rfl,hb8⟩,fE⟩:=hok
  obtain ⟨b,c',cur,e',fr,v1,v2,v3,v4,v5,v6,v7⟩:=ga hv
  obtain ⟨_,q9,cap,a1,a2,a3,a4,a5,a6⟩:=(hR.blk id b blk v1 hf).gY v6
  rw[v6] at a1
  cases a1
  rw[hk,Nat.mul_one] at a2
  have acK:c'=cap:=by rw[Nat.zero_add,Nat.mul_one] at v7;omega
  subst acK
  rw[Nat.zero_mul] at v2
  have Ck:id<H.length:=Y.au hf
  have oa:(bD x).length=x.size:=ik x
  have hsz:cur.size=c'*1:=by omega
  cases c with
  | none =>
   obtain ⟨g1,g2⟩:=fE
   have g3:K (.aE 1 H.length 0 (n+x.size) none) (some ⟨1,blk.es++bD x,false,e⟩::Y.set H id none):=by
    have:GX.heap H (.oX e) [.aE 1 id 0 n none,.Z (.string x)]=some ⟨1,blk.es++bD x,false,e⟩::Y.set H id none:=by simp only[GX.heap,Fi,hf]
    rw[this] at h2
    exact h2
   by_cases hroom:n+x.size≤c'
   ·obtain ⟨w',r1,r2,r3⟩:=xK (P:=P) hR (ty:=o.type) ht ht' hi hs1 (x:=x) v1 hf v6 a2 hk hty a3 a5 a6 (Nat.le_of_eq g2) hroom (Nat.le_refl _) (blk.es++bD x) (by
     rw[g2,List.take_length,List.drop_of_length_le (by omega),List.append_nil]) (fun h=>by rw[g1] at h;simp at h)
    have Fw:Y.find (Y.set H id (some { blk with es:=blk.es++bD x })) id=some { blk with es:=blk.es++bD x }:=Y.aB Ck
    obtain ⟨m1,m2⟩:=r2.move v1 Fw
    have gq:Y.set (Y.set H id (some { blk with es:=blk.es++bD x })) id none=Y.set H id none:=set_set _ _ _
    rw[Y.ah,gq] at m1 m2
    have Rh:({ blk with es:=blk.es++bD x }:aK)=⟨1,blk.es++bD x,false,e⟩:=by
     cases blk
     simp only at hk hty g1
     subst hk
     subst hty
     subst g1
     rfl
    rw[Rh] at m1 m2 r3
    obtain ⟨fV,fr',q1,q2⟩:=r3.toLater.cells v6
    exact aR (hex (by rw[v2];exact r1)) (hn _ _ _ _ _ g3 (kY (by simp[aH.add]) hroom v4 (fun m hm=>by simp at hm) q1 (by rw[q2];exact hsz)) m1 (r3.trans m2))
   ·obtain ⟨c2,w',r1,r2,r3,r4⟩:=pS (P:=P) hR (ty:=o.type) ht ht' hi hz hzs hs1 hby (xs:=blk.es) (s:=a.eval d) (x:=x) (by
     have:=Src.sA hR hv hf hk (by omega)
     rwa [List.drop_zero,g2,List.take_length] at this) (by omega) (by omega) ⟨_,c',by rw[v2,g2],by omega,fun h=>by simp at h⟩
    obtain ⟨k1,k2⟩:=r2.kill id
    rw[Cj Ck] at k1 k2
    refine aR (hex r1) (hn _ _ _ _ _ ?_ (k2.vr r4) k1 (r3.trans k2))
    rw[←g2]
    exact g3
  | some m =>
   have hcm:=v5 m rfl
   subst hcm
   have g3:n≤blk.es.length:=by
    rcases fE with ⟨_,h2,h3⟩ | ⟨_,h2⟩
    ·omega
    ·exact h2
   by_cases hroom:n+x.size≤c'
   ·have g4:K (.aE 1 id 0 (n+x.size) (some c')) (Y.set H id (some { blk with es:=blk.es.take n++bD x++blk.es.drop (n+x.size) })):=by
     have e1:GX.heap H (.oX e) [.aE 1 id 0 n (some c'),.Z (.string x)]=Y.set H id (some { blk with es:=blk.es.take n++bD x++blk.es.drop (n+x.size) }):=by simp only[GX.heap,Fi,hf,if_pos hroom]
     have e2:GX.val H (.oX e) [.aE 1 id 0 n (some c'),.Z (.string x)] = .aE 1 id 0 (n+x.size) (some c'):=by simp only[GX.val,I7,if_pos hroom]
     rw[e1,e2] at h2
     exact h2
    obtain ⟨w',r1,r2,r3⟩:=xK (P:=P) hR (ty:=o.type) ht ht' hi hs1 (x:=x) v1 hf v6 a2 hk hty a3 a5 a6 g3 hroom (Nat.le_refl _) _ rfl (fun hx=>by
     rcases fE with ⟨_,h2,h3⟩ | ⟨h2,_⟩
     ·have kX:(blk.es.take n++bD x++blk.es.drop (n+x.size)).length=blk.es.length:=by simp[oa];omega
      rw[kX];exact h2
     ·rw[h2] at hx;simp at hx)
    obtain ⟨fV,fr',q1,q2⟩:=r3.toLater.cells v6
    exact aR (hex (by rw[v2];exact r1)) (hn _ _ _ _ _ g4 (kY v1 hroom v4 (fun m hm=>by simpa using hm) q1 (by rw[q2];exact hsz)) r2 r3)
   ·have g4:K (.aE 1 H.length 0 (n+x.size) none) (some ⟨1,blk.es.take n++bD x,false,e⟩::H):=by
     have e1:GX.heap H (.oX e) [.aE 1 id 0 n (some c'),.Z (.string x)]=some ⟨1,blk.es.take n++bD x,false,e⟩::H:=by simp only[GX.heap,Fi,hf,if_neg hroom]
     have e2:GX.val H (.oX e) [.aE 1 id 0 n (some c'),.Z (.string x)] = .aE 1 H.length 0 (n+x.size) none:=by simp only[GX.val,I7,if_neg hroom]
     rw[e1,e2] at h2
     exact h2
    have hl:(blk.es.take n).length=n:=by simp;omega
    obtain ⟨c2,w',r1,r2,r3,r4⟩:=pS (P:=P) hR (ty:=o.type) ht ht' hi hz hzs hs1 hby (xs:=blk.es.take n) (s:=a.eval d) (x:=x) (by
     have:=Src.sA hR hv hf hk (by omega)
     rwa [List.drop_zero] at this) (by omega) (by rw[hl];omega) ⟨_,c',by rw[v2,hl],by rw[hl];omega,fun h=>by simp at h⟩
    rw[hl] at r1 r4
    exact aR (hex r1) (hn _ _ _ _ _ g4 r4 r2 r3)
 ·exact hok.elim
theorem Ry{o:Oper}{t it e:TypeId}{p n:Operand}{p' n':X}{args:Array Operand}{ats:Array TypeId}(ho:o.op = .call { callee:=.builtin .unsafeString,args,argTypes:=ats })(ha:args.toList=[p,n])(dy:ats.toList=[t,it])
  (ht:P.underlying t=some (.pointer e))(hc:P.cellsOf e=1)(hp:bj p=some p')(hn':bj n=some n'):cw P o (.gx (.s9 e) [p',n']):=by
 intro φ H w ts a hR hr K Kp h next Q hn oZ
 obtain rfl:args=#[p,n]:=by apply Array.toList_inj.1;simpa using ha
 obtain rfl:ats=#[t,it]:=by apply Array.toList_inj.1;simpa using dy
 have hv:=ay hr hp
 have hw:=ay hr hn'
 simp only[HO.bn,List.map_cons,List.map_nil] at h
 obtain ⟨h1,h2⟩:=h
 generalize X.ev ts p'=x1 at h1 h2 hv
 generalize X.ev ts n'=x2 at h1 h2 hw
 obtain ⟨m,rfl⟩:∃m,x2 = .Z (.int .i64 m):=by
  match x1,x2,h1 with
  | _,.Z (.int .i64 m),_=>exact ⟨m,rfl⟩
 have hm:=bP hw
 have hok:Cd H e m x1:=h1
 have hex:∀{r:Value}{w':World},(Builtin.unsafeString_ #[t,it] o.type #[a.eval p,.int .i64 m]).run P w = .ok r w'→(execOp a.eval o).run P w = .ok (.value r) w':=fun {r w'} h1=>WM ho fun c=>by
  simp only[builtin,Sem.run_bind,Sem.run_pure,List.map_toArray,List.map_cons,List.map_nil,hm,h1,Result.andThen_ok]
 unfold Cd at hok
 split at hok
 ·rename_i k id j f
  split at hok
  case h_2=>exact hok.elim
  rename_i blk hf
  obtain ⟨⟨rfl,hbk,hty,rfl,rfl,h0,hle⟩,x,hx⟩:=hok
  obtain ⟨b,v1,v2⟩:=ey hv
  obtain ⟨cur,cap,a1,a2,a3,a4,a5,a6⟩:=(hR.blk id b blk v1 hf).cells (by rw[hbk];exact Nat.zero_lt_one)
  rw[hbk,Nat.mul_one] at a2
  rw[hbk] at a6
  rw[hty] at a1
  have hlen:x.size=m.toNat:=by rw[←ik,←hx,List.length_take];omega
  have eF:x.data.toList.length=m.toNat:=by rw[←hlen];exact (Lib.size_eq x).symm
  have hcell:∀j y,x.data.toList[j]? = some y→w.cell? ((⟨b,0,none⟩:Addr).add j)=some (.int .u8 y.toNat):=by
   intro j y hj
   have tG:=(List.getElem?_eq_some_iff.1 hj).1
   have kX:blk.es[j]? = some (.Z (.int .u8 y.toNat)):=by
    have h3:(blk.es.take m.toNat)[j]? = some (.Z (.int .u8 y.toNat)):=by rw[hx];simp[bD,hj]
    rwa [List.getElem?_take_of_lt (by omega)] at h3
   have hr3:cC w b (0+j*1) 0=some (.int .u8 y.toNat):=(uH a6 kX).2.2
   rw[addr_add]
   simpa [cC] using hr3
  have NP:m=((x.data.toList.length:Nat):Int):=by rw[eF];omega
  have hrun:=Lib.run_unsafeString_row (P:=P) w t it o.type e ht hc b cur.size (by unfold World.shape?;rw[a1]) x.data.toList (fun e0=>by rw[e0] at eF;simp at eF;omega) (by omega) (by unfold maxLen at a5;omega) hcell
  rw[←NP] at hrun
  have hval:I8 H m (.ptr 1 id 0 0)=x:=by
   simp only[I8,hf,hx]
   apply ByteArray.ext
   simp only[mB,bD,List.map_map]
   apply Array.ext'
   simp only[List.toList_toArray]
   have:∀l:List UInt8,l.map ((fun x=>(mX x).getD 0)∘fun b=>AV.Z (.int .u8 (b.toNat:Int)))=l:=by
    intro l
    induction l with
    | nil=>rfl
    | cons c r ih =>
     rw[List.map_cons,ih]
     congr 1
     simp[Function.comp,mX]
   exact this _
  have yn:K (.Z (.string x)) (Y.set H id none):=by
   have e1:GX.val H (.s9 e) [.ptr 1 id 0 0,.Z (.int .i64 m)] = .Z (.string (I8 H m (.ptr 1 id 0 0))):=rfl
   rw[e1,hval] at h2
   exact h2
  have pK:(⟨x.data.toList.toArray⟩:ByteArray)=x:=by apply ByteArray.ext;simp
  rw[pK] at hrun
  have nT:∀b',b'≠b→(w.freeze ⟨b,0,none⟩ x.data.toList.length).heap[b']? = w.heap[b']?:=by
   intro b' hb'
   unfold World.freeze
   split
   ·rfl
   ·simp only[Array.getElem?_modify]
    rw[if_neg (fun e=>hb' e.symm)]
  have hres:=hR.yP (w':=w.freeze ⟨b,0,none⟩ x.data.toList.length) v1 hf none (by unfold World.freeze;split<;>simp) nT (by
   unfold World.freeze
   split
   ·rfl
   ·simp only[World.shape?,Array.getElem?_modify,if_true,a1,Option.map_some]) (by unfold World.freeze;split<;>rfl) (by unfold World.freeze;split<;>rfl) (by unfold World.freeze;split<;>rfl) (fun k hk=>by cases hk)
  exact aR (hex (by rw[v2];exact hrun)) (hn _ _ φ _ _ yn (cQ rfl) hres.1 hres.2)
 ·have:m=0:=hok
  subst this
  rw[show a.eval p = .pointer none from bP hv] at hex
  exact aR (hex (Lib.run_unsafeString_none (P:=P) w t it o.type none)) (hn _ _ φ H w h2 (cQ rfl) hR (Step.refl _ _ _))
 ·exact hok.elim
theorem NW{o:Oper}{s:Operand}{s':X}{args:Array Operand}{ats:Array TypeId}(ho:o.op = .call { callee:=.builtin .unsafeSliceData,args,argTypes:=ats })(ha:args.toList=[s])(hs:bj s=some s'):cw P o (.gx .nj [s']):=by
 intro φ H w ts a hR hr K Kp h next Q hn oZ
 obtain rfl:args=#[s]:=by apply Array.toList_inj.1;simpa using ha
 have hv:=ay hr hs
 simp only[HO.bn,List.map_cons,List.map_nil] at h
 obtain ⟨h1,h2⟩:=h
 generalize X.ev ts s'=x1 at h1 h2 hv
 have hex:∀{r:Value}{w':World},(Builtin.unsafeSliceData_ ats o.type #[a.eval s]).run P w = .ok r w'→(execOp a.eval o).run P w = .ok (.value r) w':=fun {r w'} h1=>WM ho fun c=>by
  simp only[builtin,Sem.run_bind,Sem.run_pure,List.map_toArray,List.map_cons,List.map_nil,h1,Result.andThen_ok]
 match x1,h1 with
 | .aE k id off n c,h1 =>
  obtain ⟨hk,hn0⟩:=h1
  obtain ⟨b,c',YX,e0,fr0,g1,e2,g3,g4,g5,g6,g7⟩:=ga hv
  refine aR (hex (by rw[e2];exact Lib.run_unsafeSliceData_row (P:=P) w ats o.type _ n c' (by omega))) (hn _ _ φ H w h2 ?_ hR (Step.refl _ _ _))
  have:=yO (O:=Own φ H) (w:=w) (k:=k) (j:=off) (f:=0) g1
  rw[ew hk] at this
  exact this
 | .Z (.slice none 0 0),_ =>
  rw[show a.eval s = .slice none 0 0 from bP hv] at hex
  exact aR (hex (Lib.run_unsafeSliceData_nil (P:=P) w ats o.type 0 0)) (hn _ _ φ H w h2 (cQ rfl) hR (Step.refl _ _ _))
theorem Rz{t e:TypeId}(ht:P.underlying t=some (.pointer e))(p:Option Addr)(w:World):(Op.equal t (.pointer p) (.pointer none)).run P w = .ok p.isNone w:=by
 show (Op.equalIn (9999+1) t _ _).run P w=_
 rw[Op.equalIn]
 simp only[Sem.run_bind,bu ht,Result.andThen_ok]
 cases p<;>rfl
theorem Jh{φ:aH}{O:Nat→Prop}{w:World}{x:AV}{v:Value}(h:VR φ O w x v)(hp:zb x):∃p:Option Addr,v = .pointer p∧p.isNone=j6 x:=by
 match x,hp with
 | .ptr k id j f,hp =>
  obtain ⟨b,_,e⟩:=ey h
  rw[ew hp] at e
  exact ⟨_,e,rfl⟩
 | .lp x f,_ =>
  obtain ⟨b,off,e,_⟩:=y3 h
  exact ⟨_,e,rfl⟩
 | .Z (.pointer none),_=>exact ⟨none,bP h,rfl⟩
theorem FC{o:Oper}{op:BinOp}{t ty e:TypeId}{x:Operand}{x':X}{pos:Bool}(ho:o.op = .binOp op t x (.const (.pointer none)) ty)(ht:P.underlying t=some (.pointer e))(hop:op=if pos then .eql else .neq)(hx:bj x=some x'):cw P o (.gx (.n8 pos) [x']):=by
 intro φ H w ts a hR hr K Kp h next Q hn oZ
 have hv:=ay hr hx
 simp only[HO.bn,List.map_cons,List.map_nil] at h
 obtain ⟨h1,h2⟩:=h
 generalize X.ev ts x'=x1 at h1 h2 hv
 obtain ⟨p,e1,e2⟩:=Jh hv h1
 have yn:K (.Z (.bool (if pos then j6 x1 else !j6 x1))) H:=h2
 have hq:=Rz (P:=P) ht p w
 refine aR (u:=.bool (if pos then j6 x1 else !j6 x1)) ?_ (hn _ _ φ H w yn (cQ rfl) hR (Step.refl _ _ _))
 cases pos<;>simp only[if_true,if_false,Bool.false_eq_true] at hop ⊢<;>subst hop<;>simp[execOp,ho,e1,show a.eval (.const (.pointer none)) = .pointer none from rfl,eqGuard,binOp,hq,e2]
theorem L4{o:Oper}{op:BinOp}{t ty e:TypeId}{i:TypeInfo}{x y:Operand}{x' y':X}{pos:Bool}(ho:o.op = .binOp op t x y ty)(ht:P.underlying t=some (.pointer e))(hi:P.info? e=some i)(hz:0<i.size)(hop:op=if pos then .eql else .neq)(hx:bj x=some x')(hy:bj y=some y'):cw P o (.gx (.Fg pos) [x',y']):=by
 intro φ H w ts a hR hr K Kp h next Q hn oZ
 have hv:=ay hr hx
 have hw:=ay hr hy
 simp only[HO.bn,List.map_cons,List.map_nil] at h
 obtain ⟨h1,h2⟩:=h
 generalize X.ev ts x'=x1 at h1 h2 hv
 generalize X.ev ts y'=x2 at h1 h2 hw
 match x1,x2,h1 with
 | .ptr k id j f,.ptr k' id' j' f',h1 =>
  obtain ⟨⟨rfl,rfl,rfl,rfl⟩,hk⟩:=h1
  obtain ⟨b,g1,e1⟩:=ey hv
  obtain ⟨b',g2,e2⟩:=ey hw
  rw[g1] at g2
  cases g2
  rw[ew hk] at e1 e2
  have hq:(Op.equal t (.pointer (some ⟨b,j*k+f,none⟩)) (.pointer (some ⟨b,j*k+f,none⟩))).run P w = .ok true w:=by
   have hne:i.size≠0:=by omega
   show (Op.equalIn (9999+1) t _ _).run P w=_
   rw[Op.equalIn]
   simp only[Sem.run_bind,bu ht,Result.andThen_ok]
   simp[sizeOf,typeInfo,hi,hne,sameAddr]
  refine aR (u:=.bool pos) ?_ (hn _ _ φ H w h2 (cQ rfl) hR (Step.refl _ _ _))
  cases pos<;>simp only[if_true,if_false,Bool.false_eq_true] at hop ⊢<;>subst hop<;>simp[execOp,ho,e1,e2,eqGuard,binOp,hq]
theorem WN{o:Oper}{s d e:TypeId}{i:TypeInfo}{x:Operand}{x':X}(ho:o.op = .convert s d x)(hs:P.underlying s=some (.pointer e))(hd:P.underlying d=some .unsafePointer)(hi:P.info? e=some i)(hz:0<i.size)(hx:bj x=some x'):cw P o (.gx .I5 [x']):=by
 intro φ H w ts a hR hr K Kp h next Q hn oZ
 have hv:=ay hr hx
 simp only[HO.bn,List.map_cons,List.map_nil] at h
 obtain ⟨h1,h2⟩:=h
 generalize X.ev ts x'=x1 at h1 h2 hv
 match x1,h1 with
 | .ptr k id j f,h1 =>
  have iU:=h1
  simp only[GX.ok] at iU
  split at iU
  case h_2=>exact iU.elim
  rename_i blk hf
  obtain ⟨hbk,hk,hj,Jd⟩:=iU
  obtain ⟨b,v1,v2⟩:=ey hv
  rw[ew hk] at v2
  obtain ⟨cur,cap,a1,a2,a3,a4,a5,a6⟩:=(hR.blk id b blk v1 hf).cells (by omega)
  have hoff:j*k+f<cur.size:=by
   rw[a2,hbk]
   have:(j+1)*k≤cap*k:=Nat.mul_le_mul_right _ (by omega)
   rw[Nat.add_mul] at this
   omega
  refine aR ?_ (hn _ _ φ H w h2 hv hR (Step.refl _ _ _))
  simp only[execOp,ho,v2,Sem.run_bind,Sem.run_pure,Lib.run_to_unsafe (P:=P) w ⟨b,j*k+f,none⟩ hs hd hi (by omega) (show w.shape? b=some (blk.ty,cur.size) by unfold World.shape?;rw[a1]) hoff,Result.andThen_ok]
theorem BB{u T:TypeId}(h:(uN P u).contains T=true):P.cellsOf T=2∧liesAt P P.depth T 1 0 u 1=true:=by
 unfold uN at h
 rw[List.contains_iff_mem,List.mem_filter] at h
 have:=h.2
 simp only[Bool.and_eq_true,beq_iff_eq] at this
 exact this
theorem NX{o:Oper}{s d u:TypeId}{x:Operand}{x':X}(ho:o.op = .convert s d x)(hs:P.underlying s=some .unsafePointer)(hd:P.underlying d=some (.pointer u))(hi:(P.info? u).isSome=true)(hx:bj x=some x'):cw P o (.gx (.tC (uN P u)) [x']):=by
 intro φ H w ts a hR hr K Kp h next Q hn oZ
 have hv:=ay hr hx
 obtain ⟨i,hi⟩:=Option.isSome_iff_exists.1 hi
 simp only[HO.bn,List.map_cons,List.map_nil] at h
 obtain ⟨h1,h2⟩:=h
 generalize X.ev ts x'=x1 at h1 h2 hv
 match x1,h1 with
 | .ptr k id j f,h1 =>
  have iU:=h1
  simp only[GX.ok] at iU
  split at iU
  case h_2=>exact iU.elim
  rename_i blk hf
  obtain ⟨⟨rfl,hbk,rfl,rfl,hex,hel⟩,hty⟩:=iU
  obtain ⟨hc2,hlies⟩:=BB hty
  obtain ⟨b,v1,v2⟩:=ey hv
  rw[ew (by decide)] at v2
  obtain ⟨cur,cap,a1,a2,a3,a4,a5,a6⟩:=(hR.blk id b blk v1 hf).cells (by omega)
  have hcap:=a4 hex
  have hcs:cur.size=2:=by rw[a2,hcap,hel,hbk]
  refine aR ?_ (hn _ _ φ H w h2 hv hR (Step.refl _ _ _))
  simp only[execOp,ho,v2,Sem.run_bind,Sem.run_pure,Lib.run_from_unsafe (P:=P) w ⟨b,0*2+0,none⟩ hs hd hi (show w.shape? b=some (blk.ty,cur.size) by unfold World.shape?;rw[a1]) (by rw[hcs,hc2];exact hlies),Result.andThen_ok]
theorem FD {fn : Func} (hn : fn.name = "internal/abi.NoEscape") : Extern.find fn = some Extern.AbiNoEscape.same := by
 unfold Extern.find
 rw[hn]
 have h1 : Extern.allGenericRows.lookup "internal/abi.NoEscape" = none := by kernel_rfl
 have h2 : Extern.allTypedRows.lookup "internal/abi.NoEscape" = none := by kernel_rfl
 have h3 : Extern.allRows.lookup "internal/abi.NoEscape" = some Extern.AbiNoEscape.same := by kernel_rfl
 simp only[h1,h2,h3]
 rfl
theorem Ji {fn : Func} (hn : fn.name = "internal/bytealg.CountString") : Extern.find fn = some Extern.BytealgCount.count := by
 unfold Extern.find
 rw[hn]
 have h1 : Extern.allGenericRows.lookup "internal/bytealg.CountString" = none := by kernel_rfl
 have h2 : Extern.allTypedRows.lookup "internal/bytealg.CountString" = none := by kernel_rfl
 have h3 : Extern.allRows.lookup "internal/bytealg.CountString" = some Extern.BytealgCount.count := by kernel_rfl
 simp only[h1,h2,h3]
 rfl
theorem NY{H:Y}{l:List AV}(h:GX.ok H .qU l):∃x,l=[x]:=by
 match l,h with
 | [x],_=>exact ⟨x,rfl⟩
theorem RA{H:Y}{l:List AV}(h:GX.ok H .xF l):∃s c,l=[.Z (.string s),.Z (.int .u8 c)]:=by
 match l,h with
 | [.Z (.string s),.Z (.int .u8 c)],_=>exact ⟨s,c,rfl⟩
theorem RB{o:Oper}{f:FuncId}{args:Array Operand}{ats:Array TypeId}{fn:Func}{xs:List X}{q:HO}(ho:o.op = .call { callee:=.value (.func f),args,argTypes:=ats })(hf:P.funcs[f]? = some fn)(hxs:mY args=some xs)(hx:zf fn=true)
  (hq : (if fn.name = "internal/abi.NoEscape" then some (HO.gx .qU xs) else if fn.name = "internal/bytealg.CountString" then some (.gx .xF xs) else none) = some q) : cw P o q := by
 intro φ H w ts a hR hr K Kp h next Q hn oZ
 have lP:=mA hr (l:=args.toList) hxs
 have hvs:args.map a.eval=(args.toList.map a.eval).toArray:=by rw[←Array.toList_map]
 split at hq
 ·rename_i hnm
  cases hq
  simp only[HO.bn] at h
  obtain ⟨h1,h2⟩:=h
  obtain ⟨x,hl⟩:=NY h1
  rw[hl] at lP h2
  obtain ⟨u1,r1,e1,o1,p1,e3⟩:=lP
  simp only[Rt] at e3
  subst e3
  refine aR (rf ho hf hx (FD hnm) (v:=u1) ?_) (hn _ _ φ H w h2 ⟨o1,p1⟩ hR (Step.refl _ _ _))
  rw[hvs,e1]
  rfl
 ·split at hq
  case isFalse=>simp at hq
  rename_i hnm
  cases hq
  simp only[HO.bn] at h
  obtain ⟨h1,h2⟩:=h
  obtain ⟨s,c,hl⟩:=RA h1
  rw[hl] at lP h2
  obtain ⟨u1,r1,e1,o1,p1,u2,r2,e2,o2,p2,e3⟩:=lP
  simp only[Rt] at e3
  subst e3
  have q1:=bP (⟨o1,p1⟩:VR φ (Own φ H) w _ u1)
  have q2:=bP (⟨o2,p2⟩:VR φ (Own φ H) w _ u2)
  refine aR (rf ho hf hx (Ji hnm) ?_) (hn _ _ φ H w h2 (cQ rfl) hR (Step.refl _ _ _))
  rw[hvs,e1,e2,q1,q2]
  exact Lib.run_countString s c w
theorem NZ{t k e:TypeId}(ht:P.underlying t=some (.map k e))(p:Option Nat)(w:World):(Op.equal t (.map p) (.map none)).run P w = .ok p.isNone w:=by
 show (Op.equalIn (9999+1) t _ _).run P w=_
 rw[Op.equalIn]
 simp only[Sem.run_bind,bu ht,Result.andThen_ok]
 cases p<;>rfl
theorem FE{o:Oper}{op:BinOp}{t ty k e:TypeId}{x:Operand}{x':X}{pos:Bool}(ho:o.op = .binOp op t x (.const (.map none)) ty)(ht:P.underlying t=some (.map k e))(hop:op=if pos then .eql else .neq)(hx:bj x=some x'):cw P o (.gx (.xD pos) [x']):=by
 intro φ H w ts a hR hr K Kp h next Q hn oZ
 have hv:=ay hr hx
 simp only[HO.bn,List.map_cons,List.map_nil] at h
 obtain ⟨h1,h2⟩:=h
 generalize X.ev ts x'=x1 at h1 h2 hv
 obtain ⟨p,e1,yn⟩:∃p:Option Nat,a.eval x = .map p∧K (.Z (.bool (if pos then p.isNone else !p.isNone))) H:=by
  match x1,h1 with
  | .ptr 0 id j 0,_ =>
   obtain ⟨b,_,g⟩:=ey hv
   refine ⟨some b,g,?_⟩
   have:K (.Z (.bool !pos)) H:=h2
   cases pos<;>exact this
  | .Z (.map none),_ =>
   refine ⟨none,bP hv,?_⟩
   have:K (.Z (.bool pos)) H:=h2
   cases pos<;>exact this
 have hq:=NZ (P:=P) ht p w
 refine aR (u:=.bool (if pos then p.isNone else !p.isNone)) ?_ (hn _ _ φ H w yn (cQ rfl) hR (Step.refl _ _ _))
 cases pos<;>simp only[if_true,if_false,Bool.false_eq_true] at hop ⊢<;>subst hop<;>simp[execOp,ho,e1,show a.eval (.const (.map none)) = .map none from rfl,eqGuard,binOp,hq]
theorem any_some{α:Type}{o:Option α}{p:α→Bool}(h:o.any p=true):∃x,o=some x∧p x=true:=by
 cases o with
 | none=>simp at h
 | some x=>exact ⟨x,rfl,by simpa using h⟩
theorem D1{o:Oper}{q:HO}(h:zh P o=some q):cw P o q:=by
 unfold zh at h
 split at h
 ·rename_i args ats ho
  split at h
  case h_2=>simp at h
  rename_i d s t t' ha dy
  split at h
  case h_2=>simp at h
  rename_i e d' s' h1 h2 h3 h4
  split at h
  case isFalse=>simp at h
  rename_i hc
  cases h
  exact NV ho ha dy h1 hc.2 h3 h4
 ·rename_i args ats ho
  split at h
  case h_2=>simp at h
  rename_i d s t t' ha dy
  split at h
  case h_2=>simp at h
  rename_i e d' s' h1 h2 h3 h4
  split at h
  case h_2=>simp at h
  rename_i i hi
  split at h
  case isFalse=>simp at h
  rename_i hc
  obtain ⟨c1,c2,c3,c4⟩:=hc
  cases h
  obtain ⟨z,hz,hzs⟩:=any_some c4
  exact Rx ho ha dy h1 h2 hi hz (by simpa using hzs) c2 c3 h3 h4
 ·rename_i args ats ho
  split at h
  case h_2=>simp at h
  rename_i p n t it ha dy
  split at h
  case h_2=>simp at h
  rename_i e p' n' h1 h2 h3
  split at h
  case isFalse=>simp at h
  rename_i hc
  cases h
  exact Ry ho ha dy h1 hc.2 h2 h3
 ·rename_i args ats ho
  split at h
  case h_2=>simp at h
  rename_i s ha
  rw[Option.map_eq_some_iff] at h
  obtain ⟨s',h1,rfl⟩:=h
  exact NW ho ha h1
 ·rename_i op t x y ty ho
  split at h
  case h_3=>simp at h
  case h_2 =>
   rename_i kt e x' h1 h2
   split at h
   ·cases h;exact FE ho h1 rfl h2
   ·cases h;exact FE ho h1 rfl h2
   ·simp at h
  rename_i e x' h1 h2
  split at h
  ·cases h;exact FC ho h1 rfl h2
  ·cases h;exact FC ho h1 rfl h2
  ·split at h
   case isFalse=>simp at h
   rename_i hc
   obtain ⟨i,hi,hz⟩:=any_some hc
   rw[Option.map_eq_some_iff] at h
   obtain ⟨y',h3,rfl⟩:=h
   exact L4 ho h1 hi (by simpa using hz) rfl h2 h3
  ·split at h
   case isFalse=>simp at h
   rename_i hc
   obtain ⟨i,hi,hz⟩:=any_some hc
   rw[Option.map_eq_some_iff] at h
   obtain ⟨y',h3,rfl⟩:=h
   exact L4 ho h1 hi (by simpa using hz) rfl h2 h3
  ·simp at h
 ·rename_i s d x ho
  split at h
  ·rename_i e x' h1 h2 h3
   split at h
   case isFalse=>simp at h
   rename_i hc
   obtain ⟨i,hi,hz⟩:=any_some hc
   cases h
   exact WN ho h1 h2 hi (by simpa using hz) h3
  ·rename_i u x' h1 h2 h3
   split at h
   case isFalse=>simp at h
   rename_i hc
   cases h
   exact NX ho h1 h2 hc h3
  ·simp at h
 ·rename_i f args ats ho
  split at h
  case h_2=>simp at h
  rename_i fn xs h1 h2
  split at h
  case isFalse=>simp at h
  rename_i hx
  exact RB ho h1 h2 hx h
 ·simp at h
theorem D2{b:Bool}{o:Oper}{op:HO}(h:l4 P b o=some op):cw P o op:=by
 unfold l4 at h
 split at h
 ·rename_i h0;cases h;exact Bz h0
 ·unfold uO at h
  split at h
  ·rename_i h1;cases h;exact D1 h1
  ·obtain ⟨kd,x,rfl⟩:=zi h
   intro φ H w ts a hR hr K Kp hh
   exact (show False from hh).elim
end
inductive dX where
 | p (q:PO)
 | h (q:HO)
structure bQ where
 dst:Option Nat
 guard:Option (Nat×Bool)
 op:dX
def pT(P:Program)(ev:X→AV)(H:Y)(K Kp:AV→Y→Prop):dX→Prop
 | .p q=>PO.bn ev (fun v=>K v H) q
 | .h q=>HO.bn P ev H K Kp q
def RC(P:Program)(ev:X→AV)(H:Y)(K Kp:AV→Y→Prop):dX→Prop
 | .p q=>PO.bn ev (fun v=>K v H) q
 | .h q=>HO.Fx P ev H K Kp q
def bX(ts:List AV)(yes no:Prop):Option (Nat×Bool)→Prop
 | none=>yes
 | some (d,want)=>match ts.getD d .top with
  | .Z (.bool b)=>(b=want→yes)∧(b≠want→no)
  | .aG _=>no
  | _=>False
def gb(P:Program)(K:List AV→Y→Prop)(Kp:AV→List AV→Y→Prop):List bQ→List AV→Y→Prop
 | [],ts,H=>K ts H
 | o::r,ts,H=>bX ts (RC P (X.ev ts) H (fun v H'=>gb P K Kp r (bR ts o.dst v) H') (fun v H'=>Kp v ts H') o.op) (gb P K Kp r (bR ts o.dst (.aG [])) H) o.guard
def D3(ops:Array Oper):Option (Nat×Bool)→Option (Option (Nat×Bool))
 | none=>some none
 | some (j,want)=>match (ops[j]?).bind (·.dst) with
  | some d=>some (some (d,want))
  | none=>none
def l5(P:Program)(aY:Bool)(ops:Array Oper)(o:Oper):Option bQ :=
 match D3 ops o.guard with
 | none=>none
 | some g=>match IY P o with
  | some q=>some ⟨o.dst,g,.p q⟩
  | none=>match l4 P aY o with
   | some q=>some ⟨o.dst,g,.h q⟩
   | none=>some ⟨o.dst,g,.p (.un .not (.k .top))⟩
def dr(P:Program)(aY:Bool)(ops:Array Oper):List Oper→Option (List bQ)
 | []=>some []
 | o::r=>match l5 P aY ops o,dr P aY ops r with
  | some x,some s=>some (x::s)
  | _,_=>none
section
variable {P:Program}
theorem mR{φ:aH}{O:Nat→Prop}{w:World}:VR φ O w (.aG []) undef:=⟨⟨#[],rfl⟩,⟨#[],rfl,rfl⟩⟩
theorem zC{b:Bool}{ops:Array Oper}{o:Oper}{x:bQ}(hc:l5 P b ops o=some x){φ:aH}{H:Y}{w:World}{ts:List AV}{a:Act}(hR:Rel φ H w)(hF:FR φ (Own φ H) w ts a){K Kp:AV→Y→Prop}(h:pT P (X.ev ts) H K Kp x.op)
  {next:Act→World→Prop}{Q:Exit→Act→World→Prop}
  (hn:∀v u φ' H' w',K v H'→VR φ' (Own φ' H') w' v u→Rel φ' H' w'→Step φ H w φ' H' w'→next (a.put o.dst u) w')
  (hp:∀v u φ' H' w',Kp v H'→qG φ' (Own φ' H') w' v u→Rel φ' H' w'→Step φ H w φ' H' w'→Q (.panic u) a w'):o.wp P a w next Q:=by
 unfold l5 at hc
 split at hc
 ·simp at hc
 split at hc
 ·rename_i q hq
  cases hc
  obtain ⟨v,u,h1,h2,h3⟩:=DM hq φ (Own φ H) w ts a hF (fun v=>K v H) h
  exact aR h3 (hn _ _ _ _ _ h1 h2 hR (Step.refl _ _ _))
 ·split at hc
  ·rename_i q hq
   cases hc
   exact D2 hq φ H w ts a hR hF K Kp h next Q hn hp
  ·cases hc
   exact False.elim h
theorem tJ{b:Bool}{ops:Array Oper}{o:Oper}{x:bQ}(hc:l5 P b ops o=some x):x.dst=o.dst∧D3 ops o.guard=some x.guard:=by
 unfold l5 at hc
 split at hc
 ·simp at hc
 rename_i g hg
 split at hc
 ·cases hc;exact ⟨rfl,hg⟩
 ·split at hc
  ·cases hc;exact ⟨rfl,hg⟩
  ·cases hc;exact ⟨rfl,hg⟩
theorem gD{ops:Array Oper}{o:Oper}{g:Option (Nat×Bool)}(hg:D3 ops o.guard=some g){φ:aH}{O:Nat→Prop}{w:World}{ts:List AV}{a:Act}(hF:FR φ O w ts a){yes no:Prop}(h:bX ts yes no g) :
  (Region.wanted o (yielded ops a.tmps)=true∧yes)∨(Region.wanted o (yielded ops a.tmps)=false∧no):=by
 unfold D3 at hg
 unfold Region.wanted
 split at hg
 ·rename_i e
  cases hg
  rw[e]
  exact .inl ⟨rfl,h⟩
 ·rename_i j want e
  split at hg
  case h_2=>simp at hg
  rename_i d hd
  cases hg
  rw[e]
  have hv:=hF.2 d
  have hy:yielded ops a.tmps j=match a.tmps[d]? with | some (.bool b)=>some b | _=>none:=by
   unfold yielded
   rw[hd]
   rfl
  simp only[bX] at h
  split at h
  ·rename_i b hb
   rw[hb] at hv
   have hu:=bP hv
   have hsz:d<a.tmps.size:=by
    rcases Nat.lt_or_ge d a.tmps.size with hl | hl
    ·exact hl
    ·rw[Array.getD_eq_getD_getElem?,Array.getElem?_eq_none hl] at hu
     simp[undef] at hu
   have QS:a.tmps[d]? = some (.bool b):=by
    rw[Array.getD_eq_getD_getElem?,Array.getElem?_eq_getElem hsz] at hu
    rw[Array.getElem?_eq_getElem hsz]
    exact congrArg some hu
   simp only[hy,QS]
   by_cases WO:b=want
   ·exact .inl ⟨by simp[WO],h.1 WO⟩
   ·exact .inr ⟨by simp[WO],h.2 WO⟩
  ·rename_i vs hb
   rw[hb] at hv
   obtain ⟨us,hu,_⟩:=DL hv
   refine .inr ⟨?_,h⟩
   simp only[hy]
   rw[Array.getD_eq_getD_getElem?] at hu
   cases QS:a.tmps[d]? with
   | none=>rfl
   | some v =>
    rw[QS] at hu
    simp at hu
    subst hu
    rfl
  ·exact h.elim
theorem D4{P:Program}{b:Bool}{o:Oper}{f:FuncId}{ej:List X}(h:iQ P b o=some (.call f ej)):∃args ats,o.op = .call { callee:=.value (.func f),args,argTypes:=ats }∧bN P f=true∧mY args=some ej:=by
 unfold iQ at h
 split at h
 all_goals try (repeat' split at h)
 all_goals try (cases h;done)
 all_goals try (simp[Option.map_eq_some_iff] at h;done)
 all_goals try (obtain ⟨g,xs,e⟩:=o8 h;cases e;done)
 all_goals try (unfold tD at h;repeat' split at h)
 all_goals try (cases h;done)
 all_goals try (unfold xH at h;repeat' split at h)
 all_goals try (cases h;done)
 rename_i ho hc
 rw[Option.map_eq_some_iff] at h
 obtain ⟨as',h1,h2⟩:=h
 cases h2
 exact ⟨_,_,ho,hc,h1⟩
theorem BC{P:Program}{b:Bool}{o:Oper}{f:X}{ej:List X}(h:iQ P b o=some (.bM f ej)):∃t args ats,f = .t t∧o.op = .call { callee:=.value (.tmp t),args,argTypes:=ats }∧mY args=some ej:=by
 unfold iQ at h
 split at h
 all_goals try (repeat' split at h)
 all_goals try (cases h;done)
 all_goals try (simp[Option.map_eq_some_iff] at h;done)
 all_goals try (obtain ⟨g,xs,e⟩:=o8 h;cases e;done)
 all_goals try (unfold tD at h;repeat' split at h)
 all_goals try (cases h;done)
 all_goals try (unfold xH at h;repeat' split at h)
 all_goals try (cases h;done)
 rename_i ho
 rw[Option.map_eq_some_iff] at h
 obtain ⟨as',h1,h2⟩:=h
 cases h2
 exact ⟨_,_,_,rfl,ho,h1⟩
theorem zD{b:Bool}{ops:Array Oper}{o:Oper}{x:bQ}{q:HO}(hc:l5 P b ops o=some x)(hx:x.op = .h q):l4 P b o=some q:=by
 unfold l5 at hc
 split at hc
 ·simp at hc
 split at hc
 ·cases hc;cases hx
 ·split at hc
  ·rename_i q' hq
   cases hc
   cases hx
   exact hq
  ·cases hc;cases hx
theorem FF{b:Bool}{o:Oper}{q:HO}(h:l4 P b o=some q)(hq:∀g xs,q≠.gx g xs)(Jj:∀kd x,q≠.oY kd x):iQ P b o=some q:=by
 unfold l4 at h
 split at h
 ·rename_i q' h1
  rw[h1,h]
 ·rcases tE h with ⟨g,xs,e⟩ | ⟨kd,x,e⟩
  ·exact absurd e (hq g xs)
  ·exact absurd e (Jj kd x)
theorem FG{P:Program}{b:Bool}{o:Oper}{kd:Ja}{x:X}(h:iQ P b o=some (.oY kd x)):False:=by
 unfold iQ at h
 split at h
 all_goals try (repeat' split at h)
 all_goals try (cases h;done)
 all_goals try (simp[Option.map_eq_some_iff] at h;done)
 all_goals try (obtain ⟨g,xs,e⟩:=o8 h;cases e;done)
 all_goals try (unfold tD at h;repeat' split at h)
 all_goals try (cases h;done)
 all_goals try (unfold xH at h;repeat' split at h)
 all_goals try (cases h;done)
theorem RD{b:Bool}{o:Oper}{kd:Ja}{x:X}(h:l4 P b o=some (.oY kd x)):wo P o.op=some (.oY kd x):=by
 unfold l4 at h
 split at h
 ·rename_i h0;cases h;exact (FG h0).elim
 ·unfold uO at h
  split at h
  ·rename_i h1;cases h;obtain ⟨g,xs,e⟩:=Cf h1;cases e
  ·exact h
theorem D5{b:Bool}{ops:Array Oper}{o:Oper}{x:bQ}(hc:l5 P b ops o=some x){φ:aH}{H:Y}{w:World}{ts:List AV}{a:Act}(hR:Rel φ H w)(hF:FR φ (Own φ H) w ts a){K Kp:AV→Y→Prop}(h:RC P (X.ev ts) H K Kp x.op)
  {next:Act→World→Prop}{Q:Exit→Act→World→Prop}
  (hn:∀v u φ' H' w',K v H'→VR φ' (Own φ' H') w' v u→Rel φ' H' w'→Step φ H w φ' H' w'→next (a.put o.dst u) w')
  (hp:∀v u φ' H' w',Kp v H'→qG φ' (Own φ' H') w' v u→Rel φ' H' w'→Step φ H w φ' H' w'→Q (.panic u) a w'):o.wp P a w next Q:=by
 cases hx:x.op with
 | p q=>exact zC hc hR hF (by rw[hx] at h ⊢;exact h) hn hp
 | h q =>
  rw[hx] at h
  cases q with
  | call f ej =>
   obtain ⟨args,ats,h1,h2,h3⟩:=D4 (FF (zD hc hx) (fun g xs e=>by cases e) (fun g xs e=>by cases e))
   exact NS h1 h2 h3 hR hF h hn hp
  | bM f ej =>
   obtain ⟨t,args,ats,rfl,h1,h3⟩:=BC (FF (zD hc hx) (fun g xs e=>by cases e) (fun g xs e=>by cases e))
   exact Je h1 h3 hR hF h hn hp
  | oY kd y=>exact Wz (RD (zD hc hx)) hR hF h hn
  | _=>exact zC hc hR hF (by rw[hx];exact h) hn hp
theorem uV(ts:List AV)(d:Option Nat)(v:AV):(bR ts d v).length=ts.length:=by
 cases d<;>simp[bR]
def lF(Q:Exit→Act→World→Prop)(K:List AV→Y→Prop)(φ:aH)(H:Y)(w:World)(ds:List Deferred):Prop :=
 ∀ts' a' φ' H' w',K ts' H'→FR φ' (Own φ' H') w' ts' a'→Rel φ' H' w'→Step φ H w φ' H' w'→a'.defers=ds→Q .normal a' w'
def kZ(Q:Exit→Act→World→Prop)(Kp:AV→List AV→Y→Prop)(φ:aH)(H:Y)(w:World)(ds:List Deferred):Prop :=
 ∀v u ts' a' φ' H' w',Kp v ts' H'→qG φ' (Own φ' H') w' v u→FR φ' (Own φ' H') w' ts' a'→Rel φ' H' w'→Step φ H w φ' H' w'→a'.defers=ds→Q (.panic u) a' w'
theorem put_defers(a:Act)(d:Option Tmp)(v:Value):(a.put d v).defers=a.defers:=by cases d<;>rfl
theorem oA{b:Bool}{ops:Array Oper}{Q:Exit→Act→World→Prop}{K:List AV→Y→Prop}{Kp:AV→List AV→Y→Prop}:∀(n i:Nat)(l:List bQ)(ts:List AV)(H:Y)(φ:aH)(w:World)(a:Act),
  i+n=ops.size→dr P b ops (ops.toList.drop i)=some l→Rel φ H w→FR φ (Own φ H) w ts a→gb P K Kp l ts H→lF Q K φ H w a.defers→kZ Q Kp φ H w a.defers→wpOps P ops Q (List.range' i n) a w
 | 0,i,l,ts,H,φ,w,a,hi,hc,hR,hF,h,hk,hp=>by
  have:ops.toList.drop i=[]:=List.drop_of_length_le (by simp;omega)
  rw[this] at hc
  simp[dr] at hc
  subst hc
  exact hk _ _ _ _ _ h hF hR (Step.refl _ _ _) rfl
 | n+1,i,l,ts,H,φ,w,a,hi,hc,hR,hF,h,hk,hp=>by
  have hlt:i<ops.toList.length:=by simp;omega
  rw[List.drop_eq_getElem_cons hlt] at hc
  unfold dr at hc
  split at hc
  case h_2=>simp at hc
  rename_i x s hx hs
  cases hc
  have Jk:ops[i]? = some (ops.toList[i]):=by simp at hlt;simp[hlt]
  obtain ⟨hd,hg⟩:=tJ hx
  simp only[gb] at h
  have zE:∀φ' H' w',Step φ H w φ' H' w'→∀a':Act,a'.defers=a.defers→lF Q K φ' H' w' a'.defers∧kZ Q Kp φ' H' w' a'.defers:=by
   intro φ' H' w' hst a' ha
   exact ⟨fun tK a2 df H2 w2 k1 k2 k3 k4 k5=>hk tK a2 df H2 w2 k1 k2 k3 (hst.trans k4) (by rw[k5,ha]),fun v u tK a2 df H2 w2 k1 k2 k3 k4 k5 k6=>hp v u tK a2 df H2 w2 k1 k2 k3 k4 (hst.trans k5) (by rw[k6,ha])⟩
  rw[show List.range' i (n+1)=i::List.range' (i+1) n from rfl]
  simp only[wpOps,Jk]
  rcases gD hg hF h with ⟨hw,hy⟩ | ⟨hw,hno⟩
  ·rw[if_pos hw]
   left
   refine D5 hx hR hF hy (fun v u φ' H' w' k1 k2 k3 k4=>?_) (fun v u φ' H' w' k1 k2 k3 k4=>?_)
   ·have wy:=(FR.step k4 hF).put (ops.toList[i]).dst k2
    rw[hd] at k1
    have:=zE φ' H' w' k4 (a.put (ops.toList[i]).dst u) (put_defers _ _ _)
    exact oA n (i+1) s _ H' φ' w' _ (by omega) hs k3 wy k1 this.1 this.2
   ·exact hp v u ts a φ' H' w' k1 k2 (FR.step k4 hF) k3 k4 rfl
  ·rw[if_neg (by rw[hw];simp)]
   have wy:=hF.put (ops.toList[i]).dst (mR (φ:=φ) (O:=Own φ H) (w:=w))
   rw[hd] at hno
   have:=zE φ H w (Step.refl _ _ _) (a.put (ops.toList[i]).dst undef) (put_defers _ _ _)
   exact oA n (i+1) s _ H φ w _ (by omega) hs hR wy hno this.1 this.2
theorem FH{b:Bool}{id:Nat}{ops:Array Oper}{l:List bQ}(hc:dr P b ops ops.toList=some l){Q:Exit→Act→World→Prop}{K:List AV→Y→Prop}{Kp:AV→List AV→Y→Prop}{φ:aH}{H:Y}{w:World}{ts:List AV}{a:Act}
  (hR:Rel φ H w)(hF:FR φ (Own φ H) w ts a)(h:gb P K Kp l ts H)(hk:lF Q K φ H w a.defers)(hp:kZ Q Kp φ H w a.defers):(Code.region id ops false).wp P Q a w:=by
 refine wp_region ?_
 rw[List.range_eq_range']
 exact oA ops.size 0 l ts H φ w a (by omega) (by simpa using hc) hR hF h hk hp
end
section inv
theorem ri{ops:Array Oper}{j:Nat}{listed:Array Bool}(h:j∈Region.ready .any ops listed) :
  j<ops.size∧listed.getD j true=false∧∀o,ops[j]? = some o→∀e∈o.after.toList,Region.binds .any e=true→listed.getD e.on false=true:=by
 unfold Region.ready at h
 simp only[List.mem_filter,List.mem_range,Bool.and_eq_true,Bool.not_eq_true'] at h
 obtain ⟨h1,h2,h3⟩:=h
 refine ⟨h1,h2,fun o ho e he hb=>?_⟩
 rw[ho] at h3
 simp only[Option.map_some,Option.getD_some,Array.all_eq_true_iff_forall_mem] at h3
 have:=h3 e (by simpa using he)
 simpa [hb] using this
def cnt(listed:Array Bool):Nat:=listed.toList.count true
theorem RF{listed:Array Bool}{i:Nat}(hi:i<listed.size)(h:listed.getD i true=false):cnt (listed.setIfInBounds i true)=cnt listed+1:=by
 unfold cnt
 rw[Array.toList_setIfInBounds]
 have h':listed.toList[i]'(by simpa using hi)=false:=by
  simpa [Array.getD,hi] using h
 rw[List.count_set (by simpa using hi)]
 simp[h']
theorem FI{listed:Array Bool}(h:cnt listed=listed.size)(i:Nat)(hi:i<listed.size):listed.getD i false=true:=by
 unfold cnt at h
 rw[←Array.length_toList] at h
 have:=List.count_eq_length.1 h
 have hm:=this (listed.toList[i]'(by simpa using hi)) (List.getElem_mem _)
 simpa [Array.getD,hi] using hm.symm
theorem zF{P:Program}{ops:Array Oper}{Q:Exit→Act→World→Prop}(I:Array Bool→Act→World→Prop)
  (hsz:∀listed a w,I listed a w→listed.size=ops.size)(fF:∀listed a w,I listed a w→Region.ready .any ops listed=[]→Q .normal a w)
  (hstep:∀listed a w i,I listed a w→i∈Region.ready .any ops listed→wpOp P ops Q i (fun a' w'=>I (listed.setIfInBounds i true) a' w') a w) :
  ∀(fuel:Nat)(listed:Array Bool)(a:Act)(w:World),I listed a w→ops.size≤cnt listed+fuel→wpAny P .any ops Q fuel listed a w
 | 0,listed,a,w,hI,hf=>by
  have h0:=hsz _ _ _ hI
  have hle:cnt listed≤listed.size:=by unfold cnt;rw[←Array.length_toList];exact List.count_le_length
  have hall:=FI (listed:=listed) (by omega)
  have hr:Region.ready .any ops listed=[]:=by
   rw[List.eq_nil_iff_forall_not_mem]
   intro i hi
   obtain ⟨h1,h2,_⟩:=ri hi
   have iU:i<listed.size:=by omega
   have:=hall i iU
   simp[Array.getD,iU] at this h2
   rw[this] at h2
   simp at h2
  exact ⟨hr,fF _ _ _ hI hr⟩
 | fuel+1,listed,a,w,hI,hf=>by
  refine ⟨fF _ _ _ hI,fun i hi=>?_⟩
  obtain ⟨h1,h2,_⟩:=ri hi
  have h0:=hsz _ _ _ hI
  refine wpOp_mono (fun a' w' RG=>?_) (hstep listed a w i hI hi)
  refine zF I hsz fF hstep fuel _ a' w' RG ?_
  rw[RF (by omega) h2]
  omega
end inv
def PO.xs:PO→List X
 | .mv x=>[x]
 | .pick c a b=>[c,a,b]
 | .az _ x y=>[x,y]
 | .Br _ x y=>[x,y]
 | .DH _ x y=>[x,y]
 | .DJ _ x=>[x]
 | .uG _ x=>[x]
 | .un _ x=>[x]
 | .conv _ x=>[x]
 | .tB x=>[x]
 | .aP x=>[x]
 | .af _ x=>[x]
 | .field _ _ _ x=>[x]
 | .fC _ x i=>[x,i]
 | .pJ _ _ x i=>[x,i]
 | .fg x i=>[x,i]
 | .xv _ _ _ x i=>[x,i]
 | .qE _ x lo hi mx=>x::(lo.toList++hi.toList++mx.toList)
 | .mW x lo hi=>x::(lo.toList++hi.toList)
 | .len x=>[x]
 | .fW x=>[x]
 | .mm _ x y=>[x,y]
 | .ext x _=>[x]
 | .mw _ a b=>a++b
 | .xw _ x=>[x]
 | .xx _ _ x=>[x]
 | .build _ ps=>ps.map fun (_,_,x)=>x
 | .qN _ x=>[x]
 | .s8 _ x=>[x]
def HO.xs:HO→List X
 | .load _ _ a=>[a]
 | .alloc _ _=>[]
 | .box _ _ x=>[x]
 | .dK _ _ _ _ ps=>ps.map fun (_,x)=>x
 | .dh _ _ _ _ ps=>ps.map fun (_,x)=>x
 | .store _ a x=>[a,x]
 | .lN _ _ _ l c=>[l,c]
 | .dD _ _ s x=>[s,x]
 | .gx _ xs=>xs
 | .oY _ x=>[x]
 | .call _ ej=>ej
 | .bM f ej=>f::ej
 | .bF x=>[x]
theorem tL{ev l6:X→AV}{d:Nat}{K:Nat→Prop}{o:Option X}(h:∀x∈o.toList,ev x=l6 x):j4 ev d o K=j4 l6 d o K:=by
 cases o with
 | none=>rfl
 | some x=>simp only[j4];rw[h x (by simp)]
theorem uW{ev l6:X→AV}{K:List AV→Prop}:∀{ps:List (Nat×Nat×X)}{zs:List AV},(∀x∈ps.map (fun (_,_,x)=>x),ev x=l6 x)→lX ev zs ps K=lX l6 zs ps K
 | [],_,_=>rfl
 | (o,n,x)::r,zs,h=>by
  simp only[lX]
  rw[h x (by simp),uW (ps:=r) fun y hy=>h y (by simp only[List.map_cons,List.mem_cons];exact .inr hy)]
theorem rj{ev l6:X→AV}{k:Nat}{K:List AV→Prop}:∀{ps:List (Nat×X)}{es:List AV},(∀x∈ps.map (fun (_,x)=>x),ev x=l6 x)→nk ev k es ps K=nk l6 k es ps K
 | [],_,_=>rfl
 | (o,x)::r,es,h=>by
  simp only[nk]
  rw[h x (by simp),rj (ps:=r) fun y hy=>h y (by simp only[List.map_cons,List.mem_cons];exact .inr hy)]
theorem PO.tM{ev l6:X→AV}{K:AV→Prop}:∀{q:PO},(∀x∈q.xs,ev x=l6 x)→PO.bn ev K q=PO.bn l6 K q:=by
 intro q h
 cases q with
 | qE k x lo hi mx =>
  have hx:=h x (by simp[PO.xs])
  have hb:∀(o:Option X),(∀y∈o.toList,y∈(PO.qE k x lo hi mx).xs)→∀d (L:Nat→Prop),j4 ev d o L=j4 l6 d o L:=fun o ho d L=>tL fun y hy=>h y (ho y hy)
  have h1:=hb lo (fun y hy=>by simp[PO.xs] at hy ⊢;exact .inr (.inl hy))
  have h2:=hb hi (fun y hy=>by simp[PO.xs] at hy ⊢;exact .inr (.inr (.inl hy)))
  have h3:=hb mx (fun y hy=>by simp[PO.xs] at hy ⊢;exact .inr (.inr (.inr hy)))
  simp only[PO.bn,hx,h1,h2]
  cases mx with
  | none=>rfl
  | some m=>simp only[h3]
 | mW x lo hi =>
  have hx:=h x (by simp[PO.xs])
  have h1:∀d (L:Nat→Prop),j4 ev d lo L=j4 l6 d lo L:=fun d L=>tL fun y hy=>h y (by simp[PO.xs] at hy ⊢;exact .inr (.inl hy))
  have h2:∀d (L:Nat→Prop),j4 ev d hi L=j4 l6 d hi L:=fun d L=>tL fun y hy=>h y (by simp[PO.xs] at hy ⊢;exact .inr (.inr hy))
  simp only[PO.bn,hx,h1,h2]
 | mw f a b =>
  have h1:a.map ev=a.map l6:=List.map_congr_left fun x hx=>h x (by simp[PO.xs,hx])
  have h2:b.map ev=b.map l6:=List.map_congr_left fun x hx=>h x (by simp[PO.xs,hx])
  simp only[PO.bn,h1,h2]
 | build zs ps=>simp only[PO.bn];exact uW h
 | _=>simp only[PO.xs,List.mem_cons,List.not_mem_nil,or_false,forall_eq_or_imp,forall_eq] at h;simp only[PO.bn,h]
theorem HO.tM{P:Program}{ev l6:X→AV}{H:Y}{K Kp:AV→Y→Prop}:∀{q:HO},(∀x∈q.xs,ev x=l6 x)→HO.bn P ev H K Kp q=HO.bn P l6 H K Kp q:=by
 intro q h
 cases q with
 | dK k ty z ln ps=>simp only[HO.bn];exact rj h
 | dh k ty z ln ps=>simp only[HO.bn];exact rj h
 | call f ej =>
  have h1:ej.map ev=ej.map l6:=List.map_congr_left fun x hx=>h x hx
  simp only[HO.bn,h1]
 | gx g ej =>
  have h1:ej.map ev=ej.map l6:=List.map_congr_left fun x hx=>h x hx
  simp only[HO.bn,h1]
 | bM f ej =>
  have h1:ej.map ev=ej.map l6:=List.map_congr_left fun x hx=>h x (by simp[HO.xs,hx])
  have h2:=h f (by simp[HO.xs])
  simp only[HO.bn,h1,h2]
 | _=>simp only[HO.xs,List.mem_cons,List.not_mem_nil,or_false,forall_eq_or_imp,forall_eq] at h;simp only[HO.bn,h]
theorem j8{ev:X→AV}{d:Nat}{K:Nat→Prop}{o:Option X}(h:j4 ev d o K):∃n,K n∧∀L:Nat→Prop,L n→j4 ev d o L:=by
 cases o with
 | none=>exact ⟨d,h,fun L h=>h⟩
 | some x =>
  simp only[j4] at h ⊢
  split at h
  ·rename_i k n he
   exact ⟨_,h.2,fun L hL=>⟨h.1,hL⟩⟩
  ·exact h.elim
theorem Cq{ev:X→AV}{K:List AV→Prop}:∀{ps:List (Nat×Nat×X)}{zs:List AV},lX ev zs ps K→∃cs,K cs∧∀L:List AV→Prop,L cs→lX ev zs ps L
 | [],zs,h=>⟨zs,h,fun L h=>h⟩
 | (o,n,x)::r,zs,h=>by
  obtain ⟨h1,h2⟩:=h
  obtain ⟨cs,h3,h4⟩:=Cq h2
  exact ⟨cs,h3,fun L hL=>⟨h1,h4 L hL⟩⟩
theorem rk{ev:X→AV}{k:Nat}{K:List AV→Prop}:∀{ps:List (Nat×X)}{es:List AV},nk ev k es ps K→∃cs,K cs∧∀L:List AV→Prop,L cs→nk ev k es ps L
 | [],zs,h=>⟨zs,h,fun L h=>h⟩
 | (o,x)::r,zs,h=>by
  obtain ⟨h1,h2⟩:=h
  obtain ⟨cs,h3,h4⟩:=rk h2
  exact ⟨cs,h3,fun L hL=>⟨h1,h4 L hL⟩⟩
theorem PO.pU{ev:X→AV}{K:AV→Prop}:∀{q:PO},PO.bn ev K q→∃v,K v∧PO.bn ev (fun u=>u=v) q:=by
 intro q h
 cases q with
 | build zs ps =>
  obtain ⟨cs,h1,h2⟩:=Cq h
  exact ⟨_,h1,h2 _ rfl⟩
 | pick c a b =>
  simp only[PO.bn] at h ⊢
  split at h
  ·rename_i t _
   cases t with
   | true=>exact ⟨_,h.1 rfl,fun _=>rfl,fun h=>by simp at h⟩
   | false=>exact ⟨_,h.2 rfl,fun h=>by simp at h,fun _=>rfl⟩
  ·exact h.elim
 | xx t z x =>
  simp only[PO.bn] at h ⊢
  split at h
  ·rename_i u v _
   by_cases e:u=t
   ·exact ⟨_,h.1 e,fun _=>rfl,fun h=>absurd e h⟩
   ·exact ⟨_,h.2 e,fun h=>absurd h e,fun _=>rfl⟩
  ·exact ⟨_,h,rfl⟩
  ·exact h.elim
 | mW x lo hi =>
  simp only[PO.bn] at h ⊢
  split at h
  ·obtain ⟨n,h1,h2⟩:=j8 h
   obtain ⟨m,h3,h4⟩:=j8 h1
   exact ⟨_,h3.2,h2 _ (h4 _ ⟨h3.1,rfl⟩)⟩
  ·exact h.elim
 | qE k x lo hi mx =>
  simp only[PO.bn] at h ⊢
  split at h
  ·obtain ⟨h0,h⟩:=h
   split at h
   ·obtain ⟨n0,h1,h2⟩:=j8 h
    obtain ⟨n1,h3,h4⟩:=j8 h1
    obtain ⟨n2,h5,h6⟩:=j8 h3
    exact ⟨_,h5.2,h0,h2 _ (h4 _ (h6 _ ⟨h5.1,rfl⟩))⟩
   ·split at h
    ·obtain ⟨n1,h3,h4⟩:=j8 h
     obtain ⟨n2,h5,h6⟩:=j8 h3
     exact ⟨_,h5.2,h0,h4 _ (h6 _ ⟨h5.1,rfl⟩)⟩
    ·obtain ⟨n1,h3,h4⟩:=j8 h
     obtain ⟨n2,h5,h6⟩:=j8 h3
     exact ⟨_,h5.2,h0,h4 _ (h6 _ ⟨h5.1,rfl⟩)⟩
  ·obtain ⟨g1,g2,h⟩:=h
   obtain ⟨n1,h3,h4⟩:=j8 h
   obtain ⟨n2,h5,h6⟩:=j8 h3
   obtain ⟨h7,h8⟩:=h5
   split at h8
   ·by_cases e:n2<n1
    ·exact ⟨_,h8.1 e,g1,g2,h4 _ (h6 _ ⟨h7,fun _=>rfl,fun h=>by omega⟩)⟩
    ·exact ⟨_,h8.2 (by omega),g1,g2,h4 _ (h6 _ ⟨h7,fun h=>absurd h e,fun _=>rfl⟩)⟩
   ·exact (Classical.em _).elim (fun e=>⟨_,h8.1 e,g1,g2,h4 _ (h6 _ ⟨h7,fun _=>rfl,fun h=>by omega⟩)⟩) (fun e=>⟨_,h8.2 (Nat.le_of_not_lt e),g1,g2,h4 _ (h6 _ ⟨h7,fun h=>absurd h e,fun _=>rfl⟩)⟩)
  ·exact h.elim
 | az op x y =>
  simp only[PO.bn] at h ⊢
  split at h
  ·obtain ⟨r,h1,h2⟩:=h;exact ⟨_,h2,r,h1,rfl⟩
  ·exact h.elim
 | Br op x y =>
  simp only[PO.bn] at h ⊢
  split at h
  ·obtain ⟨r,h1,h2⟩:=h;exact ⟨_,h2,r,h1,rfl⟩
  ·exact h.elim
 | un op x =>
  simp only[PO.bn] at h ⊢
  split at h
  ·obtain ⟨r,h1,h2⟩:=h;exact ⟨_,h2,r,h1,rfl⟩
  ·exact h.elim
 | xv ln n ag x i =>
  simp only[PO.bn] at h ⊢
  split at h
  ·exact ⟨_,h.2.2,h.1,h.2.1,rfl⟩
  ·exact h.elim
 | _ =>
  simp only[PO.bn] at h ⊢
  first
   | exact ⟨_,h,rfl⟩
   | (split at h<;>first
     | exact h.elim
     | exact ⟨_,h,rfl⟩
     | exact ⟨_,h.2,h.1,rfl⟩)
def HO.bf:HO→Bool
 | .store ..=>true
 | .dD ..=>true
 | .gx ..=>true
 | .call ..=>true
 | .bM ..=>true
 | .bF _=>true
 | _=>false
def HO.bq:HO→Bool
 | .alloc ..=>true
 | .box ..=>true
 | .dh ..=>true
 | .lN ..=>true
 | _=>false
def dX.bf:dX→Bool
 | .h q=>q.bf
 | _=>false
def dX.bq:dX→Bool
 | .h q=>q.bq
 | _=>false
def dX.xs:dX→List X
 | .p q=>q.xs
 | .h q=>q.xs
def jV(A:List (List Nat))(i j:Nat):Bool:=(A.getD i []).contains j
def k7(A:List (List Nat))(i j:Nat):Bool:=!jV A i j && !jV A j i
def oB(A:List (List Nat))(n i:Nat):Bool:=(List.range n).all fun j=>decide (j≤i) || jV A j i
def HO.Jl(i:Nat)(H:Y)(ld:List (Nat×Nat)):HO→List (Nat×Nat)
 | .alloc _ _=>(i,H.length)::ld
 | .box _ _ _=>(i,H.length)::ld
 | .dh _ _ _ _ _=>(i,H.length)::ld
 | .lN _ _ _ _ _=>(i,H.length)::ld
 | _=>ld
theorem HO.RH{i:Nat}{H:Y}{ld:List (Nat×Nat)}(q:HO):∀l∈ld,l∈HO.Jl i H ld q:=by
 intro l hl
 cases q<;>simp only[HO.Jl]<;>first | exact hl | exact List.mem_cons_of_mem _ hl
theorem HO.RI{i:Nat}{H:Y}{ld:List (Nat×Nat)}{q:HO}(h:q.bq=true):(i,H.length)∈HO.Jl i H ld q:=by
 cases q<;>simp[HO.Jl,HO.bq] at h ⊢
def D6(P:Program)(A:List (List Nat))(n i:Nat)(ev:X→AV)(H:Y)(ld:List (Nat×Nat))(hs:List (Nat×Y×Y))(C:AV→Y→List (Nat×Nat)→List (Nat×Y×Y)→Prop)(Kp:AV→Y→Prop):dX→Prop
 | .p q=>PO.bn ev (fun v=>C v H ld hs) q
 | .h (.load m ag a)=>match ev a with
  | .ptr k id j f=>(∀c∈hs,k7 A c.1 i=true→id<c.2.1.length→Y.find c.2.2 id=Y.find c.2.1 id)∧HO.bn P ev H (fun v H'=>C v H' ((i,id)::ld) hs) (fun _ _=>False) (.load m ag a)
  | _=>HO.bn P ev H (fun v H'=>C v H' ld hs) (fun _ _=>False) (.load m ag a)
 | .h q=>if q.bf then HO.bn P ev H (fun v H'=>(∀l∈ld,k7 A l.1 i=true→Y.find H' l.2=Y.find H l.2)∧C v H' ld ((i,H,H')::hs)) (fun v H'=>oB A n i=true∧Kp v H') q
  else HO.bn P ev H (fun v H'=>C v H' (HO.Jl i H ld q) hs) (fun _ _=>False) q
def nq(P:Program)(A:List (List Nat))(n:Nat)(K:List AV→Y→Prop)(Kp:AV→Y→Prop):Nat→List bQ→List AV→Y→List (Nat×Nat)→List (Nat×Y×Y)→Prop
 | _,[],ts,H,_,_=>K ts H
 | i,o::r,ts,H,ld,hs=>bX ts (D6 P A n i (X.ev ts) H ld hs (fun v H' wz hs'=>nq P A n K Kp (i+1) r (bR ts o.dst v) H' wz hs') Kp o.op) (nq P A n K Kp (i+1) r (bR ts o.dst (.aG [])) H ld hs) o.guard
theorem FJ{H:Y}{k:Nat}{x:AV}{K:List AV→Prop}(h:Fj H k x K):∃ys,K ys∧∀L:List AV→Prop,L ys→Fj H k x L:=by
 cases x<;>try exact False.elim h
 ·exact ⟨_,h.2,fun L hL=>⟨h.1,hL⟩⟩
 ·obtain ⟨blk,h1,h2,h3⟩:=h
  exact ⟨_,h3,fun L hL=>⟨blk,h1,h2,hL⟩⟩
theorem HO.pU{P:Program}{ev:X→AV}{H:Y}{K Kp:AV→Y→Prop}:∀{q:HO},HO.bn P ev H K Kp q→
  (∃v H',K v H'∧HO.bn P ev H (fun v' oC=>v'=v∧oC=H') (fun _ _=>False) q)∨(q.bf=true∧∃v H',Kp v H'∧HO.bn P ev H (fun _ _=>False) (fun v' oC=>v'=v∧oC=H') q):=by
 intro q h
 cases q with
 | load n ag a =>
  simp only[HO.bn] at h ⊢
  left
  split at h
  ·obtain ⟨blk,e,h1,h2,h3,h4⟩:=h;exact ⟨_,_,h4,blk,e,h1,h2,h3,rfl,rfl⟩
  ·exact ⟨_,_,h.2,h.1,rfl,rfl⟩
  ·exact h.elim
 | alloc z ty=>exact .inl ⟨_,_,h,rfl,rfl⟩
 | box k ty x=>exact .inl ⟨_,_,h.2,h.1,rfl,rfl⟩
 | dK k ty z ln ps =>
  obtain ⟨cs,h1,h2⟩:=rk h
  exact .inl ⟨_,_,h1,h2 _ ⟨rfl,rfl⟩⟩
 | dh k ty z ln ps =>
  obtain ⟨cs,h1,h2⟩:=rk h
  exact .inl ⟨_,_,h1,h2 _ ⟨rfl,rfl⟩⟩
 | store n a x =>
  simp only[HO.bn] at h ⊢
  left
  split at h
  ·obtain ⟨blk,e,h1,h2,h3,h4⟩:=h;exact ⟨_,_,h4,blk,e,h1,h2,h3,rfl,rfl⟩
  ·exact h.elim
 | lN k ty z l c =>
  simp only[HO.bn] at h ⊢
  left
  split at h
  ·exact ⟨_,_,h.2,h.1,rfl,rfl⟩
  ·exact h.elim
 | gx g xs=>exact .inl ⟨_,_,h.2,h.1,rfl,rfl⟩
 | oY kd x=>exact h.elim
 | dD k ty s x =>
  simp only[HO.bn] at h ⊢
  left
  obtain ⟨ys,h,hL⟩:=FJ h
  split at h
  ·obtain ⟨h1,h2,h3⟩:=h
   by_cases e:ys=[]
   ·exact ⟨_,_,h2 e,hL _ ⟨h1,fun _=>⟨rfl,rfl⟩,fun h=>absurd e h⟩⟩
   ·exact ⟨_,_,h3 e,hL _ ⟨h1,fun h=>absurd h e,fun _=>⟨rfl,rfl⟩⟩⟩
  ·rename_i k' id off n c _
   obtain ⟨blk,h1,h2,h3⟩:=h
   cases c with
   | none=>exact ⟨_,_,h3.2,hL _ ⟨blk,h1,h2,h3.1,rfl,rfl⟩⟩
   | some m =>
    obtain ⟨h4,h5,h6⟩:=h3
    by_cases e:n+ys.length≤m
    ·exact ⟨_,_,h5 e,hL _ ⟨blk,h1,h2,h4,fun _=>⟨rfl,rfl⟩,fun h=>by omega⟩⟩
    ·exact ⟨_,_,h6 (by omega),hL _ ⟨blk,h1,h2,h4,fun h=>absurd h e,fun _=>⟨rfl,rfl⟩⟩⟩
  ·exact h.elim
 | call f ej =>
  obtain ⟨e,H',h1,h2⟩:=h
  cases e with
  | ret v=>exact .inl ⟨v,H',h2,_,_,h1,rfl,rfl⟩
  | bF v=>exact .inr ⟨rfl,v,H',h2,_,_,h1,rfl,rfl⟩
 | bM f ej =>
  simp only[HO.bn] at h ⊢
  split at h
  ·obtain ⟨h0,e,H',h1,h2⟩:=h
   cases e with
   | ret v=>exact .inl ⟨v,H',h2,h0,_,_,h1,rfl,rfl⟩
   | bF v=>exact .inr ⟨rfl,v,H',h2,h0,_,_,h1,rfl,rfl⟩
  ·exact h.elim
 | bF x =>
  simp only[HO.bn] at h ⊢
  right
  split at h
  ·exact ⟨rfl,_,_,h,rfl,rfl⟩
  ·exact h.elim
def j9(P:Program)(o:bQ)(ts:List AV)(H:Y)(v:AV)(H':Y):Prop :=
 (bX ts True False o.guard∧pT P (X.ev ts) H (fun v' oC=>v'=v∧oC=H') (fun _ _=>False) o.op)∨(bX ts False True o.guard∧v = .aG []∧H'=H)
def aaw(P:Program)(o:bQ)(ts:List AV)(H:Y)(v:AV)(H':Y):Prop :=
 bX ts True False o.guard∧o.op.bf=true∧pT P (X.ev ts) H (fun _ _=>False) (fun v' oC=>v'=v∧oC=H') o.op
def ob(o:bQ)(ts:List AV)(id:Nat):Prop:=∃m ag a k j f,o.op = .h (.load m ag a)∧X.ev ts a = .ptr k id j f
structure Road(P:Program)(A:List (List Nat))(n:Nat)(K:List AV→Y→Prop)(Kp:AV→Y→Prop)(i:Nat)(r:List bQ)(ld:List (Nat×Nat))(hs:List (Nat×Y×Y))(N:Nat)(vs:Nat→AV)(Hs:Nat→Y)(fs:Nat→List AV):Prop where
 lo:i≤N
 hi:N≤i+r.length
 step:∀m o,i≤m→m<N→r[m - i]? = some o→fs (m+1)=bR (fs m) o.dst (vs m)∧j9 P o (fs m) (Hs m) (vs m) (Hs (m+1))
 ldc:∀l∈ld,∀c o,i≤c→c<N→r[c - i]? = some o→o.op.bf=true→k7 A l.1 c=true→Y.find (Hs (c+1)) l.2=Y.find (Hs c) l.2
 hsc:∀c∈hs,∀m o id,i≤m→m<N→r[m - i]? = some o→ob o (fs m) id→bX (fs m) True False o.guard→k7 A c.1 m=true→id<c.2.1.length→Y.find c.2.2 id=Y.find c.2.1 id
 both:∀m o id c o',i≤m→m<N→i≤c→c<N→r[m - i]? = some o→ob o (fs m) id→bX (fs m) True False o.guard→r[c - i]? = some o'→o'.op.bf=true→k7 A m c=true→k7 A c m=true→id<(Hs c).length→Y.find (Hs (c+1)) id=Y.find (Hs c) id
 YY:∀m o c o',i≤m→m<c→c<N→r[m - i]? = some o→o.op.bq=true→bX (fs m) True False o.guard→r[c - i]? = some o'→o'.op.bf=true→k7 A m c=true→Y.find (Hs (c+1)) (Hs m).length=Y.find (Hs c) (Hs m).length
 fin:(N=i+r.length∧K (fs N) (Hs N))∨∃o v H',r[N - i]? = some o∧aaw P o (fs N) (Hs N) v H'∧oB A n N=true∧Kp v H'
theorem BD{ts:List AV}{yes no:Prop}:∀{g:Option (Nat×Bool)},bX ts yes no g→(bX ts True False g∧yes)∨(bX ts False True g∧no)
 | none,h=>.inl ⟨trivial,h⟩
 | some (d,want),h=>by
  simp only[bX] at h ⊢
  split at h
  ·rename_i b _
   by_cases e:b=want
   ·exact .inl ⟨⟨fun _=>trivial,fun h=>absurd e h⟩,h.1 e⟩
   ·exact .inr ⟨⟨fun h=>absurd h e,fun _=>trivial⟩,h.2 e⟩
  ·exact .inr ⟨trivial,h⟩
  ·exact h.elim
theorem N0(A:List (List Nat))(i j:Nat):k7 A i j=k7 A j i:=by unfold k7;rw[Bool.and_comm]
theorem Road.cons{P:Program}{A:List (List Nat)}{n:Nat}{K:List AV→Y→Prop}{Kp:AV→Y→Prop}{i:Nat}{o:bQ}{r:List bQ}{ld wz:List (Nat×Nat)}{hs hs':List (Nat×Y×Y)}{ts:List AV}{H:Y}{v:AV}{H':Y}
  (hst:j9 P o ts H v H'){N:Nat}{vs:Nat→AV}{Hs:Nat→Y}{fs:Nat→List AV}(hrd:Road P A n K Kp (i+1) r wz hs' N vs Hs fs)(hf:fs (i+1)=bR ts o.dst v)(hH:Hs (i+1)=H')
  (wi:∀l∈ld,l∈wz∧(o.op.bf=true→k7 A l.1 i=true→Y.find H' l.2=Y.find H l.2))
  (hhs:∀c∈hs,c∈hs'∧∀id,ob o ts id→bX ts True False o.guard→k7 A c.1 i=true→id<c.2.1.length→Y.find c.2.2 id=Y.find c.2.1 id)
  (qP:∀id,ob o ts id→bX ts True False o.guard→(i,id)∈wz)(hch:o.op.bf=true→(i,H,H')∈hs'∨(H'=H))(aax:o.op.bq=true→bX ts True False o.guard→(i,H.length)∈wz) :
  ∃vs2 Hs2 fs2,Road P A n K Kp i (o::r) ld hs N vs2 Hs2 fs2∧Hs2 i=H∧fs2 i=ts:=by
 have hlo:=hrd.lo
 have ke:∀m,i+1≤m→(o::r)[m - i]? = r[m - (i+1)]?:=fun m hm=>by
  rw[show m - i=(m - (i+1))+1 from by omega]
  simp
 have dy:∀o',(o::r)[i - i]? = some o'→o'=o:=fun o' h=>by simpa using h.symm
 refine ⟨fun m=>if m=i then v else vs m,fun m=>if m=i then H else Hs m,fun m=>if m=i then ts else fs m,?_,by simp,by simp⟩
 have e1:∀{α:Type}(x y:α) m,i+1≤m→(if m=i then x else y)=y:=fun x y m hm=>by rw[if_neg (by omega)]
 refine ⟨by omega,by have:=hrd.hi;simp;omega,?_,?_,?_,?_,?_,?_⟩
 ·intro m o' hm wA eA
  by_cases e:m=i
  ·subst e
   cases dy o' eA
   simp only[if_true]
   rw[if_neg (by omega),if_neg (by omega),hf,hH]
   exact ⟨rfl,hst⟩
  ·rw[ke m (by omega)] at eA
   have:=hrd.step m o' (by omega) wA eA
   rw[if_neg e,if_neg e,if_neg e,if_neg (by omega),if_neg (by omega)]
   exact this
 ·intro l hl c o' hc Jm eA rq hu
  by_cases e:c=i
  ·subst e
   cases dy o' eA
   simp only[if_true]
   rw[if_neg (by omega),hH]
   exact (wi l hl).2 rq hu
  ·rw[ke c (by omega)] at eA
   rw[if_neg e,if_neg (by omega)]
   exact hrd.ldc l (wi l hl).1 c o' (by omega) Jm eA rq hu
 ·intro c hc m o' id hm wA eA hl hg hu hid
  by_cases e:m=i
  ·subst e
   cases dy o' eA
   simp only[if_true] at hl hg
   exact (hhs c hc).2 id hl hg hu hid
  ·rw[ke m (by omega)] at eA
   simp only[if_neg e] at hl hg
   exact hrd.hsc c (hhs c hc).1 m o' id (by omega) wA eA hl hg hu hid
 ·intro m o1 id c o2 hm wA hc Jm lQ hl hg sS rq hu WL hid
  by_cases e:m=i
  ·subst e
   cases dy o1 lQ
   simp only[if_true] at hl hg
   by_cases e2:c=m
   ·subst e2
    cases dy o2 sS
    obtain ⟨_,_,_,_,_,_,hop,_⟩:=hl
    rw[hop] at rq
    simp[dX.bf,HO.bf] at rq
   ·rw[ke c (by omega)] at sS
    simp only[if_neg e2] at hid ⊢
    rw[if_neg (by omega)]
    exact hrd.ldc (m,id) (qP id hl hg) c o2 (by omega) Jm sS rq hu
  ·by_cases e2:c=i
   ·subst e2
    cases dy o2 sS
    rw[ke m (by omega)] at lQ
    simp only[if_neg e] at hl hg
    simp only[if_true] at hid ⊢
    rw[if_neg (by omega),hH]
    rcases hch rq with h1 | h1
    ·exact hrd.hsc (c,H,H') h1 m o1 id (by omega) wA lQ hl hg WL hid
    ·rw[h1]
   ·rw[ke m (by omega)] at lQ
    rw[ke c (by omega)] at sS
    simp only[if_neg e] at hl hg
    simp only[if_neg e2] at hid ⊢
    rw[if_neg (by omega)]
    exact hrd.both m o1 id c o2 (by omega) wA (by omega) Jm lQ hl hg sS rq hu WL hid
 ·intro m o1 c o2 hm hmc Jm lQ hal hg sS rq hu
  rw[ke c (by omega)] at sS
  by_cases e:m=i
  ·subst e
   cases dy o1 lQ
   simp only[if_true] at hg
   simp only[if_true]
   rw[if_neg (by omega),if_neg (by omega)]
   exact hrd.ldc (m,H.length) (aax hal hg) c o2 (by omega) Jm sS rq hu
  ·rw[ke m (by omega)] at lQ
   simp only[if_neg e] at hg
   simp only[if_neg e]
   rw[if_neg (by omega),if_neg (by omega)]
   exact hrd.YY m o1 c o2 (by omega) hmc Jm lQ hal hg sS rq hu
 ·have e2:N≠i:=by omega
  simp only[if_neg e2]
  rcases hrd.fin with ⟨h1,h2⟩ | ⟨o',v',H2,h1,h2⟩
  ·exact .inl ⟨by rw[h1];simp;omega,h2⟩
  ·exact .inr ⟨o',v',H2,by rw[ke N (by omega)];exact h1,h2⟩
theorem nr{P:Program}{A:List (List Nat)}{n:Nat}{K:List AV→Y→Prop}{Kp:AV→Y→Prop}:∀(r:List bQ)(i:Nat)(ts:List AV)(H:Y)(ld:List (Nat×Nat))(hs:List (Nat×Y×Y)),nq P A n K Kp i r ts H ld hs→
  ∃N vs Hs fs,Road P A n K Kp i r ld hs N vs Hs fs∧Hs i=H∧fs i=ts
 | [],i,ts,H,ld,hs,h=>by
  refine ⟨i,fun _=>.top,fun _=>H,fun _=>ts,⟨Nat.le_refl _,by simp,fun m o h1 h2=>by omega,fun l _ c o h1 h2=>by omega,fun c _ m o id h1 h2=>by omega,fun m o id c o' h1 h2=>by omega,fun m o c o' h1 h2 h3=>by omega,.inl ⟨by simp,h⟩⟩,rfl,rfl⟩
 | o::r,i,ts,H,ld,hs,h=>by
  simp only[nq] at h
  rcases BD h with ⟨hg,hy⟩ | ⟨hg,hn⟩
  case inr =>
   obtain ⟨N,vs,Hs,fs,h1,h2,h3⟩:=nr r (i+1) _ _ _ _ hn
   have RJ:¬bX ts True False o.guard:=by
    intro hc
    cases hgo:o.guard with
    | none=>rw[hgo] at hg;exact hg
    | some dw =>
     obtain ⟨d,want⟩:=dw
     rw[hgo] at hg hc
     simp only[bX] at hg hc
     split at hg
     ·rename_i b he
      rw[he] at hc
      by_cases e:b=want
      ·exact hg.1 e
      ·exact hc.2 e
     ·rename_i _ he
      rw[he] at hc
      exact hc
     ·exact hg
   have hst:j9 P o ts H (.aG []) H:=.inr ⟨hg,rfl,rfl⟩
   obtain ⟨a,b,c,k⟩:=Road.cons hst h1 h3 h2 (fun l hl=>⟨hl,fun _ _=>rfl⟩) (fun c hc=>⟨hc,fun id _ RL=>absurd RL RJ⟩) (fun id _ RL=>absurd RL RJ) (fun _=>.inr rfl) (fun _ RL=>absurd RL RJ)
   exact ⟨N,a,b,c,k⟩
  case inl =>
   have plain:∀(v:AV)(H':Y)(wz:List (Nat×Nat)),(∀l∈ld,l∈wz)→(o.op.bq=true→(i,H.length)∈wz)→pT P (X.ev ts) H (fun v' oC=>v'=v∧oC=H') (fun _ _=>False) o.op→nq P A n K Kp (i+1) r (bR ts o.dst v) H' wz hs→(∀id,¬ob o ts id)→o.op.bf=false→∃N vs Hs fs,Road P A n K Kp i (o::r) ld hs N vs Hs fs∧Hs i=H∧fs i=ts:=by
    intro v H' wz hsub hnA h1 h2 h3 h4
    obtain ⟨N,vs,Hs,fs,k1,k2,k3⟩:=nr r (i+1) _ _ _ _ h2
    have hst:j9 P o ts H v H':=.inl ⟨hg,h1⟩
    obtain ⟨a,b,c,k⟩:=Road.cons hst k1 k3 k2 (fun l hl=>⟨hsub l hl,fun h=>by rw[h4] at h;simp at h⟩) (fun c hc=>⟨hc,fun id hl=>absurd hl (h3 id)⟩) (fun id hl=>absurd hl (h3 id)) (fun h=>by rw[h4] at h;simp at h) (fun h _=>hnA h)
    exact ⟨N,a,b,c,k⟩
   cases hop:o.op with
   | p q =>
    rw[hop] at hy
    obtain ⟨v,h1,h2⟩:=PO.pU (show PO.bn (X.ev ts) (fun v=>nq P A n K Kp (i+1) r (bR ts o.dst v) H ld hs) q from hy)
    have yn:pT P (X.ev ts) H (fun v' oC=>v'=v∧oC=H) (fun _ _=>False) o.op:=by
     rw[hop]
     show PO.bn (X.ev ts) (fun u=>u=v∧H=H) q
     have e:(fun u=>u=v∧H=H)=fun u=>u=v:=by funext u;simp
     rw[e]
     exact h2
    exact plain v H ld (fun _ h=>h) (fun h=>by rw[hop] at h;simp[dX.bq] at h) yn h1 (fun id hl=>by obtain ⟨_,_,_,_,_,_,e,_⟩:=hl;rw[hop] at e;cases e) (by rw[hop];rfl)
   | h q =>
    rw[hop] at hy
    by_cases zG:∃m ag a,q = .load m ag a
    ·obtain ⟨m,ag,a,rfl⟩:=zG
     simp only[D6] at hy
     split at hy
     ·rename_i k id j f he
      obtain ⟨hc,hy⟩:=hy
      rcases HO.pU hy with ⟨v,H',h1,h2⟩ | ⟨h0,_⟩
      ·obtain ⟨N,vs,Hs,fs,k1,k2,k3⟩:=nr r (i+1) _ _ _ _ h1
       have hst:j9 P o ts H v H':=.inl ⟨hg,by rw[hop];exact h2⟩
       have hone:∀id',ob o ts id'→id'=id:=by
        rintro id' ⟨_,_,a',_,_,_,e1,e2⟩
        rw[hop] at e1
        cases e1
        rw[he] at e2
        cases e2
        rfl
       have hnc:o.op.bf=false:=by rw[hop];rfl
       obtain ⟨a,b,c,k⟩:=Road.cons hst k1 k3 k2 (fun l hl=>⟨List.mem_cons_of_mem _ hl,fun h=>by rw[hnc] at h;simp at h⟩) (fun c zH=>⟨zH,fun id' hl _ hu hid=>by
        cases hone id' hl;exact hc c zH hu hid⟩) (fun id' hl _=>by cases hone id' hl;simp) (fun h=>by rw[hnc] at h;simp at h) (fun h=>by rw[hop] at h;simp[dX.bq,HO.bq] at h)
       exact ⟨N,a,b,c,k⟩
      ·simp[HO.bf] at h0
     ·rename_i hne
      rcases HO.pU hy with ⟨v,H',h1,h2⟩ | ⟨h0,_⟩
      ·exact plain v H' ld (fun _ h=>h) (fun h=>by rw[hop] at h;simp[dX.bq,HO.bq] at h) (by rw[hop];exact h2) h1 (fun id hl=>by
        obtain ⟨_,_,a',k,j,f,e1,e2⟩:=hl
        rw[hop] at e1
        cases e1
        exact hne _ _ _ _ e2) (by rw[hop];rfl)
      ·simp[HO.bf] at h0
    ·have hnl:∀id,¬ob o ts id:=by
      rintro id ⟨m,ag,a,_,_,_,e1,_⟩
      rw[hop] at e1
      cases e1
      exact zG ⟨_,_,_,rfl⟩
     have hy':if q.bf then HO.bn P (X.ev ts) H (fun v H'=>(∀l∈ld,k7 A l.1 i=true→Y.find H' l.2=Y.find H l.2)∧nq P A n K Kp (i+1) r (bR ts o.dst v) H' ld ((i,H,H')::hs)) (fun v H'=>oB A n i=true∧Kp v H') q
       else HO.bn P (X.ev ts) H (fun v H'=>nq P A n K Kp (i+1) r (bR ts o.dst v) H' (HO.Jl i H ld q) hs) (fun _ _=>False) q:=by
      cases q<;>first | exact hy | exact absurd ⟨_,_,_,rfl⟩ zG
     cases uX:q.bf with
     | false =>
      rw[uX] at hy'
      simp only[Bool.false_eq_true,if_false] at hy'
      rcases HO.pU hy' with ⟨v,H',h1,h2⟩ | ⟨h0,_⟩
      ·exact plain v H' _ (HO.RH q) (fun h=>HO.RI (by rw[hop] at h;exact h)) (by rw[hop];exact h2) h1 hnl (by rw[hop];exact uX)
      ·rw[uX] at h0;simp at h0
     | true =>
      rw[uX] at hy'
      simp only[if_true] at hy'
      have hch:o.op.bf=true:=by rw[hop];exact uX
      rcases HO.pU hy' with ⟨v,H',⟨h0,h1⟩,h2⟩ | ⟨_,v,H',⟨h0,h1⟩,h2⟩
      ·obtain ⟨N,vs,Hs,fs,k1,k2,k3⟩:=nr r (i+1) _ _ _ _ h1
       have hst:j9 P o ts H v H':=.inl ⟨hg,by rw[hop];exact h2⟩
       obtain ⟨a,b,c,k⟩:=Road.cons hst k1 k3 k2 (fun l hl=>⟨hl,fun _ hu=>h0 l hl hu⟩) (fun c hc=>⟨List.mem_cons_of_mem _ hc,fun id hl=>absurd hl (hnl id)⟩) (fun id hl=>absurd hl (hnl id)) (fun _=>.inl (by simp)) (fun h=>by
        rw[hop] at h
        cases q<;>simp[dX.bq,HO.bq,HO.bf] at h uX)
       exact ⟨N,a,b,c,k⟩
      ·refine ⟨i,fun _=>.top,fun _=>H,fun _=>ts,⟨Nat.le_refl _,by simp,fun m o h1 h2=>by omega,fun l _ c o h1 h2=>by omega,fun c _ m o id h1 h2=>by omega,fun m o id c o' h1 h2=>by omega,fun m o c o' h1 h2 h3=>by omega,.inr ⟨o,v,H',by simp,⟨hg,hch,by rw[hop];exact h2⟩,h0,h1⟩⟩,rfl,rfl⟩
def acL:X→Option Nat
 | .t n=>some n
 | .k _=>none
def sC(o:bQ):List Nat:=o.op.xs.filterMap acL++(o.guard.map (·.1)).toList
def BF(l:List bQ)(A:List (List Nat)):Bool:=l.zipIdx.all fun (o,i) =>
 (A.getD i []).all (fun j=>decide (j<i)) &&
 l.zipIdx.all fun (o',j) =>
  (o'.dst == none || j == i || o'.dst != o.dst) &&
  (match o'.dst with | some d=>!(sC o).contains d || (jV A i j || jV A j i) | none=>true) &&
  (!(decide (j<i) && ((o.op.bf && o'.op.bf) || (o.op.bq && o'.op.bf))) || jV A i j)
def wB(ops:Array Oper)(A:List (List Nat)):Bool:=ops.toList.zipIdx.all fun (o,i) =>
 (A.getD i []).all (fun j=>o.after.toList.any fun e=>Region.binds .any e && (e.on == j || jV A e.on j)) &&
 o.after.toList.all fun e=>decide (e.on<i) || !Region.binds .any e
def L5(ops:Array Oper):List (List Nat):=ops.toList.foldl (fun A o=>A++[((o.after.toList.filter (Region.binds .any)).flatMap fun e=>e.on::A.getD e.on []).eraseDups]) []
def iV(l:List bQ)(ts:List AV):List AV:=l.foldl (fun ts o=>bR ts o.dst .top) ts
section
variable {P:Program}
theorem dL{l:List bQ}{A:List (List Nat)}(h:BF l A=true){i j:Nat}{o o':bQ}(ho:l[i]? = some o)(eA:l[j]? = some o') :
  (∀k,jV A i k=true→k<i)∧(∀d,o'.dst=some d→o.dst=some d→j=i)∧(∀d,o'.dst=some d→d∈sC o→jV A i j=true∨jV A j i=true)∧
  (j<i→(o.op.bf=true∧o'.op.bf=true∨o.op.bq=true∧o'.op.bf=true)→jV A i j=true):=by
 unfold BF at h
 rw[List.all_eq_true] at h
 have h1:=h (o,i) (List.mem_zipIdx_iff_getElem?.2 ho)
 simp only[Bool.and_eq_true] at h1
 have h2:=List.all_eq_true.1 h1.2 (o',j) (List.mem_zipIdx_iff_getElem?.2 eA)
 simp only[Bool.and_eq_true] at h2
 refine ⟨fun k hk=>?_,fun d e1 e2=>?_,fun d e1 e2=>?_,fun hlt hc=>?_⟩
 ·have:=List.all_eq_true.1 h1.1 k (by unfold jV at hk;simpa using hk)
  simpa using this
 ·have h3:=h2.1.1
  rw[e1,e2] at h3
  simpa using h3
 ·have h3:=h2.1.2
  rw[e1] at h3
  simp only[Bool.or_eq_true,Bool.not_eq_true'] at h3
  rcases h3 with h3 | h3
  ·have:(sC o).contains d=true:=by simpa using e2
   rw[this] at h3
   simp at h3
  ·exact h3
 ·have h3:=h2.2
  simp only[Bool.or_eq_true,Bool.not_eq_true',Bool.and_eq_false_iff] at h3
  rcases h3 with h3 | h3
  ·rcases h3 with h3 | h3
   ·simp at h3;omega
   ·rcases hc with ⟨c1,c2⟩ | ⟨c1,c2⟩
    ·simp[c1,c2] at h3
    ·simp[c1,c2] at h3
  ·exact h3
theorem sD{ops:Array Oper}{A:List (List Nat)}(h:wB ops A=true){listed:Array Bool}(fR:∀(j:Nat)(o:Oper),ops[j]? = some o→listed.getD j false=true→∀e∈o.after.toList,Region.binds .any e=true→listed.getD e.on false=true) :
  ∀(n i:Nat)(o:Oper),i<n→ops[i]? = some o→(∀e∈o.after.toList,Region.binds .any e=true→listed.getD e.on false=true)→∀j,jV A i j=true→listed.getD j false=true:=by
 unfold wB at h
 rw[List.all_eq_true] at h
 intro n
 induction n with
 | zero=>intro i o hi;omega
 | succ n ih =>
  intro i o hi ho hr j hj
  have h1:=h (o,i) (by rw[List.mem_zipIdx_iff_getElem?];simpa using ho)
  simp only[Bool.and_eq_true] at h1
  have h2:=List.all_eq_true.1 h1.1 j (by unfold jV at hj;simpa using hj)
  rw[List.any_eq_true] at h2
  obtain ⟨e,he,h3⟩:=h2
  simp only[Bool.and_eq_true,Bool.or_eq_true,beq_iff_eq] at h3
  have hl:=hr e he h3.1
  rcases h3.2 with h4 | h4
  ·rw[←h4];exact hl
  ·have h5:=List.all_eq_true.1 h1.2 e he
   rw[h3.1] at h5
   simp at h5
   have:e.on<ops.size:=by have:=(Array.getElem?_eq_some_iff.1 ho).1;omega
   exact ih e.on ops[e.on] (by omega) (by simp[this]) (fR e.on _ (by simp[this]) hl) j h4
theorem N1{ops:Array Oper}{A:List (List Nat)}(h:wB ops A=true){i:Nat}{o:Oper}(ho:ops[i]? = some o):∀e∈o.after.toList,Region.binds .any e=true→e.on<i:=by
 unfold wB at h
 rw[List.all_eq_true] at h
 have h1:=h (o,i) (by rw[List.mem_zipIdx_iff_getElem?];simpa using ho)
 simp only[Bool.and_eq_true] at h1
 intro e he hb
 have h5:=List.all_eq_true.1 h1.2 e he
 rw[hb] at h5
 simpa using h5
theorem FK{ops:Array Oper}{A:List (List Nat)}(h:wB ops A=true){listed:Array Bool}(hsz:listed.size=ops.size)(hr:Region.ready .any ops listed=[]):∀n i,i<n→i<ops.size→listed.getD i false=true:=by
 intro n
 induction n with
 | zero=>intro i hi;omega
 | succ n ih =>
  intro i hi oD
  by_cases hin:i<n
  ·exact ih i hin oD
  ·have acM:i=n:=by omega
   subst acM
   apply Classical.byContradiction
   intro hno
   have:i∈Region.ready .any ops listed:=by
    unfold Region.ready
    simp only[List.mem_filter,List.mem_range,Bool.and_eq_true,Bool.not_eq_true']
    refine ⟨oD,?_,?_⟩
    ·have h1:i<listed.size:=by omega
     simp[Array.getD,h1] at hno ⊢
     exact hno
    ·have ho:ops[i]? = some ops[i]:=by simp[oD]
     rw[ho]
     simp only[Option.map_some,Option.getD_some,Array.all_eq_true_iff_forall_mem]
     intro e he
     cases hb:Region.binds .any e with
     | false=>simp
     | true =>
      have hlt:=N1 h ho e (by simpa using he) hb
      simp[ih e.on hlt (by omega)]
   rw[hr] at this
   simp at this
def qI(H H':Y):Prop:=H.length≤H'.length∧∀id,id<H.length→Y.find H' id=Y.find H id
theorem qI.refl(H:Y):qI H H:=⟨Nat.le_refl _,fun _ _=>rfl⟩
theorem qI.trans{G H K:Y}(h:qI G H)(k:qI H K):qI G K:=⟨Nat.le_trans h.1 k.1,fun id hid=>(k.2 id (Nat.lt_of_lt_of_le hid h.1)).trans (h.2 id hid)⟩
theorem qI.cons(H:Y)(b:Option aK):qI H (b::H):=⟨by simp,fun id hid=>Y.cJ hid⟩
theorem Rel.ext{φ:aH}{H H':Y}{w:World}(h:Rel φ H w)(he:qI H H'):Rel φ H' w∧Step φ H w φ H' w:=by
 have hown:∀b,Own φ H' b↔Own φ H b:=by
  intro b
  constructor
  ·rintro ⟨i,k,h1,h2⟩
   rw[he.2 i (h.dom i b h1).1] at h2
   exact ⟨i,k,h1,h2⟩
  ·rintro ⟨i,k,h1,h2⟩
   exact ⟨i,k,h1,by rw[he.2 i (h.dom i b h1).1];exact h2⟩
 have hl:Later (fun _=>True) φ φ (Own φ H) (Own φ H') w w:=⟨fun _ _ _ h=>h,Nat.le_refl _,fun b _ ho eA=>ho ((hown b).1 eA),fun _ _ _=>rfl,fun _ _=>rfl⟩
 refine ⟨⟨h.gZ.later hl,fun i b hi=>⟨Nat.lt_of_lt_of_le (h.dom i b hi).1 he.1,(h.dom i b hi).2⟩,fun i j b hi hj gJ kG=>?_,fun i b k h1 h2=>?_⟩,⟨hl,rfl,rfl,rfl,he.1,fun _ _=>rfl⟩⟩
 ·rw[he.2 i (h.dom i b hi).1] at gJ
  rw[he.2 j (h.dom j b hj).1] at kG
  exact h.inj i j b hi hj gJ kG
 ·rw[he.2 i (h.dom i b h1).1] at h2
  exact (h.blk i b k h1 h2).on hl rfl
theorem Rel.RM{φ:aH}{T:Y}{w:World}(h:Rel φ T w){id:Nat}{blk:aK}(hid:φ id=none)(hf:Y.find T id=some blk)(bW:0<blk.k)(cur:Array Value)(cap:Nat)(hsz:cur.size=cap*blk.k)
  (hcap:blk.es.length≤cap)(hex:blk.exact=true→cap=blk.es.length)(hm:cap≤maxLen)(hk:∀x∈blk.es,x.ax=blk.k)(hr:Rs φ (Own φ T) w (flat blk.es) (fun i=>cur[i]?)) :
  Rel (φ.add id w.heap.size) T (w.alloc (.cells cur blk.ty))∧Later (fun _=>True) φ (φ.add id w.heap.size) (Own φ T) (Own (φ.add id w.heap.size) T) w (w.alloc (.cells cur blk.ty)):=by
 have hold:∀b,b<w.heap.size→(w.alloc (.cells cur blk.ty)).heap[b]? = w.heap[b]?:=fun b hb=>heap_alloc_old w _ hb
 have hsize:w.heap.size≤(w.alloc (.cells cur blk.ty)).heap.size:=by simp
 have acN:∀i b,φ i=some b→i≠id:=fun i b hi e=>by rw[e,hid] at hi;simp at hi
 have dW:Later (fun _=>True) φ (φ.add id w.heap.size) (Own φ T) (Own (φ.add id w.heap.size) T) w (w.alloc (.cells cur blk.ty)):=by
  refine ⟨fun i b _ hm'=>?_,hsize,fun b hb ho eA=>?_,fun b hb _=>hold b hb,fun b hb=>by unfold World.shape?;rw[hold b hb]⟩
  ·unfold aH.add
   rw[if_neg (acN i b hm')]
   exact hm'
  ·obtain ⟨i,k,h1,h2⟩:=eA
   unfold aH.add at h1
   split at h1
   ·cases h1;omega
   ·exact ho ⟨i,k,h1,h2⟩
 refine ⟨⟨h.gZ.later dW,fun i b' hm'=>?_,fun i j b' hi hj gJ kG=>?_,fun i b' k h1 h2=>?_⟩,dW⟩
 ·unfold aH.add at hm'
  split at hm'
  ·rename_i e
   cases hm'
   exact ⟨by rw[e];exact Y.au hf,by simp⟩
  ·have:=h.dom i b' hm'
   exact ⟨this.1,by simp;omega⟩
 ·unfold aH.add at hi hj
  split at hi<;>split at hj
  ·omega
  ·cases hi;have:=(h.dom j _ hj).2;omega
  ·cases hj;have:=(h.dom i _ hi).2;omega
  ·exact h.inj i j b' hi hj gJ kG
 ·unfold aH.add at h1
  split at h1
  ·rename_i e
   cases h1
   subst e
   rw[hf] at h2
   cases h2
   refine .inl ⟨bW,cur,cap,heap_alloc_new w _,hsz,hcap,hex,hm,qR hk (gC dW _ _ _ (AV.cq _) (fun i v hv=>?_) hr)⟩
   unfold cC
   rw[Nat.zero_add,World.cell?_alloc_at _ _ _ _ rfl]
   exact hv
  ·have l2:=(h.dom i b' h1).2
   exact (h.blk i b' k h1 h2).on dW (hold b' l2)
theorem N2{b:Bool}{o:Oper}{q:HO}(hc0:l4 P b o=some q)(ha:q.bq=true){φ:aH}{T:Y}{w:World}{ts:List AV}{a:Act}(hF:FR φ (Own φ T) w ts a){Hi H1:Y}{v:AV}{F:AV→Y→Prop}
    (h:HO.bn P (X.ev ts) Hi (fun v' oC=>v'=v∧oC=H1) F q) :
    ∃blk cur cap u,H1=some blk::Hi∧0<blk.k∧(execOp a.eval o).run P w = .ok (.value u) (w.alloc (.cells cur blk.ty))∧cur.size=cap*blk.k∧blk.es.length≤cap∧(blk.exact=true→cap=blk.es.length)∧cap≤maxLen∧
      (∀x∈blk.es,x.ax=blk.k)∧Rs φ (Own φ T) w (flat blk.es) (fun i=>(cur:Array Value)[i]?)∧
      ∀(φ':aH)(O':Nat→Prop)(w':World),φ' Hi.length=some w.heap.size→w'.heap[w.heap.size]? = some (.cells cur blk.ty (0,0))→VR φ' O' w' v u:=by
  have hone:∀{x:AV}{u:Value}{k:Nat}{t:TypeId},VR φ (Own φ T) w x u→x.bT=false→x.ax=k→0<k→(execOp a.eval o).run P w = .ok (.value (.pointer (some ⟨w.heap.size,0,none⟩))) (w.alloc (.cells u.cells t))→v = .ptr k Hi.length 0 0→H1=some ⟨k,[x],true,t⟩::Hi→
      ∃blk cur cap u,H1=some blk::Hi∧0<blk.k∧(execOp a.eval o).run P w = .ok (.value u) (w.alloc (.cells cur blk.ty))∧cur.size=cap*blk.k∧blk.es.length≤cap∧(blk.exact=true→cap=blk.es.length)∧cap≤maxLen∧
      (∀x∈blk.es,x.ax=blk.k)∧Rs φ (Own φ T) w (flat blk.es) (fun i=>(cur:Array Value)[i]?)∧
      ∀(φ':aH)(O':Nat→Prop)(w':World),φ' Hi.length=some w.heap.size→w'.heap[w.heap.size]? = some (.cells cur blk.ty (0,0))→VR φ' O' w' v u:=by
    intro x u k t hv ht hk bW hrun hve RN
    refine ⟨⟨k,[x],true,t⟩,u.cells,1,_,RN,bW,hrun,by simp[fh hv ht,hk],by simp,by simp,by unfold maxLen;omega,by simp[hk],by simp only[flat,List.flatMap_cons,List.flatMap_nil,List.append_nil];exact qM hv ht,fun φ' O' w' h1 h2=>?_⟩
    rw[hve]
    exact ⟨rfl,_,h1,by simp[eM,Value.cells,ew bW]⟩
  have hc:iQ P b o=some q:=by
    unfold l4 at hc0
    split at hc0
    · rename_i h;cases hc0;exact h
    · rcases tE hc0 with ⟨g,xs,rfl⟩ | ⟨g,xs,rfl⟩<;>simp[HO.bq] at ha
  unfold iQ at hc
  split at hc
  · split at hc<;>cases hc
    simp[HO.bq] at ha
  · rename_i t ho
    split at hc
    case h_2=>simp at hc
    rename_i z hz
    split at hc
    case h_2=>simp at hc
    rename_i z' fE
    split at hc
    case isFalse=>simp at hc
    rename_i ht
    cases hc
    rw[Option.bind_eq_some_iff] at hz
    obtain ⟨i,h1,h2⟩:=hz
    obtain ⟨e1,e2⟩:=h
    refine hone (uF fE) ht.1 rfl ht.2 ?_ e1.symm e2.symm
    simp only[execOp,ho,Instr.alloc,zeroValue,typeInfo,Sem.run_bind,run_program,h1,Result.andThen_ok,Sem.run_pure,h2,newVar,newRow,run_newObj]
    rfl
  · rename_i t x ho
    split at hc
    case h_2=>simp at hc
    rename_i x' hi hx
    split at hc
    case isFalse=>simp at hc
    rename_i bW
    cases hc
    obtain ⟨⟨g1,g2⟩,e1,e2⟩:=h
    refine hone (ay hF hx) g1 g2 bW ?_ e1.symm e2.symm
    simp only[execOp,ho,Instr.box,Sem.run_bind,newVar,newRow,run_newObj,Result.andThen_ok,Sem.run_pure]
    rfl
  · rename_i t ln parts ho
    split at hc
    case h_2=>simp at hc
    rename_i e ht
    split at hc
    case h_2=>simp at hc
    rename_i i hi
    split at hc
    case h_2=>simp at hc
    rename_i z ps hz hps
    split at hc
    case isFalse=>simp at hc
    rename_i fE
    obtain ⟨c1,c2,c3,c5⟩:=fE
    cases hc
    rw[Option.bind_eq_some_iff] at hz
    obtain ⟨zv,h1,h2⟩:=hz
    cases b with
    | false=>simp[HO.bq] at ha
    | true =>
      obtain ⟨es,cells,k1,k2,k3,k4,k5,k6⟩:=zl (H:=T) hF ht hi h1 h2 hps c1 c2 c3 c5 h
      have lK:ln≤maxLen:=by
        have:ln*1≤ln*i.size:=Nat.mul_le_mul_left _ c2
        unfold maxLen
        omega
      refine ⟨⟨i.size,es,true,e⟩,cells,ln,.slice (some ⟨w.heap.size,0,none⟩) ln ln,k1.2.symm,c2,?_,k4,by simp[k2],fun _=>by simp[k2],lK,k3,k5,fun φ' O' w' g1 g2=>?_⟩
      · simp only[execOp,ho,Sem.run_bind,k6,Result.andThen_ok,Sem.run_pure]
      · rw[←k1.1]
        exact kY g1 (Nat.le_refl _) lK (fun m hm=>by simpa using hm) g2 k4
  · split at hc<;>cases hc
    simp[HO.bq] at ha
  · rename_i t l c ho
    split at hc
    case h_2=>simp at hc
    rename_i e ht
    split at hc
    case h_2=>simp at hc
    rename_i i l' c' hi hl l7
    split at hc
    case h_2=>simp at hc
    rename_i z hz
    split at hc
    case isFalse=>simp at hc
    rename_i fE
    obtain ⟨c1,c2,c3,c4⟩:=fE
    cases hc
    rw[Option.bind_eq_some_iff] at hz
    obtain ⟨zv,h1,h2⟩:=hz
    have hv:=ay hF hl
    have hw:=ay hF l7
    simp only[HO.bn] at h
    split at h
    case h_2=>exact h.elim
    rename_i k1 n k2 m he hf
    rw[he] at hv
    rw[hf] at hw
    obtain ⟨⟨m0,m1,m2⟩,e1,e2⟩:=h
    have qF:VR φ (Own φ T) w z zv:=dJ h2
    have hzs:=fh qF c4
    rw[c1] at hzs
    have hks:∀x∈List.replicate m.toNat z,x.ax=i.size:=fun x hx=>by rw[List.eq_of_mem_replicate hx];exact c1
    have zm:=jw (zc:=zv.cells) (qM qF c4) c1 c2 m.toNat (fun j=>((Array.range (m.toNat*i.size)).map (zv.cells[· % zv.cells.size]!))[j]?) (fun j hj=>pO hzs c2 hj)
    have lK:m.toNat≤maxLen:=by unfold maxLen;omega
    refine ⟨⟨i.size,List.replicate m.toNat z,true,e⟩,_,m.toNat,.slice (some ⟨w.heap.size,0,none⟩) n.toNat m.toNat,e2.symm,c2,?_,by simp,by simp,fun _=>by simp,lK,hks,zm,fun φ' O' w' g1 g2=>?_⟩
    · simp only[execOp,ho,bP hv,bP hw,Sem.run_bind,qZ ht hi h1 c3 m0 m1 m2,Result.andThen_ok,Sem.run_pure]
    · rw[←e1]
      exact kY g1 (by omega) lK (fun q hq=>by simpa using hq) g2 (by simp)
  · split at hc
    case h_2=>simp at hc
    split at hc
    case isFalse=>obtain ⟨g,xs,rfl⟩:=Cn hc;simp[HO.bq] at ha
    split at hc
    case h_2=>simp at hc
    split at hc
    case h_2=>simp at hc
    split at hc
    case h_2=>simp at hc
    split at hc<;>cases hc
    simp[HO.bq] at ha
  · split at hc
    case isFalse=>obtain ⟨g,xs,rfl⟩:=FA hc;simp[HO.bq] at ha
    rw[Option.map_eq_some_iff] at hc
    obtain ⟨ej,h1,rfl⟩:=hc
    simp[HO.bq] at ha
  · rw[Option.map_eq_some_iff] at hc
    obtain ⟨ej,h1,rfl⟩:=hc
    simp[HO.bq] at ha
  · rw[Option.map_eq_some_iff] at hc
    obtain ⟨ej,h1,rfl⟩:=hc
    simp[HO.bq] at ha
  all_goals first
    | (have h9:=o8 hc;obtain ⟨g,xs,rfl⟩:=h9;simp[HO.bq] at ha;done)
    | (repeat' split at hc
       all_goals first | (simp at hc;done) | (cases hc;simp[HO.bq] at ha))
end
section
variable {P:Program}
theorem uY{b:Bool}{ops:Array Oper}:∀{os:List Oper}{l:List bQ},dr P b ops os=some l→l.length=os.length∧∀(i:Nat)(o:Oper),os[i]? = some o→∃x,l[i]? = some x∧l5 P b ops o=some x
 | [],l,h=>by simp[dr] at h;subst h;exact ⟨rfl,fun i o h=>by simp at h⟩
 | o::r,l,h=>by
  unfold dr at h
  split at h
  case h_2=>simp at h
  rename_i x s h1 h2
  cases h
  obtain ⟨k1,k2⟩:=uY h2
  refine ⟨by simp[k1],fun i o' ho=>?_⟩
  cases i with
  | zero=>simp at ho;subst ho;exact ⟨x,rfl,h1⟩
  | succ i=>simp at ho;obtain ⟨y,h3,h4⟩:=k2 i o' ho;exact ⟨y,by simpa using h3,h4⟩
theorem wC(ts:List AV)(d:Option Nat)(v:AV)(t:Nat):(bR ts d v).getD t .top=if d=some t∧t<ts.length then v else ts.getD t .top:=by
 cases d with
 | none=>simp[bR]
 | some d =>
  simp only[bR,List.getD,List.getElem?_set]
  by_cases e:d=t
  ·subst e
   by_cases hl:d<ts.length
   ·simp[hl]
   ·simp[hl]
  ·have:¬(some d=some t∧t<ts.length):=by simp[e]
   rw[if_neg e,if_neg this]
theorem oG{ts ts':List AV}{yes no:Prop}{g:Option (Nat×Bool)}(h:∀d w,g=some (d,w)→ts.getD d .top=ts'.getD d .top)(hg:bX ts yes no g):bX ts' yes no g:=by
 cases g with
 | none=>exact hg
 | some dw =>
  obtain ⟨d,w⟩:=dw
  simp only[bX] at hg ⊢
  rw[←h d w rfl]
  exact hg
theorem FL{ts:List AV}{yes no YZ no':Prop}(h1:yes→YZ)(h2:no→no'){g:Option (Nat×Bool)}(hg:bX ts yes no g):bX ts YZ no' g:=by
 cases g with
 | none=>exact h1 hg
 | some dw =>
  obtain ⟨d,w⟩:=dw
  simp only[bX] at hg ⊢
  split at hg
  ·exact ⟨fun e=>h1 (hg.1 e),fun e=>h2 (hg.2 e)⟩
  ·exact h2 hg
  ·exact hg.elim
theorem zI{ev l6:X→AV}{H:Y}{K Kp:AV→Y→Prop}{q:dX}(h:∀x∈q.xs,ev x=l6 x):pT P ev H K Kp q=pT P l6 H K Kp q:=by
 cases q with
 | p q=>exact PO.tM (K:=fun v=>K v H) h
 | h q=>exact HO.tM (K:=K) (Kp:=Kp) h
theorem wD{ev:X→AV}{H T:Y}{v:AV}{H':Y}{q:dX}(hc:q.bf=false)(ha:q.bq=false)(h:pT P ev H (fun v' oC=>v'=v∧oC=H') (fun _ _=>False) q)
  (hl:∀m ag a k id j f,q = .h (.load m ag a)→ev a = .ptr k id j f→Y.find T id=Y.find H id):H'=H∧pT P ev T (fun v' oC=>v'=v∧oC=T) (fun _ _=>False) q:=by
 cases q with
 | p q =>
  obtain ⟨u,⟨h1,h2⟩,h3⟩:=PO.pU (show PO.bn ev (fun v'=>v'=v∧H=H') q from h)
  refine ⟨h2.symm,?_⟩
  show PO.bn ev (fun v'=>v'=v∧T=T) q
  have e:(fun v':AV=>v'=v∧T=T)=fun v'=>v'=u:=by funext v';simp[h1]
  rw[e]
  exact h3
 | h q =>
  cases q with
  | load m ag a =>
   have h':=h
   simp only[pT,HO.bn] at h' ⊢
   split at h'
   ·rename_i k id j f he
    obtain ⟨blk,e,h1,h2,h3,h4,h5⟩:=h'
    exact ⟨h5.symm,blk,e,by rw[hl m ag a k id j f rfl he];exact h1,h2,h3,h4,trivial⟩
   ·obtain ⟨h1,h2,h3⟩:=h'
    exact ⟨h3.symm,h1,h2,trivial⟩
   ·exact h'.elim
  | dK k ty z ln ps =>
   obtain ⟨cs,⟨h1,h2⟩,h3⟩:=rk (show nk ev k (List.replicate ln z) ps (fun es=>AV.an k es (some [])=v∧H=H') from h)
   exact ⟨h2.symm,h3 _ ⟨h1,rfl⟩⟩
  | oY kd x=>exact (show False from h).elim
  | _=>first | (simp[dX.bf,HO.bf] at hc;done) | (simp[dX.bq,HO.bq] at ha;done)
theorem Cr{ev:X→AV}{H:Y}{v:AV}{H':Y}{q:dX}(ha:q.bq=true)(h:pT P ev H (fun v' oC=>v'=v∧oC=H') (fun _ _=>False) q):∃blk,H'=some blk::H:=by
 cases q with
 | p q=>simp[dX.bq] at ha
 | h q =>
  cases q with
  | alloc z ty=>exact ⟨_,h.2.symm⟩
  | box k ty x=>exact ⟨_,h.2.2.symm⟩
  | dh k ty z ln ps =>
   obtain ⟨cs,⟨h1,h2⟩,h3⟩:=rk (show nk ev k (List.replicate ln z) ps (fun es=>AV.aE k H.length 0 ln (some ln)=v∧some ⟨k,es,true,ty⟩::H=H') from h)
   exact ⟨_,h2.symm⟩
  | lN k ty z l c =>
   simp only[pT,HO.bn] at h
   split at h
   ·exact ⟨_,h.2.2.symm⟩
   ·exact h.elim
  | _=>simp[dX.bq,HO.bq] at ha
theorem Jn{ev:X→AV}{H:Y}{v:AV}{H':Y}{q:dX}(h:pT P ev H (fun v' oC=>v'=v∧oC=H') (fun _ _=>False) q):H.length≤H'.length:=by
 cases hc:q.bf with
 | false =>
  cases ha:q.bq with
  | false=>rw[(wD hc ha h (T:=H) (fun _ _ _ _ _ _ _ _ _=>rfl)).1];exact Nat.le_refl _
  | true=>obtain ⟨blk,rfl⟩:=Cr ha h;simp
 | true =>
  cases q with
  | p q=>simp[dX.bf] at hc
  | h q =>
   cases q with
   | store n a x =>
    simp only[pT,HO.bn] at h
    split at h
    ·obtain ⟨blk,e,h1,h2,h3,h4,h5⟩:=h;rw[←h5,Y.ah];exact Nat.le_refl _
    ·exact h.elim
   | gx g xs =>
    simp only[pT,HO.bn] at h
    rw[←h.2.2]
    exact GX.QX
   | dD k ty s x =>
    simp only[pT,HO.bn] at h
    obtain ⟨ys,h,_⟩:=FJ h
    split at h
    ·obtain ⟨h1,h2,h3⟩:=h
     by_cases e:ys=[]
     ·rw[←(h2 e).2];exact Nat.le_refl _
     ·rw[←(h3 e).2];simp
    ·rename_i k' id off n c _
     obtain ⟨blk,h1,h2,h3⟩:=h
     cases c with
     | none=>rw[←h3.2.2];simp[Y.ah]
     | some m =>
      obtain ⟨h4,h5,h6⟩:=h3
      by_cases e:n+ys.length≤m
      ·rw[←(h5 e).2,Y.ah];exact Nat.le_refl _
      ·rw[←(h6 (by omega)).2];simp
    ·exact h.elim
   | call f ej =>
    obtain ⟨e,H2,h1,h2⟩:=h
    cases e with
    | ret u=>rw[←h2.2];exact h1.1
    | bF u=>exact h2.elim
   | bM f ej =>
    simp only[pT,HO.bn] at h
    split at h
    ·obtain ⟨_,e,H2,h1,h2⟩:=h
     cases e with
     | ret u=>rw[←h2.2];exact h1.1
     | bF u=>exact h2.elim
    ·exact h.elim
   | bF x =>
    simp only[pT,HO.bn] at h
    split at h<;>exact h.elim
   | _=>simp[dX.bf,HO.bf] at hc
theorem j9.len{o:bQ}{ts:List AV}{H:Y}{v:AV}{H':Y}(h:j9 P o ts H v H'):H.length≤H'.length:=by
 rcases h with ⟨_,h⟩ | ⟨_,_,rfl⟩
 ·exact Jn h
 ·exact Nat.le_refl _
theorem j9.ext{o:bQ}{ts:List AV}{H:Y}{v:AV}{H':Y}(h:j9 P o ts H v H')(hc:o.op.bf=false):qI H H':=by
 rcases h with ⟨_,h⟩ | ⟨_,_,rfl⟩
 ·cases ha:o.op.bq with
  | false=>rw[(wD hc ha h (T:=H) (fun _ _ _ _ _ _ _ _ _=>rfl)).1];exact qI.refl _
  | true=>obtain ⟨blk,rfl⟩:=Cr ha h;exact qI.cons _ _
 ·exact qI.refl _
theorem uZ(p:Nat→Bool)(N:Nat):∀(k lo:Nat),lo+k=N→∃s,lo≤s∧s≤N∧(s=N∨p s=true)∧∀m,lo≤m→m<s→p m=false
 | 0,lo,h=>⟨lo,Nat.le_refl _,by omega,.inl (by omega),fun m h1 h2=>by omega⟩
 | k+1,lo,h=>by
  cases hp:p lo with
  | true=>exact ⟨lo,Nat.le_refl _,by omega,.inr hp,fun m h1 h2=>by omega⟩
  | false =>
   obtain ⟨s,h1,h2,h3,h4⟩:=uZ p N k (lo+1) (by omega)
   refine ⟨s,by omega,h2,h3,fun m g1 g2=>?_⟩
   by_cases e:m=lo
   ·rw[e];exact hp
   ·exact h4 m (by omega) g2
theorem qw{listed:Array Bool}{i j:Nat}(h:listed.getD j false=true):(listed.setIfInBounds i true).getD j false=true:=by
 simp only[Array.getD_eq_getD_getElem?,Array.getElem?_setIfInBounds] at h ⊢
 by_cases e:i=j
 ·subst e
  by_cases hl:i<listed.size
  ·simp[hl]
  ·simp[hl] at h
 ·rw[if_neg e];exact h
theorem cX{listed:Array Bool}{i j:Nat}(h:i≠j):(listed.setIfInBounds i true).getD j false=listed.getD j false:=by
 simp only[Array.getD_eq_getD_getElem?,Array.getElem?_setIfInBounds,if_neg h]
theorem gr{listed:Array Bool}{i:Nat}(h:i<listed.size):(listed.setIfInBounds i true).getD i false=true:=by
 simp[Array.getD_eq_getD_getElem?,Array.getElem?_setIfInBounds,h]
theorem rr:∀(l:List bQ)(ts:List AV),(iV l ts).length=ts.length∧∀t,(iV l ts).getD t .top = .top∨((iV l ts).getD t .top=ts.getD t .top∧∀o∈l,o.dst≠some t)
 | [],ts=>⟨rfl,fun t=>.inr ⟨rfl,by simp⟩⟩
 | o::r,ts=>by
  obtain ⟨h1,h2⟩:=rr r (bR ts o.dst .top)
  simp only[iV,List.foldl_cons] at h1 h2 ⊢
  refine ⟨by rw[h1,uV],fun t=>?_⟩
  rcases h2 t with h3 | ⟨h3,h4⟩
  ·exact .inl h3
  ·rw[wC] at h3
   by_cases e:o.dst=some t
   ·by_cases hl:t<ts.length
    ·rw[if_pos ⟨e,hl⟩] at h3
     exact .inl h3
    ·left
     rw[h3,if_neg (by simp[hl])]
     simp[List.getD,List.getElem?_eq_none (Nat.le_of_not_lt hl)]
   ·rw[if_neg (by simp[e])] at h3
    exact .inr ⟨h3,fun o' eA=>by
     rcases List.mem_cons.1 eA with rfl | eA
     ·exact e
     ·exact h4 o' eA⟩
end
section
variable {P:Program}
structure DI(ops:Array Oper)(l:List bQ)(N:Nat)(vs:Nat→AV)(Hs:Nat→Y)(ts:List AV)(H:Y)(φ:aH)(w0:World)(ds:List Deferred)(listed:Array Bool)(act:Act)(w:World):Prop where
 size:listed.size=ops.size
 lt:∀i,listed.getD i false=true→i<N
 cl:∀(j:Nat)(o:Oper),ops[j]? = some o→listed.getD j false=true→∀e∈o.after.toList,Region.binds .any e=true→listed.getD e.on false=true
 N3:act.defers=ds
 ex:∃(φ':aH)(s:Nat),s≤N∧(∀(c:Nat)(x:bQ),l[c]? = some x→x.op.bf=true→(listed.getD c false=true↔c<s))∧(s=N∨∃x:bQ,l[s]? = some x∧x.op.bf=true)∧Rel φ' (Hs s) w∧Step φ H w0 φ' (Hs s) w∧
  (∀(i:Nat)(x:bQ),l[i]? = some x→x.op.bq=true→i<N→(Hs i).length<(Hs (i+1)).length→listed.getD i false=false→φ' (Hs i).length=none)∧
  act.tmps.size=ts.length∧(∀(i:Nat)(x:bQ)(d:Nat),l[i]? = some x→x.dst=some d→d<ts.length→listed.getD i false=true→VR φ' (Own φ' (Hs s)) w (vs i) (act.tmps.getD d undef))∧
  (∀t:Nat,(∀(i:Nat)(x:bQ),l[i]? = some x→x.dst=some t→listed.getD i false=false)→VR φ' (Own φ' (Hs s)) w (ts.getD t .top) (act.tmps.getD t undef))
theorem Cs(a:Act)(d:Option Tmp)(u:Value)(t:Nat):(a.put d u).tmps.getD t undef=if d=some t∧t<a.tmps.size then u else a.tmps.getD t undef:=by
 cases d with
 | none=>simp[Act.put]
 | some d =>
  simp only[Act.put,Array.getD_eq_getD_getElem?,Array.getElem?_setIfInBounds]
  by_cases e:d=t
  ·subst e
   by_cases hl:d<a.tmps.size
   ·simp[hl]
   ·simp[hl]
  ·have:¬(some d=some t∧t<a.tmps.size):=by simp[e]
   rw[if_neg e,if_neg this]
theorem N4(a:Act)(d:Option Tmp)(u:Value):(a.put d u).tmps.size=a.tmps.size:=by
 cases d<;>simp[Act.put]
def DQ(ops:Array Oper)(K:List AV→Y→Prop)(H:Y)(φ:aH)(w0:World)(ds:List Deferred)(listed:Array Bool)(act:Act)(w:World):Prop :=
 (listed.size=ops.size∧∀i,i<ops.size→listed.getD i false=true)∧∃ts' φ' H',K ts' H'∧FR φ' (Own φ' H') w ts' act∧Rel φ' H' w∧Step φ H w0 φ' H' w∧act.defers=ds
set_option maxHeartbeats 2000000 in
theorem u0{b:Bool}{ops:Array Oper}{l l0:List bQ}{last:Option bQ}{A:List (List Nat)}(hc:dr P b ops ops.toList=some l)(hl:l=l0++last.toList)(hA:wB ops A=true)(hD:BF l A=true)
    (RO:∀o,last=some o→(List.range l0.length).all (fun j=>jV A l0.length j)=true)
    {Q:Exit→Act→World→Prop}{K K':List AV→Y→Prop}{Kp:AV→List AV→Y→Prop}{φ:aH}{H:Y}{w:World}{ts:List AV}{a:Act}
    (hR:Rel φ H w)(hF:FR φ (Own φ H) w ts a)(h:nq P A l0.length K' (fun v H'=>Kp v (iV l0 ts) H') 0 l0 ts H [] [])
    (hK:∀fG H1,K' fG H1→(last=none→K fG H1)∧∀o,last=some o→bX fG (RC P (X.ev fG) H1 (fun v H'=>K (bR fG o.dst v) H') (fun v H'=>Kp v fG H') o.op) (K (bR fG o.dst (.aG [])) H1) o.guard)
    (hk:lF Q K φ H w a.defers)(hp:kZ Q Kp φ H w a.defers):wpAny P .any ops Q ops.size (Array.replicate ops.size false) a { w with drawn:=w.drawn+1 }:=by
  obtain ⟨N,vs,Hs,fs,hrd,BG,NG⟩:=nr l0 0 ts H [] [] h
  have hN0:N≤l0.length:=by simpa using hrd.hi
  have eF:l.length=l0.length+last.toList.length:=by rw[hl,List.length_append]
  have lY:∀(m:Nat)(x:bQ),m<N→l[m]? = some x→l0[m]? = some x:=fun m x hm hx=>by
    rw[hl,List.getElem?_append_left (by omega)] at hx
    exact hx
  obtain ⟨hlen,ke⟩:=uY hc
  have hls:l.length=ops.size:=by simpa using hlen
  have hNl:N≤l.length:=by omega
  have hx:∀i,i<ops.size→∃o x,ops[i]? = some o∧l[i]? = some x∧l5 P b ops o=some x:=by
    intro i hi
    obtain ⟨x,h1,h2⟩:=ke i ops[i] (by simp[hi])
    exact ⟨ops[i],x,by simp[hi],h1,h2⟩
  have hst:∀(m:Nat)(x:bQ),m<N→l[m]? = some x→fs (m+1)=bR (fs m) x.dst (vs m)∧j9 P x (fs m) (Hs m) (vs m) (Hs (m+1)):=fun m x wA hx=>hrd.step m x (Nat.zero_le _) wA (by simpa using lY m x wA hx)
  have FM:∀m,m<N→∃x,l[m]? = some x:=fun m wA=>⟨l[m]'(by omega),by simp[show m<l.length by omega]⟩
  have WP:∀m,m<N→(Hs m).length≤(Hs (m+1)).length:=fun m wA=>by
    obtain ⟨x,hx⟩:=FM m wA
    exact (hst m x wA hx).2.len
  have aay:∀k m,m+k≤N→(Hs m).length≤(Hs (m+k)).length:=by
    intro k
    induction k with
    | zero=>intro m _;exact Nat.le_refl _
    | succ k ih=>intro m hmk;exact Nat.le_trans (ih m (by omega)) (WP (m+k) (by omega))
  have mC:∀m m',m≤m'→m'≤N→(Hs m).length≤(Hs m').length:=fun m m' h1 h2=>by
    have:=aay (m' - m) m (by omega)
    rwa [show m+(m' - m)=m' from by omega] at this
  have RP:∀k lo,lo+k≤N→(∀(m:Nat)(x:bQ),lo≤m→m<lo+k→l[m]? = some x→x.op.bf=false)→qI (Hs lo) (Hs (lo+k)):=by
    intro k
    induction k with
    | zero=>intro lo _ _;exact qI.refl _
    | succ k ih =>
      intro lo h1 h2
      obtain ⟨x,hx⟩:=FM (lo+k) (by omega)
      exact (ih lo (by omega) fun m x g1 g2 g3=>h2 m x g1 (by omega) g3).trans ((hst (lo+k) x (by omega) hx).2.ext (h2 (lo+k) x (by omega) (by omega) hx))
  have N5:∀i,i≤N→(fs i).length=ts.length:=by
    intro i
    induction i with
    | zero=>intro _;rw[NG]
    | succ i ih =>
      intro hi
      obtain ⟨x,hx⟩:=FM i (by omega)
      rw[(hst i x (by omega) hx).1,uV,ih (by omega)]
  have WQ:∀i,i≤N→∀t:Nat,(∀(j:Nat)(x:bQ),j<i→l[j]? = some x→x.dst≠some t)→(fs i).getD t .top=ts.getD t .top:=by
    intro i
    induction i with
    | zero=>intro _ t _;rw[NG]
    | succ i ih =>
      intro hi t ht
      obtain ⟨x,hx⟩:=FM i (by omega)
      rw[(hst i x (by omega) hx).1,wC,if_neg (fun e=>ht i x (by omega) hx e.1)]
      exact ih (by omega) t fun j y hj hy=>ht j y (by omega) hy
  have hfW:∀i,i≤N→∀(j:Nat)(x:bQ)(t:Nat),j<i→l[j]? = some x→x.dst=some t→t<ts.length→(fs i).getD t .top=vs j:=by
    intro i
    induction i with
    | zero=>intro _ j x t hj;omega
    | succ i ih =>
      intro hi j x t hj hxj hd ht
      obtain ⟨y,hy⟩:=FM i (by omega)
      rw[(hst i y (by omega) hy).1,wC,N5 i (by omega)]
      by_cases e:j=i
      · subst e
        rw[hxj] at hy
        cases hy
        rw[if_pos ⟨hd,ht⟩]
      · rw[if_neg (fun e2=>e ((dL hD hy hxj).2.1 t hd e2.1))]
        exact ih (by omega) j x t (by omega) hxj hd ht
  refine zF (fun li ac ww=>DI ops l N vs Hs ts H φ w a.defers li ac ww∨DQ ops K H φ w a.defers li ac ww) (fun _ _ _ hI=>hI.elim (fun h=>h.size) fun h=>h.1.1) ?_ ?_ ops.size _ a _ ?_ (by omega)
  case refine_3 =>
    obtain ⟨s,h1,h2,h3,h4⟩:=uZ (fun m=>match l[m]? with | some x=>x.op.bf | none=>false) N N 0 (by omega)
    have pN:∀i,(Array.replicate ops.size false).getD i false=false:=fun i=>by simp[Array.getD]
    have hE:qI (Hs 0) (Hs s):=by
      have:=RP s 0 (by omega) fun m x g1 g2 g3=>by have:=h4 m g1 (by omega);rw[g3] at this;exact this
      rwa [Nat.zero_add] at this
    rw[BG] at hE
    obtain ⟨r1,r2⟩:=(mQ hR).ext hE
    have r3:=(fY φ H w).trans r2
    refine .inl ⟨by simp,fun i hi=>by rw[pN] at hi;simp at hi,fun j o ho hl=>by rw[pN] at hl;simp at hl,rfl,φ,s,h2,fun c x l7 hch=>?_,?_,r1,r3,fun i x BH hal RQ _ _=>?_,hF.1,fun i x d _ _ _ hl=>by rw[pN] at hl;simp at hl,fun t _=>r3.vr (hF.2 t)⟩
    · rw[pN]
      refine ⟨fun e=>by simp at e,fun e=>?_⟩
      have:=h4 c (by omega) e
      rw[l7] at this
      simp only at this
      rw[hch] at this
      simp at this
    · rcases h3 with h3 | h3
      · exact .inl h3
      · split at h3
        · rename_i x hx;exact .inr ⟨x,hx,h3⟩
        · simp at h3
    · cases Jo:φ (Hs i).length with
      | none=>rfl
      | some b =>
        have g1:=(hR.dom _ _ Jo).1
        have g2:=mC 0 i (by omega) (by omega)
        rw[BG] at g2
        omega
  case refine_1 =>
    intro listed act w' hI hr
    rcases hI with hI | ⟨_,ts',φ',H',q1,q2,q3,q4,q5⟩
    case inr=>exact hk ts' act φ' H' w' q1 q2 q3 q4 q5
    have hall:=FK hA hI.size hr
    have hN:N=ops.size:=by
      rcases Nat.lt_or_ge N ops.size with h1 | h1
      · have:=hI.lt N (hall (N+1) N (by omega) h1)
        omega
      · omega
    obtain ⟨φ',s,h1,h2,h3,h4,h5,h6,h7,h8,h9⟩:=hI.ex
    have hs:s=N:=by
      rcases h3 with h3 | ⟨x,hx,hch⟩
      · exact h3
      · have pV:s<l.length:=(List.getElem?_eq_some_iff.1 hx).1
        have:=(h2 s x hx hch).1 (hall (s+1) s (by omega) (by omega))
        omega
    subst hs
    rcases hrd.fin with ⟨g1,g2⟩ | ⟨o,v,H',g1,_⟩
    · have hno:last=none:=by
        cases hlo:last with
        | none=>rfl
        | some o=>rw[hlo] at eF;simp at eF;omega
      have g2:=(hK _ _ g2).1 hno
      refine hk (fs s) act φ' (Hs s) w' g2 ⟨by rw[h7,N5 s (Nat.le_refl _)],fun t=>?_⟩ h4 h5 hI.N3
      by_cases hw:∃(j:Nat)(x:bQ),l[j]? = some x∧x.dst=some t
      · obtain ⟨j,x,hj,hd⟩:=hw
        have tG:j<l.length:=(List.getElem?_eq_some_iff.1 hj).1
        by_cases ht:t<ts.length
        · rw[hfW s (Nat.le_refl _) j x t (by omega) hj hd ht]
          exact h8 j x t hj hd ht (hall (j+1) j (by omega) (by omega))
        · have:(fs s).getD t .top = .top:=by
            simp[List.getD,List.getElem?_eq_none (show (fs s).length≤t by rw[N5 s (Nat.le_refl _)];omega)]
          rw[this]
          exact lE _
      · have hno:∀(i:Nat)(x:bQ),l[i]? = some x→x.dst≠some t:=fun i x hi hd=>hw ⟨i,x,hi,hd⟩
        rw[WQ s (Nat.le_refl _) t fun j x _ hj=>hno j x hj]
        exact h9 t fun i x hi hd=>absurd hd (hno i x hi)
    · have:=(List.getElem?_eq_some_iff.1 g1).1
      omega
  case refine_2 =>
    intro listed act w' i hI hi
    obtain ⟨oD,hnt,RR⟩:=ri hi
    rcases hI with hI | ⟨⟨q0,q1⟩,_⟩
    case inr =>
      have h1:=q1 i oD
      have h2:i<listed.size:=by omega
      simp[Array.getD,h2] at hnt h1
      rw[h1] at hnt
      simp at hnt
    have Ct:i<listed.size:=by rw[hI.size];exact oD
    have hnl:listed.getD i false=false:=by
      simp[Array.getD,Ct] at hnt ⊢
      exact hnt
    obtain ⟨o,x,ho,k8,l7⟩:=hx i oD
    obtain ⟨u7,hgd⟩:=tJ l7
    have u9:∀j,jV A i j=true→listed.getD j false=true:=sD hA hI.cl (i+1) i o (by omega) ho (RR o ho)
    have RQ:i≤N:=by
      rcases Nat.lt_or_ge N i with h1 | h1
      · exfalso
        have aeS:last.toList.length≤1:=by cases last<;>simp
        rcases hrd.fin with ⟨g1,_⟩ | ⟨o',v',H',gg,_,g3,_⟩
        · omega
        · have aeT:N<l0.length:=by
            have:=(List.getElem?_eq_some_iff.1 gg).1
            omega
          by_cases I1:i<l0.length
          · unfold oB at g3
            have:=List.all_eq_true.1 g3 i (by simp;omega)
            simp only[Bool.or_eq_true,decide_eq_true_eq] at this
            rcases this with h2 | h2
            · omega
            · have:=hI.lt N (u9 N h2)
              omega
          · cases hlo:last with
            | none=>rw[hlo] at eF;simp at eF;omega
            | some lo =>
              rw[hlo] at eF
              simp at eF
              have hie:i=l0.length:=by omega
              have h2:=List.all_eq_true.1 (RO lo hlo) N (by simp;omega)
              rw[←hie] at h2
              have:=hI.lt N (u9 N h2)
              omega
      · exact h1
    obtain ⟨φ',s,hs1,sU,FN,D7,D8,N6,RS,hs8,RT⟩:=hI.ex
    obtain ⟨N7,Y0,Y1,Y2⟩:∃N7:Nat→AV,(∀(j:Nat)(y:bQ)(t:Nat),l[j]? = some y→y.dst=some t→listed.getD j false=true→N7 t=vs j)∧
        (∀t:Nat,(∀(j:Nat)(y:bQ),l[j]? = some y→y.dst≠some t)→N7 t=ts.getD t .top)∧(∀(j:Nat)(y:bQ)(t:Nat),l[j]? = some y→y.dst=some t→listed.getD j false=false→N7 t=ts.getD t .top):=by
      classical
      refine ⟨fun t=>if hh:∃(j:Nat)(y:bQ),l[j]? = some y∧y.dst=some t∧listed.getD j false=true then vs hh.choose else ts.getD t .top,?_,?_,?_⟩
      · intro j y t hj hd hl
        have hh:∃(j:Nat)(y:bQ),l[j]? = some y∧y.dst=some t∧listed.getD j false=true:=⟨j,y,hj,hd,hl⟩
        obtain ⟨y',c1,c2,c3⟩:=hh.choose_spec
        have:hh.choose=j:=(dL hD hj c1).2.1 t c2 hd
        simp only
        rw[dif_pos hh,this]
      · intro t ht
        simp only
        rw[dif_neg (fun ⟨j,y,h1,h2,_⟩=>ht j y h1 h2)]
      · intro j y t hj hd hl
        simp only
        rw[dif_neg (fun ⟨j',y',h1,h2,h3⟩=>by
          have:=(dL hD hj h1).2.1 t h2 hd
          rw[this,hl] at h3
          simp at h3)]
    let zJ:List AV:=(List.range ts.length).map N7
    have Y3:∀t,t<ts.length→zJ.getD t .top=N7 t:=fun t ht=>by simp[zJ,List.getD,ht]
    have Y4:∀t,ts.length≤t→zJ.getD t .top = .top:=fun t ht=>by simp[zJ,List.getD,ht]
    have D9:FR φ' (Own φ' (Hs s)) w' zJ act:=by
      refine ⟨by simp[zJ,RS],fun t=>?_⟩
      by_cases ht:t<ts.length
      · rw[Y3 t ht]
        by_cases hw:∃(j:Nat)(y:bQ),l[j]? = some y∧y.dst=some t
        · obtain ⟨j,y,hj,hd⟩:=hw
          cases hl:listed.getD j false with
          | true=>rw[Y0 j y t hj hd hl];exact hs8 j y t hj hd ht hl
          | false =>
            rw[Y2 j y t hj hd hl]
            exact RT t fun j' y' hj' hd'=>by
              have:=(dL hD hj hj').2.1 t hd' hd
              rw[this]
              exact hl
        · have hno:∀(j:Nat)(y:bQ),l[j]? = some y→y.dst≠some t:=fun j y hj hd=>hw ⟨j,y,hj,hd⟩
          rw[Y1 t hno]
          exact RT t fun j y hj hd=>absurd hd (hno j y hj)
      · rw[Y4 t (by omega)]
        exact lE _
    have RU:∀t,t∈sC x→zJ.getD t .top=(fs i).getD t .top:=by
      intro t eJ
      by_cases ht:t<ts.length
      · rw[Y3 t ht]
        by_cases hw:∃(j:Nat)(y:bQ),l[j]? = some y∧y.dst=some t
        · obtain ⟨j,y,hj,hd⟩:=hw
          rcases (dL hD k8 hj).2.2.1 t hd eJ with h1 | h1
          · have h2:=(dL hD k8 hj).1 j h1
            rw[Y0 j y t hj hd (u9 j h1),hfW i RQ j y t h2 hj hd ht]
          · have h2:=(dL hD hj k8).1 i h1
            have tG:j<l.length:=(List.getElem?_eq_some_iff.1 hj).1
            have hno:listed.getD j false=false:=by
              cases hq:listed.getD j false with
              | false=>rfl
              | true =>
                obtain ⟨oj,yj,m1,m2,_⟩:=hx j (by omega)
                have:=sD hA hI.cl (j+1) j oj (by omega) m1 (hI.cl j oj m1 hq) i h1
                rw[hnl] at this
                simp at this
            rw[Y2 j y t hj hd hno,WQ i RQ t fun j' y' aeU hj' hd'=>by
              have:=(dL hD hj hj').2.1 t hd' hd
              omega]
        · have hno:∀(j:Nat)(y:bQ),l[j]? = some y→y.dst≠some t:=fun j y hj hd=>hw ⟨j,y,hj,hd⟩
          rw[Y1 t hno,WQ i RQ t fun j y _ hj=>hno j y hj]
      · rw[Y4 t (by omega)]
        simp[List.getD,List.getElem?_eq_none (show (fs i).length≤t by rw[N5 i RQ];omega)]
    have hev:∀y∈x.op.xs,X.ev (fs i) y=X.ev zJ y:=by
      intro y hy
      cases y with
      | k v=>rfl
      | t t =>
        simp only[X.ev]
        exact (RU t (by unfold sC;exact List.mem_append_left _ (List.mem_filterMap.2 ⟨.t t,hy,rfl⟩))).symm
    have RX:∀d wt,x.guard=some (d,wt)→(fs i).getD d .top=zJ.getD d .top:=by
      intro d wt hg
      exact (RU d (by unfold sC;rw[hg];simp)).symm
    have RY:∀(df:aH)(s2:Nat)(w2:World)(u:Value),i<N→s2≤N→(∀(c:Nat)(y:bQ),l[c]? = some y→y.op.bf=true→((listed.setIfInBounds i true).getD c false=true↔c<s2))→(s2=N∨∃y:bQ,l[s2]? = some y∧y.op.bf=true)→Rel df (Hs s2) w2→
        Later (fun _=>True) φ' df (Own φ' (Hs s)) (Own df (Hs s2)) w' w2→(∀id,id<H.length→df id=φ' id)→w2.os=w'.os→w2.tape=w'.tape→w2.output=w'.output→
        (∀(j:Nat)(y:bQ),l[j]? = some y→y.op.bq=true→j<N→(Hs j).length<(Hs (j+1)).length→(listed.setIfInBounds i true).getD j false=false→df (Hs j).length=none)→VR df (Own df (Hs s2)) w2 (vs i) u→
        DI ops l N vs Hs ts H φ w a.defers (listed.setIfInBounds i true) (act.put o.dst u) w2∨DQ ops K H φ w a.defers (listed.setIfInBounds i true) (act.put o.dst u) w2:=by
      intro df s2 w2 u aeV g1 g2 g3 g4 g5 g6 g7 g8 g9 g10 g11
      refine .inl ⟨by simpa using hI.size,fun j hj=>?_,fun j oj hoj hj e he hb=>?_,by rw[put_defers];exact hI.N3,df,s2,g1,g2,g3,g4,⟨D8.toLater.trans g5,g7.trans D8.os,g8.trans D8.tape,g9.trans D8.output,?_,fun id hid=>(g6 id hid).trans (D8.old id hid)⟩,g10,by rw[N4];exact RS,fun j y d hj hd hdl hl=>?_,fun t ht=>?_⟩
      · by_cases e:i=j
        · omega
        · rw[cX e] at hj
          exact hI.lt j hj
      · by_cases e2:i=j
        · subst e2
          rw[ho] at hoj
          cases hoj
          exact qw (RR o ho e he hb)
        · rw[cX e2] at hj
          exact qw (hI.cl j oj hoj hj e he hb)
      · have:=mC 0 s2 (Nat.zero_le _) g1
        rwa [BG] at this
      · rw[Cs]
        by_cases e:i=j
        · subst e
          rw[k8] at hj
          cases hj
          rw[if_pos ⟨by rw[←u7];exact hd,by rw[RS];exact hdl⟩]
          exact g11
        · rw[if_neg (fun e2=>e ((dL hD hj k8).2.1 d (by rw[u7];exact e2.1) hd))]
          rw[cX e] at hl
          exact oU g5 (AV.jK _) (hs8 j y d hj hd hdl hl)
      · rw[Cs,if_neg (fun e2=>by
          have:=ht i x k8 (by rw[u7];exact e2.1)
          rw[gr Ct] at this
          simp at this)]
        exact oU g5 (AV.jK _) (RT t fun j y hj hd=>by
          have:=ht j y hj hd
          by_cases e:i=j
          · rw[←e];exact hnl
          · rw[cX e] at this;exact this)
    have zK:x.op.bf=false→∀(c:Nat)(y:bQ),l[c]? = some y→y.op.bf=true→((listed.setIfInBounds i true).getD c false=true↔c<s):=by
      intro hnc c y zH hch
      have e:i≠c:=fun e=>by
        subst e
        rw[k8] at zH
        cases zH
        rw[hnc] at hch
        simp at hch
      rw[cX e]
      exact sU c y zH hch
    have RZ:x.op.bq=false→∀(j:Nat)(y:bQ),l[j]? = some y→y.op.bq=true→j<N→(Hs j).length<(Hs (j+1)).length→(listed.setIfInBounds i true).getD j false=false→φ' (Hs j).length=none:=by
      intro hna j y hj hal zL hlt hu
      have e:i≠j:=fun e=>by
        subst e
        rw[k8] at hj
        cases hj
        rw[hna] at hal
        simp at hal
      rw[cX e] at hu
      exact N6 j y hj hal zL hlt hu
    unfold wpOp
    rw[ho]
    simp only
    rcases Nat.lt_or_ge i N with hlt | hge
    case inr =>
      have acO:i=N:=by omega
      subst acO
      rcases hrd.fin with ⟨g1,gk⟩ | ⟨o',v',H',g1,⟨g2,g3,g4⟩,g5,g6⟩
      ·
        cases hlo:last with
        | none=>rw[hlo] at eF;simp at eF;omega
        | some lo =>
          have hie:i=l0.length:=by omega
          have tF:x=lo:=by
            rw[hl,hlo,hie] at k8
            simp at k8
            exact k8.symm
          subst tF
          have eW:=(hK _ _ gk).2 x hlo
          have tG:∀j,j<i→listed.getD j false=true:=fun j hj=>u9 j (by
            rw[hie]
            exact List.all_eq_true.1 (RO x hlo) j (by simp;omega))
          have hs:s=i:=by
            rcases FN with h1 | ⟨y,h1,h2⟩
            · exact h1
            · rcases Nat.lt_or_ge s i with h3 | h3
              · have:=(sU s y h1 h2).1 (tG s h3)
                omega
              · omega
          subst hs
          have R1:FR φ' (Own φ' (Hs s)) w' (fs s) act:=by
            refine ⟨by rw[RS,N5 s (Nat.le_refl _)],fun t=>?_⟩
            by_cases hw:∃(j:Nat)(y:bQ),j<s∧l[j]? = some y∧y.dst=some t
            · obtain ⟨j,y,hjs,hj,hd⟩:=hw
              by_cases ht:t<ts.length
              · rw[hfW s (Nat.le_refl _) j y t hjs hj hd ht]
                exact hs8 j y t hj hd ht (tG j hjs)
              · have:(fs s).getD t .top = .top:=by
                  simp[List.getD,List.getElem?_eq_none (show (fs s).length≤t by rw[N5 s (Nat.le_refl _)];omega)]
                rw[this]
                exact lE _
            · have hno:∀(j:Nat)(y:bQ),j<s→l[j]? = some y→y.dst≠some t:=fun j y h1 h2 h3=>hw ⟨j,y,h1,h2,h3⟩
              rw[WQ s (Nat.le_refl _) t hno]
              refine RT t fun j y hj hd=>?_
              cases hq:listed.getD j false with
              | false=>rfl
              | true=>exact absurd hd (hno j y (hI.lt j hq) hj)
          have fF:∀m,m<ops.size→(listed.setIfInBounds s true).getD m false=true:=fun m hm=>by
            by_cases e:s=m
            · subst e;exact gr Ct
            · rw[cX e]
              refine tG m ?_
              rw[hlo] at eF
              simp at eF
              omega
          rcases gD hgd R1 eW with ⟨hw,hy⟩ | ⟨hw,hn⟩
          · rw[if_pos hw]
            left
            refine D5 l7 D7 R1 hy (fun v u df H2 w2 k1 k2 k3 k4=>?_) (fun v u df H2 w2 k1 k2 k3 k4=>?_)
            · refine .inr ⟨⟨by simpa using hI.size,fF⟩,_,df,H2,k1,?_,k3,D8.trans k4,by rw[put_defers];exact hI.N3⟩
              rw[u7]
              exact (FR.step k4 R1).put _ k2
            · exact hp v u (fs s) act df H2 w2 k1 k2 (FR.step k4 R1) k3 (D8.trans k4) hI.N3
          · rw[if_neg (by rw[hw];simp)]
            refine .inr ⟨⟨by simpa using hI.size,fF⟩,_,φ',_,hn,?_,D7,D8,by rw[put_defers];exact hI.N3⟩
            rw[u7]
            exact R1.put _ mR
      · have g1:l0[i]? = some o':=g1
        have I1:i<l0.length:=(List.getElem?_eq_some_iff.1 g1).1
        have Y5:=k8
        rw[hl,List.getElem?_append_left I1,g1] at Y5
        cases Y5
        have hs:s=i:=by
          rcases FN with h1 | ⟨y,h1,h2⟩
          · exact h1
          · rcases Nat.lt_or_ge s i with h3 | h3
            · have h4:=(dL hD k8 h1).2.2.2 h3 (.inl ⟨g3,h2⟩)
              have:=(sU s y h1 h2).1 (u9 s h4)
              omega
            · omega
        subst hs
        rcases gD hgd D9 (oG RX g2) with ⟨hw,_⟩ | ⟨_,hf⟩
        · rw[if_pos hw]
          left
          rw[zI hev] at g4
          refine zC l7 D7 D9 g4 (fun v u df H2 w2 k1=>k1.elim) (fun v u df H2 w2 k1 k2 k3 k4=>?_)
          obtain ⟨rfl,rfl⟩:=k1
          refine hp v u (iV l0 ts) act df H2 w2 g6 k2 ⟨by rw[RS,(rr l0 ts).1],fun t=>?_⟩ k3 (D8.trans k4) hI.N3
          rcases (rr l0 ts).2 t with h1 | ⟨h1,h2⟩
          · rw[h1];exact lE _
          · rw[h1]
            exact k4.vr (RT t fun j y hj hd=>by
              cases hq:listed.getD j false with
              | false=>rfl
              | true=>exact absurd hd (h2 y (List.mem_of_getElem? (lY j y (hI.lt j hq) hj))))
        · exact hf.elim
    case inl =>
      have hsi:=(hst i x hlt k8).2
      have hno:bX zJ False True x.guard→Region.wanted o (yielded ops act.tmps)=false:=fun hg=>by
        rcases gD hgd D9 hg with ⟨_,hf⟩ | ⟨hw,_⟩
        · exact hf.elim
        · exact hw
      rcases hsi with ⟨hg,hop⟩ | ⟨hg,hv,RN⟩
      case inr =>
        rw[if_neg (by rw[hno (oG RX hg)];simp)]
        have hsame:∀s2 w2,Later (fun _=>True) φ' φ' (Own φ' (Hs s2)) (Own φ' (Hs s2)) w2 w2:=fun _ _=>Later.refl
        have hvu:∀(df:aH)(O2:Nat→Prop),VR df O2 w' (vs i) undef:=fun _ _=>by rw[hv];exact mR
        cases hch:x.op.bf with
        | false =>
          refine RY φ' s w' undef hlt hs1 (zK hch) FN D7 Later.refl (fun _ _=>rfl) rfl rfl rfl (fun j y hj hal zL dW hu=>?_) (hvu _ _)
          by_cases e:i=j
          · subst e
            rw[RN] at dW
            omega
          · rw[cX e] at hu
            exact N6 j y hj hal zL dW hu
        | true =>
          have WR:s=i:=by
            have h1:¬i<s:=fun h1=>by
              have:=(sU i x k8 hch).2 h1
              rw[hnl] at this
              simp at this
            rcases FN with h2 | ⟨y,h2,h3⟩
            · omega
            · rcases Nat.lt_or_ge s i with h4 | h4
              · have h5:=(dL hD k8 h2).2.2.2 h4 (.inl ⟨hch,h3⟩)
                have:=(sU s y h2 h3).1 (u9 s h5)
                omega
              · omega
          subst WR
          obtain ⟨s2,n1,n2,n3,n4⟩:=uZ (fun m=>match l[m]? with | some y=>y.op.bf | none=>false) N (N - (s+1)) (s+1) (by omega)
          have hE:qI (Hs (s+1)) (Hs s2):=by
            have:=RP (s2 - (s+1)) (s+1) (by omega) fun m y g1 g2 g3=>by have:=n4 m g1 (by omega);rw[g3] at this;exact this
            rwa [show s+1+(s2 - (s+1))=s2 from by omega] at this
          rw[RN] at hE
          obtain ⟨r1,r2⟩:=D7.ext hE
          refine RY φ' s2 w' undef hlt n2 (fun c y R2 fE=>?_) ?_ r1 r2.toLater (fun _ _=>rfl) rfl rfl rfl (fun j y hj hal zL dW hu=>?_) (hvu _ _)
          · by_cases e:s=c
            · subst e
              rw[gr Ct]
              simp;omega
            · rw[cX e,sU c y R2 fE]
              constructor
              · intro h;omega
              · intro h
                rcases Nat.lt_or_ge c (s+1) with h1 | h1
                · omega
                · have:=n4 c h1 h
                  rw[R2] at this
                  simp only at this
                  rw[fE] at this
                  simp at this
          · rcases n3 with h3 | h3
            · exact .inl h3
            · split at h3
              · rename_i y hy;exact .inr ⟨y,hy,h3⟩
              · simp at h3
          · by_cases e:s=j
            · subst e
              rw[RN] at dW
              omega
            · rw[cX e] at hu
              exact N6 j y hj hal zL dW hu
      case inl =>
        rcases gD hgd D9 (oG RX hg) with ⟨hw,_⟩ | ⟨_,hf⟩
        case inr=>exact hf.elim
        rw[if_pos hw]
        left
        have L6:=hop
        rw[zI hev] at hop
        cases hch:x.op.bf with
        | true =>
          have WR:s=i:=by
            have h1:¬i<s:=fun h1=>by
              have:=(sU i x k8 hch).2 h1
              rw[hnl] at this
              simp at this
            rcases FN with h2 | ⟨y,h2,h3⟩
            · omega
            · rcases Nat.lt_or_ge s i with h4 | h4
              · have h5:=(dL hD k8 h2).2.2.2 h4 (.inl ⟨hch,h3⟩)
                have:=(sU s y h2 h3).1 (u9 s h5)
                omega
              · omega
          subst WR
          refine zC l7 D7 D9 hop (fun v u df H2 w2 k1 k2 k3 k4=>?_) (fun v u df H2 w2 k1=>k1.elim)
          obtain ⟨rfl,rfl⟩:=k1
          obtain ⟨s2,n1,n2,n3,n4⟩:=uZ (fun m=>match l[m]? with | some y=>y.op.bf | none=>false) N (N - (s+1)) (s+1) (by omega)
          have hE:qI (Hs (s+1)) (Hs s2):=by
            have:=RP (s2 - (s+1)) (s+1) (by omega) fun m y g1 g2 g3=>by have:=n4 m g1 (by omega);rw[g3] at this;exact this
            rwa [show s+1+(s2 - (s+1))=s2 from by omega] at this
          obtain ⟨r1,r2⟩:=k3.ext hE
          have k5:=k4.trans r2
          have lY:H.length≤(Hs s).length:=by
            have:=mC 0 s (Nat.zero_le _) hs1
            rwa [BG] at this
          refine RY df s2 w2 u hlt n2 (fun c y R2 fE=>?_) ?_ r1 k5.toLater (fun id hid=>k5.old id (by omega)) k5.os k5.tape k5.output (fun j y hj hal zL dW hu=>?_) (r2.vr k2)
          · by_cases e:s=c
            · subst e
              rw[gr Ct]
              simp;omega
            · rw[cX e,sU c y R2 fE]
              constructor
              · intro h;omega
              · intro h
                rcases Nat.lt_or_ge c (s+1) with h1 | h1
                · omega
                · have:=n4 c h1 h
                  rw[R2] at this
                  simp only at this
                  rw[fE] at this
                  simp at this
          · rcases n3 with h3 | h3
            · exact .inl h3
            · split at h3
              · rename_i y hy;exact .inr ⟨y,hy,h3⟩
              · simp at h3
          · have e:s≠j:=fun e=>by
              subst e
              rw[k8] at hj
              cases hj
              cases N8:x.op with
              | p q=>rw[N8] at hal;simp[dX.bq] at hal
              | h q=>rw[N8] at hal hch;cases q<;>simp[dX.bq,HO.bq,dX.bf,HO.bf] at hal hch
            rw[cX e] at hu
            rcases Nat.lt_or_ge j s with h1 | h1
            · have h2:=N6 j y hj hal zL dW hu
              have h3:(Hs j).length<(Hs s).length:=by
                have:=mC (j+1) s (by omega) (by omega)
                omega
              rw[k4.old _ h3]
              exact h2
            · cases Jo:df (Hs j).length with
              | none=>rfl
              | some bb =>
                have g1:=(k3.dom _ _ Jo).1
                have g2:=mC (s+1) j (by omega) (by omega)
                omega
        | false =>
          cases hal:x.op.bq with
          | true =>
            obtain ⟨q,hq⟩:∃q,x.op = .h q:=by
              cases N8:x.op with
              | p q=>rw[N8] at hal;simp[dX.bq] at hal
              | h q=>exact ⟨q,rfl⟩
            have hcq:l4 P b o=some q:=by
              unfold l5 at l7
              split at l7
              · simp at l7
              split at l7
              · cases l7;cases hq
              · split at l7
                · rename_i q' fM
                  cases l7
                  cases hq
                  exact fM
                · cases l7;cases hq
            rw[hq] at hop
            obtain ⟨blk,cur,cap,u,a1,a1k,a2,a3,a4,a5,a6,a7,a8,a9⟩:=N2 hcq (by rw[hq] at hal;exact hal) D9 hop
            have WR:i<s:=by
              rcases Nat.lt_or_ge i s with h1 | h1
              · exact h1
              · rcases FN with h2 | ⟨y,h2,h3⟩
                · omega
                · rcases Nat.lt_or_ge s i with h4 | h4
                  · have h5:=(dL hD k8 h2).2.2.2 h4 (.inr ⟨hal,h3⟩)
                    have:=(sU s y h2 h3).1 (u9 s h5)
                    omega
                  · have:s=i:=by omega
                    subst this
                    rw[k8] at h2
                    cases h2
                    rw[hch] at h3
                    simp at h3
            have aeO:(Hs (i+1)).length=(Hs i).length+1:=by rw[a1];simp
            have aaz:Y.find (Hs s) (Hs i).length=some blk:=by
              have key:∀k,i+1+k≤s→Y.find (Hs (i+1+k)) (Hs i).length=some blk:=by
                intro k
                induction k with
                | zero=>intro _;rw[Nat.add_zero,a1,Y.iO]
                | succ k ih =>
                  intro hk
                  have ih:=ih (by omega)
                  obtain ⟨y,hy⟩:=FM (i+1+k) (by omega)
                  have hl:=(hst (i+1+k) y (by omega) hy).2
                  cases fE:y.op.bf with
                  | false=>exact ((hl.ext fE).2 _ (Y.au ih)).trans ih
                  | true =>
                    refine (hrd.YY i x (i+1+k) y (Nat.zero_le _) (by omega) (by omega) (by simpa using lY _ _ (by omega) k8) hal hg (by simpa using lY _ _ (by omega) hy) fE ?_).trans ih
                    have g4:=(sU _ y hy fE).2 (by omega)
                    unfold k7
                    have n1:jV A i (i+1+k)=false:=by
                      cases hq:jV A i (i+1+k) with
                      | false=>rfl
                      | true=>have:=(dL hD k8 hy).1 _ hq;omega
                    have n2:jV A (i+1+k) i=false:=by
                      cases hq:jV A (i+1+k) i with
                      | false=>rfl
                      | true =>
                        have nU:i+1+k<l.length:=(List.getElem?_eq_some_iff.1 hy).1
                        obtain ⟨om,ym,m1,m2,_⟩:=hx (i+1+k) (by omega)
                        have:=sD hA hI.cl (i+1+k+1) (i+1+k) om (by omega) m1 (hI.cl _ om m1 g4) i hq
                        rw[hnl] at this
                        simp at this
                    rw[n1,n2];rfl
              have:=key (s - (i+1)) (by omega)
              rwa [show i+1+(s - (i+1))=s from by omega] at this
            have hun:φ' (Hs i).length=none:=N6 i x k8 hal hlt (by omega) hnl
            obtain ⟨r1,r2⟩:=D7.RM hun aaz a1k cur cap a3 a4 a5 a6 a7 a8
            have lY:H.length≤(Hs i).length:=by
              have:=mC 0 i (Nat.zero_le _) (by omega)
              rwa [BG] at this
            refine aR a2 (RY (φ'.add (Hs i).length w'.heap.size) s _ u hlt hs1 (zK hch) FN r1 r2 (fun id hid=>by unfold aH.add;rw[if_neg (by omega)]) rfl rfl rfl (fun j y hj haj zL dW hu=>?_) (a9 _ _ _ (by simp[aH.add]) (heap_alloc_new w' _)))
            have e:i≠j:=fun e=>by
              subst e
              rw[gr Ct] at hu
              simp at hu
            rw[cX e] at hu
            have hne:(Hs j).length≠(Hs i).length:=by
              rcases Nat.lt_or_ge i j with h1 | h1
              · have:=mC (i+1) j (by omega) (by omega)
                omega
              · have:=mC (j+1) i (by omega) (by omega)
                omega
            unfold aH.add
            rw[if_neg hne]
            exact N6 j y hj haj zL dW hu
          | false =>
            have zG:∀m ag ad k id j f,x.op = .h (.load m ag ad)→X.ev zJ ad = .ptr k id j f→Y.find (Hs s) id=Y.find (Hs i) id:=by
              intro m ag ad k id j f he hp'
              have hlo:ob x (fs i) id:=⟨m,ag,ad,k,j,f,he,by rw[hev ad (by rw[he];simp[dX.xs,HO.xs])];exact hp'⟩
              have hvr:∃bb,φ' id=some bb:=by
                have aeW:ad∈x.op.xs:=by rw[he];simp[dX.xs,HO.xs]
                cases ad with
                | k v =>
                  simp only[X.ev] at hp'
                  subst hp'
                  unfold l5 at l7
                  split at l7
                  · simp at l7
                  split at l7
                  · cases l7;cases he
                  · split at l7
                    · rename_i q' fM
                      cases l7
                      cases he
                      unfold l4 at fM
                      split at fM
                      case h_2=>rcases tE fM with ⟨g9,xs9,e9⟩ | ⟨g9,xs9,e9⟩<;>cases e9
                      rename_i hq1
                      cases fM
                      replace fM:=hq1
                      clear hq1
                      unfold iQ at fM
                      split at fM
                      · split at fM<;>cases fM
                        rename_i xo _ lQ _ N8
                        have:=ay D9 N8
                        obtain ⟨bb,h1,_⟩:=ey this
                        exact ⟨bb,h1⟩
                      · split at fM<;>(try split at fM)<;>(try split at fM)<;>(try split at fM)<;>simp at fM
                      all_goals first
                        | (have h9:=o8 fM;simp at h9;done)
                        | (split at fM<;>(try split at fM)<;>(try split at fM)<;>(try split at fM)<;>(try split at fM)<;>simp at fM;done)
                        | (simp at fM;done)
                        | (repeat' split at fM
                           all_goals first | (simp at fM;done) | (have:=Cn fM;simp at this;done) | (have:=FA fM;simp at this;done))
                    · cases l7;cases he
                | t t =>
                  have:=D9.2 t
                  simp only[X.ev] at hp'
                  rw[hp'] at this
                  obtain ⟨bb,h1,_⟩:=ey this
                  exact ⟨bb,h1⟩
              obtain ⟨bb,FO⟩:=hvr
              have R3:=(D7.dom id bb FO).1
              have both:=fun c y (h1:c<N)(h2:l[c]? = some y)(h3:y.op.bf=true)(h4:k7 A i c=true)(h5:id<(Hs c).length)=>hrd.both i x id c y (Nat.zero_le _) hlt (Nat.zero_le _) h1 (by simpa using lY _ _ hlt k8) hlo hg (by simpa using lY _ _ h1 h2) h3 h4 (by rw[N0];exact h4) h5
              rcases Nat.lt_or_ge s i with h1 | h1
              ·
                have key:∀k,s+k≤i→Y.find (Hs (s+k)) id=Y.find (Hs s) id∧id<(Hs (s+k)).length:=by
                  intro k
                  induction k with
                  | zero=>intro _;exact ⟨rfl,R3⟩
                  | succ k ih =>
                    intro hk
                    obtain ⟨e1,e2⟩:=ih (by omega)
                    obtain ⟨y,hy⟩:=FM (s+k) (by omega)
                    have hl:=(hst (s+k) y (by omega) hy).2
                    refine ⟨?_,Nat.lt_of_lt_of_le e2 hl.len⟩
                    rw[←e1]
                    cases fE:y.op.bf with
                    | false=>exact (hl.ext fE).2 id e2
                    | true =>
                      refine both (s+k) y (by omega) hy fE ?_ e2
                      unfold k7
                      have n1:jV A i (s+k)=false:=by
                        cases hq:jV A i (s+k) with
                        | false=>rfl
                        | true =>
                          have:=(sU _ y hy fE).1 (u9 _ hq)
                          omega
                      have n2:jV A (s+k) i=false:=by
                        cases hq:jV A (s+k) i with
                        | false=>rfl
                        | true=>have:=(dL hD hy k8).1 i hq;omega
                      rw[n1,n2];rfl
                have:=(key (i - s) (by omega)).1
                rw[show s+(i - s)=i from by omega] at this
                exact this.symm
              ·
                have acP:id<(Hs i).length:=by
                  have h2:∃blk,Y.find (Hs i) id=some blk:=by
                    rw[he] at L6
                    simp only[pT,HO.bn] at L6
                    obtain ⟨_,_,_,_,_,_,e1,e2⟩:=hlo
                    rw[he] at e1
                    cases e1
                    rw[e2] at L6
                    obtain ⟨blk,_,h3,_⟩:=L6
                    exact ⟨blk,h3⟩
                  obtain ⟨blk,h3⟩:=h2
                  exact Y.au h3
                have key:∀k,i+k≤s→Y.find (Hs (i+k)) id=Y.find (Hs i) id∧id<(Hs (i+k)).length:=by
                  intro k
                  induction k with
                  | zero=>intro _;exact ⟨rfl,acP⟩
                  | succ k ih =>
                    intro hk
                    obtain ⟨e1,e2⟩:=ih (by omega)
                    obtain ⟨y,hy⟩:=FM (i+k) (by omega)
                    have hl:=(hst (i+k) y (by omega) hy).2
                    refine ⟨?_,Nat.lt_of_lt_of_le e2 hl.len⟩
                    rw[←e1]
                    cases fE:y.op.bf with
                    | false=>exact (hl.ext fE).2 id e2
                    | true =>
                      refine both (i+k) y (by omega) hy fE ?_ e2
                      unfold k7
                      have n1:jV A i (i+k)=false:=by
                        cases hq:jV A i (i+k) with
                        | false=>rfl
                        | true=>have:=(dL hD k8 hy).1 _ hq;omega
                      have n2:jV A (i+k) i=false:=by
                        cases hq:jV A (i+k) i with
                        | false=>rfl
                        | true =>
                          have g4:=(sU _ y hy fE).2 (by omega)
                          have nU:i+k<l.length:=(List.getElem?_eq_some_iff.1 hy).1
                          obtain ⟨om,ym,m1,m2,_⟩:=hx (i+k) (by omega)
                          have:=sD hA hI.cl (i+k+1) (i+k) om (by omega) m1 (hI.cl _ om m1 g4) i hq
                          rw[hnl] at this
                          simp at this
                      rw[n1,n2];rfl
                have:=(key (s - i) (by omega)).1
                rw[show i+(s - i)=s from by omega] at this
                exact this
            obtain ⟨q1,q2⟩:=wD (T:=Hs s) hch hal hop zG
            refine zC l7 D7 D9 q2 (fun v u df H2 w2 k1 k2 k3 k4=>?_) (fun v u df H2 w2 k1=>k1.elim)
            obtain ⟨rfl,rfl⟩:=k1
            have lY:H.length≤(Hs s).length:=by
              have:=mC 0 s (Nat.zero_le _) hs1
              rwa [BG] at this
            refine RY df s w2 u hlt hs1 (zK hch) FN k3 k4.toLater (fun id hid=>k4.old id (by omega)) k4.os k4.tape k4.output (fun j y hj haj zL dW hu=>?_) k2
            have h1:=RZ hal j y hj haj zL dW hu
            rcases Nat.lt_or_ge (Hs j).length (Hs s).length with h2 | h2
            · rw[k4.old _ h2];exact h1
            · cases Jo:df (Hs j).length with
              | none=>rfl
              | some bb=>have:=(k3.dom _ _ Jo).1;omega
theorem xM{b:Bool}{ops:Array Oper}{l:List bQ}{A:List (List Nat)}(hc:dr P b ops ops.toList=some l)(hA:wB ops A=true)(hD:BF l A=true)
  {Q:Exit→Act→World→Prop}{K:List AV→Y→Prop}{Kp:AV→List AV→Y→Prop}{φ:aH}{H:Y}{w:World}{ts:List AV}{a:Act}
  (hR:Rel φ H w)(hF:FR φ (Own φ H) w ts a)(h:nq P A l.length K (fun v H'=>Kp v (iV l ts) H') 0 l ts H [] [])(hk:lF Q K φ H w a.defers)(hp:kZ Q Kp φ H w a.defers):wpAny P .any ops Q ops.size (Array.replicate ops.size false) a { w with drawn:=w.drawn+1 } :=
 u0 (last:=none) hc (by simp) hA hD (fun o h=>by simp at h) hR hF h (fun _ _ h=>⟨fun _=>h,fun o h=>by simp at h⟩) hk hp
theorem BI{b:Bool}{id:Nat}{ops:Array Oper}{l:List bQ}{A:List (List Nat)}(hm:P.follows .mixedOrders=true)(hc:dr P b ops ops.toList=some l)(hA:wB ops A=true)(hD:BF l A=true)
  {Q:Exit→Act→World→Prop}{K:List AV→Y→Prop}{Kp:AV→List AV→Y→Prop}{φ:aH}{H:Y}{w:World}{ts:List AV}{a:Act}
  (hR:Rel φ H w)(hF:FR φ (Own φ H) w ts a)(h:nq P A l.length K (fun v H'=>Kp v (iV l ts) H') 0 l ts H [] [])(hk:lF Q K φ H w a.defers)(hp:kZ Q Kp φ H w a.defers):(Code.region id ops true).wp P Q a w :=
 wp_region_any hm (xM hc hA hD hR hF h hk hp)
def wF(ρ:Nat→Nat)(o:Oper):Oper:={ o with after:=o.after.map (fun e=>{ e with on:=ρ e.on }),guard:=o.guard.map fun g=>(ρ g.1,g.2) }
def WT(ops:Array Oper):List Nat :=
 let free:=fun i=>match ops[i]? with | some o=>(match o.op with | .alloc _=>o.after.isEmpty && o.guard.isNone | _=>false) | none=>false
 (List.range ops.size).filter free++(List.range ops.size).filter (fun i=>!free i)
def eG(σ:List Nat)(i:Nat):Nat:=if i<σ.length then σ.idxOf i else i
def eS(σ:List Nat)(ops:Array Oper):Array Oper:=(σ.map fun i=>wF (eG σ) (ops.getD i default)).toArray
def jy(σ:List Nat)(n:Nat):Bool:=σ.length == n && (List.range n).all (fun i=>σ.contains i) && σ.all (fun i=>decide (i<n)) && (List.range n).all fun p=>eG σ (σ.getD p 0) == p
section hoist
variable {ops:Array Oper}{σ:List Nat}
theorem iW(h:jy σ ops.size=true):σ.length=ops.size∧(∀p,p<ops.size→σ.getD p 0<ops.size∧eG σ (σ.getD p 0)=p)∧(∀i,i<ops.size→eG σ i<ops.size∧σ.getD (eG σ i) 0=i)∧(∀i,ops.size≤i→eG σ i=i):=by
 unfold jy at h
 simp only[Bool.and_eq_true,beq_iff_eq,List.all_eq_true,List.mem_range,decide_eq_true_eq] at h
 obtain ⟨⟨⟨h1,h2⟩,h3⟩,h4⟩:=h
 refine ⟨h1,fun p hp=>⟨h3 _ ?_,h4 p hp⟩,fun i hi=>?_,fun i hi=>?_⟩
 ·rw[List.getD_eq_getElem?_getD,List.getElem?_eq_getElem (by omega)]
  exact List.getElem_mem _
 ·have hm:i∈σ:=by simpa using h2 i hi
  have hl:=List.idxOf_lt_length_of_mem hm
  unfold eG
  rw[if_pos (by omega)]
  refine ⟨by omega,?_⟩
  rw[List.getD_eq_getElem?_getD,List.getElem?_eq_getElem hl]
  exact List.getElem_idxOf hl
 ·unfold eG
  rw[if_neg (by omega)]
theorem ru(h:jy σ ops.size=true){p:Nat}(hp:p<ops.size):∃o,ops[σ.getD p 0]? = some o∧(eS σ ops)[p]? = some (wF (eG σ) o):=by
 obtain ⟨h1,h2,_,_⟩:=iW h
 have h3:=(h2 p hp).1
 refine ⟨ops[σ.getD p 0],by simp[h3],?_⟩
 have dH:p<σ.length:=by omega
 have e:σ.getD p 0=σ[p]:=by simp[List.getD,dH]
 simp only[e] at h3 ⊢
 simp[eS,dH,Array.getD,h3]
theorem mD(h:jy σ ops.size=true):(eS σ ops).size=ops.size:=by simp[eS,(iW h).1]
theorem zM(h:jy σ ops.size=true)(ts:Array Value)(j:Nat):yielded (eS σ ops) ts (eG σ j)=yielded ops ts j:=by
 obtain ⟨h1,h2,h3,h4⟩:=iW h
 by_cases hj:j<ops.size
 ·obtain ⟨o,e1,e2⟩:=ru h (h3 j hj).1
  rw[(h3 j hj).2] at e1
  unfold yielded
  rw[e1,e2]
  rfl
 ·rw[h4 j (by omega)]
  unfold yielded
  have e1:ops[j]? = none:=by simp;omega
  have e2:(eS σ ops)[j]? = none:=by simp[mD h];omega
  rw[e1,e2]
theorem FP(h:jy σ ops.size=true){Q:Exit→Act→World→Prop}{K:Act→World→Prop}{a:Act}{w:World}{i:Nat}(hi:i<ops.size)(hw:wpOp P (eS σ ops) Q (eG σ i) K a w):wpOp P ops Q i K a w:=by
 obtain ⟨h1,h2,h3,h4⟩:=iW h
 obtain ⟨o,e1,e2⟩:=ru h (h3 i hi).1
 rw[(h3 i hi).2] at e1
 unfold wpOp at hw ⊢
 rw[e2] at hw
 rw[e1]
 simp only at hw ⊢
 have e3:Region.wanted (wF (eG σ) o) (yielded (eS σ ops) a.tmps)=Region.wanted o (yielded ops a.tmps):=by
  unfold Region.wanted wF
  cases o.guard with
  | none=>rfl
  | some g=>simp only[Option.map_some];rw[zM h]
 rw[e3] at hw
 exact hw
theorem Jp(h:jy σ ops.size=true){Q:Exit→Act→World→Prop}:∀(fuel:Nat)(L L':Array Bool)(a:Act)(w:World),L.size=ops.size→L'.size=ops.size→(∀i,i<ops.size→L'[eG σ i]? = L[i]?)→wpAny P .any (eS σ ops) Q fuel L' a w→wpAny P .any ops Q fuel L a w:=by
 obtain ⟨h1,h2,h3,h4⟩:=iW h
 have ke:∀(L L':Array Bool),L.size=ops.size→L'.size=ops.size→(∀i,i<ops.size→L'[eG σ i]? = L[i]?)→∀i b,L'.getD (eG σ i) b=L.getD i b:=by
  intro L L' z1 z2 hL i b
  by_cases hi:i<ops.size
  ·have:=hL i hi
   rw[Array.getD_eq_getD_getElem?,Array.getD_eq_getD_getElem?,this]
  ·rw[h4 i (by omega),Array.getD_eq_getD_getElem?,Array.getD_eq_getD_getElem?]
   have e1:L'[i]? = none:=by simp;omega
   have e2:L[i]? = none:=by simp;omega
   rw[e1,e2]
 have Ea:∀(L L':Array Bool),L.size=ops.size→L'.size=ops.size→(∀i,i<ops.size→L'[eG σ i]? = L[i]?)→∀i,i<ops.size→(eG σ i∈Region.ready .any (eS σ ops) L'↔i∈Region.ready .any ops L):=by
  intro L L' z1 z2 hL i hi
  obtain ⟨o,e1,e2⟩:=ru h (h3 i hi).1
  rw[(h3 i hi).2] at e1
  unfold Region.ready
  simp only[List.mem_filter,List.mem_range,mD h,e1,e2,Option.map_some,Option.getD_some,ke L L' z1 z2 hL]
  have e3:((wF (eG σ) o).after.all fun e=>!Region.binds .any e || L'.getD e.on false)=(o.after.all fun e=>!Region.binds .any e || L.getD e.on false):=by
   unfold wF
   simp only[Array.all_map]
   congr 1
   funext e
   simp only[Function.comp]
   rw[ke L L' z1 z2 hL]
   rfl
  rw[e3]
  constructor
  ·intro hh;exact ⟨hi,hh.2⟩
  ·intro hh;exact ⟨(h3 i hi).1,hh.2⟩
 have hnil:∀(L L':Array Bool),L.size=ops.size→L'.size=ops.size→(∀i,i<ops.size→L'[eG σ i]? = L[i]?)→(Region.ready .any ops L=[]↔Region.ready .any (eS σ ops) L'=[]):=by
  intro L L' z1 z2 hL
  constructor
  ·intro he
   apply List.eq_nil_iff_forall_not_mem.2
   intro p hp
   have dH:p<ops.size:=by
    unfold Region.ready at hp
    simp only[List.mem_filter,List.mem_range,mD h] at hp
    exact hp.1
   have hq:=(Ea L L' z1 z2 hL (σ.getD p 0) (h2 p dH).1).1 (by rw[(h2 p dH).2];exact hp)
   rw[he] at hq
   simp at hq
  ·intro he
   apply List.eq_nil_iff_forall_not_mem.2
   intro i hi
   have oD:i<ops.size:=by
    unfold Region.ready at hi
    simp only[List.mem_filter,List.mem_range] at hi
    exact hi.1
   have hq:=(Ea L L' z1 z2 hL i oD).2 hi
   rw[he] at hq
   simp at hq
 intro fuel
 induction fuel with
 | zero =>
  intro L L' a w z1 z2 hL hw
  exact ⟨(hnil L L' z1 z2 hL).2 hw.1,hw.2⟩
 | succ fuel ih =>
  intro L L' a w z1 z2 hL hw
  refine ⟨fun he=>hw.1 ((hnil L L' z1 z2 hL).1 he),fun i hi=>?_⟩
  have oD:i<ops.size:=by
   have:=hi
   unfold Region.ready at this
   simp only[List.mem_filter,List.mem_range] at this
   exact this.1
  have hq:=hw.2 _ ((Ea L L' z1 z2 hL i oD).2 hi)
  refine wpOp_mono (fun a' w' hh=>ih _ _ a' w' (by simpa using z1) (by simpa using z2) (fun j hj=>?_) hh) (FP h oD hq)
  rw[Array.getElem?_setIfInBounds,Array.getElem?_setIfInBounds]
  by_cases e:i=j
  ·subst e
   rw[if_pos rfl,if_pos rfl,if_pos (by rw[z2];exact (h3 i oD).1),if_pos (by rw[z1];exact oD)]
  ·rw[if_neg e,if_neg (fun e2=>e (by
    have:=congrArg (fun p=>σ.getD p 0) e2
    simp only[(h3 i oD).2,(h3 j hj).2] at this
    exact this))]
   exact hL j hj
end hoist
theorem zN{b:Bool}{ops:Array Oper}{σ:List Nat}{l:List bQ}{A:List (List Nat)}(hm:P.follows .mixedOrders=true)(R4:jy σ ops.size=true)(hc:dr P b (eS σ ops) (eS σ ops).toList=some l)(hA:wB (eS σ ops) A=true)(hD:BF l A=true)
  {Q:Exit→Act→World→Prop}{K:List AV→Y→Prop}{Kp:AV→List AV→Y→Prop}{φ:aH}{H:Y}{w:World}{ts:List AV}{a:Act}
  (hR:Rel φ H w)(hF:FR φ (Own φ H) w ts a)(h:nq P A l.length K (fun v H'=>Kp v (iV l ts) H') 0 l ts H [] [])(hk:lF Q K φ H w a.defers)(hp:kZ Q Kp φ H w a.defers):wpAny P .any ops Q ops.size (Array.replicate ops.size false) a { w with drawn:=w.drawn+1 }:=by
 have h1:=xM hc hA hD hR hF h hk hp
 rw[mD R4] at h1
 obtain ⟨_,_,h3,_⟩:=iW R4
 refine Jp R4 _ _ _ a _ (by simp) (by simp) (fun i hi=>?_) h1
 rw[Array.getElem?_replicate,Array.getElem?_replicate,if_pos hi,if_pos (h3 i hi).1]
theorem BJ{b:Bool}{id:Nat}{ops:Array Oper}{σ:List Nat}{l:List bQ}{A:List (List Nat)}(hm:P.follows .mixedOrders=true)(R4:jy σ ops.size=true)(hc:dr P b (eS σ ops) (eS σ ops).toList=some l)(hA:wB (eS σ ops) A=true)(hD:BF l A=true)
  {Q:Exit→Act→World→Prop}{K:List AV→Y→Prop}{Kp:AV→List AV→Y→Prop}{φ:aH}{H:Y}{w:World}{ts:List AV}{a:Act}
  (hR:Rel φ H w)(hF:FR φ (Own φ H) w ts a)(h:nq P A l.length K (fun v H'=>Kp v (iV l ts) H') 0 l ts H [] [])(hk:lF Q K φ H w a.defers)(hp:kZ Q Kp φ H w a.defers):(Code.region id ops true).wp P Q a w :=
 wp_region_any hm (zN hm R4 hc hA hD hR hF h hk hp)
end
inductive IC where
 | skip
 | ops (l:List bQ)
 | cH (l:List bQ)(A:List (List Nat))
 | seq (a b:IC)
 | cond (c:X)(a b:IC)
 | block (id:Nat)(c:IC)
 | loop (c:IC)
 | exit (id:Nat)
 | ret
 | WU (l1:List bQ)(g:Option (Nat×Bool))(y:X)(args:List X)(d:Option Nat)(l2:List bQ)
 | WV (g:X)(ps:Array Tmp)(sV body:Code)
inductive AX where
 | normal
 | exit (id:Nat)
 | ret
 | bF (v:AV)
def Eb(P:Program)(b:Bool)(ops:Array Oper):Option IC :=
 let σ:=WT ops
 let ops':=eS σ ops
 match dr P b ops' ops'.toList with
 | none=>none
 | some l=>(let A:=L5 ops';if jy σ ops.size && wB ops' A && BF l A && P.follows .mixedOrders then some (.cH l A) else none)
def Jq(l:List bQ)(A:List (List Nat)):Option IC:=match l.getLast? with
 | some o=>if (List.range l.dropLast.length).all (fun j=>jV A l.dropLast.length j)=true then some (.seq (.cH l.dropLast A) (.ops [o])) else none
 | none=>none
def Ec:IC:=.ops [⟨none,none,.p (.un .not (.k .top))⟩]
def dt(P:Program)(aY:List Nat):Code→Option IC
 | .skip=>some .skip
 | .label _=>some .skip
 | .region id ops draw =>
  match dr P (aY.contains id) ops ops.toList with
  | none=>none
  | some l=>if draw then (let A:=L5 ops;if wB ops A && BF l A && P.follows .mixedOrders then (if aY.contains (id+1000) then Jq l A else some (.cH l A)) else Eb P (aY.contains id) ops) else some (.ops l)
 | .seq a b=>match dt P aY a,dt P aY b with
  | some x,some y=>some (.seq x y)
  | _,_=>none
 | .cond c a b=>match bj c,dt P aY a,dt P aY b with
  | some c,some x,some y=>some (.cond c x y)
  | _,_,_=>none
 | .block id c=>(dt P aY c).map (.block id)
 | .loop c=>(dt P aY c).map .loop
 | .exit id=>some (.exit id)
 | .ret=>some .ret
 | .refuse _=>some Ec
 | _=>none
abbrev Post:=AX→List AV→Y→Prop
def jl(next:List AV→Y→Prop)(K:Post):Post
 | .normal,ts,H=>next ts H
 | x,ts,H=>K x ts H
def kf(id:Nat)(K:Post):Post
 | .exit i,ts,H=>if i=id then K .normal ts H else K (.exit i) ts H
 | x,ts,H=>K x ts H
def DY(P:Program)(id:Nat)(args:List AV)(H:Y)(e:cr)(H':Y):Prop :=
 H.length≤H'.length∧∀(φ:aH)(w:World)(b:Nat)(vs:Array Value),Rel φ H w→φ id=some b→Rt φ (Own φ H) w args vs.toList→
  ∃f tmps sV body,(Instr.yield b vs).run P w = .ok (.round b f tmps sV body) w∧
   RoundIn Fence.wide 0 P b f tmps sV body w fun en w'=>∃φ',xC φ' (Own φ' H') w' e en∧Rel φ' H' w'∧Step φ H w φ' H' w'
def L7(P:Program)(K Kp:AV→Y→Prop)(args:List AV)(H:Y):AV→Prop
 | .ptr k id j f=>(k=0∧f=1)∧∃e H',DY P id args H e H'∧cr.post K Kp H' e
 | _=>False
def acQ(fn db:Nat)(ps:Array Tmp)(sV body:Code):Loop:={ state:=.ready,pending:=none,fn:=fn,tmps:=#[],params:=ps,assign:=sV,body:=body,defers:=db }
def lpB(r:Loop)(ts:List AV):aK:=⟨0,.DF r::ts,false,1⟩
def L8(K:Post)(ts:List AV)(H:Y):Option Code→Prop
 | none=>K .normal ts H
 | some .ret=>K .ret ts H
 | some (.exit i)=>K (.exit i) ts H
 | _=>False
def FQ(P:Program)(ps:Array Tmp)(sV body:Code)(K:Post)(ts:List AV)(H:Y):AV→Prop
 | .fn (.func f) [] cg=>bN P f=true∧∀fn db,∃v H' r ts',D P f (.ptr 0 H.length 0 1::cg) (some (lpB (acQ fn db ps sV body) ts)::H) (.ret v) H'∧
   Y.find H' H.length=some (lpB r ts')∧r.state≠.busy∧L8 K ts (Y.set H' H.length none) r.pending
 | _=>False
def E(P:Program):IC→Post→List AV→Y→Prop
 | .skip,K,ts,H=>K .normal ts H
 | .ops l,K,ts,H=>gb P (K .normal) (fun v ts' H'=>K (.bF v) ts' H') l ts H
 | .cH l A,K,ts,H=>nq P A l.length (K .normal) (fun v H'=>K (.bF v) (iV l ts) H') 0 l ts H [] []
 | .seq a b,K,ts,H=>E P a (jl (E P b K) K) ts H
 | .cond c a b,K,ts,H=>match c.ev ts with
  | .Z (.bool t)=>(t=true→E P a K ts H)∧(t=false→E P b K ts H)
  | .ub=>E P a K ts H∧E P b K ts H
  | _=>False
 | .block id c,K,ts,H=>E P c (kf id K) ts H
 | .loop c,K,ts,H=>∃(I:List AV→Y→Prop)(μ:List AV→Y→Nat),I ts H∧∀ts H,I ts H→E P c (jl (fun ts' H'=>I ts' H'∧μ ts' H'<μ ts H) K) ts H
 | .exit id,K,ts,H=>K (.exit id) ts H
 | .ret,K,ts,H=>K .ret ts H
 | .WU l1 g y args d l2,K,ts,H=>gb P (fun fG H1=>bX fG (L7 P (fun v H2=>gb P (K .normal) (fun v ts' H'=>K (.bF v) ts' H') l2 (bR fG d v) H2) (fun v H2=>K (.bF v) fG H2) (args.map (X.ev fG)) H1 (y.ev fG)) (gb P (K .normal) (fun v ts' H'=>K (.bF v) ts' H') l2 (bR fG d (.aG [])) H1) g) (fun v ts' H'=>K (.bF v) ts' H') l1 ts H
 | .WV g ps sV body,K,ts,H=>FQ P ps sV body K ts H (g.ev ts)
def XR(φ:aH)(O:Nat→Prop)(w:World):AX→Exit→Prop
 | .normal,.normal=>True
 | .exit i,.exit j=>i=j
 | .ret,.ret=>True
 | .bF x,.panic c=>qG φ O w x c
 | _,_=>False
def CK(K:Post)(φ:aH)(H:Y)(w:World)(ds:List Deferred):Exit→Act→World→Prop:=fun e a' w' =>
 ∃x ts' H' φ',XR φ' (Own φ' H') w' x e∧K x ts' H'∧FR φ' (Own φ' H') w' ts' a'∧Rel φ' H' w'∧Step φ H w φ' H' w'∧a'.defers=ds
theorem CK.step{K:Post}{φ φ':aH}{H H':Y}{w w':World}{ds:List Deferred}{e:Exit}{a:Act}{w2:World}(hs:Step φ H w φ' H' w')(h:CK K φ' H' w' ds e a w2):CK K φ H w ds e a w2:=by
 obtain ⟨x,ts,H2,df,h1,h2,h3,h4,h5,h6⟩:=h
 exact ⟨x,ts,H2,df,h1,h2,h3,h4,hs.trans h5,h6⟩
theorem Jr{P:Program}{b:Bool}{ops:Array Oper}{l:List bQ}{A:List (List Nat)}{ic:IC}(hc:Jq l A=some ic)(hl:dr P b ops ops.toList=some l)(hA:wB ops A=true)(hD:BF l A=true)
  {Q:Exit→Act→World→Prop}{K:Post}{φ:aH}{H:Y}{w:World}{ts:List AV}{a:Act}(hR:Rel φ H w)(hF:FR φ (Own φ H) w ts a)(h:E P ic K ts H)
  (hk:lF Q (K .normal) φ H w a.defers)(hp:kZ Q (fun v ts' H'=>K (.bF v) ts' H') φ H w a.defers):wpAny P .any ops Q ops.size (Array.replicate ops.size false) a { w with drawn:=w.drawn+1 }:=by
 unfold Jq at hc
 split at hc
 case h_2=>simp at hc
 rename_i o ho
 split at hc
 case isFalse=>simp at hc
 rename_i zO
 cases hc
 have hne:l≠[]:=fun e=>by rw[e] at ho;simp at ho
 have dW:l=l.dropLast++(some o:Option bQ).toList:=by
  have h1:=List.dropLast_concat_getLast hne
  rw[List.getLast?_eq_some_getLast hne] at ho
  cases ho
  exact h1.symm
 exact u0 (last:=some o) hl dW hA hD (fun o' he=>zO) hR hF (K':=fun ts' H'=>gb P (K .normal) (fun v ts' H'=>K (.bF v) ts' H') [o] ts' H') h (fun fG H1 hh=>⟨fun e=>(by cases e),fun o' he=>(by cases he;exact hh)⟩) hk hp
theorem ry{P:Program}{aY:List Nat}:∀(c:Code)(ic:IC),dt P aY c=some ic→∀(K:Post)(φ:aH)(H:Y)(w:World)(ts:List AV)(a:Act),Rel φ H w→FR φ (Own φ H) w ts a→E P ic K ts H→c.wp P (CK K φ H w a.defers) a w:=by
 intro c
 induction c with
 | skip =>
  intro ic hc K φ H w ts a hR hF h
  cases hc
  exact wp_skip ⟨.normal,ts,H,φ,trivial,h,hF,hR,Step.refl _ _ _,rfl⟩
 | label l =>
  intro ic hc K φ H w ts a hR hF h
  cases hc
  exact wp_label ⟨.normal,ts,H,φ,trivial,h,hF,hR,Step.refl _ _ _,rfl⟩
 | region id ops draw =>
  intro ic hc K φ H w ts a hR hF h
  simp only[dt] at hc
  split at hc
  ·simp at hc
  rename_i l hl
  have hk:lF (CK K φ H w a.defers) (K .normal) φ H w a.defers:=fun ts' a' φ' H' w' k1 k2 k3 k4 k5=>⟨.normal,ts',H',φ',trivial,k1,k2,k3,k4,k5⟩
  have hp:kZ (CK K φ H w a.defers) (fun v ts' H'=>K (.bF v) ts' H') φ H w a.defers:=fun v u ts' a' φ' H' w' k1 k2 k3 k4 k5 k6=>⟨.bF v,ts',H',φ',k2,k1,k3,k4,k5,k6⟩
  cases draw with
  | false =>
   simp only[Bool.false_eq_true,if_false] at hc
   cases hc
   exact FH hl hR hF h hk hp
  | true =>
   simp only[if_true] at hc
   split at hc
   case isFalse =>
    unfold Eb at hc
    simp only at hc
    split at hc
    ·simp at hc
    rename_i l2 dW
    split at hc
    case isFalse=>simp at hc
    rename_i jk
    simp only[Bool.and_eq_true] at jk
    cases hc
    exact BJ jk.2 jk.1.1.1 dW jk.1.1.2 jk.1.2 hR hF h hk hp
   rename_i jk
   simp only[Bool.and_eq_true] at jk
   split at hc
   ·exact wp_region_any jk.2 (Jr hc hl jk.1.1 jk.1.2 hR hF h hk hp)
   cases hc
   exact BI jk.2 hl jk.1.1 jk.1.2 hR hF h hk hp
 | seq x y R5 N9 =>
  intro ic hc K φ H w ts a hR hF h
  simp only[dt] at hc
  split at hc
  case h_2=>simp at hc
  rename_i ix iy h1 h2
  cases hc
  refine wp_seq (wp_mono (R5 ix h1 _ φ H w ts a hR hF h) ?_)
  rintro e a' w' ⟨x',ts',H',φ',k1,k2,k3,k4,k5,k6⟩
  cases x' with
  | normal =>
   cases e<;>try exact k1.elim
   show y.wp P _ a' w'
   have:=N9 iy h2 K φ' H' w' ts' a' k4 k3 k2
   rw[k6] at this
   exact wp_mono this fun e a2 w2 hc=>hc.step k5
  | exit i =>
   cases e<;>try exact k1.elim
   exact ⟨_,ts',H',φ',k1,k2,k3,k4,k5,k6⟩
  | ret =>
   cases e<;>try exact k1.elim
   exact ⟨.ret,ts',H',φ',k1,k2,k3,k4,k5,k6⟩
  | bF v =>
   cases e<;>try exact k1.elim
   exact ⟨_,ts',H',φ',k1,k2,k3,k4,k5,k6⟩
 | cond c x y R5 N9 =>
  intro ic hc K φ H w ts a hR hF h
  simp only[dt] at hc
  split at hc
  case h_2=>simp at hc
  rename_i c' ix iy h0 h1 h2
  cases hc
  have hv:=ay hF h0
  simp only[E] at h
  split at h
  ·rename_i t he
   rw[he] at hv
   have hu:=bP hv
   refine wp_cond hu ?_
   cases t with
   | true=>exact R5 ix h1 K φ H w ts a hR hF (h.1 rfl)
   | false=>exact N9 iy h2 K φ H w ts a hR hF (h.2 rfl)
  ·rename_i he
   rw[he] at hv
   obtain ⟨t,ht⟩:=hv.2
   have hu:a.eval c = .bool t:=by
    have h1:=hv.1
    revert ht h1
    cases a.eval c<;>intro ht h1<;>first | (simp[eM,Value.cells] at ht;first | exact congrArg Value.bool ht | done) | (exact absurd h1 (by simp[jj,Value.oneCell']))
   refine wp_cond hu ?_
   cases t with
   | true=>exact R5 ix h1 K φ H w ts a hR hF h.1
   | false=>exact N9 iy h2 K φ H w ts a hR hF h.2
  ·exact h.elim
 | block id c ih =>
  intro ic hc K φ H w ts a hR hF h
  simp only[dt,Option.map_eq_some_iff] at hc
  obtain ⟨ix,h1,rfl⟩:=hc
  refine wp_block (wp_mono (ih ix h1 _ φ H w ts a hR hF h) ?_)
  rintro e a' w' ⟨x',ts',H',φ',k1,k2,k3,k4,k5,k6⟩
  cases x' with
  | normal =>
   cases e<;>try exact k1.elim
   exact ⟨.normal,ts',H',φ',k1,k2,k3,k4,k5,k6⟩
  | exit i =>
   cases e<;>try exact k1.elim
   rename_i j
   have:i=j:=k1
   subst this
   simp only[kf] at k2
   simp only[Exit.inBlock]
   split
   ·rename_i e2
    rw[if_pos e2] at k2
    exact ⟨.normal,ts',H',φ',trivial,k2,k3,k4,k5,k6⟩
   ·rename_i e2
    rw[if_neg e2] at k2
    exact ⟨.exit i,ts',H',φ',rfl,k2,k3,k4,k5,k6⟩
  | ret =>
   cases e<;>try exact k1.elim
   exact ⟨.ret,ts',H',φ',k1,k2,k3,k4,k5,k6⟩
  | bF v =>
   cases e<;>try exact k1.elim
   exact ⟨.bF v,ts',H',φ',k1,k2,k3,k4,k5,k6⟩
 | loop c ih =>
  intro ic hc K φ H w ts a hR hF h
  simp only[dt,Option.map_eq_some_iff] at hc
  obtain ⟨ix,h1,rfl⟩:=hc
  obtain ⟨I,μ,h2,h3⟩:=h
  intro b k cs
  have key:∀n fG H1 bA w1 a1,μ fG H1=n→I fG H1→FR bA (Own bA H1) w1 fG a1→Rel bA H1 w1→Step φ H w bA H1 w1→a1.defers=a.defers→
    ∃e a' w',CK K φ H w a.defers e a' w'∧Arrives P (lone (b.at a1 (.code c::.inLoop c::k)) cs w1) b k cs e a' w':=by
   intro n
   induction n using Nat.strongRecOn with
   | _ n ihn =>
    intro fG H1 bA w1 a1 hn hI k9 wu lO Ed
    obtain ⟨e,a2,w2,⟨x',ts',H',φ',k1,k2,k3,k4,k5,k6⟩,j7⟩:=ih ix h1 _ bA H1 w1 fG a1 wu k9 (h3 fG H1 hI) b (.inLoop c::k) cs
    cases x' with
    | normal =>
     cases e<;>try exact k1.elim
     obtain ⟨g1,g2⟩:=k2
     obtain ⟨e3,a3,w3,hq3,Js⟩:=ihn (μ ts' H') (hn▸g2) ts' H' φ' w2 a2 rfl g1 k3 k4 (lO.trans k5) (by rw[k6,Ed])
     exact ⟨e3,a3,w3,hq3,.of_steps (Steps.trans j7 (.one step_inLoop)) Js⟩
    | exit i =>
     cases e<;>try exact k1.elim
     exact ⟨_,a2,w2,⟨.exit i,ts',H',φ',k1,k2,k3,k4,lO.trans k5,by rw[k6,Ed]⟩,.pass (x:=.inLoop c) rfl (fun _ _=>.inl (by simp)) j7⟩
    | ret =>
     cases e<;>try exact k1.elim
     exact ⟨_,a2,w2,⟨.ret,ts',H',φ',k1,k2,k3,k4,lO.trans k5,by rw[k6,Ed]⟩,.pass (x:=.inLoop c) rfl (fun _ _=>.inl (by simp)) j7⟩
    | bF v =>
     cases e<;>try exact k1.elim
     exact ⟨_,a2,w2,⟨.bF v,ts',H',φ',k1,k2,k3,k4,lO.trans k5,by rw[k6,Ed]⟩,.pass (x:=.inLoop c) rfl (fun _ _=>.inl (by simp)) j7⟩
  obtain ⟨e,a',w',hq,j7⟩:=key _ ts H φ w a rfl h2 hF hR (Step.refl _ _ _) rfl
  exact ⟨e,a',w',hq,.of_steps (.one step_loop) j7⟩
 | exit id =>
  intro ic hc K φ H w ts a hR hF h
  cases hc
  exact wp_exit ⟨.exit id,ts,H,φ,rfl,h,hF,hR,Step.refl _ _ _,rfl⟩
 | ret =>
  intro ic hc K φ H w ts a hR hF h
  cases hc
  exact wp_ret ⟨.ret,ts,H,φ,trivial,h,hF,hR,Step.refl _ _ _,rfl⟩
 | refuse s =>
  intro ic hc K φ H w ts a hR hF h
  cases hc
  exact False.elim h
 | _=>intro ic hc;simp[dt] at hc
inductive RV where
 | t (n:Nat)
 | c (a n:Nat)(ag:Bool)
def nt(P:Program):List ResultVar→Option (List RV)
 | []=>some []
 | .tmp t::r=>(nt P r).map (.t t::·)
 | .cell a t::r=>match eD P t,nt P r with
  | some (n,ag),some s=>some (.c a n ag::s)
  | _,_=>none
def rz:List RV→List AV→Y→(List AV→Prop)→Prop
 | [],ts,H,K=>K []
 | .t n::r,ts,H,K=>rz r ts H fun l=>K (ts.getD n .top::l)
 | .c a n ag::r,ts,H,K=>match ts.getD a .top with
  | .ptr k id j f=>∃blk e,Y.find H id=some blk∧blk.es[j]? = some e∧(blk.k=k∧AV.gI e f n ag∧0<k)∧rz r ts H fun l=>K (AV.sub e f n ag::l)
  | _=>False
def oneOf:List AV→AV
 | [x]=>x
 | l=>.aG l
def wG(rs:List RV)(Kr:cr→Y→Prop):Post
 | .normal,ts,H=>rz rs ts H fun l=>Kr (.ret (oneOf l)) H
 | .ret,ts,H=>rz rs ts H fun l=>Kr (.ret (oneOf l)) H
 | .bF v,ts,H=>Kr (.bF v) H
 | .exit _,_,_=>False
section
variable {P:Program}
theorem wH{φ:aH}{H:Y}{w:World}{ts:List AV}{a:Act}(hR:Rel φ H w)(hF:FR φ (Own φ H) w ts a):∀{rv:List ResultVar}{rs:List RV},nt P rv=some rs→∀{K:List AV→Prop},rz rs ts H K→
  ∃l us,K l∧Rt φ (Own φ H) w l us∧(rv.mapM fun (r:ResultVar)=>(match r with | .tmp t=>pure (a.tmps.getD t undef) | .cell ad t=>do loadVar t (←asAddr (a.tmps.getD ad undef)):Sem Value)).run P w = .ok us w
 | [],rs,h,K,hk=>by
  simp[nt] at h
  subst h
  exact ⟨[],[],hk,rfl,by simp⟩
 | .tmp t::r,rs,h,K,hk=>by
  simp only[nt,Option.map_eq_some_iff] at h
  obtain ⟨s,h1,rfl⟩:=h
  obtain ⟨l,us,h2,h3,h4⟩:=wH hR hF h1 hk
  refine ⟨_,a.tmps.getD t undef::us,h2,⟨_,_,rfl,(hF.2 t).1,(hF.2 t).2,h3⟩,?_⟩
  simp only[List.mapM_cons,Sem.run_bind,Sem.run_pure,Result.andThen_ok,h4]
 | .cell ad t::r,rs,h,K,hk=>by
  simp only[nt] at h
  split at h
  case h_2=>simp at h
  rename_i n ag s hs h1
  cases h
  simp only[rz] at hk
  split at hk
  case h_2=>exact hk.elim
  rename_i k id j f he
  obtain ⟨blk,e,g1,g2,⟨rfl,g3,bW⟩,hk⟩:=hk
  obtain ⟨l,us,h2,h3,h4⟩:=wH hR hF h1 hk
  have hv:=hF.2 ad
  rw[he] at hv
  obtain ⟨b,e1,e2⟩:=ey hv
  rw[ew bW] at e2
  obtain ⟨h7,h8⟩:=hR.elem e1 g1 g2 bW
  obtain ⟨u,h9,h10⟩:=wm hs h8 g3
  refine ⟨_,u::us,h2,⟨_,_,rfl,h10.1,h10.2,h3⟩,?_⟩
  have e3:(asAddr (a.tmps.getD ad undef)).run P w = .ok ⟨b,j*blk.k+f,none⟩ w:=by rw[e2];rfl
  simp only[List.mapM_cons,Sem.run_bind,Sem.run_pure,Result.andThen_ok,e3,h9,h4]
theorem mF{φ:aH}{H:Y}{w:World}{ts:List AV}{a:Act}(hR:Rel φ H w)(hF:FR φ (Own φ H) w ts a){fn:Func}{rs:List RV}(hc:nt P fn.results.toList=some rs){K:AV→Prop}(h:rz rs ts H fun l=>K (oneOf l)) :
  ∃x v,K x∧VR φ (Own φ H) w x v∧(results fn a.tmps).run P w = .ok v w:=by
 obtain ⟨l,us,h1,h2,h3⟩:=wH hR hF hc h
 refine ⟨_,(if us.length=1 then us.getD 0 undef else .tuple us.toArray),h1,?_,?_⟩
 ·have hl:=yM h2
  match l,h2,hl with
  | [],h2,hl =>
   simp only[Rt] at h2
   subst h2
   exact ⟨⟨_,rfl⟩,_,rfl,rfl⟩
  | [x],h2,hl =>
   obtain ⟨v,s,rfl,g1,g2,g3⟩:=h2
   simp only[Rt] at g3
   subst g3
   exact ⟨g1,g2⟩
  | x::y::r,h2,hl =>
   have:¬us.length=1:=by rw[hl];simp
   rw[if_neg this]
   exact ⟨⟨_,rfl⟩,_,rfl,h2⟩
 ·unfold results
  rw[Array.mapM_eq_mapM_toList]
  rw[Sem.run_bind,Sem.run_map]
  erw[h3]
  simp only[Result.andThen_ok,Sem.run_pure]
  congr 1
  by_cases h4:us.length=1
  ·have:us.toArray.size=1:=by simpa using h4
   rw[dif_pos this,if_pos h4]
   match us,h4 with
   | [v],_=>rfl
  ·have:¬us.toArray.size=1:=by simpa using h4
   rw[dif_neg this,if_neg h4]
theorem cR{f:FuncId}{fn:Func}{c:Code}{ic:IC}{rs:List RV}{aY:List Nat}(hf:P.funcs[f]? = some fn)(hb:fn.body=some c)(hc:dt P aY c=some ic)(hr:nt P fn.results.toList=some rs){args:List AV}{H:Y}{Kr:cr→Y→Prop}
  (h:E P ic (wG rs Kr) (args++List.replicate (fn.ntmps - args.length) (.aG [])) H):DK P f args H Kr:=by
 intro φ w vs hR ha
 have hlen:=yM ha
 have hF:FR φ (Own φ H) w (args++List.replicate (fn.ntmps - args.length) (.aG [])) { tmps:=vs++Array.replicate (fn.ntmps - vs.size) undef,defers:=[] }:=by
  have hsz:vs.size=args.length:=by simpa using hlen
  refine ⟨by simp[hsz],fun i=>?_⟩
  by_cases h1:i<args.length
  ·obtain ⟨u,g1,g2⟩:=yL ha (i:=i) (x:=args[i]) (by simp[h1])
   have e1:(args++List.replicate (fn.ntmps - args.length) (AV.aG [])).getD i .top=args[i]:=by simp[List.getD,List.getElem?_append_left h1,h1]
   have e2:(vs++Array.replicate (fn.ntmps - vs.size) undef).getD i undef=u:=by
    rw[Array.getElem?_toList] at g1
    rw[Array.getD_eq_getD_getElem?,Array.getElem?_append_left (by omega),g1]
    rfl
   rw[e1,e2]
   exact g2
  ·by_cases h2:i<args.length+(fn.ntmps - args.length)
   ·have e1:(args++List.replicate (fn.ntmps - args.length) (AV.aG [])).getD i .top = .aG []:=by
     simp only[List.getD]
     rw[List.getElem?_append_right (by omega),List.getElem?_replicate,if_pos (by omega)]
     rfl
    have e2:(vs++Array.replicate (fn.ntmps - vs.size) undef).getD i undef=undef:=by
     rw[Array.getD_eq_getD_getElem?,Array.getElem?_append_right (by omega),Array.getElem?_replicate]
     split<;>rfl
    rw[e1,e2]
    exact mR
   ·have e1:(args++List.replicate (fn.ntmps - args.length) (AV.aG [])).getD i .top = .top:=by
     simp only[List.getD]
     rw[List.getElem?_eq_none (by simp;omega)]
     rfl
    rw[e1]
    exact lE _
 refine calls_of_wp hf hb (wp_mono (ry c ic hc _ φ H w _ _ hR hF h) ?_)
 rintro e a' w' ⟨x,ts',H',φ',k1,k2,k3,k4,k5,k6⟩
 have FT:(rz rs ts' H' fun l=>Kr (.ret (oneOf l)) H')→a'.defers=[]∧∃v,(results fn a'.tmps).run P w' = .ok v w'∧∃e H2 df,xC df (Own df H2) w' e (.returned v)∧Kr e H2∧Rel df H2 w'∧Step φ H w df H2 w':=by
  intro hl
  obtain ⟨y,v,g1,g2,g3⟩:=mF k4 k3 hr (K:=fun x=>Kr (.ret x) H') hl
  exact ⟨k6,v,g3,.ret y,H',φ',g2,g1,k4,k5⟩
 cases x with
 | normal =>
  cases e<;>try exact k1.elim
  exact FT k2
 | ret =>
  cases e<;>try exact k1.elim
  exact FT k2
 | exit i=>exact k2.elim
 | bF v =>
  cases e<;>try exact k1.elim
  exact ⟨k6,.bF v,H',φ',k1,k2,k4,k5⟩
def eo(H:Y)(e1:cr)(H1:Y)(e:cr)(H':Y):Prop :=
 ∀φ w bA w1 en,Rel φ H w→xC bA (Own bA H1) w1 e1 en→Rel bA H1 w1→Step φ H w bA H1 w1→∃φ',xC φ' (Own φ' H') w1 e en∧Rel φ' H' w1∧Step φ H w φ' H' w1
theorem eo.refl(H:Y)(e:cr)(H':Y):eo H e H' e H':=fun φ w bA w1 en _ h1 h2 h3=>⟨bA,h1,h2,h3⟩
theorem aD{f:FuncId}{args:List AV}{H:Y}{e:cr}{H':Y}(hl:H.length≤H'.length)(h:DK P f args H fun e1 H1=>eo H e1 H1 e H'):D P f args H e H' :=
 ⟨hl,fun φ w vs hR ha=>(h φ w vs hR ha).mono fun en w' ⟨e1,H1,bA,h1,h2,h3,h4⟩=>h2 φ w bA w' en hR h1 h3 h4⟩
mutual
inductive Fz(H1:Y)(n0:Nat):AV→AV→Prop where
 | same {x:AV}:x.ids (· < n0)→Fz H1 n0 x x
 | aE {k id off n:Nat}{c:Option Nat}{blk:aK}{ys:List AV}:n0≤id→Y.find H1 id=some blk→blk.k=k→off+n≤blk.es.length→nV H1 n0 ((blk.es.drop off).take n) ys→Fz H1 n0 (.aE k id off n c) (.an k ys none)
 | an {k:Nat}{xs ys:List AV}{room:Option (List AV)}:nV H1 n0 xs ys→Fz H1 n0 (.an k xs room) (.an k ys none)
 | nil {k:Nat}{room:Option (List AV)}{k':Nat}:Fz H1 n0 (.an k' [] room) (.an k [] none)
 | agg {xs ys:List AV}:nV H1 n0 xs ys→Fz H1 n0 (.agg xs) (.agg ys)
 | aG {xs ys:List AV}:nV H1 n0 xs ys→Fz H1 n0 (.aG xs) (.aG ys)
 | dQ {t:TypeId}{x y:AV}:Fz H1 n0 x y→Fz H1 n0 (.dQ t x) (.dQ t y)
inductive nV(H1:Y)(n0:Nat):List AV→List AV→Prop where
 | nil:nV H1 n0 [] []
 | cons {x y:AV}{r s:List AV}:Fz H1 n0 x y→nV H1 n0 r s→nV H1 n0 (x::r) (y::s)
end
theorem nV.len{H1:Y}{n0:Nat}:∀{xs ys:List AV},nV H1 n0 xs ys→ys.length=xs.length
 | _,_,.nil=>rfl
 | _,_,.cons _ h=>by simp[h.len]
theorem Fz.isAgg{H1:Y}{n0:Nat}{x y:AV}(h:Fz H1 n0 x y):y.isAgg=x.isAgg∧y.ax=x.ax:=by
 cases h with
 | agg h=>exact ⟨rfl,h.len⟩
 | _=>exact ⟨rfl,rfl⟩
theorem Fz.jj{H1:Y}{n0:Nat}{x y:AV}(h:Fz H1 n0 x y){u:Value}(hk:jj x u):jj y u:=by
 cases h with
 | agg h=>obtain ⟨us,h1,h2⟩:=hk;exact ⟨us,h1,by rw[h2,h.len]⟩
 | _=>exact hk
def aH.below(φ:aH)(n:Nat):aH:=fun i=>if i<n then φ i else none
theorem pW{bA:aH}{G H2:Y}{b:Nat}(h:Own (bA.below H2.length) H2 b):∃id blk,id<H2.length∧bA id=some b∧Y.find H2 id=some blk∧Y.find (G++H2) id=some blk:=by
 obtain ⟨id,blk,h1,h2⟩:=h
 have hl:=Y.au h2
 unfold aH.below at h1
 rw[if_pos hl] at h1
 exact ⟨id,blk,hl,h1,h2,by rw[Y.bw hl];exact h2⟩
theorem vb{bA:aH}{G H2:Y}{w1:World}:Later (· < H2.length) bA (bA.below H2.length) (Own bA (G++H2)) (Own (bA.below H2.length) H2) w1 w1:=by
 refine ⟨fun id b hid hm=>?_,Nat.le_refl _,fun b hb ho eA=>?_,fun _ _ _=>rfl,fun _ _=>rfl⟩
 ·unfold aH.below;rw[if_pos hid];exact hm
 ·obtain ⟨id,blk,h1,h2,h3,h4⟩:=pW (G:=G) eA
  exact ho ⟨id,blk,h2,h4⟩
mutual
theorem Fz.R{bA:aH}{G H2:Y}{w1:World}(hR:Rel bA (G++H2) w1):∀{x y:AV},Fz (G++H2) H2.length x y→∀{g:Nat→Option Value},R bA (Own bA (G++H2)) w1 x g→R (bA.below H2.length) (Own (bA.below H2.length) H2) w1 y g
 | _,_,.same hi,g,h=>jr vb _ _ _ hi (fun _ _ h=>h) h
 | _,_,.aE (k:=k) (id:=id) (off:=off) (n:=n) (c:=c) (blk:=blk) (ys:=ys) h1 h2 h3 h4 h5,g,h=>by
  obtain ⟨b,c',cur,e,fr,v1,v2,v3,v4,v5,v6,v7⟩:=h
  have oV:((blk.es.drop off).take n).length=n:=by simp;omega
  have nn:ys.length=n:=by rw[h5.len,oV]
  refine ⟨_,c',by rw[nn];exact v2,by omega,v4,fun h=>by simp at h,fun hp=>⟨b,off*k,rfl,?_,gW v6,?_⟩,trivial⟩
  ·intro ho
   obtain ⟨id',Y6,g1,g2,g3,g4⟩:=pW (G:=G) ho
   have:=hR.inj id' id b g2 v1 (by rw[g4];rfl) (by rw[h2];rfl)
   omega
  ·obtain ⟨_,q9,cap,a1,a2,a3,a4,a5,a6⟩:=(hR.blk id b blk v1 h2).gY v6
   have h7:=hJ (n:=n) (jv (f:=off) a6)
   rw[h3,Nat.zero_add] at h7
   exact nV.Rl hR h5 h7
 | _,_,.an (k:=k) (xs:=xs) (ys:=ys) hl,g,h=>by
  obtain ⟨a,c,h1,h2,h3,h4,h5,h6⟩:=h
  have nn:=hl.len
  refine ⟨a,c,by rw[nn];exact h1,by omega,h3,h4,fun hp=>?_,trivial⟩
  obtain ⟨b,off,e1,e2,e3,e4⟩:=h5 (by omega)
  refine ⟨b,off,e1,fun ho=>?_,e3,nV.Rl hR hl e4⟩
  obtain ⟨id',Y6,g1,g2,g3,g4⟩:=pW (G:=G) ho
  exact e2 ⟨id',Y6,g2,g4⟩
 | _,_,.nil,g,h=>by
  obtain ⟨a,c,h1,h2,h3,h4,h5,h6⟩:=h
  exact ⟨a,c,h1,h2,h3,h4,fun hp=>by simp at hp,trivial⟩
 | _,_,.agg hl,g,h=>nV.Rs hR hl h
 | _,_,.aG hl,g,h=>by
  obtain ⟨us,h1,h2⟩:=h
  exact ⟨us,h1,nV.Rt hR hl h2⟩
 | _,_,.dQ hx,g,h=>by
  obtain ⟨u,h1,h2,h3⟩:=h
  exact ⟨u,h1,hx.jj h2,Fz.R hR hx h3⟩
theorem nV.Rl{bA:aH}{G H2:Y}{w1:World}(hR:Rel bA (G++H2) w1):∀{xs ys:List AV},nV (G++H2) H2.length xs ys→∀{b k off:Nat},Rl bA (Own bA (G++H2)) w1 b k xs off→Rl (bA.below H2.length) (Own (bA.below H2.length) H2) w1 b k ys off
 | _,_,.nil,b,k,off,_=>trivial
 | _,_,.cons hx hr,b,k,off,h=>⟨by rw[hx.isAgg.2];exact h.1,by rw[hx.isAgg.1];exact h.2.1,Fz.R hR hx h.2.2.1,nV.Rl hR hr h.2.2.2⟩
theorem nV.Rs{bA:aH}{G H2:Y}{w1:World}(hR:Rel bA (G++H2) w1):∀{xs ys:List AV},nV (G++H2) H2.length xs ys→∀{g:Nat→Option Value},Rs bA (Own bA (G++H2)) w1 xs g→Rs (bA.below H2.length) (Own (bA.below H2.length) H2) w1 ys g
 | _,_,.nil,g,_=>trivial
 | _,_,.cons hx hr,g,h=>⟨by rw[hx.isAgg.1];exact h.1,Fz.R hR hx h.2.1,h.2.2.1,nV.Rs hR hr h.2.2.2⟩
theorem nV.Rt{bA:aH}{G H2:Y}{w1:World}(hR:Rel bA (G++H2) w1):∀{xs ys:List AV},nV (G++H2) H2.length xs ys→∀{us:List Value},Rt bA (Own bA (G++H2)) w1 xs us→Rt (bA.below H2.length) (Own (bA.below H2.length) H2) w1 ys us
 | _,_,.nil,us,h=>h
 | _,_,.cons hx hr,us,h=>by
  obtain ⟨v,s,h1,h2,h3,h4⟩:=h
  exact ⟨v,s,h1,hx.jj h2,Fz.R hR hx h3,nV.Rt hR hr h4⟩
end
mutual
theorem tN{φ:aH}{O:Nat→Prop}{w:World}:∀(x:AV)(g:Nat→Option Value),R φ O w x g→x.ids (fun id=>∃b,φ id=some b)
 | .Z v,g,_=>trivial
 | .an k xs room,g,h=>by
  obtain ⟨a,c,h1,h2,h3,h4,h5,h6⟩:=h
  refine ⟨?_,?_⟩
  ·cases xs with
   | nil=>trivial
   | cons x r=>obtain ⟨b,off,_,_,_,h7⟩:=h5 (by simp);exact yQ _ _ _ _ h7
  ·cases room with
   | none=>trivial
   | some ys =>
    cases ys with
    | nil=>trivial
    | cons y s=>obtain ⟨b,off,_,_,_,h7⟩:=h6.2 (by simp);exact yQ _ _ _ _ h7
 | .aE k id off n c,g,h=>by obtain ⟨b,_,_,_,_,h1,_⟩:=h;exact ⟨b,h1⟩
 | .ptr k id j f,g,h=>by obtain ⟨b,h1,_⟩:=h;exact ⟨b,h1⟩
 | .lp x f,g,h=>by obtain ⟨b,off,_,_,_,_,h1⟩:=h;exact tN x _ h1
 | .agg cs,g,h=>L9 cs g h
 | .aG vs,g,h=>by obtain ⟨us,_,h1⟩:=h;exact sE vs _ h1
 | .fn f a b,g,h=>by obtain ⟨us,ws,_,h1,h2⟩:=h;exact ⟨sE a _ h1,sE b _ h2⟩
 | .dQ t x,g,h=>by obtain ⟨u,_,_,h1⟩:=h;exact tN x _ h1
 | .ub,g,_=>trivial
 | .top,g,_=>trivial
 | .DF _,g,_=>trivial
theorem yQ{φ:aH}{O:Nat→Prop}{w:World}:∀(l:List AV)(b k off:Nat),Rl φ O w b k l off→AV.cy (fun id=>∃b,φ id=some b) l
 | [],_,_,_,_=>trivial
 | x::r,b,k,off,h=>⟨tN x _ h.2.2.1,yQ r _ _ _ h.2.2.2⟩
theorem L9{φ:aH}{O:Nat→Prop}{w:World}:∀(l:List AV)(g:Nat→Option Value),Rs φ O w l g→AV.cy (fun id=>∃b,φ id=some b) l
 | [],_,_=>trivial
 | x::r,g,h=>⟨tN x _ h.2.1,L9 r _ h.2.2.2⟩
theorem sE{φ:aH}{O:Nat→Prop}{w:World}:∀(l:List AV)(us:List Value),Rt φ O w l us→AV.cy (fun id=>∃b,φ id=some b) l
 | [],_,_=>trivial
 | x::r,us,h=>by obtain ⟨v,s,_,_,h1,h2⟩:=h;exact ⟨tN x _ h1,sE r _ h2⟩
end
theorem Ee{φ:aH}{O:Nat→Prop}{w:World}:∀(l:List AV)(es:List MapEntry),RE φ O w l es→AV.cy (fun id=>∃b,φ id=some b) l
 | [],_,_=>trivial
 | x::r,es,h=>by
  obtain ⟨e,s,_,h1,h2⟩:=h
  exact ⟨tN x _ h1.2,Ee r _ h2⟩
theorem gX.ids{φ:aH}{O:Nat→Prop}{w:World}{k:aK}{b:Nat}(h:gX φ O w k b):AV.cy (fun id=>∃b,φ id=some b) k.es:=by
 rcases h with ⟨_,_,_,_,_,_,_,_,h⟩ | ⟨_,_,_,_,_,_,_,h⟩ | ⟨_,_,r,ts,tm,e,_,h⟩ | ⟨_,_,_,_,x,r,e,_,_,_,h1,h2⟩ | ⟨_,_,_,_,_,_,h⟩
 ·exact yQ _ _ _ _ h
 ·exact Ee _ _ h
 ·rw[e];exact ⟨trivial,sE _ _ h⟩
 ·rw[e];exact ⟨tN x _ h1.2,Ee _ _ h2⟩
 ·exact sE _ _ h
theorem Oa{H G H2:Y}(hl:H.length≤H2.length)(hold:∀id k,Y.find H2 id=some k→(id<H.length∧Y.find H id=some k)∨AV.cy (· < H2.length) k.es){φ bA:aH}{w w1:World}(Ef:Rel φ H w)(hR:Rel bA (G++H2) w1)(hS:Step φ H w bA (G++H2) w1) :
  Rel (bA.below H2.length) H2 w1∧Step φ H w (bA.below H2.length) H2 w1:=by
 have hlb:Later (· < H2.length) bA (bA.below H2.length) (Own bA (G++H2)) (Own (bA.below H2.length) H2) w1 w1:=vb
 have Jt:∀id b,bA.below H2.length id=some b→id<H2.length∧bA id=some b:=fun id b h=>by
  unfold aH.below at h
  split at h
  ·rename_i hlt;exact ⟨hlt,h⟩
  ·simp at h
 refine ⟨⟨hR.gZ.later hlb,fun id b h=>⟨(Jt id b h).1,(hR.dom id b (Jt id b h).2).2⟩,fun i j b hi hj gJ kG=>?_,fun id b k h1 h2=>?_⟩,⟨⟨fun id b _ h=>?_,hS.size,fun b hb ho eA=>?_,hS.same,hS.shape⟩,hS.os,hS.tape,hS.output,hl,fun id hid=>?_⟩⟩
 ·have l1:=(Jt i b hi).1
  have l2:=(Jt j b hj).1
  exact hR.inj i j b (Jt i b hi).2 (Jt j b hj).2 (by rw[Y.bw l1];exact gJ) (by rw[Y.bw l2];exact kG)
 ·obtain ⟨hlt,h3⟩:=Jt id b h1
  refine (hR.blk id b k h3 (by rw[Y.bw hlt];exact h2)).later hlb rfl ?_
  rcases hold id k h2 with ⟨g1,g2⟩ | g
  ·have h4:φ id=some b:=by rw[←hS.old id g1];exact h3
   exact AV.dU (fun i ⟨b',hb'⟩=>Nat.lt_of_lt_of_le (Ef.dom i b' hb').1 hl) _ (Ef.blk id b k h4 g2).ids
  ·exact g
 ·have h4:=(Ef.dom id b h).1
  unfold aH.below
  rw[if_pos (by omega),hS.old id h4]
  exact h
 ·obtain ⟨id,blk,g1,g2,g3,g4⟩:=pW (G:=G) eA
  exact hS.own b hb ho ⟨id,blk,g2,g4⟩
 ·unfold aH.below
  rw[if_pos (by omega)]
  exact hS.old id hid
theorem Cu{H G H2:Y}{x y:AV}(hl:H.length≤H2.length)(hold:∀id k,Y.find H2 id=some k→(id<H.length∧Y.find H id=some k)∨AV.cy (· < H2.length) k.es)(hz:Fz (G++H2) H2.length x y):eo H (.ret x) (G++H2) (.ret y) H2:=by
 intro φ w bA w1 en Ef he hR hS
 obtain ⟨h1,h2⟩:=Oa hl hold Ef hR hS
 refine ⟨bA.below H2.length,?_,h1,h2⟩
 cases en with
 | returned v=>exact ⟨hz.jj he.1,Fz.R hR hz he.2⟩
 | _=>exact he.elim
theorem Ju{H G:Y}{x y:AV}(hz:Fz (G++H) H.length x y):eo H (.ret x) (G++H) (.ret y) H :=
 Cu (Nat.le_refl _) (fun id k h=>.inl ⟨Y.au h,h⟩) hz
end
end Go.Proofs.YtnoplgongieehaaGreatDoor
