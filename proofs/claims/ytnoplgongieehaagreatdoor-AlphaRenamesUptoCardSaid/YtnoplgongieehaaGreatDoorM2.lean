import Derived.Test.YtnoplgongieehaaGreatDoorM1
import Derived.Laws.IdiomStrings
import Derived.Laws.StructEq
import Derived.ChangeKeysEq
import Derived.Laws.Externs
import Derived.KernelRfl
import Derived.Lib.AppendZerosOnto
import Derived.Lib.UnsafeStr
import Derived.Lib.BufferWrite
import Derived.Lib.Builder
import Derived.RangeFuncRecord
namespace Go.Proofs.YtnoplgongieehaaGreatDoor
open Go.RowKit
set_option linter.unusedVariables false
set_option linter.unusedSimpArgs false
section
variable {P:Program}
theorem SG{φ:aU}{H:Y}{w:World}(hR:Rel φ H w){k:Nat}{x:AV}{v:Value}(hv:VR φ (Own φ H) w x v){K:List AV→Prop}(h:JS H k x K):∃ys,K ys∧Src φ (Own φ H) w k ys v:=by
 cases x<;>try exact False.elim h
 ·exact ⟨_,h.2,Src.QR hv h.1⟩
 ·obtain ⟨blk,h1,⟨rfl,h2,h3⟩,h4⟩:=h
  exact ⟨_,h4,Src.vT hR hv h1 h2 h3⟩
theorem SH{H:Y}{id:Nat}{b:Option aP}(h:Y.find H id=b)(hl:id<H.length):Y.set H id b=H:=by
 induction H with
 |nil=>rfl
 |cons x r ih =>
  simp only[Y.set]
  simp only[Y.find] at h
  split
  ·rename_i e;rw[if_pos e] at h;rw[h]
  ·rename_i e
   rw[if_neg e] at h
   rw[ih h (by simp at hl;omega)]
theorem set_set{id:Nat}(b c:Option aP):∀(H:Y),Y.set (Y.set H id b) id c=Y.set H id c
 |[]=>rfl
 |x::r=>by
  simp only[Y.set]
  split
  ·rename_i e;simp only[Y.set];rw[if_pos e]
  ·rename_i e;simp only[Y.set,Y.af];rw[if_neg e,set_set b c r]
theorem Ge{H:Y}{id:Nat}{b x:Option aP}(hl:id<H.length):Y.set (b::H) id x=b::Y.set H id x:=by
 simp only[Y.set]
 rw[if_neg (by omega)]
theorem fV{w:World}{b off:Nat}{cur:Array Value}{t:TypeId}{fr:Nat×Nat}(h:w.heap[b]? = some (.cells cur t fr))(i:Nat):cX w b off i=cur[off+i]?:=by
 simp[cX,World.cell?,h]
theorem CR{φ:aU}{H:Y}{w:World}(hR:Rel φ H w){t ty e:TypeId}{inf:TypeInfo}(ht:P.underlying t=some (.slice e))(hi:P.info? e=some inf)(cE:0<inf.size)
  {id b n c' cap:Nat}{blk:aP}{cur:Array Value}{ys:List AV}{v:Value}(hm:φ id=some b)(hf:Y.find H id=some blk)(hb:w.heap[b]? = some (.cells cur blk.ty (0,0)))(hsz:cur.size=cap*blk.k)(hk:blk.k=inf.size)(hty:blk.ty=e)
  (hel:blk.es.length≤cap)(hex:blk.exact=true→cap=blk.es.length)(nQ:cap≤maxLen)(lw:Rl φ (Own φ H) w b blk.k blk.es 0)(hv:Src φ (Own φ H) w inf.size ys v)(hn:n≤blk.es.length)(hroom:n+ys.length≤c')(hc:c'≤cap)
  (es':List AV)(mg:es'=blk.es.take n++ys++blk.es.drop (n+ys.length))(Wb:blk.exact=true→cap=es'.length) :
  ∃w',(Builtin.append_ #[t,t] ty #[.slice (some ⟨b,0,none⟩) n c',v]).run P w = .ok (.slice (some ⟨b,0,none⟩) (n+ys.length) c') w'∧
   Rel φ (Y.set H id (some { blk with es:=es' })) w'∧Step φ H w φ (Y.set H id (some { blk with es:=es' })) w':=by
 obtain ⟨a2,c2,news,rfl,n2,n3,n4,n5,n6⟩:=hv.ex
 obtain ⟨f1,f2⟩:=pJ lw
 have sL:(flat blk.es).length=blk.es.length*blk.k:=dc f1
 have pO:(flat ys).length=ys.length*inf.size:=dc n3
 have hcm:blk.es.length*blk.k≤cap*blk.k:=Nat.mul_le_mul_right _ hel
 have hnm:n*blk.k≤blk.es.length*blk.k:=Nat.mul_le_mul_right _ hn
 have hnc:(n+ys.length)*blk.k≤cap*blk.k:=Nat.mul_le_mul_right _ (by omega)
 have Wc:(n+ys.length)*blk.k=n*blk.k+ys.length*blk.k:=Nat.add_mul _ _ _
 rw[←hk] at n2 n3 pO
 by_cases hy:0<ys.length
 ·obtain ⟨ad,rfl,hnews⟩:=n6 hy
  have hrun:=run_append_room (P:=P) w t ty e inf ht hi b n c' cur (by rw[←hty];exact hb) ad ys.length c2 news (by rw[n2,hk]) hnews n5 hroom (by rw[n2,hsz,←hk];omega)
  have CS:∀x∈es',x.az=blk.k:=by
   intro x hx
   rw[mg] at hx
   rcases List.mem_append.1 hx with hx|hx
   ·rcases List.mem_append.1 hx with hx|hx
    ·exact f1 x (List.mem_of_mem_take hx)
    ·exact n3 x hx
   ·exact f1 x (List.mem_of_mem_drop hx)
  have CI:flat es'=(flat blk.es).take (n*blk.k)++flat ys++(flat blk.es).drop (n*blk.k+ys.length*blk.k):=by
   rw[mg,ek,ek,pK f1,mZ f1,Wc]
  have CT:es'.length≤cap:=by rw[mg];simp;omega
  have iG:(cur.toList.take (n*blk.k)).length=n*blk.k:=by simp;omega
  have oh:((flat blk.es).take (n*blk.k)).length=n*blk.k:=by rw[List.length_take,sL];exact Nat.min_eq_left hnm
  have hw:=hR.write (by rw[hk];exact cE) hm hf hb hsz es' (iJ:=(cur.toList.take (n*inf.size)++news++cur.toList.drop (n*inf.size+news.length)).toArray) (by simp[n2,←hk];omega) CT nQ Wb CS (by
   rw[CI,←hk]
   refine dB (dB (cA (fun q hq=>?_) (lm (n:=n*blk.k) f2)) (cA (fun q hq=>?_) n4)) (cA (fun q hq=>?_) (lj (f:=n*blk.k+ys.length*blk.k) f2))
   ·have iq:q<n*blk.k:=by rw[oh] at hq;exact hq
    simp only[List.getElem?_toArray]
    rw[List.append_assoc,List.getElem?_append_left (by omega),List.getElem?_take_of_lt iq,fV hb]
    simp
   ·have iq:q<ys.length*blk.k:=by rw[pO] at hq;exact hq
    rw[oh]
    simp only[List.getElem?_toArray]
    rw[List.getElem?_append_left (by rw[List.length_append,iG,n2];omega),List.getElem?_append_right (by omega),iG]
    congr 1
    omega
   ·have hl:((flat blk.es).take (n*blk.k)++flat ys).length=n*blk.k+ys.length*blk.k:=by rw[List.length_append,oh,pO]
    rw[hl]
    simp only[List.getElem?_toArray]
    have eK:(cur.toList.take (n*blk.k)++news).length=n*blk.k+ys.length*blk.k:=by rw[List.length_append,iG,n2]
    rw[List.getElem?_append_right (by omega),eK,fV hb,n2]
    simp)
  exact ⟨_,hrun,hw.1,hw.2⟩
 ·have hy0:ys=[]:=List.length_eq_zero_iff.1 (by omega)
  subst hy0
  have he:es'=blk.es:=by rw[mg];simp
  have hz:=yg (P:=P) (w:=w) (ty:=ty) ht hi (base:=some ⟨b,0,none⟩) (a:=a2) (c':=c2) (show n≤c' by simpa using hroom)
  have gK:Y.set H id (some { blk with es:=es' })=H:=by
   rw[he]
   exact SH hf (Y.ax hf)
  rw[gK]
  exact ⟨w,by simpa using hz,hR,Step.refl _ _ _⟩
theorem ng{φ:aU}{O:Nat→Prop}{w:World}{k id n c' b:Nat}{c:Option Nat}{cur:Array Value}{e:TypeId}{fr:Nat×Nat}(h1:φ id=some b)(h2:n≤c')(h3:c'≤maxLen)(h4:∀m,c=some m→c'=m)(h5:w.heap[b]? = some (.cells cur e fr))(h6:cur.size=c'*k) :
  VR φ O w (.aD k id 0 n c) (.slice (some ⟨b,0,none⟩) n c') :=
 ⟨rfl,b,c',cur,e,fr,h1,by simp[fR,Value.cells],h2,h3,h4,h5,by rw[h6];congr 1;omega⟩
theorem aaY{o:Oper}{t e:TypeId}{inf:TypeInfo}{z:Value}{s x:Operand}{s' x':X}{args:Array Operand}{ats:Array TypeId}(ho:o.op = .call { callee:=.builtin .append,args,argTypes:=ats })(ha:args.toList=[s,x])(ej:ats.toList=[t,t])
  (ht:P.underlying t=some (.slice e))(hi:P.info? e=some inf)(hz:inf.zero=some z)(hzs:z.cells.size=inf.size)(cE:0<inf.size)(hby:inf.bytes≤1000)(hs:bt s=some s')(hx:bt x=some x'):cQ P o (.ez inf.size e s' x'):=by
 intro φ H w ts a hR hr K Kp h next Q hn qD
 obtain rfl:args=#[s,x]:=by apply Array.toList_inj.1;simpa using ha
 obtain rfl:ats=#[t,t]:=by apply Array.toList_inj.1;simpa using ej
 have hv:=aF hr hs
 have hw:=aF hr hx
 have hex:∀{r:Value}{w':World},(Builtin.append_ #[t,t] o.type #[a.eval s,a.eval x]).run P w = .ok r w'→(execOp a.eval o).run P w = .ok (.value r) w':=by
  intro r w' h1
  simp only[execOp,ho,resolve,invoke,builtin,Sem.run_bind,Sem.run_pure,Result.andThen_ok,List.map_toArray,List.map_cons,List.map_nil,h1]
 simp only[HO.bu] at h
 obtain ⟨ys,h,hsrc⟩:=SG hR hw h
 split at h
 ·rename_i k' xs he
  rw[he] at hv
  obtain ⟨⟨g1,g2⟩,g3,g4⟩:=h
  obtain ⟨ad,c,zR,c1,c2,c3,c4,c5⟩:=iU hv
  by_cases hy:ys=[]
  ·subst hy
   obtain ⟨a2,cc,news,e2,_⟩:=hsrc.ex
   refine aY (hex ?_) (hn _ _ _ _ _ (g3 rfl) hv hR (Step.refl _ _ _))
   rw[zR,e2]
   exact yg ht hi c1
  ·have hpos:0<ys.length:=List.length_pos_iff.2 hy
   have hcap:c=xs.length:=by have:=c5.1;simpa using this
   obtain ⟨c',w',r1,r2,r3,r4⟩:=um (P:=P) hR (ty:=o.type) ht hi hz hzs hby cE (Src.QR hv g1) hsrc hpos g2 ⟨ad,c,zR,by omega,c3⟩
   exact aY (hex r1) (hn _ _ _ _ _ (g4 hy) r4 r2 r3)
 ·rename_i k' id off n c he
  rw[he] at hv
  obtain ⟨blk,h1,⟨rfl,hk,hty,rfl,hb8⟩,h⟩:=h
  obtain ⟨b,c',cur,e',fr,v1,v2,v3,v4,v5,v6,v7⟩:=iV hv
  obtain ⟨_,uC,cap,a1,a2,a3,a4,a5,a6⟩:=(hR.blk id b blk v1 h1).jK v6
  rw[v6] at a1
  cases a1
  have hJ:c'=cap:=by
   rw[v7,hk] at a2
   have:(0+c')=cap:=Nat.eq_of_mul_eq_mul_right cE a2
   omega
  subst hJ
  rw[Nat.zero_mul] at v2
  have yx:id<H.length:=Y.ax h1
  cases c with
  |none =>
   obtain ⟨⟨g1,g2⟩,g3⟩:=h
   by_cases hroom:n+ys.length≤c'
   ·obtain ⟨w',r1,r2,r3⟩:=CR (P:=P) hR (ty:=o.type) ht hi cE v1 h1 v6 a2 hk hty a3 a4 a5 a6 hsrc (Nat.le_of_eq g2) hroom (Nat.le_refl _) (blk.es++ys) (by
     rw[g2,List.take_length,List.drop_of_length_le (by omega),List.append_nil]) (fun h=>by rw[g1] at h;simp at h)
    have J1:Y.find (Y.set H id (some { blk with es:=blk.es++ys })) id=some { blk with es:=blk.es++ys }:=Y.aC yx
    obtain ⟨m1,m2⟩:=r2.move v1 J1
    have gK:Y.set (Y.set H id (some { blk with es:=blk.es++ys })) id none=Y.set H id none:=set_set _ _ _
    rw[Y.af,gK] at m1 m2
    have Fb:({ blk with es:=blk.es++ys }:aP)=⟨inf.size,blk.es++ys,false,e⟩:=by
     cases blk
     simp only at hk hty g1
     subst hk
     subst hty
     subst g1
     rfl
    rw[Fb] at m1 m2 r3
    have hcell:=r3.toLater.cells v6
    obtain ⟨iJ,fr',q1,q2⟩:=hcell
    refine aY (hex (by rw[v2];exact r1)) (hn _ _ _ _ _ g3 (ng (by simp[aU.add]) hroom v4 (fun m hm=>by simp at hm) q1 (by rw[q2,v7];congr 1;omega)) m1 (r3.trans m2))
   ·have hpos:0<ys.length:=by omega
    obtain ⟨c2,w',r1,r2,r3,r4⟩:=um (P:=P) hR (ty:=o.type) ht hi hz hzs hby cE (xs:=blk.es) (s:=a.eval s) (by
     have:=Src.vT hR hv h1 hk (by omega)
     rwa [List.drop_zero,g2,List.take_length] at this) hsrc hpos (by omega) ⟨_,c',by rw[v2,g2],by omega,fun h=>by simp at h⟩
    obtain ⟨k1,k2⟩:=r2.kill id
    rw[Ge yx] at k1 k2
    refine aY (hex r1) (hn _ _ _ _ _ ?_ (k2.vr r4) k1 (r3.trans k2))
    rw[←g2]
    exact g3
  |some m =>
   obtain ⟨g1,g4,g5⟩:=h
   have hcm:=v5 m rfl
   subst hcm
   have g3:n≤blk.es.length:=by
    rcases g1 with ⟨_,h2,h3⟩|⟨_,h2⟩
    ·omega
    ·exact h2
   by_cases hroom:n+ys.length≤c'
   ·obtain ⟨w',r1,r2,r3⟩:=CR (P:=P) hR (ty:=o.type) ht hi cE v1 h1 v6 a2 hk hty a3 a4 a5 a6 hsrc g3 hroom (Nat.le_refl _) _ rfl (fun hx=>by
     rcases g1 with ⟨_,h2,h3⟩|⟨h2,_⟩
     ·have mg:(blk.es.take n++ys++blk.es.drop (n+ys.length)).length=blk.es.length:=by simp;omega
      rw[mg];exact h2
     ·rw[h2] at hx;simp at hx)
    obtain ⟨iJ,fr',q1,q2⟩:=r3.toLater.cells v6
    exact aY (hex (by rw[v2];exact r1)) (hn _ _ _ _ _ (g4 hroom) (ng v1 hroom v4 (fun m hm=>by simpa using hm) q1 (by rw[q2,v7];congr 1;omega)) r2 r3)
   ·have hpos:0<ys.length:=by omega
    have hl:(blk.es.take n).length=n:=by simp;omega
    obtain ⟨c2,w',r1,r2,r3,r4⟩:=um (P:=P) hR (ty:=o.type) ht hi hz hzs hby cE (xs:=blk.es.take n) (s:=a.eval s) (by
     have:=Src.vT hR hv h1 hk (by omega)
     rwa [List.drop_zero] at this) hsrc hpos (by rw[hl];omega) ⟨_,c',by rw[v2,hl],by rw[hl];omega,fun h=>by simp at h⟩
    rw[hl] at r1 r4
    exact aY (hex r1) (hn _ _ _ _ _ (g5 (by omega)) r4 r2 r3)
 ·exact h.elim
theorem lz {f : FuncId} {fn : Func} (h1 : P.funcs[f]? = some fn) (h2 : fn.body.isSome) (h3 : fn.name ≠ "runtime.NumGoroutine") (args : Array Value) (w : World) : (callFunc f args).run P w = .ok (.enter f args) w := by
 have h4 : (fn.name == "runtime.NumGoroutine") = false := by simpa using h3
 have h5:fn.body.isNone=false:=by
  cases hb:fn.body with
  |none=>rw[hb] at h2;simp at h2
  |some c=>rfl
 simp only[callFunc,Sem.run_bind,run_program,Result.andThen_ok,h1,h4,h5,Bool.false_eq_true,if_false,Sem.run_pure]
theorem Gf{o:Oper}{a:Act}{φ:aU}{H:Y}{w:World}{f:FuncId}{vs:Array Value}{fw:List AV}{e:cH}{H':Y}{K Kp:AV→Y→Prop}{next:Act→World→Prop}{Q:Exit→Act→World→Prop}
  (hrun:(execOp a.eval o).run P w = .ok (.enter f vs) w)(hR:Rel φ H w)(ha:Rt φ (Own φ H) w fw vs.toList)(hD:D P f fw H e H')(hK:cH.post K Kp H' e)
  (hn:∀v u φ' H' w',K v H'→VR φ' (Own φ' H') w' v u→Rel φ' H' w'→Step φ H w φ' H' w'→next (a.put o.dst u) w')
  (hp:∀v u φ' H' w',Kp v H'→tW φ' (Own φ' H') w' v u→Rel φ' H' w'→Step φ H w φ' H' w'→Q (.panic u) a w'):o.wp P a w next Q:=by
 unfold Oper.wp
 rw[hrun,Oper.upon_enter]
 refine (hD.2 φ w vs hR ha).mono ?_
 rintro en w' ⟨φ',h1,h2,h3⟩
 cases e with
 |ret v =>
  cases en with
  |returned u=>exact hn _ _ _ _ _ hK h1 h2 h3
  |panicked c=>exact h1.elim
  |outgrown=>exact h1.elim
 |bP v =>
  cases en with
  |returned u=>exact h1.elim
  |panicked c =>
   exact hp _ _ _ _ _ hK h1 h2 h3
  |outgrown=>exact h1.elim
theorem CU{o:Oper}{a:Act}{φ:aU}{H:Y}{w:World}{f:FuncId}{vs:Array Value}{fw:List AV}{K Kp:AV→Y→Prop}{next:Act→World→Prop}{Q:Exit→Act→World→Prop}
  (hrun:(execOp a.eval o).run P w = .ok (.enter f vs) w)(hR:Rel φ H w)(ha:Rt φ (Own φ H) w fw vs.toList)(hD:DK P f fw H (fun e H'=>cH.post K Kp H' e))
  (hn:∀v u φ' H' w',K v H'→VR φ' (Own φ' H') w' v u→Rel φ' H' w'→Step φ H w φ' H' w'→next (a.put o.dst u) w')
  (hp:∀v u φ' H' w',Kp v H'→tW φ' (Own φ' H') w' v u→Rel φ' H' w'→Step φ H w φ' H' w'→Q (.panic u) a w'):o.wp P a w next Q:=by
 unfold Oper.wp
 rw[hrun,Oper.upon_enter]
 refine (hD φ w vs hR ha).mono ?_
 rintro en w' ⟨e,H',φ',h1,hK,h2,h3⟩
 cases e with
 |ret v =>
  cases en with
  |returned u=>exact hn _ _ _ _ _ hK h1 h2 h3
  |panicked c=>exact h1.elim
  |outgrown=>exact h1.elim
 |bP v =>
  cases en with
  |returned u=>exact h1.elim
  |panicked c =>
   exact hp _ _ _ _ _ hK h1 h2 h3
  |outgrown=>exact h1.elim
def HO.J2(P:Program)(ev:X→AV)(H:Y)(K Kp:AV→Y→Prop):HO→Prop
 |.call f args=>DK P f (args.map ev) H (fun e H'=>cH.post K Kp H' e)
 |.cq f args=>match ev f with
  | .fn (.func g) a b => (∃ fn, P.funcs[g]? = some fn ∧ fn.body.isSome ∧ fn.name ≠ "runtime.NumGoroutine") ∧ DK P g (a ++ args.map ev ++ b) H (fun e H' => cH.post K Kp H' e)
  |_=>False
 |.rP kd x=>NT K H kd (ev x)
 |q=>HO.bu P ev H K Kp q
theorem SI{o:Oper}{f:FuncId}{args:Array Operand}{ats:Array TypeId}{fw:List X}(ho:o.op = .call { callee:=.value (.func f),args,argTypes:=ats })(hc:cr P f=true)(has:pH args=some fw){φ:aU}{H:Y}{w:World}{ts:List AV}{a:Act}(hR:Rel φ H w)(hr:FR φ (Own φ H) w ts a){K Kp:AV→Y→Prop}(h:HO.J2 P (X.ev ts) H K Kp (.call f fw)){next:Act→World→Prop}{Q:Exit→Act→World→Prop}
  (hn:∀v u φ' H' w',K v H'→VR φ' (Own φ' H') w' v u→Rel φ' H' w'→Step φ H w φ' H' w'→next (a.put o.dst u) w')
  (hp:∀v u φ' H' w',Kp v H'→tW φ' (Own φ' H') w' v u→Rel φ' H' w'→Step φ H w φ' H' w'→Q (.panic u) a w'):o.wp P a w next Q:=by
 unfold cr at hc
 split at hc
 case h_2=>simp at hc
 rename_i fn hf
 simp only[Bool.and_eq_true,Bool.not_eq_true',beq_eq_false_iff_ne] at hc
 refine CU (vs:=args.map a.eval) ?_ hR (by simpa using oY hr has) h hn hp
 simp only[execOp,ho,resolve,Deferred.ofValue,Act.eval,invoke,Sem.run_bind,Sem.run_pure,Result.andThen_ok]
 rw[lz hf hc.1 hc.2]
 simp
theorem NW{o:Oper}{t:Tmp}{args:Array Operand}{ats:Array TypeId}{fw:List X}(ho:o.op = .call { callee:=.value (.tmp t),args,argTypes:=ats })(has:pH args=some fw){φ:aU}{H:Y}{w:World}{ts:List AV}{a:Act}(hR:Rel φ H w)(hr:FR φ (Own φ H) w ts a){K Kp:AV→Y→Prop}(h:HO.J2 P (X.ev ts) H K Kp (.cq (.t t) fw)){next:Act→World→Prop}{Q:Exit→Act→World→Prop}
  (hn:∀v u φ' H' w',K v H'→VR φ' (Own φ' H') w' v u→Rel φ' H' w'→Step φ H w φ' H' w'→next (a.put o.dst u) w')
  (hp:∀v u φ' H' w',Kp v H'→tW φ' (Own φ' H') w' v u→Rel φ' H' w'→Step φ H w φ' H' w'→Q (.panic u) a w'):o.wp P a w next Q:=by
 have hv:VR φ (Own φ H) w (X.ev ts (.t t)) (a.eval (.tmp t)):=aF hr rfl
 simp only[HO.J2] at h
 split at h
 case h_2=>exact h.elim
 rename_i g A B he
 rw[he] at hv
 obtain ⟨⟨fn,c1,c2,c3⟩,h1⟩:=h
 obtain ⟨us,ws,e1,e2,e3⟩:=Cx hv
 refine CU (vs:=us++args.map a.eval++ws) ?_ hR ?_ h1 hn hp
 ·simp only[execOp,ho,resolve,e1,Deferred.ofValue,invoke,Sem.run_bind,Sem.run_pure,Result.andThen_ok]
  rw[lz c1 c2 c3]
 ·have ha:=oY hr has
  have qL:∀{l m:List AV}{x y:List Value},Rt φ (Own φ H) w l x→Rt φ (Own φ H) w m y→Rt φ (Own φ H) w (l++m) (x++y):=by
   intro l
   induction l with
   |nil=>intro m x y h1 h2;simp only[Rt] at h1;subst h1;simpa using h2
   |cons q r ih =>
    intro m x y h1 h2
    obtain ⟨v,s,rfl,k1,k2,k3⟩:=h1
    exact ⟨v,s++y,rfl,k1,k2,ih k3 h2⟩
  simp only[Array.toList_append,Array.toList_map]
  exact qL (qL e2 ha) e3
theorem Wd{o:Oper}{f:FuncId}{args:Array Operand}{ats:Array TypeId}{fw:List X}(ho:o.op = .call { callee:=.value (.func f),args,argTypes:=ats })(hc:cr P f=true)(has:pH args=some fw):cQ P o (.call f fw):=by
 intro φ H w ts a hR hr K Kp h next Q hn hp
 obtain ⟨e,H',h1,h2⟩:=h
 unfold cr at hc
 split at hc
 case h_2=>simp at hc
 rename_i fn hf
 simp only[Bool.and_eq_true,Bool.not_eq_true',beq_eq_false_iff_ne] at hc
 refine Gf (vs:=args.map a.eval) ?_ hR (by simpa using oY hr has) h1 h2 hn hp
 simp only[execOp,ho,resolve,Deferred.ofValue,Act.eval,invoke,Sem.run_bind,Sem.run_pure,Result.andThen_ok]
 rw[lz hf hc.1 hc.2]
 simp
theorem SJ{o:Oper}{t:Tmp}{args:Array Operand}{ats:Array TypeId}{fw:List X}(ho:o.op = .call { callee:=.value (.tmp t),args,argTypes:=ats })(has:pH args=some fw):cQ P o (.cq (.t t) fw):=by
 intro φ H w ts a hR hr K Kp h next Q hn hp
 have hv:VR φ (Own φ H) w (X.ev ts (.t t)) (a.eval (.tmp t)):=aF hr rfl
 simp only[HO.bu] at h
 split at h
 case h_2=>exact h.elim
 rename_i g A B he
 rw[he] at hv
 obtain ⟨⟨fn,c1,c2,c3⟩,e,H',h1,h2⟩:=h
 obtain ⟨us,ws,e1,e2,e3⟩:=Cx hv
 refine Gf (vs:=us++args.map a.eval++ws) ?_ hR ?_ h1 h2 hn hp
 ·simp only[execOp,ho,resolve,e1,Deferred.ofValue,invoke,Sem.run_bind,Sem.run_pure,Result.andThen_ok]
  rw[lz c1 c2 c3]
 ·have ha:=oY hr has
  have qL:∀{l m:List AV}{x y:List Value},Rt φ (Own φ H) w l x→Rt φ (Own φ H) w m y→Rt φ (Own φ H) w (l++m) (x++y):=by
   intro l
   induction l with
   |nil=>intro m x y h1 h2;simp only[Rt] at h1;subst h1;simpa using h2
   |cons q r ih =>
    intro m x y h1 h2
    obtain ⟨v,s,rfl,k1,k2,k3⟩:=h1
    exact ⟨v,s++y,rfl,k1,k2,ih k3 h2⟩
  simp only[Array.toList_append,Array.toList_map]
  exact qL (qL e2 ha) e3
theorem aaZ{o:Oper}{x:Operand}{x':X}(ho:o.op = .panic x)(hx:bt x=some x'):cQ P o (.bP x'):=by
 intro φ H w ts a hR hr K Kp h next Q hn hp
 have hv:=aF hr hx
 simp only[HO.bu] at h
 split at h
 case h_2=>exact h.elim
 rename_i t v he
 rw[he] at hv
 obtain ⟨u,h1,_⟩:=vS hv
 have hrun:(execOp a.eval o).run P w = .halt (.panic (a.eval x)) w:=by
  simp only[execOp,ho,h1,Instr.panic,Sem.run_bind,run_goPanic,Result.andThen_halt]
 unfold Oper.wp
 rw[hrun,Oper.upon_panic]
 exact hp _ _ _ _ _ h (tW.one hv) hR (Step.refl _ _ _)
theorem Gg{φ:aU}{O:Nat→Prop}{w:World}{b:Nat}:∀(l:List UInt8)(off:Nat),(∀j (h:j<l.length),cX w b (off+j) 0=some (.int .u8 (l[j].toNat:Int)))→Rl φ O w b 1 (l.map fun b=>.sc (.int .u8 b.toNat)) off
 |[],_,_=>trivial
 |x::r,off,h=>by
  have h0:=h 0 (by simp)
  simp only[Nat.add_zero,List.getElem_cons_zero] at h0
  refine ⟨rfl,fun _=>⟨_,h0,rfl⟩,h0,Gg r (off+1) fun j hj=>?_⟩
  have:=h (j+1) (by simpa using hj)
  rw[show off+1+j=off+(j+1) from by omega]
  simpa using this
theorem aa0{o:Oper}{s d e:TypeId}{x:Operand}{x':X}(ho:o.op = .convert s d x)(hs:P.underlying s=some .string)(hd:P.underlying d=some (.slice e))(he:P.underlying e=some (.int .u8))(hx:bt x=some x'):cQ P o (.gx .NK [x']):=by
 intro φ H w ts a hR hr K Kp h next Q hn qD
 have hv:=aF hr hx
 simp only[HO.bu,List.map_cons,List.map_nil] at h
 obtain ⟨h1,h2⟩:=h
 cases ri:X.ev ts x'<;>rw[ri] at h1 h2 hv<;>try exact False.elim h1
 rename_i v
 cases v<;>try exact False.elim h1
 rename_i str
 have h1:str.size≤100000000:=h1
 have hu:=cw hv
 have gen:∀(v:Value)(W1:World),(convert s d (.string str)).run P w = .ok v W1→(execOp a.eval o).run P w = .ok (.value v) W1:=fun v W1 h=>by
  unfold execOp
  simp only[ho,hu,Sem.run_bind,h,Result.andThen_ok,Sem.run_pure]
 have hrun:=gen _ _ (run_bytes_of_string w s d e str hs hd he)
 have hsz:(bO str).length=str.size:=by
  unfold bO
  rw[List.length_map,Array.length_toList]
  rfl
 have hge:=grownCap_ge w str.size 0 e
 have hle:=grownCap_le_maxLen w str.size 0 e (by unfold maxLen;omega)
 generalize hrow:bytesRow str (grownCap w str.size 0 e)=row at hrun
 have hheap:(w.drew.alloc (.cells row e (row.size,row.size+1))).heap[w.heap.size]? = some (.cells row e (row.size,row.size+1)):=heap_alloc_new w.drew _
 have hold:∀b,b<w.heap.size→(w.drew.alloc (.cells row e (row.size,row.size+1))).heap[b]? = w.heap[b]?:=fun b hb=>Below.heap_alloc w.drew _ b hb
 have hsize:(w.drew.alloc (.cells row e (row.size,row.size+1))).heap.size=w.heap.size+1:=World.size_alloc w.drew _
 refine aY hrun (hn _ _ φ H _ h2 ?_ (hR.grow (by omega) hold) (grow_step rfl rfl rfl (by omega) hold))
 have hno:¬Own φ H w.heap.size:=fun ⟨id,blk,g1,_⟩=>by have:=(hR.dom id _ g1).2;omega
 refine ⟨rfl,some ⟨w.heap.size,0,none⟩,grownCap w str.size 0 e,by rw[hsz];rfl,by rw[hsz];exact hge,hle,fun h=>by simp at h,fun _=>⟨w.heap.size,0,rfl,hno,by omega,?_⟩,trivial⟩
 refine Gg str.data.toList 0 fun j hj=>?_
 have hj':j<str.data.size:=by simpa using hj
 rw[fV hheap,←hrow]
 have:=bytesRow_at str (grownCap w str.size 0 e) j hj'
 simpa using this
theorem aa1{o:Oper}{t e:TypeId}{x:Operand}{x':X}{args:Array Operand}{ats:Array TypeId}(ho:o.op = .call { callee:=.builtin .cap,args,argTypes:=ats })(ha:args.toList=[x])(ej:ats.toList=[t])(ht:P.underlying t=some (.slice e))(hx:bt x=some x'):cQ P o (.gx .cap [x']):=by
 intro φ H w ts a hR hr K Kp h next Q hn qD
 obtain rfl:args=#[x]:=by apply Array.toList_inj.1;simpa using ha
 obtain rfl:ats=#[t]:=by apply Array.toList_inj.1;simpa using ej
 have hv:=aF hr hx
 have hex:∀{r:Value}{w':World},(Builtin.cap_ #[t] o.type #[a.eval x]).run P w = .ok r w'→(execOp a.eval o).run P w = .ok (.value r) w':=by
  intro r w' h1
  simp only[execOp,ho,resolve,invoke,builtin,Sem.run_bind,Sem.run_pure,Result.andThen_ok,List.map_toArray,List.map_cons,List.map_nil,h1]
 have hcap:∀(ad:Option Addr)(n c:Nat),a.eval x = .slice ad n c→(Builtin.cap_ #[t] o.type #[a.eval x]).run P w = .ok (.int .i64 c) w:=fun ad n c e=>by
  rw[e]
  simp[Builtin.cap_,run_underlying ht,goInt]
 simp only[HO.bu,List.map_cons,List.map_nil] at h
 obtain ⟨h1,h2⟩:=h
 cases ri:X.ev ts x'<;>rw[ri] at h1 h2 hv<;>try exact False.elim h1
 ·rename_i k xs room
  cases room with
  |none=>exact h1.elim
  |some ys =>
   obtain ⟨ad,e1,_⟩:=FU hv
   exact aY (hex (hcap _ _ _ e1)) (hn _ _ φ H w h2 (dh rfl) hR (Step.refl _ _ _))
 ·rename_i k id off n c
  cases c with
  |none=>exact h1.elim
  |some c =>
   obtain ⟨b,c',cur,e0,fr,_,e1,_,_,e2,_⟩:=iV hv
   have:=e2 c rfl
   subst this
   exact aY (hex (hcap _ _ _ e1)) (hn _ _ φ H w h2 (dh rfl) hR (Step.refl _ _ _))
theorem NX {fn : Func} (hn : fn.name = "internal/bytealg.IndexByteString") : Extern.find fn = some Extern.BytealgIndexByte.indexByte := by
 unfold Extern.find
 rw[hn]
 have h1 : Extern.allGenericRows.lookup "internal/bytealg.IndexByteString" = none := by kernel_rfl
 have h2 : Extern.allTypedRows.lookup "internal/bytealg.IndexByteString" = none := by kernel_rfl
 have h3 : Extern.allRows.lookup "internal/bytealg.IndexByteString" = some Extern.BytealgIndexByte.indexByte := by kernel_rfl
 simp only[h1,h2,h3]
 rfl
theorem SK {fn : Func} (hn : fn.origin = "slices.overlaps") (g1 : Extern.allGenericRows.lookup fn.name = none) (g2 : Extern.allTypedRows.lookup fn.name = none) (g3 : Extern.allRows.lookup fn.name = none) : Extern.find fn = some (Extern.SlicesOverlaps.overlaps fn.params fn.resultTypes) := by
 unfold Extern.find
 have h1 : Extern.allGenericRows.lookup "slices.overlaps" = none := by kernel_rfl
 have h2 : Extern.allTypedRows.lookup "slices.overlaps" = some Extern.SlicesOverlaps.overlaps := by kernel_rfl
 simp only[g1,g2,g3,hn,h1,h2]
 rfl
theorem uD{o:Oper}{f:FuncId}{args:Array Operand}{ats:Array TypeId}{fn:Func}{e:Array Value→Sem Value}{a:Act}{w w':World}{v:Value}(ho:o.op = .call { callee:=.value (.func f),args,argTypes:=ats })(hf:P.funcs[f]? = some fn)(hx:CE fn=true)(he:Extern.find fn=some e)
  (hv:(e (args.map a.eval)).run P w = .ok v w'):(execOp a.eval o).run P w = .ok (.value v) w':=by
 simp only[CE,Bool.and_eq_true,Bool.not_eq_true',Option.isNone_iff_eq_none] at hx
 have:=run_callFunc_extern (P:=P) hf hx.1.2 (by simp[hx.1.1]) hx.2 he (args.map a.eval) w
 rw[hv] at this
 simp only[Result.andThen_ok] at this
 simp only[execOp,ho,resolve,Deferred.ofValue,Act.eval,invoke,Sem.run_bind,Sem.run_pure,Result.andThen_ok,Array.append_empty,Array.empty_append]
 simpa using this
theorem H7 {fn : Func} (hn : fn.name = "maps.clone") : Extern.find fn = some Extern.MapsClone.clone := by
 unfold Extern.find
 rw[hn]
 have h1 : Extern.allGenericRows.lookup "maps.clone" = none := by kernel_rfl
 have h2 : Extern.allTypedRows.lookup "maps.clone" = none := by kernel_rfl
 have h3 : Extern.allRows.lookup "maps.clone" = some Extern.MapsClone.clone := by kernel_rfl
 simp only[h1,h2,h3]
 rfl
theorem NY{H:Y}{l:List AV}(h:GX.ok H .vU l):∃t id j,l=[.eP t (.ptr 0 id j 0)]∧ut H id fun _=>True:=by
 match l,h with
 |[.eP t (.ptr 0 id j 0)],h=>exact ⟨t,id,j,rfl,h⟩
theorem Wg{H:Y}{l:List AV}(h:GX.ok H .CA l):∃s c,l=[.sc (.string s),.sc (.int .u8 c)]:=by
 unfold GX.ok at h
 split at h<;>simp_all
theorem aa2{H:Y}{l:List AV}(h:GX.ok H .NL l):∃k x xs r k2 id off n c blk,l=[.am k (x::xs) r,.aD k2 id off n c]∧Y.find H id=some blk∧0<k:=by
 match l,h with
 |[.am k (x::xs) r,.aD k2 id off n c],h =>
  simp only[GX.ok] at h
  split at h
  ·rename_i blk hf;exact ⟨_,_,_,_,_,_,_,_,_,blk,rfl,hf,h⟩
  ·exact h.elim
theorem Wh{φ:aU}{H:Y}{w:World}(hR:Rel φ H w){k:Nat}{x:AV}{xs:List AV}{r:Option (List AV)}{k2 id off n:Nat}{c:Option Nat}{blk:aP}{u v:Value}(hu:VR φ (Own φ H) w (.am k (x::xs) r) u)(hv:VR φ (Own φ H) w (.aD k2 id off n c) v)(hf:Y.find H id=some blk)(hk:0<k)
  {t e:TypeId}{inf:TypeInfo}{ps rs:Array TypeId}(hp:ps[0]? = some t)(ht:P.underlying t=some (.slice e))(hi:P.info? e=some inf):(Extern.SlicesOverlaps.overlaps ps rs #[u,v]).run P w = .ok (.bool false) w:=by
 obtain ⟨ad,cu,rfl,c1,c2,c3,c4,c5⟩:=iU hu
 obtain ⟨b,off',rfl,ho,hb,h1,h2,h3,h4⟩:=c4 (by simp)
 obtain ⟨b2,c',cur,e',fr,v1,rfl,v3,v4,v5,v6,v7⟩:=iV hv
 obtain ⟨_,uC,cap,a1,a2,a3,a4,a5,a6⟩:=(hR.blk id b2 blk v1 hf).jK v6
 have hne:b≠b2:=fun e=>ho (e▸⟨id,blk,v1,hf⟩)
 have hcell:∃q,w.cell? ⟨b,off',none⟩=some q:=by
  cases hx:x.isAgg with
  |false=>obtain ⟨q,hq,_⟩:=h2 hx;exact ⟨q,by simpa [cX] using hq⟩
  |true =>
   cases x<;>simp[AV.isAgg] at hx
   rename_i cs
   cases cs with
   |nil=>simp[AV.az] at h1;omega
   |cons y ys =>
    obtain ⟨_,_,⟨q,hq,_⟩,_⟩:=h3
    exact ⟨q,by simpa [cX] using hq⟩
 obtain ⟨q,hq⟩:=hcell
 unfold World.cell? at hq
 split at hq
 case h_2=>simp at hq
 rename_i cc ec frc hbc
 have hsz:cc.size≠0:=by
  intro h0
  have:cc=#[]:=Array.eq_empty_of_size_eq_zero h0
  subst this
  simp at hq
 have BP:w.shape? b=some (ec,cc.size):=by simp[World.shape?,hbc]
 have H8:w.shape? b2=some (blk.ty,uC.size):=by simp[World.shape?,a1]
 have hfb:∀o,w.frozen? ⟨b2,o,none⟩=false:=fun o=>by simp[World.frozen?,a1]
 obtain ⟨kA,hkA⟩:∃kA,cc.size=kA+1:=⟨cc.size-1,by omega⟩
 rw[hkA] at BP
 have hnb:(b != b2)=true:=by simpa using hne
 have agB:(b == b2)=false:=by simpa using hne
 change Sem.run P (α:=Value) (do
  let some t := ps[0]? | stuck "slices.overlaps: no parameter types"
  let .slice elem ← underlying t | stuck "slices.overlaps: slice type expected"
  let size ←sizeOf elem
  match (some ⟨b,off',none⟩:Option Addr),(some ⟨b2,off*k2,none⟩:Option Addr) with
  |some a,some b =>
   if xs.length+1=0∨n=0∨size=0 then pure (Value.bool false)
   else if a.block != b.block && (←frozen a) && (←frozen b) then unsupported .addressObserved
   else do
    if a.block != b.block then do
     noView a;noView b
     if ← mayBeOne a b then return Value.bool ((← choose (.extern "sameAddr.stringBytes" 2)) == 1)
    pure (Value.bool (a.block == b.block && a.off<b.off+n*size && b.off<a.off+(xs.length+1)*size))
  | _,_=>pure (Value.bool false)) w=_
 simp only[hp]
 by_cases hn0:n=0
 ·simp[run_underlying ht,sizeOf,typeInfo,hi,hn0]
 by_cases hs0:inf.size=0
 ·simp[run_underlying ht,sizeOf,typeInfo,hi,hs0]
 cases hfa:w.frozen? ⟨b,off',none⟩<;>cases agC:w.frozen? ⟨b,kA+1,none⟩ <;>
  simp[run_underlying ht,sizeOf,typeInfo,hi,hn0,hs0,hnb,agB,hne,frozen,noView,viewAt,mayBeOne,stringish,shape,Sem.run,BP,H8,hfa,agC,hfb]
theorem aa3{o:Oper}{f:FuncId}{args:Array Operand}{ats:Array TypeId}{q:HO}(ho:o.op = .call { callee:=.value (.func f),args,argTypes:=ats })(hq:Bl P f args=some q):cQ P o q:=by
 unfold Bl at hq
 split at hq
 case h_2=>simp at hq
 rename_i fn xs hf hxs
 split at hq
 case isFalse=>simp at hq
 rename_i hx
 intro φ H w ts a hR hr K Kp h next Q hn qD
 have lA:=oY hr (l:=args.toList) hxs
 have hvs:args.map a.eval=(args.toList.map a.eval).toArray:=by rw[←Array.toList_map]
 split at hq
 ·rename_i hnm
  cases hq
  simp only[HO.bu] at h
  obtain ⟨h1,h2⟩:=h
  obtain ⟨s,c,hl⟩:=Wg h1
  rw[hl] at lA h2
  obtain ⟨u1,r1,e1,o1,p1,u2,r2,e2,o2,p2,e3⟩:=lA
  simp only[Rt] at e3
  subst e3
  have q1:=cw (⟨o1,p1⟩:VR φ (Own φ H) w _ u1)
  have q2:=cw (⟨o2,p2⟩:VR φ (Own φ H) w _ u2)
  refine aY (uD ho hf hx (NX hnm) ?_) (hn _ _ φ H w h2 (dh rfl) hR (Step.refl _ _ _))
  rw[hvs,e1,e2,q1,q2]
  exact run_indexByte_string s c w
 split at hq
 case isFalse =>
  split at hq
  case isFalse=>simp at hq
  rename_i hnm
  cases hq
  simp only[HO.bu] at h
  obtain ⟨h1,h2⟩:=h
  obtain ⟨t,id,j,hl,hm⟩:=NY h1
  rw[hl] at lA h2
  obtain ⟨u1,r1,e1,o1,p1,e3⟩:=lA
  simp only[Rt] at e3
  subst e3
  obtain ⟨y,q1,q2⟩:=vS (⟨o1,p1⟩:VR φ (Own φ H) w _ u1)
  obtain ⟨b,blk,bU,clock,HY,m1,m2,m3,m4,m5,m6,m7,m8,m9⟩:=uB hR q2 rfl hm
  obtain ⟨zX,nS⟩:=hR.QW ⟨0,blk.es,true,0⟩ (.map bU clock) (fun hl=>.inr (.inl ⟨rfl,rfl,bU,clock,(MapKept.heap_alloc w _).1,m7,m8,mX hl (AV.cO _) m9⟩))
  have h2:K (.eP t (.ptr 0 H.length 0 0)) (some ⟨0,blk.es,true,0⟩::H):=by
   have BQ:K (.eP t (.ptr 0 H.length 0 0)) (some ⟨0,nc H id,true,0⟩::H):=h2
   rwa [m5] at BQ
  refine aY (uD (v:=.iface t (.map (some w.heap.size))) ho hf hx (H7 hnm) ?_) (hn _ _ _ _ _ h2 ⟨rfl,_,rfl,rfl,w.heap.size,by simp[aU.add],rfl⟩ zX nS)
  rw[hvs,e1,q1,HY]
  refine Eq.trans (b:=((do
   let o ←getObj b
   match o with
   |.map entries clock=>pure (.iface t (.map (some (←newObj (.map entries clock)))))
   | _ => stuck "maps.clone: a map expected") : Sem Value).run P w) rfl ?_
  simp only[Sem.run_bind,MapKept.run_getObj_map m6,Result.andThen_ok,run_newObj,Sem.run_pure]
  rfl
 rename_i J3
 cases hq
 simp only[VV,Bool.and_eq_true,beq_iff_eq,Option.isNone_iff_eq_none] at J3
 obtain ⟨⟨⟨⟨g0,g1⟩,g2⟩,g3⟩,g4⟩:=J3
 split at g4
 case h_2=>simp at g4
 rename_i t tr sQ
 split at g4
 case h_2=>simp at g4
 rename_i e ht
 obtain ⟨inf,hi⟩:=Option.isSome_iff_exists.1 g4
 simp only[HO.bu] at h
 obtain ⟨h1,h2⟩:=h
 obtain ⟨k,x,ys,r,k2,id,off,n,c,blk,hl,Fe,hk⟩:=aa2 h1
 rw[hl] at lA h2
 obtain ⟨u1,r1,e1,o1,p1,u2,r2,e2,o2,p2,e3⟩:=lA
 simp only[Rt] at e3
 subst e3
 have rR:fn.params[0]? = some t:=by rw[←Array.getElem?_toList,sQ];rfl
 refine aY (uD ho hf hx (SK g0 g1 g2 g3) ?_) (hn _ _ φ H w h2 (dh rfl) hR (Step.refl _ _ _))
 rw[hvs,e1,e2]
 exact Wh hR ⟨o1,p1⟩ ⟨o2,p2⟩ Fe hk rR ht hi
theorem Gh{s x:Operand}{t t':TypeId}{q:HO}(h:w4 P s x t t'=some q):∃g xs,q = .gx g xs:=by
 unfold w4 at h
 repeat' split at h
 all_goals first|(simp at h;done)|(cases h;exact ⟨_,_,rfl⟩)
theorem rS{p:Op}{q:HO}(h:CF P p=some q):∃g xs,q = .gx g xs:=by
 unfold CF at h
 repeat' split at h
 all_goals first|(simp at h;done)|(cases h;exact ⟨_,_,rfl⟩)|(rw[Option.map_eq_some_iff] at h;obtain ⟨_,_,rfl⟩:=h;exact ⟨_,_,rfl⟩)
theorem J4{f:FuncId}{args:Array Operand}{q:HO}(h:Bl P f args=some q):∃g xs,q = .gx g xs:=by
 unfold Bl at h
 repeat' split at h
 all_goals first|(simp at h;done)|(cases h;exact ⟨_,_,rfl⟩)
theorem QZ{r:List (Option IntKind)}:∀{xs ys:List AV},oS (none::r) xs ys→∃a xs' b ys',xs = .sc (.string a)::xs'∧ys = .sc (.string b)::ys'∧oS r xs' ys':=by
 intro xs ys h
 unfold oS at h
 split at h<;>first|exact h.elim|skip
 ·rename_i e;cases e
 ·rename_i e;cases e;exact ⟨_,_,_,_,rfl,rfl,h⟩
 ·rename_i e;cases e
theorem H9{r:List (Option IntKind)}{k:IntKind}:∀{xs ys:List AV},oS (some k::r) xs ys→∃a xs' b ys',xs = .sc (.int k a)::xs'∧ys = .sc (.int k b)::ys'∧oS r xs' ys':=by
 intro xs ys h
 unfold oS at h
 split at h<;>first|exact h.elim|skip
 ·rename_i e;cases e
 ·rename_i e;cases e
 ·rename_i e;cases e;obtain ⟨⟨rfl,rfl⟩,h⟩:=h;exact ⟨_,_,_,_,rfl,rfl,h⟩
theorem Ia:∀{xs ys:List AV},oS [] xs ys→xs=[]∧ys=[]:=by
 intro xs ys h
 unfold oS at h
 split at h<;>first|exact h.elim|skip
 ·exact ⟨rfl,rfl⟩
 ·rename_i e;cases e
 ·rename_i e;cases e
theorem J5{w:World}{d:Nat}:∀{fs:List Field}{ks:List (Option IntKind)}{xs ys:List AV}{i:Nat}{us vs:Array Value},F9 P i fs=some ks→oS ks xs ys→(∀j,j<xs.length→∃u,xs[j]? = some (.sc u)∧us[i+j]? = some u)→(∀j,j<ys.length→∃u,ys[j]? = some (.sc u)∧vs[i+j]? = some u)→
  (Op.eqFields (d+1) us vs fs).run P w = .ok (ur xs ys) w
 |[],ks,xs,ys,i,us,vs,hf,hk,hx,hy=>by
  simp only[F9,Option.some.injEq] at hf
  subst hf
  obtain ⟨rfl,rfl⟩:=Ia hk
  simp[Op.eqFields,ur]
 |f::r,ks,xs,ys,i,us,vs,hf,hk,hx,hy=>by
  unfold F9 at hf
  split at hf
  case isFalse=>simp at hf
  rename_i hc
  obtain ⟨c1,c2,c3⟩:=hc
  have c1 : f.name ≠ "_" := by simpa using c1
  have hp:∀{cs:Array Value}{u:Value},cs[i]? = some u→(part f.type cs f.offset).run P w = .ok u w:=by
   intro cs u hu
   unfold fT at c3
   split at c3
   case h_2=>simp at c3
   rename_i dd ii h1 h2
   simp only[Option.some.injEq,Prod.mk.injEq] at c3
   unfold part
   simp[vR h1,c3.2,c2,hu]
  have go:∀{xs ys:List AV}{p q:Value}{ks':List (Option IntKind)}{b:Bool},F9 P (i+1) r=some ks'→oS ks' xs ys→(∀j,j<(AV.sc p::xs).length→∃u,(AV.sc p::xs)[j]? = some (.sc u)∧us[i+j]? = some u)→(∀j,j<(AV.sc q::ys).length→∃u,(AV.sc q::ys)[j]? = some (.sc u)∧vs[i+j]? = some u)→
    (Op.equalIn (d+1) f.type p q).run P w = .ok b w→(Op.eqFields (d+1) us vs (f::r)).run P w = .ok (b && ur xs ys) w:=by
   intro xs ys p q ks' b h2 hk hx hy hb
   obtain ⟨u,e1,e2⟩:=hx 0 (by simp)
   obtain ⟨v,e3,e4⟩:=hy 0 (by simp)
   simp at e1 e3
   subst e1
   subst e3
   have ih:=J5 (w:=w) (d:=d) (us:=us) (vs:=vs) h2 hk (fun j hj=>by
    obtain ⟨u,g1,g2⟩:=hx (j+1) (by simpa using hj)
    exact ⟨u,by simpa using g1,by rw[←g2];congr 1;omega⟩) (fun j hj=>by
    obtain ⟨u,g1,g2⟩:=hy (j+1) (by simpa using hj)
    exact ⟨u,by simpa using g1,by rw[←g2];congr 1;omega⟩)
   have CV : (f.name ≠ "_") = True := eq_true c1
   simp only[Op.eqFields,CV,if_true,Sem.run_bind,hp (by simpa using e2),hp (by simpa using e4),Result.andThen_ok,hb]
   cases b<;>simp[ih]
  split at hf
  ·rename_i ks' h1 h2
   cases hf
   obtain ⟨a,xs',b,ys',rfl,rfl,hk⟩:=QZ hk
   simp only[ur]
   exact go h2 hk hx hy (by rw[run_equalIn_string w d _ _ _ h1,beq_toListBytes])
  ·rename_i k ks' h1 h2
   cases hf
   obtain ⟨a,xs',b,ys',rfl,rfl,fx⟩:=H9 hk
   simp only[ur]
   exact go h2 fx hx hy (run_equalIn_int w d _ _ _ _ _ h1)
  ·simp at hf
theorem rT:∀{ks:List (Option IntKind)}{xs ys:List AV},oS ks xs ys→(∀x∈xs,∃u,x = .sc u)∧(∀x∈ys,∃u,x = .sc u)
 |[],_,_,h=>by obtain ⟨rfl,rfl⟩:=Ia h;simp
 |none::r,_,_,h=>by
  obtain ⟨a,xs',b,ys',rfl,rfl,hk⟩:=QZ h
  have ih:=rT hk
  exact ⟨fun x hx=>by rcases List.mem_cons.1 hx with rfl|hx;exact ⟨_,rfl⟩;exact ih.1 x hx,fun x hx=>by rcases List.mem_cons.1 hx with rfl|hx;exact ⟨_,rfl⟩;exact ih.2 x hx⟩
 |some k::r,_,_,h=>by
  obtain ⟨a,xs',b,ys',rfl,rfl,hk⟩:=H9 h
  have ih:=rT hk
  exact ⟨fun x hx=>by rcases List.mem_cons.1 hx with rfl|hx;exact ⟨_,rfl⟩;exact ih.1 x hx,fun x hx=>by rcases List.mem_cons.1 hx with rfl|hx;exact ⟨_,rfl⟩;exact ih.2 x hx⟩
theorem yy{φ:aU}{O:Nat→Prop}{w:World}{xs:List AV}{v:Value}(h:VR φ O w (.agg xs) v)(hs:∀x∈xs,∃u,x = .sc u):∃us,v = .agg us∧∀j,j<xs.length→∃u,xs[j]? = some (.sc u)∧us[0+j]? = some u:=by
 obtain ⟨us,rfl,h1,h2⟩:=Ct h
 refine ⟨us,rfl,fun j hj=>?_⟩
 obtain ⟨u,hu⟩:=hs _ (List.getElem_mem hj)
 have hx:xs[j]? = some (.sc u):=by rw[←hu];simp[hj]
 obtain ⟨a1,a2,_⟩:=Cb h2 hx
 exact ⟨u,hx,by simpa [R] using a2⟩
theorem CW{w:World}{d:Nat}{e:TypeId}{k:IntKind}{us vs:Array Value}(he:P.underlying e=some (.int k))(hp:∀{cs:Array Value}{i:Nat}{u:Value},cs[i]? = some u→(part e cs i).run P w = .ok u w):∀(m i:Nat){xs ys:List AV},oS (List.replicate m (some k)) xs ys→
  (∀j,j<xs.length→∃u,xs[j]? = some (.sc u)∧us[i+j]? = some u)→(∀j,j<ys.length→∃u,ys[j]? = some (.sc u)∧vs[i+j]? = some u)→(Op.eqItems (d+1) e 1 us vs (List.range' i m)).run P w = .ok (ur xs ys) w
 |0,i,xs,ys,hk,hx,hy=>by
  obtain ⟨rfl,rfl⟩:=Ia hk
  simp[Op.eqItems,ur]
 |m+1,i,xs,ys,hk,hx,hy=>by
  obtain ⟨a,xs',b,ys',rfl,rfl,hk'⟩:=H9 (r:=List.replicate m (some k)) hk
  obtain ⟨u,e1,e2⟩:=hx 0 (by simp)
  obtain ⟨v,e3,e4⟩:=hy 0 (by simp)
  simp at e1 e3
  subst e1
  subst e3
  rw[Nat.add_zero] at e2 e4
  have ih:=CW (d:=d) he hp m (i+1) hk' (fun j hj=>by
   obtain ⟨u,f1,f2⟩:=hx (j+1) (by simp;omega)
   exact ⟨u,by simpa using f1,by rw[show i+1+j=i+(j+1) by omega];exact f2⟩) (fun j hj=>by
   obtain ⟨u,f1,f2⟩:=hy (j+1) (by simp;omega)
   exact ⟨u,by simpa using f1,by rw[show i+1+j=i+(j+1) by omega];exact f2⟩)
  have hq:(Op.equalIn (d+1) e (.int k a) (.int k b)).run P w = .ok (a == b) w:=by
   simp[Op.equalIn,run_underlying he]
  simp only[List.range'_succ,Op.eqItems,Nat.mul_one,Sem.run_bind,hp e2,hp e4,hq,Result.andThen_ok]
  cases hab:(a == b)
  ·simp[ur,hab]
  ·simp[ur,hab,ih]
theorem Q0{o:Oper}{op:BinOp}{t ty:TypeId}{x y:Operand}{x' y':X}{pos:Bool}{ks:List (Option IntKind)}(ho:o.op = .binOp op t x y ty)(ht:NR P t=some ks)(hop:op=if pos then .eql else .neq)(hx:bt x=some x')(hy:bt y=some y'):cQ P o (.gx (.rN pos ks) [x',y']):=by
 intro φ H w ts a hR hr K Kp h next Q hn qD
 have hv:=aF hr hx
 have hw:=aF hr hy
 simp only[HO.bu,List.map_cons,List.map_nil] at h
 obtain ⟨h1,h2⟩:=h
 cases ri:X.ev ts x'<;>rw[ri] at h1 h2 hv<;>try exact False.elim h1
 cases Wi:X.ev ts y'<;>rw[Wi] at h1 h2 hw<;>try exact False.elim h1
 rename_i xs ys
 have h1:oS ks xs ys:=h1
 unfold NR at ht
 split at ht
 case h_3=>simp at ht
 case h_1 =>
  rename_i fs hs
  split at ht
  case isFalse=>simp at ht
  rename_i hc
  obtain ⟨hsi,hg⟩:=hc
  obtain ⟨us,e1,g1⟩:=yy hv (rT h1).1
  obtain ⟨vs,e2,g2⟩:=yy hw (rT h1).2
  have hfo:P.fieldsOf t=fs:=by simp[Program.fieldsOf,hs]
  have hrun:(Op.equalIn (9999+1) t (.agg us) (.agg vs)).run P w = .ok (ur xs ys) w:=by
   rw[run_equalIn_struct w 9999 t us vs (by rw[hfo];exact hs) hsi,hfo]
   exact J5 (d:=9998) ht h1 g1 g2
  refine aY ?_ (hn _ _ φ H w h2 (dh rfl) hR (Step.refl _ _ _))
  cases pos<;>simp at hop<;>subst hop
  ·simp only[execOp,ho,e1,e2,Sem.run_bind,run_eqGuard_agg w _ _ _ _ _ _ hg,Result.andThen_ok,run_neq_struct,hrun,Bool.false_eq_true,if_false,Sem.run_pure]
  ·simp only[execOp,ho,e1,e2,Sem.run_bind,run_eqGuard_agg w _ _ _ _ _ _ hg,Result.andThen_ok,run_eql_struct,hrun,if_true,Sem.run_pure]
 case h_2 =>
  rename_i n e hs
  split at ht
  case isFalse=>simp at ht
  rename_i hc
  obtain ⟨hg,hz⟩:=hc
  split at ht
  case h_2=>simp at ht
  rename_i k he
  simp only[Option.some.injEq] at ht
  subst ht
  obtain ⟨us,e1,g1⟩:=yy hv (rT h1).1
  obtain ⟨vs,e2,g2⟩:=yy hw (rT h1).2
  unfold fT at hz
  split at hz
  case h_2=>simp at hz
  rename_i dd ii hu hi
  simp only[Option.some.injEq,Prod.mk.injEq] at hz
  have hc1:P.cellsOf e=1:=by simp[Program.cellsOf,hi,hz.1]
  have hrun:(Op.equalIn (9999+1) t (.agg us) (.agg vs)).run P w = .ok (ur xs ys) w:=by
   rw[Go.run_equalIn_array w 9999 us vs hs hi,hc1,List.range_eq_range']
   refine CW (d:=9998) he (fun {cs i u} SL=>?_) n 0 h1 g1 g2
   unfold part
   simp[vR hu,hz.2,SL]
  refine aY ?_ (hn _ _ φ H w h2 (dh rfl) hR (Step.refl _ _ _))
  cases pos<;>simp at hop<;>subst hop
  ·simp only[execOp,ho,e1,e2,Sem.run_bind,run_eqGuard_agg w _ _ _ _ _ _ hg,Result.andThen_ok,run_neq_struct,hrun,Bool.false_eq_true,if_false,Sem.run_pure]
  ·simp only[execOp,ho,e1,e2,Sem.run_bind,run_eqGuard_agg w _ _ _ _ _ _ hg,Result.andThen_ok,run_eql_struct,hrun,if_true,Sem.run_pure]
theorem Wj{o:Oper}{t tn e:TypeId}{kn:IntKind}{inf:TypeInfo}{z:Value}{za:AV}{s x:Operand}{s' x':X}{args:Array Operand}{ats:Array TypeId}(ho:o.op = .call { callee:=.builtin .append,args,argTypes:=ats })(ha:args.toList=[s,x])(ej:ats.toList=[t,tn])
  (ht:P.underlying t=some (.slice e))(htn:P.underlying tn=some (.int kn))(hi:P.info? e=some inf)(hz:inf.zero=some z)(hc:fS z=some za)(hk:za.az=inf.size)(cE:0<inf.size)(hby:inf.bytes≤1000)(uz:za.bT=false)(hs:bt s=some s')(hx:bt x=some x'):cQ P o (.gx (.qI inf.size e za) [s',x']):=by
 intro φ H w ts a hR hr K Kp h next Q hn qD
 obtain rfl:args=#[s,x]:=by apply Array.toList_inj.1;simpa using ha
 obtain rfl:ats=#[t,tn]:=by apply Array.toList_inj.1;simpa using ej
 have hv:=aF hr hs
 have hw:=aF hr hx
 have hex:∀{r:Value}{w':World},(Builtin.append_ #[t,tn] o.type #[a.eval s,a.eval x]).run P w = .ok r w'→(execOp a.eval o).run P w = .ok (.value r) w':=by
  intro r w' h1
  simp only[execOp,ho,resolve,invoke,builtin,Sem.run_bind,Sem.run_pure,Result.andThen_ok,List.map_toArray,List.map_cons,List.map_nil,h1]
 simp only[HO.bu,List.map_cons,List.map_nil] at h
 obtain ⟨h1,h2⟩:=h
 cases ri:X.ev ts s'<;>rw[ri] at h1 h2 hv<;>try exact False.elim h1
 ·rename_i k xs room
  cases xs with
  |cons x r=>exact False.elim h1
  |nil =>
  cases room with
  |none=>exact False.elim h1
  |some ys =>
  cases ys with
  |cons y s=>exact False.elim h1
  |nil =>
  cases Wi:X.ev ts x'<;>rw[Wi] at h1 h2 hw<;>try exact False.elim h1
  rename_i u
  cases u<;>try exact False.elim h1
  rename_i kq m
  obtain ⟨hm0,Ib⟩:=h1
  obtain ⟨m',rfl⟩:∃m':Nat,m=m':=⟨m.toNat,by omega⟩
  obtain ⟨ad,c,zR,_,_,_,_,c5⟩:=iU hv
  have hc0:c=0:=by have:=c5.1;simpa using this
  subst hc0
  have tV:VR φ (Own φ H) w za z:=eF hc
  have hzs:=gJ tV uz
  rw[hk] at hzs
  have hold:(Builtin.firstCells inf.size 0 (.slice ad 0 0)).run P w.drew = .ok ([]:List Value).toArray w.drew:=by
   cases ad with
   |none=>rfl
   |some ad=>exact run_firstCells_some w.drew inf.size 0 ad 0 0 [] (by simp) fun j u hj=>by simp at hj
  have hmb:m'*inf.bytes≤100000000*1000:=Nat.mul_le_mul (by omega) hby
  have E9:=Go.Lib.run_append_grow_zeros (P:=P) w t tn o.type e inf z kq kn ht htn hi hz ad 0 0 [] hold m' (by omega) cE (by omega) (by omega) (by omega) (growslice_fits (by omega) (by simpa using (show m'*inf.bytes≤_ from by omega)))
  rw[Nat.zero_add] at E9
  have hge:=grownCap_ge w m' 0 e
  have hle:=grownCap_le_maxLen w m' 0 e (by unfold maxLen;omega)
  generalize hcap:grownCap w m' 0 e=cap at E9 hge hle
  generalize mh:([]:List Value).toArray++Builtin.zeroCells z.cells m'++Builtin.zeroCells z.cells (cap-m')=arr at E9
  have hsz:arr.size=cap*inf.size:=by
   rw[←mh]
   simp only[Array.size_append,List.size_toArray,List.length_nil,Nat.zero_add,size_zeroCells,hzs,←Nat.add_mul]
   congr 1;omega
  have hal:=(pB hR).alloc ⟨inf.size,[],false,e⟩ cE arr cap hsz (Nat.zero_le _) (fun h=>by simp at h) hle (fun x hx=>by simp at hx) trivial
  have fx:K (.aD inf.size H.length 0 m' none) (some ⟨inf.size,[],false,e⟩::H):=by
   simpa [GX.val,GX.heap] using h2
  refine aY (hex (by rw[zR,cw hw];exact E9)) (hn _ _ _ _ _ fx ?_ hal.1 ((iR φ H w).trans hal.2))
  exact ⟨rfl,w.heap.size,cap,arr,e,(0,0),by simp[aU.add],by simp[fR,Value.cells],hge,hle,fun m hm=>by simp at hm,heap_alloc_new w.drew _,by simpa using hsz⟩
 rename_i k' id off n c
 cases c with
 |none=>exact h1.elim
 |some c =>
 cases Wi:X.ev ts x'<;>rw[Wi] at h1 h2 hw<;>try exact False.elim h1
 rename_i u
 cases u<;>try exact False.elim h1
 rename_i kq m
 simp only[GX.ok] at h1
 split at h1
 case h_2=>exact h1.elim
 rename_i blk hf
 obtain ⟨⟨rfl,hbk,rfl,hn0⟩,hm0,hcm,Ib⟩:=h1
 obtain ⟨b,c',cur,e',fr,v1,v2,v3,v4,v5,v6,v7⟩:=iV hv
 have hJ:=v5 c rfl
 subst hJ
 have hsrc:Src φ (Own φ H) w inf.size (blk.es.take n) (a.eval s):=by
  have:=Src.vT hR hv hf hbk (by omega)
  rwa [List.drop_zero] at this
 obtain ⟨a2,c2,olds,e1,o2,o3,o4,o5,o6⟩:=hsrc.ex
 have hl:(blk.es.take n).length=n:=by simp;omega
 rw[hl] at e1 o2
 rw[v2] at e1
 cases e1
 obtain ⟨m',rfl⟩:∃m':Nat,m=m':=⟨m.toNat,by omega⟩
 have tV:VR φ (Own φ H) w za z:=eF hc
 have hzs:=gJ tV uz
 rw[hk] at hzs
 have uo:olds.length=n*inf.size:=o2
 have hold:(Builtin.firstCells inf.size n (.slice (some ⟨b,0*inf.size,none⟩) n c')).run P w.drew = .ok olds.toArray w.drew:=by
  refine run_firstCells_some w.drew inf.size n ⟨b,0*inf.size,none⟩ n c' olds uo fun j u hj=>?_
  have hp:0<(blk.es.take n).length:=by
   rcases Nat.eq_zero_or_pos (blk.es.take n).length with h|h
   ·rw[hl] at h
    rw[h,Nat.zero_mul] at uo
    have:olds=[]:=List.length_eq_zero_iff.1 uo
    subst this
    simp at hj
   ·exact h
  obtain ⟨ad',h,h'⟩:=o6 hp
  cases h
  exact h' j u hj
 have hbytes:(n+m')*inf.bytes≤100000000*1000:=Nat.mul_le_mul (by omega) hby
 have hmb:m'*inf.bytes≤(n+m')*inf.bytes:=Nat.mul_le_mul_right _ (by omega)
 have E9:=Go.Lib.run_append_grow_zeros (P:=P) w t tn o.type e inf z kq kn ht htn hi hz (some ⟨b,0*inf.size,none⟩) n c' olds hold m' (by omega) cE (by omega) (by omega) (by omega) (growslice_fits (by omega) (by omega))
 have hge:=grownCap_ge w (n+m') c' e
 have hle:=grownCap_le_maxLen w (n+m') c' e (by unfold maxLen;omega)
 generalize hcap:grownCap w (n+m') c' e=cap at E9 hge hle
 generalize mh:olds.toArray++Builtin.zeroCells z.cells m'++Builtin.zeroCells z.cells (cap-(n+m'))=arr at E9
 have hsz:arr.size=cap*inf.size:=by
  rw[←mh]
  simp only[Array.size_append,List.size_toArray,size_zeroCells,hzs,uo,←Nat.add_mul]
  congr 1;omega
 have VQ:=pB hR
 have hnc:∀x∈blk.es.take n++List.replicate m' za,x.az=inf.size:=fun x hx=>by
  rcases List.mem_append.1 hx with h|h
  ·exact o3 x h
  ·rw[List.eq_of_mem_replicate h];exact hk
 have BN:Rs φ (Own φ H) w.drew (flat (blk.es.take n++List.replicate m' za)) (fun i=>arr[i]?):=by
  have hlt:Later (fun _=>True) φ φ (Own φ H) (Own φ H) w w.drew:=(iR φ H w).toLater
  refine jq hlt _ _ _ (AV.cO _) (fun i v hv=>hv) ?_
  rw[ek]
  have sL:(flat (blk.es.take n)).length=n*inf.size:=by rw[dc o3,hl]
  refine dB (cA (fun i hi=>?_) o4) (lv (zc:=z.cells) (uf tV uz) hk cE m' _ (fun j hj=>?_))
  ·rw[←mh,Array.getElem?_append_left (by simp;omega),Array.getElem?_append_left (by simp;omega)]
   simp
  ·rw[←mh,sL,Array.getElem?_append_left (by simp only[Array.size_append,List.size_toArray,size_zeroCells,hzs,uo];omega),Array.getElem?_append_right (by simp only[List.size_toArray,uo];omega)]
   simp only[List.size_toArray,uo,Nat.add_sub_cancel_left,Builtin.zeroCells]
   rw[hzs]
   have:=sM hzs cE hj
   rwa [hzs] at this
 have hal:=VQ.alloc ⟨inf.size,blk.es.take n++List.replicate m' za,false,e⟩ (by assumption) arr cap hsz (by simp;omega) (fun h=>by simp at h) hle hnc BN
 have fx:K (.aD inf.size H.length 0 (n+m') none) (some ⟨inf.size,blk.es.take n++List.replicate m' za,false,e⟩::H):=by
  simpa [GX.val,GX.heap,hf] using h2
 refine aY (hex (by rw[v2,cw hw];exact E9)) (hn _ _ _ _ _ fx ?_ hal.1 ((iR φ H w).trans hal.2))
 exact ⟨rfl,w.heap.size,cap,arr,e,(0,0),by simp[aU.add],by simp[fR,Value.cells],hge,hle,fun m hm=>by simp at hm,heap_alloc_new w.drew _,by simpa using hsz⟩
theorem Wk{o:Oper}{t e:TypeId}{inf:TypeInfo}{d s:Operand}{d' s':X}{args:Array Operand}{ats:Array TypeId}(ho:o.op = .call { callee:=.builtin .copy,args,argTypes:=ats })(ha:args.toList=[d,s])(ej:ats.toList=[t,t])
  (ht:P.underlying t=some (.slice e))(hi:P.info? e=some inf)(hz:0<inf.size)(hd:bt d=some d')(hs:bt s=some s'):cQ P o (.gx (.copy inf.size) [d',s']):=by
 intro φ H w ts a hR hr K Kp h next Q hn qD
 obtain rfl:args=#[d,s]:=by apply Array.toList_inj.1;simpa using ha
 obtain rfl:ats=#[t,t]:=by apply Array.toList_inj.1;simpa using ej
 have hv:=aF hr hd
 have hw:=aF hr hs
 have hex:∀{r:Value}{w':World},(Builtin.copy_ #[t,t] o.type #[a.eval d,a.eval s]).run P w = .ok r w'→(execOp a.eval o).run P w = .ok (.value r) w':=by
  intro r w' h1
  simp only[execOp,ho,resolve,invoke,builtin,Sem.run_bind,Sem.run_pure,Result.andThen_ok,List.map_toArray,List.map_cons,List.map_nil,h1]
 simp only[HO.bu,List.map_cons,List.map_nil] at h
 obtain ⟨h1,h2⟩:=h
 have src:∀m,Bk H inf.size m (X.ev ts s')→m≤lR (X.ev ts s')∧∃ad c,a.eval s = .slice ad (lR (X.ev ts s')) c∧∃ys,ys=Su H m (X.ev ts s')∧ys.length=m∧∃news:List Value,news.length=m*inf.size∧(∀x∈ys,x.az=inf.size)∧Rs φ (Own φ H) w (flat ys) (fun i=>news[i]?)∧(∀u∈news,u.oneCell'=true)∧
   (0<m→∃aa,ad=some aa∧∀j u,news[j]? = some u→w.cell? (aa.add j)=some u):=by
  intro m hm
  have fin:∀{b off c:Nat}{ys:List AV},Rl φ (Own φ H) w b inf.size ys off→∃news:List Value,news.length=ys.length*inf.size∧(∀x∈ys,x.az=inf.size)∧Rs φ (Own φ H) w (flat ys) (fun i=>news[i]?)∧(∀u∈news,u.oneCell'=true)∧(0<ys.length→∀j u,news[j]? = some u→w.cell? ((⟨b,off,none⟩:Addr).add j)=some u):=by
   intro b off c ys hl
   obtain ⟨a2,c2,news,e1,n2,n3,n4,n5,n6⟩:=(Src.HV (c:=c) hl).ex
   refine ⟨news,n2,n3,n4,n5,fun h0=>?_⟩
   obtain ⟨ad,e2,n7⟩:=n6 h0
   simp only[Value.slice.injEq] at e1
   rw[←e1.1] at e2
   cases e2
   exact n7
  cases zY:X.ev ts s'<;>rw[zY] at hm hw<;>try exact False.elim hm
  ·rename_i k xs room
   obtain ⟨hk,hl⟩:=hm
   obtain ⟨ad,c,g1,g2,g3,g4,g5,_⟩:=iU hw
   refine ⟨hl,ad,c,g1,xs.take m,rfl,by simp;omega,?_⟩
   by_cases h0:m=0
   ·subst h0
    exact ⟨[],by simp,by simp,trivial,by simp,fun h=>by omega⟩
   ·obtain ⟨b,off,rfl,g6,g7,g8⟩:=g5 (by omega)
    have NZ:k=inf.size:=hk.resolve_right h0
    subst NZ
    obtain ⟨news,n2,n3,n4,n5,n6⟩:=fin (c:=c) (jL (n:=m) g8)
    have Ib:(xs.take m).length=m:=by simp;omega
    rw[Ib] at n2 n6
    exact ⟨news,n2,n3,n4,n5,fun h=>⟨_,rfl,n6 h⟩⟩
  ·rename_i k id off n c
   simp only[Bk] at hm
   split at hm
   case h_2=>exact hm.elim
   rename_i blk hf
   obtain ⟨rfl,hbk,hmn,hmo⟩:=hm
   obtain ⟨b,c',cur,e0,fr,g1,g2,g3,g4,g5,g6,g7⟩:=iV hw
   refine ⟨hmn,_,_,g2,(blk.es.drop off).take m,by simp only[Su,hf],by simp;omega,?_⟩
   obtain ⟨_,uC,cap,k1,k2,k3,k4,k5,k6⟩:=(hR.blk id b blk g1 hf).jK g6
   have hl:=jL (n:=m) (lq (f:=off) k6)
   rw[hbk,Nat.zero_add] at hl
   obtain ⟨news,n2,n3,n4,n5,n6⟩:=fin (c:=0) hl
   have Ib:((blk.es.drop off).take m).length=m:=by simp;omega
   rw[Ib] at n2 n6
   exact ⟨news,n2,n3,n4,n5,fun h=>⟨_,rfl,n6 h⟩⟩
 have oh:∀(ad:Addr),(loadCells ad 0).run P w = .ok #[] w:=fun ad=>by simpa using run_loadCells_list (P:=P) w ad [] (fun j v h=>by simp at h)
 cases hde:X.ev ts d'<;>rw[hde] at h1 h2 hv<;>try exact False.elim h1
 ·rename_i k xs room
  cases xs with
  |cons x r=>exact h1.elim
  |nil =>
   obtain ⟨_,ad,c,e1,_⟩:=src 0 h1
   obtain ⟨bd,cd,e2,_⟩:=iU hv
   have hrun:(Builtin.copy_ #[t,t] o.type #[a.eval d,a.eval s]).run P w = .ok (.int .i64 0) w:=by
    rw[e1,e2]
    cases ad<;>cases bd<;>simp[Builtin.copy_,run_underlying ht,Builtin.lenOf,Builtin.firstCells,sizeOf,typeInfo,hi,storeCells,oh,goInt]
   have hval:GX.val H (.copy inf.size) [.am k [] room,X.ev ts s'] = .sc (.int .i64 0):=by simp[GX.val,lR]
   rw[hval] at h2
   exact aY (hex hrun) (hn _ _ φ H w h2 (dh rfl) hR (Step.refl _ _ _))
 ·rename_i k id off n c
  have kj:FX H inf.size (X.ev ts s') (.aD k id off n c):=h1
  simp only[FX] at kj
  split at kj
  case h_2=>exact kj.elim
  rename_i blk hf
  obtain ⟨rfl,hbk,hoff,agD,hsrc⟩:=kj
  obtain ⟨aje,ad,cs,e1,ys,hys,pO,news,n2,n3,n4,n5,n6⟩:=src _ hsrc
  obtain ⟨b,c',acH,e0,fr0,g1,e2,g3,g4,g5,g6,g7⟩:=iV hv
  obtain ⟨cE,cur,cap,k1,k2,k3,k4,k5,k6⟩:=(hR.blk id b blk g1 hf).jK g6
  rw[k1] at g6
  simp only[Option.some.injEq,Obj.cells.injEq] at g6
  rw[←g6.1] at g7
  generalize hm:min (lR (X.ev ts s')) n=m at *
  have hmn:m≤n:=by omega
  have ai8:off+c'=cap:=by
   have:(off+c')*blk.k=cap*blk.k:=by rw[←k2,g7,hbk]
   exact Nat.eq_of_mul_eq_mul_right (by omega) this
  have hroom:off+m≤cap:=by omega
  have hsz:inf.size=blk.k:=hbk.symm
  rw[hsz] at h2 n2 n3 e2 g7
  have hval:GX.val H (.copy blk.k) [.aD blk.k id off n c,X.ev ts s'] = .sc (.int .i64 (m:Nat)):=by
   show AV.sc (.int .i64 ((min (lR (X.ev ts s')) n:Nat):Int))=_
   rw[hm]
  rw[hval] at h2
  have hheap:GX.heap H (.copy blk.k) [.aD blk.k id off n c,X.ev ts s']=Y.set H id (some { blk with es:=blk.es.take off++ys++blk.es.drop (off+m) }):=by
   show NN H (X.ev ts s') (.aD blk.k id off n c)=_
   simp only[NN,hf,hm,hys]
  rw[hheap] at h2
  obtain ⟨f1,f2⟩:=pJ k6
  have sL:(flat blk.es).length=blk.es.length*blk.k:=dc f1
  have hyk:∀x∈ys,x.az=blk.k:=n3
  have hyf:(flat ys).length=m*blk.k:=by rw[dc hyk,pO]
  have hnm:off*blk.k≤blk.es.length*blk.k:=Nat.mul_le_mul_right _ hoff
  have hcm:blk.es.length*blk.k≤cap*blk.k:=Nat.mul_le_mul_right _ k3
  have hnc:(off+m)*blk.k≤cap*blk.k:=Nat.mul_le_mul_right _ hroom
  have Wc:(off+m)*blk.k=off*blk.k+m*blk.k:=Nat.add_mul _ _ _
  have hst:=run_storeCells_at (P:=P) b (off*blk.k) blk.ty news 0 cur w k1 (by rw[n2,k2];omega) n5
  have hrun:(Builtin.copy_ #[t,t] o.type #[a.eval d,a.eval s]).run P w = .ok (.int .i64 (m:Nat)) (w.setRow b (cur.toList.take (off*blk.k+0)++news++cur.toList.drop (off*blk.k+0+news.length)).toArray):=by
   rw[e1,e2]
   have Wl:Nat.min (lR (X.ev ts s')) n=m:=hm
   by_cases h0:0<m
   ·obtain ⟨aa,rfl,hnews⟩:=n6 h0
    have zQ:=run_loadCells_list (P:=P) w aa news hnews
    rw[n2] at zQ
    simp[Builtin.copy_,run_underlying ht,Builtin.lenOf,Builtin.firstCells,sizeOf,typeInfo,hi,hsz,Wl,zQ,hst,goInt]
   ·have h00:m=0:=by omega
    have hnil:news=[]:=List.length_eq_zero_iff.1 (by rw[n2,h00,Nat.zero_mul])
    subst hnil
    cases ad with
    |none=>simp[Builtin.copy_,run_underlying ht,Builtin.lenOf,Builtin.firstCells,sizeOf,typeInfo,hi,hsz,Wl,h00,hst,goInt]
    |some ad=>simp[Builtin.copy_,run_underlying ht,Builtin.lenOf,Builtin.firstCells,sizeOf,typeInfo,hi,hsz,Wl,h00,oh,hst,goInt]
  have CS:∀x∈blk.es.take off++ys++blk.es.drop (off+m),x.az=blk.k:=by
   intro x hx
   rcases List.mem_append.1 hx with hx|hx
   ·rcases List.mem_append.1 hx with hx|hx
    ·exact f1 x (List.mem_of_mem_take hx)
    ·exact hyk x hx
   ·exact f1 x (List.mem_of_mem_drop hx)
  have CI:flat (blk.es.take off++ys++blk.es.drop (off+m))=(flat blk.es).take (off*blk.k)++flat ys++(flat blk.es).drop (off*blk.k+m*blk.k):=by
   rw[ek,ek,pK f1,mZ f1,Wc]
  have CT:(blk.es.take off++ys++blk.es.drop (off+m)).length≤cap:=by simp;omega
  have iG:(cur.toList.take (off*blk.k)).length=off*blk.k:=by simp;omega
  have fe:((flat blk.es).take (off*blk.k)).length=off*blk.k:=by rw[List.length_take,sL];exact Nat.min_eq_left hnm
  have hwr:=hR.write cE g1 hf k1 k2 (blk.es.take off++ys++blk.es.drop (off+m)) (iJ:=(cur.toList.take (off*blk.k+0)++news++cur.toList.drop (off*blk.k+0+news.length)).toArray) (by simp[n2];omega) CT k5 (fun hx=>by
    have h3:=k4 hx
    rcases agD with h4|h4
    ·rw[hx] at h4;simp at h4
    ·simp;omega) CS (by
   rw[CI,Nat.add_zero]
   refine dB (dB (cA (fun q hq=>?_) (lm (n:=off*blk.k) f2)) (cA (fun q hq=>?_) n4)) (cA (fun q hq=>?_) (lj (f:=off*blk.k+m*blk.k) f2))
   ·have iq:q<off*blk.k:=by rw[fe] at hq;exact hq
    simp only[List.getElem?_toArray]
    rw[List.append_assoc,List.getElem?_append_left (by omega),List.getElem?_take_of_lt iq,fV k1]
    simp
   ·have iq:q<m*blk.k:=by rw[hyf] at hq;exact hq
    rw[fe]
    simp only[List.getElem?_toArray]
    rw[List.getElem?_append_left (by rw[List.length_append,iG,n2];omega),List.getElem?_append_right (by omega),iG]
    congr 1
    omega
   ·have hl:((flat blk.es).take (off*blk.k)++flat ys).length=off*blk.k+m*blk.k:=by rw[List.length_append,fe,hyf]
    rw[hl]
    simp only[List.getElem?_toArray]
    have eK:(cur.toList.take (off*blk.k)++news).length=off*blk.k+m*blk.k:=by rw[List.length_append,iG,n2]
    rw[List.getElem?_append_right (by omega),eK,fV k1,n2]
    simp)
  exact aY (hex hrun) (hn _ _ φ _ _ h2 (dh rfl) hwr.1 hwr.2)
theorem Ff{b:Bool}{o:Oper}{op:HO}(h:kg P b o=some op):cQ P o op:=by
 unfold kg at h
 split at h
 ·rename_i t x ho
  split at h<;>cases h
  exact VW ho (by assumption) (by assumption)
 ·rename_i t ho
  split at h
  case h_2=>simp at h
  rename_i z hz
  split at h
  case h_2=>simp at h
  rename_i z' hc
  split at h
  case isFalse=>simp at h
  rename_i ht
  cases h
  rw[Option.bind_eq_some_iff] at hz
  obtain ⟨i,h1,h2⟩:=hz
  exact Sw ho h1 h2 hc ht.1 ht.2
 ·rename_i t x ho
  split at h
  case h_2=>simp at h
  split at h
  case isFalse=>simp at h
  cases h
  exact aaQ (by assumption) ho (by assumption)
 ·rename_i t ln parts ho
  split at h
  case h_2=>simp at h
  rename_i e ht
  split at h
  case h_2=>simp at h
  rename_i i hi
  split at h
  case h_2=>simp at h
  rename_i z ps hz hps
  split at h
  case isFalse=>simp at h
  rename_i hc
  obtain ⟨c1,c2,c3,c4⟩:=hc
  cases h
  rw[Option.bind_eq_some_iff] at hz
  obtain ⟨zv,h1,h2⟩:=hz
  cases b with
  |true=>exact VX ho ht hi h1 h2 hps c1 c2 c3 c4
  |false=>exact aaS ho ht hi h1 h2 hps c1 c2 c3 c4
 ·rename_i t x y ho
  split at h<;>cases h
  exact Sy ho (by assumption) (by assumption) (by assumption)
 ·rename_i t l c ho
  split at h
  case h_2=>simp at h
  rename_i e ht
  split at h
  case h_2=>simp at h
  rename_i i l' c' hi hl hc
  split at h
  case h_2=>simp at h
  rename_i z hz
  split at h
  case isFalse=>simp at h
  rename_i hJ
  obtain ⟨c1,c2,c3,c4⟩:=hJ
  cases h
  rw[Option.bind_eq_some_iff] at hz
  obtain ⟨zv,h1,h2⟩:=hz
  exact VZ ho ht hi h1 h2 hl hc c1 c2 c3 c4
 ·rename_i args ats ho
  split at h
  case h_2=>simp at h
  rename_i s x t t' ha ej
  split at h
  case isFalse =>
   unfold w4 at h
   split at h
   case h_2=>simp at h
   rename_i e kn h1 h2
   split at h
   case h_2=>simp at h
   rename_i i s' x' h3 h4 h5
   split at h
   case h_2=>simp at h
   rename_i z h6
   split at h
   case isFalse=>simp at h
   rename_i hJ
   obtain ⟨d1,d2,d3,d4⟩:=hJ
   cases h
   rw[Option.bind_eq_some_iff] at h6
   obtain ⟨zv,f1,f2⟩:=h6
   exact Wj ho ha ej h1 h2 h3 f1 f2 d1 d2 d3 d4 h4 h5
  rename_i hte
  subst hte
  split at h
  case h_2=>simp at h
  rename_i e ht
  split at h
  case h_2=>simp at h
  rename_i i s' x' hi hs hx
  split at h
  case h_2=>simp at h
  rename_i z hz
  split at h
  case isFalse=>simp at h
  rename_i hJ
  cases h
  exact aaY ho ha ej ht hi hz hJ.1 hJ.2.1 hJ.2.2 hs hx
 ·rename_i f args ats ho
  split at h
  case isFalse=>exact aa3 ho h
  rename_i hc
  rw[Option.map_eq_some_iff] at h
  obtain ⟨fw,h1,rfl⟩:=h
  exact Wd ho hc h1
 ·rename_i t args ats ho
  rw[Option.map_eq_some_iff] at h
  obtain ⟨fw,h1,rfl⟩:=h
  exact SJ ho h1
 ·rename_i x ho
  rw[Option.map_eq_some_iff] at h
  obtain ⟨x',h1,rfl⟩:=h
  exact aaZ ho h1
 ·rename_i s d x ho
  split at h
  case h_2=>simp at h
  rename_i e x' h1 h2 h3
  split at h
  case isFalse=>simp at h
  rename_i h4
  cases h
  exact aa0 ho h1 h2 (Cv h4) h3
 ·rename_i args ats ho
  split at h
  case h_2=>simp at h
  rename_i x t ha ej
  split at h
  case h_2=>simp at h
  rename_i e x' h1 h2
  cases h
  exact aa1 ho ha ej h1 h2
 ·rename_i args ats ho
  split at h
  case h_2=>simp at h
  rename_i d s t t' ha ej
  split at h
  case isFalse=>simp at h
  rename_i hte
  subst hte
  split at h
  case h_2=>simp at h
  rename_i e ht
  split at h
  case h_2=>simp at h
  rename_i i d' s' hi hd hs
  split at h
  case isFalse=>simp at h
  rename_i hz
  cases h
  exact Wk ho ha ej ht hi hz hd hs
 ·rename_i op t x y ty ho
  split at h
  case h_2=>simp at h
  rename_i ks x' y' h1 h2 h3
  split at h
  ·cases h
   exact Q0 ho h1 rfl h2 h3
  ·cases h
   exact Q0 ho h1 rfl h2 h3
  ·simp at h
 ·exact aaX rfl h
end
section
variable {P:Program}
theorem jQ(s:ByteArray):(bO s).length=s.size:=by simp[bO]
theorem rq{s:ByteArray}:∀x∈bO s,x.az=1:=by
 intro x hx
 simp only[bO,List.mem_map] at hx
 obtain ⟨b,_,rfl⟩:=hx
 rfl
theorem uE(s:ByteArray):flat (bO s)=bO s:=by
 unfold bO
 generalize s.data.toList=l
 induction l with
 |nil=>rfl
 |cons b r ih=>rw[List.map_cons,gZ,ih];rfl
theorem zZ{φ:aU}{O:Nat→Prop}{w:World}(s:ByteArray):Rs φ O w (bO s) (fun i=>(Lib.strCells s)[i]?):=by
 rw[Lib.strCells_eq]
 unfold bO Lib.byteCells
 generalize s.data.toList=l
 induction l with
 |nil=>trivial
 |cons b r ih=>exact ⟨rfl,rfl,⟨_,rfl,rfl⟩,ih⟩
theorem exB{o:Oper}{b:Builtin}{args:Array Operand}{ats:Array TypeId}{a:Act}{w w':World}{r:Value}(ho:o.op = .call { callee:=.builtin b,args,argTypes:=ats })(hb:∀c,(builtin b ats o.type c (args.map a.eval)).run P w = .ok (.value r) w'):(execOp a.eval o).run P w = .ok (.value r) w':=by
 simp only[execOp,ho,resolve,invoke,Sem.run_bind,Sem.run_pure,Result.andThen_ok]
 exact hb _
theorem SM{o:Oper}{t t' e:TypeId}{d s:Operand}{d' s':X}{args:Array Operand}{ats:Array TypeId}(ho:o.op = .call { callee:=.builtin .copy,args,argTypes:=ats })(ha:args.toList=[d,s])(ej:ats.toList=[t,t'])
  (ht:P.underlying t=some (.slice e))(hi:(P.info? e).map (·.size)=some 1)(hd:bt d=some d')(hs:bt s=some s'):cQ P o (.gx .rj [d',s']):=by
 intro φ H w ts a hR hr K Kp h next Q hn qD
 obtain rfl:args=#[d,s]:=by apply Array.toList_inj.1;simpa using ha
 obtain rfl:ats=#[t,t']:=by apply Array.toList_inj.1;simpa using ej
 have hv:=aF hr hd
 have hw:=aF hr hs
 simp only[HO.bu,List.map_cons,List.map_nil] at h
 obtain ⟨h1,h2⟩:=h
 generalize X.ev ts d'=x1 at h1 h2 hv
 generalize X.ev ts s'=x2 at h1 h2 hw
 match x1,x2,h1 with
 |.aD k id off n c,.sc (.string x),h1 =>
  have kj:=h1
  simp only[GX.ok] at kj
  split at kj
  case h_2=>exact kj.elim
  rename_i blk hf
  obtain ⟨rfl,hbk,hle,Fg⟩:=kj
  have CX:=cw hw
  obtain ⟨b,c',acH,e0,fr0,g1,e2,g3,g4,g5,g6,g7⟩:=iV hv
  obtain ⟨cE,cur,cap,k1,k2,k3,k4,k5,k6⟩:=(hR.blk id b blk g1 hf).jK g6
  rw[hbk,Nat.mul_one] at k2
  rw[Nat.mul_one] at e2
  have hrun:=Lib.run_copy_row_string (P:=P) w t t' o.type e b off n c' x cur blk.ty ht hi k1 Fg (by omega)
  have hheap:GX.heap H .rj [.aD 1 id off n c,.sc (.string x)]=Y.set H id (some { blk with es:=blk.es.take off++bO x++blk.es.drop (off+x.size) }):=by
   simp only[GX.heap,hf]
  rw[hheap] at h2
  obtain ⟨f1,f2⟩:=pJ k6
  have sL:(flat blk.es).length=blk.es.length:=by rw[dc f1,hbk,Nat.mul_one]
  have ir:(Lib.byteCells x.data.toList).length=x.size:=by rw[Lib.byteCells_length];exact (Lib.size_eq x).symm
  have CS:∀y∈blk.es.take off++bO x++blk.es.drop (off+x.size),y.az=blk.k:=by
   intro y hy
   rcases List.mem_append.1 hy with hy|hy
   ·rcases List.mem_append.1 hy with hy|hy
    ·exact f1 y (List.mem_of_mem_take hy)
    ·rw[hbk];exact rq y hy
   ·exact f1 y (List.mem_of_mem_drop hy)
  have ft:∀j,flat (blk.es.take j)=(flat blk.es).take j:=fun j=>by have:=pK f1 j;rwa [hbk,Nat.mul_one] at this
  have fd:∀j,flat (blk.es.drop j)=(flat blk.es).drop j:=fun j=>by have:=mZ f1 j;rwa [hbk,Nat.mul_one] at this
  have qM:(bO x).length=x.size:=jQ x
  have hwr:=hR.write cE g1 hf k1 (by rw[hbk,Nat.mul_one];exact k2) (blk.es.take off++bO x++blk.es.drop (off+x.size)) (iJ:=(cur.toList.take off++Lib.byteCells x.data.toList++cur.toList.drop (off+x.size)).toArray) (by simp[ir];omega) (by simp[qM];omega) k5 (fun hx=>by
    have h3:=k4 hx
    simp[qM];omega) CS (by
   rw[ek,ek,ft,fd,uE]
   have fe:((flat blk.es).take off).length=off:=by rw[List.length_take,sL];omega
   have iG:(cur.toList.take off).length=off:=by simp;omega
   refine dB (dB (cA (fun q hq=>?_) (lm (n:=off) f2)) (cA (fun q hq=>?_) (zZ x))) (cA (fun q hq=>?_) (lj (f:=off+x.size) f2))
   ·have iq:q<off:=by rw[fe] at hq;exact hq
    simp only[List.getElem?_toArray]
    rw[List.append_assoc,List.getElem?_append_left (by omega),List.getElem?_take_of_lt iq,fV k1]
    simp
   ·rw[qM] at hq
    rw[fe]
    simp only[List.getElem?_toArray]
    rw[List.getElem?_append_left (by rw[List.length_append,iG,ir];omega),List.getElem?_append_right (by omega),iG,Lib.strCells_eq]
    congr 1
    omega
   ·have hl:((flat blk.es).take off++bO x).length=off+x.size:=by rw[List.length_append,fe,qM]
    rw[hl]
    simp only[List.getElem?_toArray]
    have eK:(cur.toList.take off++Lib.byteCells x.data.toList).length=off+x.size:=by rw[List.length_append,iG,ir]
    rw[List.getElem?_append_right (by omega),eK,fV k1]
    simp)
  refine aY (exB ho fun c=>?_) (hn _ _ φ _ _ h2 (dh rfl) hwr.1 hwr.2)
  simp only[builtin,Sem.run_bind,Sem.run_pure,List.map_toArray,List.map_cons,List.map_nil,e2,CX,hrun,Result.andThen_ok]
  rfl
theorem sR{φ:aU}{w:World}{H:Y}(hR:Rel φ H w){t t' ty e:TypeId}{inf:TypeInfo}{z:Value}(ht:P.underlying t=some (.slice e))(ht':P.underlying t'=some .string)(hi:P.info? e=some inf)(hz:inf.zero=some z)(hzs:z.cells.size=1)(hs1:inf.size=1)(hby:inf.bytes=1)
  {xs:List AV}{s:Value}{x:ByteArray}(hs:Src φ (Own φ H) w 1 xs s)(hy:0<x.size)(hb:xs.length+x.size≤100000000)(hc:∃a c,s = .slice a xs.length c∧c<xs.length+x.size∧(a=none→c=0)) :
  ∃c' w',(Builtin.append_ #[t,t'] ty #[s,.string x]).run P w = .ok (.slice (some ⟨w.heap.size,0,none⟩) (xs.length+x.size) c') w'∧
   Rel (φ.add H.length w.heap.size) (some ⟨1,xs++bO x,false,e⟩::H) w'∧Step φ H w (φ.add H.length w.heap.size) (some ⟨1,xs++bO x,false,e⟩::H) w'∧
   VR (φ.add H.length w.heap.size) (Own (φ.add H.length w.heap.size) (some ⟨1,xs++bO x,false,e⟩::H)) w' (.aD 1 H.length 0 (xs.length+x.size) none) (.slice (some ⟨w.heap.size,0,none⟩) (xs.length+x.size) c'):=by
 obtain ⟨a,c,olds,e1,o2,o3,o4,o5,o6⟩:=hs.ex
 obtain ⟨a',c',e3,hlt,hn0⟩:=hc
 rw[e1] at e3
 cases e3
 subst e1
 rw[Nat.mul_one] at o2
 have qM:(bO x).length=x.size:=jQ x
 have n2:(Lib.strCells x).length=x.size:=by rw[Lib.strCells_eq,Lib.byteCells_length];exact (Lib.size_eq x).symm
 have VQ:=pB hR
 have yh:∀(cap:Nat)(arr:Array Value),xs.length+x.size≤cap→cap≤maxLen→arr.size=cap→(∀i,i<(olds++Lib.strCells x).length→arr[i]? = (olds++Lib.strCells x)[i]?)→
   Rel (φ.add H.length w.heap.size) (some ⟨1,xs++bO x,false,e⟩::H) (w.drew.alloc (.cells arr e))∧Step φ H w (φ.add H.length w.heap.size) (some ⟨1,xs++bO x,false,e⟩::H) (w.drew.alloc (.cells arr e))∧
   VR (φ.add H.length w.heap.size) (Own (φ.add H.length w.heap.size) (some ⟨1,xs++bO x,false,e⟩::H)) (w.drew.alloc (.cells arr e)) (.aD 1 H.length 0 (xs.length+x.size) none) (.slice (some ⟨w.heap.size,0,none⟩) (xs.length+x.size) cap):=by
  intro cap arr h1 h2 h3 h4
  have hk:∀y∈xs++bO x,y.az=1:=fun y hy=>by
   rcases List.mem_append.1 hy with h|h
   ·exact o3 y h
   ·exact rq y h
  have BN:Rs φ (Own φ H) w.drew (flat (xs++bO x)) (fun i=>arr[i]?):=by
   have hl:Later (fun _=>True) φ φ (Own φ H) (Own φ H) w w.drew:=(iR φ H w).toLater
   refine jq hl _ _ _ (AV.cO _) (fun i v hv=>hv) ?_
   rw[ek,uE]
   have uo:(flat xs).length=olds.length:=by rw[dc o3,o2,Nat.mul_one]
   refine dB (cA (fun i hi=>?_) o4) (cA (fun i hi=>?_) (zZ x))
   ·rw[h4 i (by simp;omega),List.getElem?_append_left (by omega)]
   ·rw[h4 _ (by simp;omega),List.getElem?_append_right (by omega)]
    congr 1
    omega
  have:=VQ.alloc ⟨1,xs++bO x,false,e⟩ (Nat.zero_lt_one) arr cap (by rw[h3,Nat.mul_one]) (by simp[qM];omega) (fun h=>by simp at h) h2 hk BN
  refine ⟨this.1,(iR φ H w).trans this.2,rfl,?_⟩
  refine ⟨w.heap.size,cap,arr,e,(0,0),by simp[aU.add],by simp[fR,Value.cells],h1,h2,fun m hm=>by simp at hm,heap_alloc_new w.drew _,by simpa using h3⟩
 cases a with
 |none =>
  have hc0:=hn0 rfl
  have hx:xs=[]:=by
   cases xs with
   |nil=>rfl
   |cons y r=>obtain ⟨_,h,_⟩:=o6 (by simp);simp at h
  subst hc0
  subst hx
  have ho:olds=[]:=List.length_eq_zero_iff.1 (by simpa using o2)
  subst ho
  have hr:=run_append_nil_string (P:=P) w t t' ty e inf z ht ht' hi hz x hy (by simp at hb;omega) (by simp at hb;rw[hby];omega)
  simp only[List.length_nil,Nat.zero_add,List.nil_append] at yh hb ⊢
  have hge:=grownCap_ge w x.size 0 e
  have hxa:x.data.map (fun b=>Value.int .u8 b.toNat)=(Lib.strCells x).toArray:=by
   apply Array.ext'
   simp[Lib.strCells]
  rw[hxa] at hr
  obtain ⟨f1,f2,f3⟩:=yh (grownCap w x.size 0 e) ((Lib.strCells x).toArray++Builtin.zeroCells z.cells (grownCap w x.size 0 e-x.size)) hge (grownCap_le_maxLen w _ _ _ (by unfold maxLen;omega))
   (by simp only[Array.size_append,List.size_toArray,size_zeroCells,hzs,n2,Nat.mul_one];omega) (fun i hi=>by rw[Array.getElem?_append_left (by simpa using hi)];simp)
  exact ⟨_,_,hr,f1,f2,f3⟩
 |some b =>
  have holds:∀j u,olds[j]? = some u→w.cell? (b.add j)=some u:=fun j u hj=>by
   have hp:0<xs.length:=by
    rcases Nat.eq_zero_or_pos xs.length with h|h
    ·rw[h] at o2
     have:olds=[]:=List.length_eq_zero_iff.1 (by simpa using o2)
     subst this
     simp at hj
    ·exact h
   obtain ⟨ad',h,h'⟩:=o6 hp
   cases h
   exact h' j u hj
  have hr:=Lib.run_append_grow_string (P:=P) w t t' ty e inf z ht ht' hi hz b xs.length c olds (by rw[hs1,Nat.mul_one];exact o2) holds x hlt (by omega) (growslice_fits (by omega) (by rw[hby];omega))
  have hge:=grownCap_ge w (xs.length+x.size) c e
  obtain ⟨f1,f2,f3⟩:=yh (grownCap w (xs.length+x.size) c e) (olds.toArray++(Lib.strCells x).toArray++Builtin.zeroCells z.cells (grownCap w (xs.length+x.size) c e-(xs.length+x.size))) hge (grownCap_le_maxLen w _ _ _ (by unfold maxLen;omega))
   (by simp only[Array.size_append,List.size_toArray,size_zeroCells,hzs,n2,o2,Nat.mul_one];omega) (fun i hi=>by rw[Array.getElem?_append_left (by simpa using hi)];simp[List.getElem?_append])
  exact ⟨_,_,hr,f1,f2,f3⟩
theorem Bn{φ:aU}{H:Y}{w:World}(hR:Rel φ H w){t t' ty e:TypeId}{inf:TypeInfo}(ht:P.underlying t=some (.slice e))(ht':P.underlying t'=some .string)(hi:P.info? e=some inf)(hs1:inf.size=1)
  {id b n c' cap:Nat}{blk:aP}{cur:Array Value}{x:ByteArray}(hm:φ id=some b)(hf:Y.find H id=some blk)(hb:w.heap[b]? = some (.cells cur blk.ty (0,0)))(hsz:cur.size=cap)(hk:blk.k=1)(hty:blk.ty=e)
  (hel:blk.es.length≤cap)(nQ:cap≤maxLen)(lw:Rl φ (Own φ H) w b blk.k blk.es 0)(hn:n≤blk.es.length)(hroom:n+x.size≤c')(hc:c'≤cap)
  (es':List AV)(mg:es'=blk.es.take n++bO x++blk.es.drop (n+x.size))(Wb:blk.exact=true→cap=es'.length) :
  ∃w',(Builtin.append_ #[t,t'] ty #[.slice (some ⟨b,0,none⟩) n c',.string x]).run P w = .ok (.slice (some ⟨b,0,none⟩) (n+x.size) c') w'∧
   Rel φ (Y.set H id (some { blk with es:=es' })) w'∧Step φ H w φ (Y.set H id (some { blk with es:=es' })) w':=by
 have hrun:=Lib.run_append_room_string (P:=P) w t t' ty e inf ht ht' hi hs1 b n c' cur (by rw[←hty];exact hb) x hroom (by omega)
 obtain ⟨f1,f2⟩:=pJ lw
 have sL:(flat blk.es).length=blk.es.length:=by rw[dc f1,hk,Nat.mul_one]
 have ir:(Lib.strCells x).length=x.size:=by rw[Lib.strCells_eq,Lib.byteCells_length];exact (Lib.size_eq x).symm
 have qM:(bO x).length=x.size:=jQ x
 have CS:∀y∈es',y.az=blk.k:=by
  intro y hy
  rw[mg] at hy
  rcases List.mem_append.1 hy with hy|hy
  ·rcases List.mem_append.1 hy with hy|hy
   ·exact f1 y (List.mem_of_mem_take hy)
   ·rw[hk];exact rq y hy
  ·exact f1 y (List.mem_of_mem_drop hy)
 have ft:∀j,flat (blk.es.take j)=(flat blk.es).take j:=fun j=>by have:=pK f1 j;rwa [hk,Nat.mul_one] at this
 have fd:∀j,flat (blk.es.drop j)=(flat blk.es).drop j:=fun j=>by have:=mZ f1 j;rwa [hk,Nat.mul_one] at this
 have CT:es'.length≤cap:=by rw[mg];simp[qM];omega
 have hw:=hR.write (by rw[hk];exact Nat.zero_lt_one) hm hf hb (by rw[hk,Nat.mul_one];exact hsz) es' (iJ:=(cur.toList.take n++Lib.strCells x++cur.toList.drop (n+x.size)).toArray) (by simp[ir];omega) CT nQ Wb CS (by
  rw[mg,ek,ek,ft,fd,uE]
  have fe:((flat blk.es).take n).length=n:=by rw[List.length_take,sL];omega
  have iG:(cur.toList.take n).length=n:=by simp;omega
  refine dB (dB (cA (fun q hq=>?_) (lm (n:=n) f2)) (cA (fun q hq=>?_) (zZ x))) (cA (fun q hq=>?_) (lj (f:=n+x.size) f2))
  ·have iq:q<n:=by rw[fe] at hq;exact hq
   simp only[List.getElem?_toArray]
   rw[List.append_assoc,List.getElem?_append_left (by omega),List.getElem?_take_of_lt iq,fV hb]
   simp
  ·rw[qM] at hq
   rw[fe]
   simp only[List.getElem?_toArray]
   rw[List.getElem?_append_left (by rw[List.length_append,iG,ir];omega),List.getElem?_append_right (by omega),iG]
   congr 1
   omega
  ·have hl:((flat blk.es).take n++bO x).length=n+x.size:=by rw[List.length_append,fe,qM]
   rw[hl]
   simp only[List.getElem?_toArray]
   have eK:(cur.toList.take n++Lib.strCells x).length=n+x.size:=by rw[List.length_append,iG,ir]
   rw[List.getElem?_append_right (by omega),eK,fV hb]
   simp)
 exact ⟨_,hrun,hw.1,hw.2⟩
theorem Wm{o:Oper}{t t' e:TypeId}{inf:TypeInfo}{z:Value}{d s:Operand}{d' s':X}{args:Array Operand}{ats:Array TypeId}(ho:o.op = .call { callee:=.builtin .append,args,argTypes:=ats })(ha:args.toList=[d,s])(ej:ats.toList=[t,t'])
  (ht:P.underlying t=some (.slice e))(ht':P.underlying t'=some .string)(hi:P.info? e=some inf)(hz:inf.zero=some z)(hzs:z.cells.size=1)(hs1:inf.size=1)(hby:inf.bytes=1)(hd:bt d=some d')(hs:bt s=some s'):cQ P o (.gx (.rO e) [d',s']):=by
 intro φ H w ts a hR hr K Kp h next Q hn qD
 obtain rfl:args=#[d,s]:=by apply Array.toList_inj.1;simpa using ha
 obtain rfl:ats=#[t,t']:=by apply Array.toList_inj.1;simpa using ej
 have hv:=aF hr hd
 have hw:=aF hr hs
 simp only[HO.bu,List.map_cons,List.map_nil] at h
 obtain ⟨h1,h2⟩:=h
 generalize X.ev ts d'=x1 at h1 h2 hv
 generalize X.ev ts s'=x2 at h1 h2 hw
 obtain ⟨x,rfl⟩:∃x,x2 = .sc (.string x):=by
  match x1,x2,h1 with
  |_,.sc (.string x),_=>exact ⟨x,rfl⟩
 have CX:=cw hw
 have hok:FY H e x x1:=h1
 have hex:∀{r:Value}{w':World},(Builtin.append_ #[t,t'] o.type #[a.eval d,.string x]).run P w = .ok r w'→(execOp a.eval o).run P w = .ok (.value r) w':=fun {r w'} h1=>exB ho fun c=>by
  simp only[builtin,Sem.run_bind,Sem.run_pure,List.map_toArray,List.map_cons,List.map_nil,CX,h1,Result.andThen_ok]
 have Gi:∀{ad:Option Addr}{x1:AV},(∀id,x1≠id→True)→K (if x.size=0 then x1 else .aD 1 H.length 0 x.size none) (if x.size=0 then H else some ⟨1,bO x,false,e⟩::H)→VR φ (Own φ H) w x1 (a.eval d)→a.eval d = .slice ad 0 0→x.size≤100000000→o.wp P a w next Q:=by
  intro ad x1 _ hK hv he hx
  by_cases h0:x.size=0
  ·rw[if_pos h0,if_pos h0] at hK
   refine aY (hex ?_) (hn _ _ _ _ _ hK hv hR (Step.refl _ _ _))
   have hfc:=Lib.run_firstCells_string (P:=P) w inf.size x
   have hsc:Lib.strCells x=[]:=List.length_eq_zero_iff.1 (by rw[Lib.strCells_length];exact h0)
   rw[h0,hsc] at hfc
   rw[he]
   cases ad<;>simp[Builtin.append_,run_underlying ht,run_underlying ht',sizeOf,typeInfo,hi,Builtin.lenOf,h0,hfc,storeCells]
  ·rw[if_neg h0,if_neg h0] at hK
   obtain ⟨c',w',r1,r2,r3,r4⟩:=sR (P:=P) hR (ty:=o.type) ht ht' hi hz hzs hs1 hby (xs:=[]) (s:=a.eval d) (x:=x) ⟨ad,0,[],he,rfl,by simp,trivial,by simp,fun h=>by simp at h⟩ (by omega) (by simpa using hx) ⟨ad,0,he,by simp;omega,fun _=>rfl⟩
   simp only[List.length_nil,Nat.zero_add,List.nil_append] at r1 r2 r3 r4
   exact aY (hex r1) (hn _ _ _ _ _ hK r4 r2 r3)
 unfold FY at hok
 split at hok
 ·exact Gi (ad:=none) (fun _ _=>trivial) h2 hv (cw hv) hok
 ·rename_i k
  obtain ⟨ad,c,zR,c1,c2,c3,c4,c5⟩:=iU hv
  have hc0:c=0:=by have:=c5.1;simpa using this
  rw[hc0] at zR
  exact Gi (fun _ _=>trivial) h2 hv zR hok
 ·rename_i k id off n c
  split at hok
  case h_2=>exact hok.elim
  rename_i blk hf
  obtain ⟨⟨rfl,hk,hty,rfl,hb8⟩,hJ⟩:=hok
  obtain ⟨b,c',cur,e',fr,v1,v2,v3,v4,v5,v6,v7⟩:=iV hv
  obtain ⟨_,uC,cap,a1,a2,a3,a4,a5,a6⟩:=(hR.blk id b blk v1 hf).jK v6
  rw[v6] at a1
  cases a1
  rw[hk,Nat.mul_one] at a2
  have agE:c'=cap:=by rw[Nat.zero_add,Nat.mul_one] at v7;omega
  subst agE
  rw[Nat.zero_mul] at v2
  have yx:id<H.length:=Y.ax hf
  have qM:(bO x).length=x.size:=jQ x
  have hsz:cur.size=c'*1:=by omega
  cases c with
  |none =>
   obtain ⟨g1,g2⟩:=hJ
   have g3:K (.aD 1 H.length 0 (n+x.size) none) (some ⟨1,blk.es++bO x,false,e⟩::Y.set H id none):=by
    have:GX.heap H (.rO e) [.aD 1 id 0 n none,.sc (.string x)]=some ⟨1,blk.es++bO x,false,e⟩::Y.set H id none:=by simp only[GX.heap,JR,hf]
    rw[this] at h2
    exact h2
   by_cases hroom:n+x.size≤c'
   ·obtain ⟨w',r1,r2,r3⟩:=Bn (P:=P) hR (ty:=o.type) ht ht' hi hs1 (x:=x) v1 hf v6 a2 hk hty a3 a5 a6 (Nat.le_of_eq g2) hroom (Nat.le_refl _) (blk.es++bO x) (by
     rw[g2,List.take_length,List.drop_of_length_le (by omega),List.append_nil]) (fun h=>by rw[g1] at h;simp at h)
    have J1:Y.find (Y.set H id (some { blk with es:=blk.es++bO x })) id=some { blk with es:=blk.es++bO x }:=Y.aC yx
    obtain ⟨m1,m2⟩:=r2.move v1 J1
    have gK:Y.set (Y.set H id (some { blk with es:=blk.es++bO x })) id none=Y.set H id none:=set_set _ _ _
    rw[Y.af,gK] at m1 m2
    have Fb:({ blk with es:=blk.es++bO x }:aP)=⟨1,blk.es++bO x,false,e⟩:=by
     cases blk
     simp only at hk hty g1
     subst hk
     subst hty
     subst g1
     rfl
    rw[Fb] at m1 m2 r3
    obtain ⟨iJ,fr',q1,q2⟩:=r3.toLater.cells v6
    exact aY (hex (by rw[v2];exact r1)) (hn _ _ _ _ _ g3 (ng (by simp[aU.add]) hroom v4 (fun m hm=>by simp at hm) q1 (by rw[q2];exact hsz)) m1 (r3.trans m2))
   ·obtain ⟨c2,w',r1,r2,r3,r4⟩:=sR (P:=P) hR (ty:=o.type) ht ht' hi hz hzs hs1 hby (xs:=blk.es) (s:=a.eval d) (x:=x) (by
     have:=Src.vT hR hv hf hk (by omega)
     rwa [List.drop_zero,g2,List.take_length] at this) (by omega) (by omega) ⟨_,c',by rw[v2,g2],by omega,fun h=>by simp at h⟩
    obtain ⟨k1,k2⟩:=r2.kill id
    rw[Ge yx] at k1 k2
    refine aY (hex r1) (hn _ _ _ _ _ ?_ (k2.vr r4) k1 (r3.trans k2))
    rw[←g2]
    exact g3
  |some m =>
   have hcm:=v5 m rfl
   subst hcm
   have g3:n≤blk.es.length:=by
    rcases hJ with ⟨_,h2,h3⟩|⟨_,h2⟩
    ·omega
    ·exact h2
   by_cases hroom:n+x.size≤c'
   ·have g4:K (.aD 1 id 0 (n+x.size) (some c')) (Y.set H id (some { blk with es:=blk.es.take n++bO x++blk.es.drop (n+x.size) })):=by
     have e1:GX.heap H (.rO e) [.aD 1 id 0 n (some c'),.sc (.string x)]=Y.set H id (some { blk with es:=blk.es.take n++bO x++blk.es.drop (n+x.size) }):=by simp only[GX.heap,JR,hf,if_pos hroom]
     have e2:GX.val H (.rO e) [.aD 1 id 0 n (some c'),.sc (.string x)] = .aD 1 id 0 (n+x.size) (some c'):=by simp only[GX.val,NP,if_pos hroom]
     rw[e1,e2] at h2
     exact h2
    obtain ⟨w',r1,r2,r3⟩:=Bn (P:=P) hR (ty:=o.type) ht ht' hi hs1 (x:=x) v1 hf v6 a2 hk hty a3 a5 a6 g3 hroom (Nat.le_refl _) _ rfl (fun hx=>by
     rcases hJ with ⟨_,h2,h3⟩|⟨h2,_⟩
     ·have mg:(blk.es.take n++bO x++blk.es.drop (n+x.size)).length=blk.es.length:=by simp[qM];omega
      rw[mg];exact h2
     ·rw[h2] at hx;simp at hx)
    obtain ⟨iJ,fr',q1,q2⟩:=r3.toLater.cells v6
    exact aY (hex (by rw[v2];exact r1)) (hn _ _ _ _ _ g4 (ng v1 hroom v4 (fun m hm=>by simpa using hm) q1 (by rw[q2];exact hsz)) r2 r3)
   ·have g4:K (.aD 1 H.length 0 (n+x.size) none) (some ⟨1,blk.es.take n++bO x,false,e⟩::H):=by
     have e1:GX.heap H (.rO e) [.aD 1 id 0 n (some c'),.sc (.string x)]=some ⟨1,blk.es.take n++bO x,false,e⟩::H:=by simp only[GX.heap,JR,hf,if_neg hroom]
     have e2:GX.val H (.rO e) [.aD 1 id 0 n (some c'),.sc (.string x)] = .aD 1 H.length 0 (n+x.size) none:=by simp only[GX.val,NP,if_neg hroom]
     rw[e1,e2] at h2
     exact h2
    have hl:(blk.es.take n).length=n:=by simp;omega
    obtain ⟨c2,w',r1,r2,r3,r4⟩:=sR (P:=P) hR (ty:=o.type) ht ht' hi hz hzs hs1 hby (xs:=blk.es.take n) (s:=a.eval d) (x:=x) (by
     have:=Src.vT hR hv hf hk (by omega)
     rwa [List.drop_zero] at this) (by omega) (by rw[hl];omega) ⟨_,c',by rw[v2,hl],by rw[hl];omega,fun h=>by simp at h⟩
    rw[hl] at r1 r4
    exact aY (hex r1) (hn _ _ _ _ _ g4 r4 r2 r3)
 ·exact hok.elim
theorem Wn{o:Oper}{t it e:TypeId}{p n:Operand}{p' n':X}{args:Array Operand}{ats:Array TypeId}(ho:o.op = .call { callee:=.builtin .unsafeString,args,argTypes:=ats })(ha:args.toList=[p,n])(ej:ats.toList=[t,it])
  (ht:P.underlying t=some (.pointer e))(hc:P.cellsOf e=1)(hp:bt p=some p')(hn':bt n=some n'):cQ P o (.gx (.wG e) [p',n']):=by
 intro φ H w ts a hR hr K Kp h next Q hn qD
 obtain rfl:args=#[p,n]:=by apply Array.toList_inj.1;simpa using ha
 obtain rfl:ats=#[t,it]:=by apply Array.toList_inj.1;simpa using ej
 have hv:=aF hr hp
 have hw:=aF hr hn'
 simp only[HO.bu,List.map_cons,List.map_nil] at h
 obtain ⟨h1,h2⟩:=h
 generalize X.ev ts p'=x1 at h1 h2 hv
 generalize X.ev ts n'=x2 at h1 h2 hw
 obtain ⟨m,rfl⟩:∃m,x2 = .sc (.int .i64 m):=by
  match x1,x2,h1 with
  |_,.sc (.int .i64 m),_=>exact ⟨m,rfl⟩
 have hm:=cw hw
 have hok:FZ H e m x1:=h1
 have hex:∀{r:Value}{w':World},(Builtin.unsafeString_ #[t,it] o.type #[a.eval p,.int .i64 m]).run P w = .ok r w'→(execOp a.eval o).run P w = .ok (.value r) w':=fun {r w'} h1=>exB ho fun c=>by
  simp only[builtin,Sem.run_bind,Sem.run_pure,List.map_toArray,List.map_cons,List.map_nil,hm,h1,Result.andThen_ok]
 unfold FZ at hok
 split at hok
 ·rename_i k id j f
  split at hok
  case h_2=>exact hok.elim
  rename_i blk hf
  obtain ⟨⟨rfl,hbk,hty,rfl,rfl,h0,hle⟩,x,hx⟩:=hok
  obtain ⟨b,v1,v2⟩:=fK hv
  obtain ⟨cur,cap,a1,a2,a3,a4,a5,a6⟩:=(hR.blk id b blk v1 hf).cells (by rw[hbk];exact Nat.zero_lt_one)
  rw[hbk,Nat.mul_one] at a2
  rw[hbk] at a6
  rw[hty] at a1
  have hlen:x.size=m.toNat:=by rw[←jQ,←hx,List.length_take];omega
  have ef:x.data.toList.length=m.toNat:=by rw[←hlen];exact (Lib.size_eq x).symm
  have hcell:∀j y,x.data.toList[j]? = some y→w.cell? ((⟨b,0,none⟩:Addr).add j)=some (.int .u8 y.toNat):=by
   intro j y hj
   have rQ:=(List.getElem?_eq_some_iff.1 hj).1
   have mg:blk.es[j]? = some (.sc (.int .u8 y.toNat)):=by
    have h3:(blk.es.take m.toNat)[j]? = some (.sc (.int .u8 y.toNat)):=by rw[hx];simp[bO,hj]
    rwa [List.getElem?_take_of_lt (by omega)] at h3
   have hr3:cX w b (0+j*1) 0=some (.int .u8 y.toNat):=(ye a6 mg).2.2
   rw[addr_add]
   simpa [cX] using hr3
  have SF:m=((x.data.toList.length:Nat):Int):=by rw[ef];omega
  have hrun:=Lib.run_unsafeString_row (P:=P) w t it o.type e ht hc b cur.size (by unfold World.shape?;rw[a1]) x.data.toList (fun e0=>by rw[e0] at ef;simp at ef;omega) (by omega) (by unfold maxLen at a5;omega) hcell
  rw[←SF] at hrun
  have hval:NQ H m (.ptr 1 id 0 0)=x:=by
   simp only[NQ,hf,hx]
   apply ByteArray.ext
   simp only[oZ,bO,List.map_map]
   apply Array.ext'
   simp only[List.toList_toArray]
   have:∀l:List UInt8,l.map ((fun x=>(pG x).getD 0)∘fun b=>AV.sc (.int .u8 (b.toNat:Int)))=l:=by
    intro l
    induction l with
    |nil=>rfl
    |cons c r ih =>
     rw[List.map_cons,ih]
     congr 1
     simp[Function.comp,pG]
   exact this _
  have BQ:K (.sc (.string x)) (Y.set H id none):=by
   have e1:GX.val H (.wG e) [.ptr 1 id 0 0,.sc (.int .i64 m)] = .sc (.string (NQ H m (.ptr 1 id 0 0))):=rfl
   rw[e1,hval] at h2
   exact h2
  have ri:(⟨x.data.toList.toArray⟩:ByteArray)=x:=by apply ByteArray.ext;simp
  rw[ri] at hrun
  have jP:∀b',b'≠b→(w.freeze ⟨b,0,none⟩ x.data.toList.length).heap[b']? = w.heap[b']?:=by
   intro b' hb'
   unfold World.freeze
   split
   ·rfl
   ·simp only[Array.getElem?_modify]
    rw[if_neg (fun e=>hb' e.symm)]
  have hres:=hR.Cg (w':=w.freeze ⟨b,0,none⟩ x.data.toList.length) v1 hf none (by unfold World.freeze;split<;>simp) jP (by
   unfold World.freeze
   split
   ·rfl
   ·simp only[World.shape?,Array.getElem?_modify,if_true,a1,Option.map_some]) (by unfold World.freeze;split<;>rfl) (by unfold World.freeze;split<;>rfl) (by unfold World.freeze;split<;>rfl) (fun k hk=>by cases hk)
  exact aY (hex (by rw[v2];exact hrun)) (hn _ _ φ _ _ BQ (dh rfl) hres.1 hres.2)
 ·have:m=0:=hok
  subst this
  rw[show a.eval p = .pointer none from cw hv] at hex
  exact aY (hex (Lib.run_unsafeString_none (P:=P) w t it o.type none)) (hn _ _ φ H w h2 (dh rfl) hR (Step.refl _ _ _))
 ·exact hok.elim
theorem SN{o:Oper}{s:Operand}{s':X}{args:Array Operand}{ats:Array TypeId}(ho:o.op = .call { callee:=.builtin .unsafeSliceData,args,argTypes:=ats })(ha:args.toList=[s])(hs:bt s=some s'):cQ P o (.gx .pM [s']):=by
 intro φ H w ts a hR hr K Kp h next Q hn qD
 obtain rfl:args=#[s]:=by apply Array.toList_inj.1;simpa using ha
 have hv:=aF hr hs
 simp only[HO.bu,List.map_cons,List.map_nil] at h
 obtain ⟨h1,h2⟩:=h
 generalize X.ev ts s'=x1 at h1 h2 hv
 have hex:∀{r:Value}{w':World},(Builtin.unsafeSliceData_ ats o.type #[a.eval s]).run P w = .ok r w'→(execOp a.eval o).run P w = .ok (.value r) w':=fun {r w'} h1=>exB ho fun c=>by
  simp only[builtin,Sem.run_bind,Sem.run_pure,List.map_toArray,List.map_cons,List.map_nil,h1,Result.andThen_ok]
 match x1,h1 with
 |.aD k id off n c,h1 =>
  obtain ⟨hk,hn0⟩:=h1
  obtain ⟨b,c',acH,e0,fr0,g1,e2,g3,g4,g5,g6,g7⟩:=iV hv
  refine aY (hex (by rw[e2];exact Lib.run_unsafeSliceData_row (P:=P) w ats o.type _ n c' (by omega))) (hn _ _ φ H w h2 ?_ hR (Step.refl _ _ _))
  have:=Cf (O:=Own φ H) (w:=w) (k:=k) (j:=off) (f:=0) g1
  rw[fJ hk] at this
  exact this
 |.sc (.slice none 0 0),_ =>
  rw[show a.eval s = .slice none 0 0 from cw hv] at hex
  exact aY (hex (Lib.run_unsafeSliceData_nil (P:=P) w ats o.type 0 0)) (hn _ _ φ H w h2 (dh rfl) hR (Step.refl _ _ _))
theorem Wo{t e:TypeId}(ht:P.underlying t=some (.pointer e))(p:Option Addr)(w:World):(Op.equal t (.pointer p) (.pointer none)).run P w = .ok p.isNone w:=by
 show (Op.equalIn (9999+1) t _ _).run P w=_
 rw[Op.equalIn]
 simp only[Sem.run_bind,bD ht,Result.andThen_ok]
 cases p<;>rfl
theorem N0{φ:aU}{O:Nat→Prop}{w:World}{x:AV}{v:Value}(h:VR φ O w x v)(hp:CC x):∃p:Option Addr,v = .pointer p∧p.isNone=mc x:=by
 match x,hp with
 |.ptr k id j f,hp =>
  obtain ⟨b,_,e⟩:=fK h
  rw[fJ hp] at e
  exact ⟨_,e,rfl⟩
 |.lp x f,_ =>
  obtain ⟨b,off,e,_⟩:=Cw h
  exact ⟨_,e,rfl⟩
 |.sc (.pointer none),_=>exact ⟨none,cw h,rfl⟩
theorem J6{o:Oper}{op:BinOp}{t ty e:TypeId}{x:Operand}{x':X}{pos:Bool}(ho:o.op = .binOp op t x (.const (.pointer none)) ty)(ht:P.underlying t=some (.pointer e))(hop:op=if pos then .eql else .neq)(hx:bt x=some x'):cQ P o (.gx (.qJ pos) [x']):=by
 intro φ H w ts a hR hr K Kp h next Q hn qD
 have hv:=aF hr hx
 simp only[HO.bu,List.map_cons,List.map_nil] at h
 obtain ⟨h1,h2⟩:=h
 generalize X.ev ts x'=x1 at h1 h2 hv
 obtain ⟨p,e1,e2⟩:=N0 hv h1
 have BQ:K (.sc (.bool (if pos then mc x1 else !mc x1))) H:=h2
 have hq:=Wo (P:=P) ht p w
 refine aY (u:=.bool (if pos then mc x1 else !mc x1)) ?_ (hn _ _ φ H w BQ (dh rfl) hR (Step.refl _ _ _))
 cases pos<;>simp only[if_true,if_false,Bool.false_eq_true] at hop ⊢<;>subst hop<;>simp[execOp,ho,e1,show a.eval (.const (.pointer none)) = .pointer none from rfl,eqGuard,binOp,hq,e2]
theorem Q1{o:Oper}{op:BinOp}{t ty e:TypeId}{i:TypeInfo}{x y:Operand}{x' y':X}{pos:Bool}(ho:o.op = .binOp op t x y ty)(ht:P.underlying t=some (.pointer e))(hi:P.info? e=some i)(hz:0<i.size)(hop:op=if pos then .eql else .neq)(hx:bt x=some x')(hy:bt y=some y'):cQ P o (.gx (.JP pos) [x',y']):=by
 intro φ H w ts a hR hr K Kp h next Q hn qD
 have hv:=aF hr hx
 have hw:=aF hr hy
 simp only[HO.bu,List.map_cons,List.map_nil] at h
 obtain ⟨h1,h2⟩:=h
 generalize X.ev ts x'=x1 at h1 h2 hv
 generalize X.ev ts y'=x2 at h1 h2 hw
 match x1,x2,h1 with
 |.ptr k id j f,.ptr k' id' j' f',h1 =>
  obtain ⟨⟨rfl,rfl,rfl,rfl⟩,hk⟩:=h1
  obtain ⟨b,g1,e1⟩:=fK hv
  obtain ⟨b',g2,e2⟩:=fK hw
  rw[g1] at g2
  cases g2
  rw[fJ hk] at e1 e2
  have hq:(Op.equal t (.pointer (some ⟨b,j*k+f,none⟩)) (.pointer (some ⟨b,j*k+f,none⟩))).run P w = .ok true w:=by
   have hne:i.size≠0:=by omega
   show (Op.equalIn (9999+1) t _ _).run P w=_
   rw[Op.equalIn]
   simp only[Sem.run_bind,bD ht,Result.andThen_ok]
   simp[sizeOf,typeInfo,hi,hne,sameAddr]
  refine aY (u:=.bool pos) ?_ (hn _ _ φ H w h2 (dh rfl) hR (Step.refl _ _ _))
  cases pos<;>simp only[if_true,if_false,Bool.false_eq_true] at hop ⊢<;>subst hop<;>simp[execOp,ho,e1,e2,eqGuard,binOp,hq]
theorem aa4{o:Oper}{s d e:TypeId}{i:TypeInfo}{x:Operand}{x':X}(ho:o.op = .convert s d x)(hs:P.underlying s=some (.pointer e))(hd:P.underlying d=some .unsafePointer)(hi:P.info? e=some i)(hz:0<i.size)(hx:bt x=some x'):cQ P o (.gx .NM [x']):=by
 intro φ H w ts a hR hr K Kp h next Q hn qD
 have hv:=aF hr hx
 simp only[HO.bu,List.map_cons,List.map_nil] at h
 obtain ⟨h1,h2⟩:=h
 generalize X.ev ts x'=x1 at h1 h2 hv
 match x1,h1 with
 |.ptr k id j f,h1 =>
  have kj:=h1
  simp only[GX.ok] at kj
  split at kj
  case h_2=>exact kj.elim
  rename_i blk hf
  obtain ⟨hbk,hk,hj,NV⟩:=kj
  obtain ⟨b,v1,v2⟩:=fK hv
  rw[fJ hk] at v2
  obtain ⟨cur,cap,a1,a2,a3,a4,a5,a6⟩:=(hR.blk id b blk v1 hf).cells (by omega)
  have hoff:j*k+f<cur.size:=by
   rw[a2,hbk]
   have:(j+1)*k≤cap*k:=Nat.mul_le_mul_right _ (by omega)
   rw[Nat.add_mul] at this
   omega
  refine aY ?_ (hn _ _ φ H w h2 hv hR (Step.refl _ _ _))
  simp only[execOp,ho,v2,Sem.run_bind,Sem.run_pure,Lib.run_to_unsafe (P:=P) w ⟨b,j*k+f,none⟩ hs hd hi (by omega) (show w.shape? b=some (blk.ty,cur.size) by unfold World.shape?;rw[a1]) hoff,Result.andThen_ok]
theorem Fh{u T:TypeId}(h:(yq P u).contains T=true):P.cellsOf T=2∧liesAt P P.depth T 1 0 u 1=true:=by
 unfold yq at h
 rw[List.contains_iff_mem,List.mem_filter] at h
 have:=h.2
 simp only[Bool.and_eq_true,beq_iff_eq] at this
 exact this
theorem SP{o:Oper}{s d u:TypeId}{x:Operand}{x':X}(ho:o.op = .convert s d x)(hs:P.underlying s=some .unsafePointer)(hd:P.underlying d=some (.pointer u))(hi:(P.info? u).isSome=true)(hx:bt x=some x'):cQ P o (.gx (.wZ (yq P u)) [x']):=by
 intro φ H w ts a hR hr K Kp h next Q hn qD
 have hv:=aF hr hx
 obtain ⟨i,hi⟩:=Option.isSome_iff_exists.1 hi
 simp only[HO.bu,List.map_cons,List.map_nil] at h
 obtain ⟨h1,h2⟩:=h
 generalize X.ev ts x'=x1 at h1 h2 hv
 match x1,h1 with
 |.ptr k id j f,h1 =>
  have kj:=h1
  simp only[GX.ok] at kj
  split at kj
  case h_2=>exact kj.elim
  rename_i blk hf
  obtain ⟨⟨rfl,hbk,rfl,rfl,hex,hel⟩,hty⟩:=kj
  obtain ⟨hc2,hlies⟩:=Fh hty
  obtain ⟨b,v1,v2⟩:=fK hv
  rw[fJ (by decide)] at v2
  obtain ⟨cur,cap,a1,a2,a3,a4,a5,a6⟩:=(hR.blk id b blk v1 hf).cells (by omega)
  have hcap:=a4 hex
  have hcs:cur.size=2:=by rw[a2,hcap,hel,hbk]
  refine aY ?_ (hn _ _ φ H w h2 hv hR (Step.refl _ _ _))
  simp only[execOp,ho,v2,Sem.run_bind,Sem.run_pure,Lib.run_from_unsafe (P:=P) w ⟨b,0*2+0,none⟩ hs hd hi (show w.shape? b=some (blk.ty,cur.size) by unfold World.shape?;rw[a1]) (by rw[hcs,hc2];exact hlies),Result.andThen_ok]
theorem J7 {fn : Func} (hn : fn.name = "internal/abi.NoEscape") : Extern.find fn = some Extern.AbiNoEscape.same := by
 unfold Extern.find
 rw[hn]
 have h1 : Extern.allGenericRows.lookup "internal/abi.NoEscape" = none := by kernel_rfl
 have h2 : Extern.allTypedRows.lookup "internal/abi.NoEscape" = none := by kernel_rfl
 have h3 : Extern.allRows.lookup "internal/abi.NoEscape" = some Extern.AbiNoEscape.same := by kernel_rfl
 simp only[h1,h2,h3]
 rfl
theorem N1 {fn : Func} (hn : fn.name = "internal/bytealg.CountString") : Extern.find fn = some Extern.BytealgCount.count := by
 unfold Extern.find
 rw[hn]
 have h1 : Extern.allGenericRows.lookup "internal/bytealg.CountString" = none := by kernel_rfl
 have h2 : Extern.allTypedRows.lookup "internal/bytealg.CountString" = none := by kernel_rfl
 have h3 : Extern.allRows.lookup "internal/bytealg.CountString" = some Extern.BytealgCount.count := by kernel_rfl
 simp only[h1,h2,h3]
 rfl
theorem SQ{H:Y}{l:List AV}(h:GX.ok H .uq l):∃x,l=[x]:=by
 match l,h with
 |[x],_=>exact ⟨x,rfl⟩
theorem Wp{H:Y}{l:List AV}(h:GX.ok H .Bj l):∃s c,l=[.sc (.string s),.sc (.int .u8 c)]:=by
 match l,h with
 |[.sc (.string s),.sc (.int .u8 c)],_=>exact ⟨s,c,rfl⟩
theorem Wq{o:Oper}{f:FuncId}{args:Array Operand}{ats:Array TypeId}{fn:Func}{xs:List X}{q:HO}(ho:o.op = .call { callee:=.value (.func f),args,argTypes:=ats })(hf:P.funcs[f]? = some fn)(hxs:pH args=some xs)(hx:CE fn=true)
  (hq : (if fn.name = "internal/abi.NoEscape" then some (HO.gx .uq xs) else if fn.name = "internal/bytealg.CountString" then some (.gx .Bj xs) else none) = some q) : cQ P o q := by
 intro φ H w ts a hR hr K Kp h next Q hn qD
 have lA:=oY hr (l:=args.toList) hxs
 have hvs:args.map a.eval=(args.toList.map a.eval).toArray:=by rw[←Array.toList_map]
 split at hq
 ·rename_i hnm
  cases hq
  simp only[HO.bu] at h
  obtain ⟨h1,h2⟩:=h
  obtain ⟨x,hl⟩:=SQ h1
  rw[hl] at lA h2
  obtain ⟨u1,r1,e1,o1,p1,e3⟩:=lA
  simp only[Rt] at e3
  subst e3
  refine aY (uD ho hf hx (J7 hnm) (v:=u1) ?_) (hn _ _ φ H w h2 ⟨o1,p1⟩ hR (Step.refl _ _ _))
  rw[hvs,e1]
  rfl
 ·split at hq
  case isFalse=>simp at hq
  rename_i hnm
  cases hq
  simp only[HO.bu] at h
  obtain ⟨h1,h2⟩:=h
  obtain ⟨s,c,hl⟩:=Wp h1
  rw[hl] at lA h2
  obtain ⟨u1,r1,e1,o1,p1,u2,r2,e2,o2,p2,e3⟩:=lA
  simp only[Rt] at e3
  subst e3
  have q1:=cw (⟨o1,p1⟩:VR φ (Own φ H) w _ u1)
  have q2:=cw (⟨o2,p2⟩:VR φ (Own φ H) w _ u2)
  refine aY (uD ho hf hx (N1 hnm) ?_) (hn _ _ φ H w h2 (dh rfl) hR (Step.refl _ _ _))
  rw[hvs,e1,e2,q1,q2]
  exact Lib.run_countString s c w
theorem SR{t k e:TypeId}(ht:P.underlying t=some (.map k e))(p:Option Nat)(w:World):(Op.equal t (.map p) (.map none)).run P w = .ok p.isNone w:=by
 show (Op.equalIn (9999+1) t _ _).run P w=_
 rw[Op.equalIn]
 simp only[Sem.run_bind,bD ht,Result.andThen_ok]
 cases p<;>rfl
theorem J8{o:Oper}{op:BinOp}{t ty k e:TypeId}{x:Operand}{x':X}{pos:Bool}(ho:o.op = .binOp op t x (.const (.map none)) ty)(ht:P.underlying t=some (.map k e))(hop:op=if pos then .eql else .neq)(hx:bt x=some x'):cQ P o (.gx (.Bh pos) [x']):=by
 intro φ H w ts a hR hr K Kp h next Q hn qD
 have hv:=aF hr hx
 simp only[HO.bu,List.map_cons,List.map_nil] at h
 obtain ⟨h1,h2⟩:=h
 generalize X.ev ts x'=x1 at h1 h2 hv
 obtain ⟨p,e1,BQ⟩:∃p:Option Nat,a.eval x = .map p∧K (.sc (.bool (if pos then p.isNone else !p.isNone))) H:=by
  match x1,h1 with
  |.ptr 0 id j 0,_ =>
   obtain ⟨b,_,g⟩:=fK hv
   refine ⟨some b,g,?_⟩
   have:K (.sc (.bool !pos)) H:=h2
   cases pos<;>exact this
  |.sc (.map none),_ =>
   refine ⟨none,cw hv,?_⟩
   have:K (.sc (.bool pos)) H:=h2
   cases pos<;>exact this
 have hq:=SR (P:=P) ht p w
 refine aY (u:=.bool (if pos then p.isNone else !p.isNone)) ?_ (hn _ _ φ H w BQ (dh rfl) hR (Step.refl _ _ _))
 cases pos<;>simp only[if_true,if_false,Bool.false_eq_true] at hop ⊢<;>subst hop<;>simp[execOp,ho,e1,show a.eval (.const (.map none)) = .map none from rfl,eqGuard,binOp,hq]
theorem any_some{α:Type}{o:Option α}{p:α→Bool}(h:o.any p=true):∃x,o=some x∧p x=true:=by
 cases o with
 |none=>simp at h
 |some x=>exact ⟨x,rfl,by simpa using h⟩
theorem Ic{o:Oper}{q:HO}(h:CG P o=some q):cQ P o q:=by
 unfold CG at h
 split at h
 ·rename_i args ats ho
  split at h
  case h_2=>simp at h
  rename_i d s t t' ha ej
  split at h
  case h_2=>simp at h
  rename_i e d' s' h1 h2 h3 h4
  split at h
  case isFalse=>simp at h
  rename_i hc
  cases h
  exact SM ho ha ej h1 hc.2 h3 h4
 ·rename_i args ats ho
  split at h
  case h_2=>simp at h
  rename_i d s t t' ha ej
  split at h
  case h_2=>simp at h
  rename_i e d' s' h1 h2 h3 h4
  split at h
  case h_2=>simp at h
  rename_i i hi
  split at h
  case isFalse=>simp at h
  rename_i hc
  obtain ⟨c1,c2,c3,c4⟩:=hc
  cases h
  obtain ⟨z,hz,hzs⟩:=any_some c4
  exact Wm ho ha ej h1 h2 hi hz (by simpa using hzs) c2 c3 h3 h4
 ·rename_i args ats ho
  split at h
  case h_2=>simp at h
  rename_i p n t it ha ej
  split at h
  case h_2=>simp at h
  rename_i e p' n' h1 h2 h3
  split at h
  case isFalse=>simp at h
  rename_i hc
  cases h
  exact Wn ho ha ej h1 hc.2 h2 h3
 ·rename_i args ats ho
  split at h
  case h_2=>simp at h
  rename_i s ha
  rw[Option.map_eq_some_iff] at h
  obtain ⟨s',h1,rfl⟩:=h
  exact SN ho ha h1
 ·rename_i op t x y ty ho
  split at h
  case h_3=>simp at h
  case h_2 =>
   rename_i kt e x' h1 h2
   split at h
   ·cases h;exact J8 ho h1 rfl h2
   ·cases h;exact J8 ho h1 rfl h2
   ·simp at h
  rename_i e x' h1 h2
  split at h
  ·cases h;exact J6 ho h1 rfl h2
  ·cases h;exact J6 ho h1 rfl h2
  ·split at h
   case isFalse=>simp at h
   rename_i hc
   obtain ⟨i,hi,hz⟩:=any_some hc
   rw[Option.map_eq_some_iff] at h
   obtain ⟨y',h3,rfl⟩:=h
   exact Q1 ho h1 hi (by simpa using hz) rfl h2 h3
  ·split at h
   case isFalse=>simp at h
   rename_i hc
   obtain ⟨i,hi,hz⟩:=any_some hc
   rw[Option.map_eq_some_iff] at h
   obtain ⟨y',h3,rfl⟩:=h
   exact Q1 ho h1 hi (by simpa using hz) rfl h2 h3
  ·simp at h
 ·rename_i s d x ho
  split at h
  ·rename_i e x' h1 h2 h3
   split at h
   case isFalse=>simp at h
   rename_i hc
   obtain ⟨i,hi,hz⟩:=any_some hc
   cases h
   exact aa4 ho h1 h2 hi (by simpa using hz) h3
  ·rename_i u x' h1 h2 h3
   split at h
   case isFalse=>simp at h
   rename_i hc
   cases h
   exact SP ho h1 h2 hc h3
  ·simp at h
 ·rename_i f args ats ho
  split at h
  case h_2=>simp at h
  rename_i fn xs h1 h2
  split at h
  case isFalse=>simp at h
  rename_i hx
  exact Wq ho h1 h2 hx h
 ·simp at h
theorem Ie{b:Bool}{o:Oper}{op:HO}(h:oq P b o=some op):cQ P o op:=by
 unfold oq at h
 split at h
 ·rename_i h0;cases h;exact Ff h0
 ·unfold yt at h
  split at h
  ·rename_i h1;cases h;exact Ic h1
  ·obtain ⟨kd,x,rfl⟩:=CH h
   intro φ H w ts a hR hr K Kp hh
   exact (show False from hh).elim
end
inductive eX where
 | p (q:PO)
 | h (q:HO)
structure cy where
 dst:Option Nat
 guard:Option (Nat×Bool)
 op:eX
def sS(P:Program)(ev:X→AV)(H:Y)(K Kp:AV→Y→Prop):eX→Prop
 |.p q=>PO.bu ev (fun v=>K v H) q
 |.h q=>HO.bu P ev H K Kp q
def Wr(P:Program)(ev:X→AV)(H:Y)(K Kp:AV→Y→Prop):eX→Prop
 |.p q=>PO.bu ev (fun v=>K v H) q
 |.h q=>HO.J2 P ev H K Kp q
def cI(ts:List AV)(yes no:Prop):Option (Nat×Bool)→Prop
 |none=>yes
 |some (d,want)=>match ts.getD d .top with
  |.sc (.bool b)=>(b=want→yes)∧(b≠want→no)
  |.aO _=>no
  |_=>False
def iX(P:Program)(K:List AV→Y→Prop)(Kp:AV→List AV→Y→Prop):List cy→List AV→Y→Prop
 |[],ts,H=>K ts H
 |o::r,ts,H=>cI ts (Wr P (X.ev ts) H (fun v H'=>iX P K Kp r (cz ts o.dst v) H') (fun v H'=>Kp v ts H') o.op) (iX P K Kp r (cz ts o.dst (.aO [])) H) o.guard
def Ig(ops:Array Oper):Option (Nat×Bool)→Option (Option (Nat×Bool))
 |none=>some none
 |some (j,want)=>match (ops[j]?).bind (·.dst) with
  |some d=>some (some (d,want))
  |none=>none
def ot(P:Program)(bx:Bool)(ops:Array Oper)(o:Oper):Option cy :=
 match Ig ops o.guard with
 |none=>none
 |some g=>match NF P o with
  |some q=>some ⟨o.dst,g,.p q⟩
  |none=>match oq P bx o with
   |some q=>some ⟨o.dst,g,.h q⟩
   |none=>some ⟨o.dst,g,.p (.un .not (.k .top))⟩
def eg(P:Program)(bx:Bool)(ops:Array Oper):List Oper→Option (List cy)
 |[]=>some []
 |o::r=>match ot P bx ops o,eg P bx ops r with
  |some x,some s=>some (x::s)
  |_,_=>none
section
variable {P:Program}
theorem pC{φ:aU}{O:Nat→Prop}{w:World}:VR φ O w (.aO []) undef:=⟨⟨#[],rfl⟩,⟨#[],rfl,rfl⟩⟩
theorem CY{b:Bool}{ops:Array Oper}{o:Oper}{x:cy}(hc:ot P b ops o=some x){φ:aU}{H:Y}{w:World}{ts:List AV}{a:Act}(hR:Rel φ H w)(hF:FR φ (Own φ H) w ts a){K Kp:AV→Y→Prop}(h:sS P (X.ev ts) H K Kp x.op)
  {next:Act→World→Prop}{Q:Exit→Act→World→Prop}
  (hn:∀v u φ' H' w',K v H'→VR φ' (Own φ' H') w' v u→Rel φ' H' w'→Step φ H w φ' H' w'→next (a.put o.dst u) w')
  (hp:∀v u φ' H' w',Kp v H'→tW φ' (Own φ' H') w' v u→Rel φ' H' w'→Step φ H w φ' H' w'→Q (.panic u) a w'):o.wp P a w next Q:=by
 unfold ot at hc
 split at hc
 ·simp at hc
 split at hc
 ·rename_i q hq
  cases hc
  obtain ⟨v,u,h1,h2,h3⟩:=HU hq φ (Own φ H) w ts a hF (fun v=>K v H) h
  exact aY h3 (hn _ _ _ _ _ h1 h2 hR (Step.refl _ _ _))
 ·split at hc
  ·rename_i q hq
   cases hc
   exact Ie hq φ H w ts a hR hF K Kp h next Q hn hp
  ·cases hc
   exact False.elim h
theorem w8{b:Bool}{ops:Array Oper}{o:Oper}{x:cy}(hc:ot P b ops o=some x):x.dst=o.dst∧Ig ops o.guard=some x.guard:=by
 unfold ot at hc
 split at hc
 ·simp at hc
 rename_i g hg
 split at hc
 ·cases hc;exact ⟨rfl,hg⟩
 ·split at hc
  ·cases hc;exact ⟨rfl,hg⟩
  ·cases hc;exact ⟨rfl,hg⟩
theorem jr{ops:Array Oper}{o:Oper}{g:Option (Nat×Bool)}(hg:Ig ops o.guard=some g){φ:aU}{O:Nat→Prop}{w:World}{ts:List AV}{a:Act}(hF:FR φ O w ts a){yes no:Prop}(h:cI ts yes no g) :
  (Region.wanted o (yielded ops a.tmps)=true∧yes)∨(Region.wanted o (yielded ops a.tmps)=false∧no):=by
 unfold Ig at hg
 unfold Region.wanted
 split at hg
 ·rename_i e
  cases hg
  rw[e]
  exact .inl ⟨rfl,h⟩
 ·rename_i j want e
  split at hg
  case h_2=>simp at hg
  rename_i d hd
  cases hg
  rw[e]
  have hv:=hF.2 d
  have hy:yielded ops a.tmps j=match a.tmps[d]? with|some (.bool b)=>some b|_=>none:=by
   unfold yielded
   rw[hd]
   rfl
  simp only[cI] at h
  split at h
  ·rename_i b hb
   rw[hb] at hv
   have hu:=cw hv
   have hsz:d<a.tmps.size:=by
    rcases Nat.lt_or_ge d a.tmps.size with hl|hl
    ·exact hl
    ·rw[Array.getD_eq_getD_getElem?,Array.getElem?_eq_none hl] at hu
     simp[undef] at hu
   have VP:a.tmps[d]? = some (.bool b):=by
    rw[Array.getD_eq_getD_getElem?,Array.getElem?_eq_getElem hsz] at hu
    rw[Array.getElem?_eq_getElem hsz]
    exact congrArg some hu
   simp only[hy,VP]
   by_cases hbw:b=want
   ·exact .inl ⟨by simp[hbw],h.1 hbw⟩
   ·exact .inr ⟨by simp[hbw],h.2 hbw⟩
  ·rename_i vs hb
   rw[hb] at hv
   obtain ⟨us,hu,_⟩:=HT hv
   refine .inr ⟨?_,h⟩
   simp only[hy]
   rw[Array.getD_eq_getD_getElem?] at hu
   cases VP:a.tmps[d]? with
   |none=>rfl
   |some v =>
    rw[VP] at hu
    simp at hu
    subst hu
    rfl
  ·exact h.elim
theorem Ih{P:Program}{b:Bool}{o:Oper}{f:FuncId}{fw:List X}(h:kg P b o=some (.call f fw)):∃args ats,o.op = .call { callee:=.value (.func f),args,argTypes:=ats }∧cr P f=true∧pH args=some fw:=by
 unfold kg at h
 split at h
 all_goals try (repeat' split at h)
 all_goals try (cases h;done)
 all_goals try (simp[Option.map_eq_some_iff] at h;done)
 all_goals try (obtain ⟨g,xs,e⟩:=rS h;cases e;done)
 all_goals try (unfold w4 at h;repeat' split at h)
 all_goals try (cases h;done)
 all_goals try (unfold Bl at h;repeat' split at h)
 all_goals try (cases h;done)
 rename_i ho hc
 rw[Option.map_eq_some_iff] at h
 obtain ⟨as',h1,h2⟩:=h
 cases h2
 exact ⟨_,_,ho,hc,h1⟩
theorem Fi{P:Program}{b:Bool}{o:Oper}{f:X}{fw:List X}(h:kg P b o=some (.cq f fw)):∃t args ats,f = .t t∧o.op = .call { callee:=.value (.tmp t),args,argTypes:=ats }∧pH args=some fw:=by
 unfold kg at h
 split at h
 all_goals try (repeat' split at h)
 all_goals try (cases h;done)
 all_goals try (simp[Option.map_eq_some_iff] at h;done)
 all_goals try (obtain ⟨g,xs,e⟩:=rS h;cases e;done)
 all_goals try (unfold w4 at h;repeat' split at h)
 all_goals try (cases h;done)
 all_goals try (unfold Bl at h;repeat' split at h)
 all_goals try (cases h;done)
 rename_i ho
 rw[Option.map_eq_some_iff] at h
 obtain ⟨as',h1,h2⟩:=h
 cases h2
 exact ⟨_,_,_,rfl,ho,h1⟩
theorem CZ{b:Bool}{ops:Array Oper}{o:Oper}{x:cy}{q:HO}(hc:ot P b ops o=some x)(hx:x.op = .h q):oq P b o=some q:=by
 unfold ot at hc
 split at hc
 ·simp at hc
 split at hc
 ·cases hc;cases hx
 ·split at hc
  ·rename_i q' hq
   cases hc
   cases hx
   exact hq
  ·cases hc;cases hx
theorem J9{b:Bool}{o:Oper}{q:HO}(h:oq P b o=some q)(hq:∀g xs,q≠.gx g xs)(z6:∀kd x,q≠.rP kd x):kg P b o=some q:=by
 unfold oq at h
 split at h
 ·rename_i q' h1
  rw[h1,h]
 ·rcases w5 h with ⟨g,xs,e⟩|⟨kd,x,e⟩
  ·exact absurd e (hq g xs)
  ·exact absurd e (z6 kd x)
theorem Ka{P:Program}{b:Bool}{o:Oper}{kd:NS}{x:X}(h:kg P b o=some (.rP kd x)):False:=by
 unfold kg at h
 split at h
 all_goals try (repeat' split at h)
 all_goals try (cases h;done)
 all_goals try (simp[Option.map_eq_some_iff] at h;done)
 all_goals try (obtain ⟨g,xs,e⟩:=rS h;cases e;done)
 all_goals try (unfold w4 at h;repeat' split at h)
 all_goals try (cases h;done)
 all_goals try (unfold Bl at h;repeat' split at h)
 all_goals try (cases h;done)
theorem Ws{b:Bool}{o:Oper}{kd:NS}{x:X}(h:oq P b o=some (.rP kd x)):zU P o.op=some (.rP kd x):=by
 unfold oq at h
 split at h
 ·rename_i h0;cases h;exact (Ka h0).elim
 ·unfold yt at h
  split at h
  ·rename_i h1;cases h;obtain ⟨g,xs,e⟩:=Ga h1;cases e
  ·exact h
theorem Ii{b:Bool}{ops:Array Oper}{o:Oper}{x:cy}(hc:ot P b ops o=some x){φ:aU}{H:Y}{w:World}{ts:List AV}{a:Act}(hR:Rel φ H w)(hF:FR φ (Own φ H) w ts a){K Kp:AV→Y→Prop}(h:Wr P (X.ev ts) H K Kp x.op)
  {next:Act→World→Prop}{Q:Exit→Act→World→Prop}
  (hn:∀v u φ' H' w',K v H'→VR φ' (Own φ' H') w' v u→Rel φ' H' w'→Step φ H w φ' H' w'→next (a.put o.dst u) w')
  (hp:∀v u φ' H' w',Kp v H'→tW φ' (Own φ' H') w' v u→Rel φ' H' w'→Step φ H w φ' H' w'→Q (.panic u) a w'):o.wp P a w next Q:=by
 cases hx:x.op with
 |p q=>exact CY hc hR hF (by rw[hx] at h ⊢;exact h) hn hp
 |h q =>
  rw[hx] at h
  cases q with
  |call f fw =>
   obtain ⟨args,ats,h1,h2,h3⟩:=Ih (J9 (CZ hc hx) (fun g xs e=>by cases e) (fun g xs e=>by cases e))
   exact SI h1 h2 h3 hR hF h hn hp
  |cq f fw =>
   obtain ⟨t,args,ats,rfl,h1,h3⟩:=Fi (J9 (CZ hc hx) (fun g xs e=>by cases e) (fun g xs e=>by cases e))
   exact NW h1 h3 hR hF h hn hp
  |rP kd y=>exact aaW (Ws (CZ hc hx)) hR hF h hn
  |_=>exact CY hc hR hF (by rw[hx];exact h) hn hp
theorem yz(ts:List AV)(d:Option Nat)(v:AV):(cz ts d v).length=ts.length:=by
 cases d<;>simp[cz]
def nJ(Q:Exit→Act→World→Prop)(K:List AV→Y→Prop)(φ:aU)(H:Y)(w:World)(ds:List Deferred):Prop :=
 ∀ts' a' φ' H' w',K ts' H'→FR φ' (Own φ' H') w' ts' a'→Rel φ' H' w'→Step φ H w φ' H' w'→a'.defers=ds→Q .normal a' w'
def ni(Q:Exit→Act→World→Prop)(Kp:AV→List AV→Y→Prop)(φ:aU)(H:Y)(w:World)(ds:List Deferred):Prop :=
 ∀v u ts' a' φ' H' w',Kp v ts' H'→tW φ' (Own φ' H') w' v u→FR φ' (Own φ' H') w' ts' a'→Rel φ' H' w'→Step φ H w φ' H' w'→a'.defers=ds→Q (.panic u) a' w'
theorem put_defers(a:Act)(d:Option Tmp)(v:Value):(a.put d v).defers=a.defers:=by cases d<;>rfl
theorem ru{b:Bool}{ops:Array Oper}{Q:Exit→Act→World→Prop}{K:List AV→Y→Prop}{Kp:AV→List AV→Y→Prop}:∀(n i:Nat)(l:List cy)(ts:List AV)(H:Y)(φ:aU)(w:World)(a:Act),
  i+n=ops.size→eg P b ops (ops.toList.drop i)=some l→Rel φ H w→FR φ (Own φ H) w ts a→iX P K Kp l ts H→nJ Q K φ H w a.defers→ni Q Kp φ H w a.defers→wpOps P ops Q (List.range' i n) a w
 |0,i,l,ts,H,φ,w,a,hi,hc,hR,hF,h,hk,hp=>by
  have:ops.toList.drop i=[]:=List.drop_of_length_le (by simp;omega)
  rw[this] at hc
  simp[eg] at hc
  subst hc
  exact hk _ _ _ _ _ h hF hR (Step.refl _ _ _) rfl
 |n+1,i,l,ts,H,φ,w,a,hi,hc,hR,hF,h,hk,hp=>by
  have hlt:i<ops.toList.length:=by simp;omega
  rw[List.drop_eq_getElem_cons hlt] at hc
  unfold eg at hc
  split at hc
  case h_2=>simp at hc
  rename_i x s hx hs
  cases hc
  have N2:ops[i]? = some (ops.toList[i]):=by simp at hlt;simp[hlt]
  obtain ⟨hd,hg⟩:=w8 hx
  simp only[iX] at h
  have C1:∀φ' H' w',Step φ H w φ' H' w'→∀a':Act,a'.defers=a.defers→nJ Q K φ' H' w' a'.defers∧ni Q Kp φ' H' w' a'.defers:=by
   intro φ' H' w' hst a' ha
   exact ⟨fun w9 a2 dJ H2 w2 k1 k2 k3 k4 k5=>hk w9 a2 dJ H2 w2 k1 k2 k3 (hst.trans k4) (by rw[k5,ha]),fun v u w9 a2 dJ H2 w2 k1 k2 k3 k4 k5 k6=>hp v u w9 a2 dJ H2 w2 k1 k2 k3 k4 (hst.trans k5) (by rw[k6,ha])⟩
  rw[show List.range' i (n+1)=i::List.range' (i+1) n from rfl]
  simp only[wpOps,N2]
  rcases jr hg hF h with ⟨hw,hy⟩|⟨hw,hno⟩
  ·rw[if_pos hw]
   left
   refine Ii hx hR hF hy (fun v u φ' H' w' k1 k2 k3 k4=>?_) (fun v u φ' H' w' k1 k2 k3 k4=>?_)
   ·have z7:=(FR.step k4 hF).put (ops.toList[i]).dst k2
    rw[hd] at k1
    have:=C1 φ' H' w' k4 (a.put (ops.toList[i]).dst u) (put_defers _ _ _)
    exact ru n (i+1) s _ H' φ' w' _ (by omega) hs k3 z7 k1 this.1 this.2
   ·exact hp v u ts a φ' H' w' k1 k2 (FR.step k4 hF) k3 k4 rfl
  ·rw[if_neg (by rw[hw];simp)]
   have z7:=hF.put (ops.toList[i]).dst (pC (φ:=φ) (O:=Own φ H) (w:=w))
   rw[hd] at hno
   have:=C1 φ H w (Step.refl _ _ _) (a.put (ops.toList[i]).dst undef) (put_defers _ _ _)
   exact ru n (i+1) s _ H φ w _ (by omega) hs hR z7 hno this.1 this.2
theorem Kb{b:Bool}{id:Nat}{ops:Array Oper}{l:List cy}(hc:eg P b ops ops.toList=some l){Q:Exit→Act→World→Prop}{K:List AV→Y→Prop}{Kp:AV→List AV→Y→Prop}{φ:aU}{H:Y}{w:World}{ts:List AV}{a:Act}
  (hR:Rel φ H w)(hF:FR φ (Own φ H) w ts a)(h:iX P K Kp l ts H)(hk:nJ Q K φ H w a.defers)(hp:ni Q Kp φ H w a.defers):(Code.region id ops false).wp P Q a w:=by
 refine wp_region ?_
 rw[List.range_eq_range']
 exact ru ops.size 0 l ts H φ w a (by omega) (by simpa using hc) hR hF h hk hp
end
section inv
theorem uF{ops:Array Oper}{j:Nat}{listed:Array Bool}(h:j∈Region.ready .any ops listed) :
  j<ops.size∧listed.getD j true=false∧∀o,ops[j]? = some o→∀e∈o.after.toList,Region.binds .any e=true→listed.getD e.on false=true:=by
 unfold Region.ready at h
 simp only[List.mem_filter,List.mem_range,Bool.and_eq_true,Bool.not_eq_true'] at h
 obtain ⟨h1,h2,h3⟩:=h
 refine ⟨h1,h2,fun o ho e he hb=>?_⟩
 rw[ho] at h3
 simp only[Option.map_some,Option.getD_some,Array.all_eq_true_iff_forall_mem] at h3
 have:=h3 e (by simpa using he)
 simpa [hb] using this
def cnt(listed:Array Bool):Nat:=listed.toList.count true
theorem Wt{listed:Array Bool}{i:Nat}(hi:i<listed.size)(h:listed.getD i true=false):cnt (listed.setIfInBounds i true)=cnt listed+1:=by
 unfold cnt
 rw[Array.toList_setIfInBounds]
 have h':listed.toList[i]'(by simpa using hi)=false:=by
  simpa [Array.getD,hi] using h
 rw[List.count_set (by simpa using hi)]
 simp[h']
theorem Kc{listed:Array Bool}(h:cnt listed=listed.size)(i:Nat)(hi:i<listed.size):listed.getD i false=true:=by
 unfold cnt at h
 rw[←Array.length_toList] at h
 have:=List.count_eq_length.1 h
 have hm:=this (listed.toList[i]'(by simpa using hi)) (List.getElem_mem _)
 simpa [Array.getD,hi] using hm.symm
theorem C2{P:Program}{ops:Array Oper}{Q:Exit→Act→World→Prop}(I:Array Bool→Act→World→Prop)
  (hsz:∀listed a w,I listed a w→listed.size=ops.size)(hY:∀listed a w,I listed a w→Region.ready .any ops listed=[]→Q .normal a w)
  (hstep:∀listed a w i,I listed a w→i∈Region.ready .any ops listed→wpOp P ops Q i (fun a' w'=>I (listed.setIfInBounds i true) a' w') a w) :
  ∀(fuel:Nat)(listed:Array Bool)(a:Act)(w:World),I listed a w→ops.size≤cnt listed+fuel→wpAny P .any ops Q fuel listed a w
 |0,listed,a,w,hI,hf=>by
  have h0:=hsz _ _ _ hI
  have hle:cnt listed≤listed.size:=by unfold cnt;rw[←Array.length_toList];exact List.count_le_length
  have hall:=Kc (listed:=listed) (by omega)
  have hr:Region.ready .any ops listed=[]:=by
   rw[List.eq_nil_iff_forall_not_mem]
   intro i hi
   obtain ⟨h1,h2,_⟩:=uF hi
   have kj:i<listed.size:=by omega
   have:=hall i kj
   simp[Array.getD,kj] at this h2
   rw[this] at h2
   simp at h2
  exact ⟨hr,hY _ _ _ hI hr⟩
 |fuel+1,listed,a,w,hI,hf=>by
  refine ⟨hY _ _ _ hI,fun i hi=>?_⟩
  obtain ⟨h1,h2,_⟩:=uF hi
  have h0:=hsz _ _ _ hI
  refine wpOp_mono (fun a' w' Wu=>?_) (hstep listed a w i hI hi)
  refine C2 I hsz hY hstep fuel _ a' w' Wu ?_
  rw[Wt (by omega) h2]
  omega
end inv
def PO.xs:PO→List X
 |.mv x=>[x]
 |.pick c a b=>[c,a,b]
 |.aN _ x y=>[x,y]
 |.E6 _ x y=>[x,y]
 |.JH _ x y=>[x,y]
 |.HS _ x=>[x]
 |.yd _ x=>[x]
 |.un _ x=>[x]
 |.conv _ x=>[x]
 |.wY x=>[x]
 |.bV x=>[x]
 |.an _ x=>[x]
 |.field _ _ _ x=>[x]
 |.gm _ x i=>[x,i]
 |.sI _ _ x i=>[x,i]
 |.kN x i=>[x,i]
 |.A9 _ _ _ x i=>[x,i]
 |.qC _ x lo hi mx=>x::(lo.toList++hi.toList++mx.toList)
 |.rM x lo hi=>x::(lo.toList++hi.toList)
 |.len x=>[x]
 |.nP x=>[x]
 |.mm _ x y=>[x,y]
 |.ext x _=>[x]
 |.oQ _ a b=>a++b
 |.Ba _ x=>[x]
 |.Bb _ _ x=>[x]
 |.build _ ps=>ps.map fun (_,_,x)=>x
 |.ug _ x=>[x]
 |.wF _ x=>[x]
def HO.xs:HO→List X
 |.load _ _ a=>[a]
 |.alloc _ _=>[]
 |.box _ _ x=>[x]
 |.ep _ _ _ _ ps=>ps.map fun (_,x)=>x
 |.kO _ _ _ _ ps=>ps.map fun (_,x)=>x
 |.store _ a x=>[a,x]
 |.jN _ _ _ l c=>[l,c]
 |.ez _ _ s x=>[s,x]
 |.gx _ xs=>xs
 |.rP _ x=>[x]
 |.call _ fw=>fw
 |.cq f fw=>f::fw
 |.bP x=>[x]
theorem xa{ev ou:X→AV}{d:Nat}{K:Nat→Prop}{o:Option X}(h:∀x∈o.toList,ev x=ou x):l8 ev d o K=l8 ou d o K:=by
 cases o with
 |none=>rfl
 |some x=>simp only[l8];rw[h x (by simp)]
theorem yB{ev ou:X→AV}{K:List AV→Prop}:∀{ps:List (Nat×Nat×X)}{zs:List AV},(∀x∈ps.map (fun (_,_,x)=>x),ev x=ou x)→og ev zs ps K=og ou zs ps K
 |[],_,_=>rfl
 |(o,n,x)::r,zs,h=>by
  simp only[og]
  rw[h x (by simp),yB (ps:=r) fun y hy=>h y (by simp only[List.map_cons,List.mem_cons];exact .inr hy)]
theorem uG{ev ou:X→AV}{k:Nat}{K:List AV→Prop}:∀{ps:List (Nat×X)}{es:List AV},(∀x∈ps.map (fun (_,x)=>x),ev x=ou x)→pN ev k es ps K=pN ou k es ps K
 |[],_,_=>rfl
 |(o,x)::r,es,h=>by
  simp only[pN]
  rw[h x (by simp),uG (ps:=r) fun y hy=>h y (by simp only[List.map_cons,List.mem_cons];exact .inr hy)]
theorem PO.xb{ev ou:X→AV}{K:AV→Prop}:∀{q:PO},(∀x∈q.xs,ev x=ou x)→PO.bu ev K q=PO.bu ou K q:=by
 intro q h
 cases q with
 |qC k x lo hi mx =>
  have hx:=h x (by simp[PO.xs])
  have hb:∀(o:Option X),(∀y∈o.toList,y∈(PO.qC k x lo hi mx).xs)→∀d (L:Nat→Prop),l8 ev d o L=l8 ou d o L:=fun o ho d L=>xa fun y hy=>h y (ho y hy)
  have h1:=hb lo (fun y hy=>by simp[PO.xs] at hy ⊢;exact .inr (.inl hy))
  have h2:=hb hi (fun y hy=>by simp[PO.xs] at hy ⊢;exact .inr (.inr (.inl hy)))
  have h3:=hb mx (fun y hy=>by simp[PO.xs] at hy ⊢;exact .inr (.inr (.inr hy)))
  simp only[PO.bu,hx,h1,h2]
  cases mx with
  |none=>rfl
  |some m=>simp only[h3]
 |rM x lo hi =>
  have hx:=h x (by simp[PO.xs])
  have h1:∀d (L:Nat→Prop),l8 ev d lo L=l8 ou d lo L:=fun d L=>xa fun y hy=>h y (by simp[PO.xs] at hy ⊢;exact .inr (.inl hy))
  have h2:∀d (L:Nat→Prop),l8 ev d hi L=l8 ou d hi L:=fun d L=>xa fun y hy=>h y (by simp[PO.xs] at hy ⊢;exact .inr (.inr hy))
  simp only[PO.bu,hx,h1,h2]
 |oQ f a b =>
  have h1:a.map ev=a.map ou:=List.map_congr_left fun x hx=>h x (by simp[PO.xs,hx])
  have h2:b.map ev=b.map ou:=List.map_congr_left fun x hx=>h x (by simp[PO.xs,hx])
  simp only[PO.bu,h1,h2]
 |build zs ps=>simp only[PO.bu];exact yB h
 |_=>simp only[PO.xs,List.mem_cons,List.not_mem_nil,or_false,forall_eq_or_imp,forall_eq] at h;simp only[PO.bu,h]
theorem HO.xb{P:Program}{ev ou:X→AV}{H:Y}{K Kp:AV→Y→Prop}:∀{q:HO},(∀x∈q.xs,ev x=ou x)→HO.bu P ev H K Kp q=HO.bu P ou H K Kp q:=by
 intro q h
 cases q with
 |ep k ty z ln ps=>simp only[HO.bu];exact uG h
 |kO k ty z ln ps=>simp only[HO.bu];exact uG h
 |call f fw =>
  have h1:fw.map ev=fw.map ou:=List.map_congr_left fun x hx=>h x hx
  simp only[HO.bu,h1]
 |gx g fw =>
  have h1:fw.map ev=fw.map ou:=List.map_congr_left fun x hx=>h x hx
  simp only[HO.bu,h1]
 |cq f fw =>
  have h1:fw.map ev=fw.map ou:=List.map_congr_left fun x hx=>h x (by simp[HO.xs,hx])
  have h2:=h f (by simp[HO.xs])
  simp only[HO.bu,h1,h2]
 |_=>simp only[HO.xs,List.mem_cons,List.not_mem_nil,or_false,forall_eq_or_imp,forall_eq] at h;simp only[HO.bu,h]
theorem mi{ev:X→AV}{d:Nat}{K:Nat→Prop}{o:Option X}(h:l8 ev d o K):∃n,K n∧∀L:Nat→Prop,L n→l8 ev d o L:=by
 cases o with
 |none=>exact ⟨d,h,fun L h=>h⟩
 |some x =>
  simp only[l8] at h ⊢
  split at h
  ·rename_i k n he
   exact ⟨_,h.2,fun L hL=>⟨h.1,hL⟩⟩
  ·exact h.elim
theorem Gj{ev:X→AV}{K:List AV→Prop}:∀{ps:List (Nat×Nat×X)}{zs:List AV},og ev zs ps K→∃cs,K cs∧∀L:List AV→Prop,L cs→og ev zs ps L
 |[],zs,h=>⟨zs,h,fun L h=>h⟩
 |(o,n,x)::r,zs,h=>by
  obtain ⟨h1,h2⟩:=h
  obtain ⟨cs,h3,h4⟩:=Gj h2
  exact ⟨cs,h3,fun L hL=>⟨h1,h4 L hL⟩⟩
theorem uH{ev:X→AV}{k:Nat}{K:List AV→Prop}:∀{ps:List (Nat×X)}{es:List AV},pN ev k es ps K→∃cs,K cs∧∀L:List AV→Prop,L cs→pN ev k es ps L
 |[],zs,h=>⟨zs,h,fun L h=>h⟩
 |(o,x)::r,zs,h=>by
  obtain ⟨h1,h2⟩:=h
  obtain ⟨cs,h3,h4⟩:=uH h2
  exact ⟨cs,h3,fun L hL=>⟨h1,h4 L hL⟩⟩
theorem PO.sU{ev:X→AV}{K:AV→Prop}:∀{q:PO},PO.bu ev K q→∃v,K v∧PO.bu ev (fun u=>u=v) q:=by
 intro q h
 cases q with
 |build zs ps =>
  obtain ⟨cs,h1,h2⟩:=Gj h
  exact ⟨_,h1,h2 _ rfl⟩
 |pick c a b =>
  simp only[PO.bu] at h ⊢
  split at h
  ·rename_i t _
   cases t with
   |true=>exact ⟨_,h.1 rfl,fun _=>rfl,fun h=>by simp at h⟩
   |false=>exact ⟨_,h.2 rfl,fun h=>by simp at h,fun _=>rfl⟩
  ·exact h.elim
 |Bb t z x =>
  simp only[PO.bu] at h ⊢
  split at h
  ·rename_i u v _
   by_cases e:u=t
   ·exact ⟨_,h.1 e,fun _=>rfl,fun h=>absurd e h⟩
   ·exact ⟨_,h.2 e,fun h=>absurd h e,fun _=>rfl⟩
  ·exact ⟨_,h,rfl⟩
  ·exact h.elim
 |rM x lo hi =>
  simp only[PO.bu] at h ⊢
  split at h
  ·obtain ⟨n,h1,h2⟩:=mi h
   obtain ⟨m,h3,h4⟩:=mi h1
   exact ⟨_,h3.2,h2 _ (h4 _ ⟨h3.1,rfl⟩)⟩
  ·exact h.elim
 |qC k x lo hi mx =>
  simp only[PO.bu] at h ⊢
  split at h
  ·obtain ⟨h0,h⟩:=h
   split at h
   ·obtain ⟨n0,h1,h2⟩:=mi h
    obtain ⟨n1,h3,h4⟩:=mi h1
    obtain ⟨n2,h5,h6⟩:=mi h3
    exact ⟨_,h5.2,h0,h2 _ (h4 _ (h6 _ ⟨h5.1,rfl⟩))⟩
   ·split at h
    ·obtain ⟨n1,h3,h4⟩:=mi h
     obtain ⟨n2,h5,h6⟩:=mi h3
     exact ⟨_,h5.2,h0,h4 _ (h6 _ ⟨h5.1,rfl⟩)⟩
    ·obtain ⟨n1,h3,h4⟩:=mi h
     obtain ⟨n2,h5,h6⟩:=mi h3
     exact ⟨_,h5.2,h0,h4 _ (h6 _ ⟨h5.1,rfl⟩)⟩
  ·obtain ⟨g1,g2,h⟩:=h
   obtain ⟨n1,h3,h4⟩:=mi h
   obtain ⟨n2,h5,h6⟩:=mi h3
   obtain ⟨h7,h8⟩:=h5
   split at h8
   ·by_cases e:n2<n1
    ·exact ⟨_,h8.1 e,g1,g2,h4 _ (h6 _ ⟨h7,fun _=>rfl,fun h=>by omega⟩)⟩
    ·exact ⟨_,h8.2 (by omega),g1,g2,h4 _ (h6 _ ⟨h7,fun h=>absurd h e,fun _=>rfl⟩)⟩
   ·exact (Classical.em _).elim (fun e=>⟨_,h8.1 e,g1,g2,h4 _ (h6 _ ⟨h7,fun _=>rfl,fun h=>by omega⟩)⟩) (fun e=>⟨_,h8.2 (Nat.le_of_not_lt e),g1,g2,h4 _ (h6 _ ⟨h7,fun h=>absurd h e,fun _=>rfl⟩)⟩)
  ·exact h.elim
 |aN op x y =>
  simp only[PO.bu] at h ⊢
  split at h
  ·obtain ⟨r,h1,h2⟩:=h;exact ⟨_,h2,r,h1,rfl⟩
  ·exact h.elim
 |E6 op x y =>
  simp only[PO.bu] at h ⊢
  split at h
  ·obtain ⟨r,h1,h2⟩:=h;exact ⟨_,h2,r,h1,rfl⟩
  ·exact h.elim
 |un op x =>
  simp only[PO.bu] at h ⊢
  split at h
  ·obtain ⟨r,h1,h2⟩:=h;exact ⟨_,h2,r,h1,rfl⟩
  ·exact h.elim
 |A9 ln n ag x i =>
  simp only[PO.bu] at h ⊢
  split at h
  ·exact ⟨_,h.2.2,h.1,h.2.1,rfl⟩
  ·exact h.elim
 |_ =>
  simp only[PO.bu] at h ⊢
  first
   | exact ⟨_,h,rfl⟩
   | (split at h<;>first
     | exact h.elim
     | exact ⟨_,h,rfl⟩
     | exact ⟨_,h.2,h.1,rfl⟩)
def HO.bo:HO→Bool
 |.store ..=>true
 |.ez ..=>true
 |.gx ..=>true
 |.call ..=>true
 |.cq ..=>true
 |.bP _=>true
 |_=>false
def HO.bC:HO→Bool
 |.alloc ..=>true
 |.box ..=>true
 |.kO ..=>true
 |.jN ..=>true
 |_=>false
def eX.bo:eX→Bool
 |.h q=>q.bo
 |_=>false
def eX.bC:eX→Bool
 |.h q=>q.bC
 |_=>false
def eX.xs:eX→List X
 |.p q=>q.xs
 |.h q=>q.xs
def l5(A:List (List Nat))(i j:Nat):Bool:=(A.getD i []).contains j
def nj(A:List (List Nat))(i j:Nat):Bool:=!l5 A i j && !l5 A j i
def ry(A:List (List Nat))(n i:Nat):Bool:=(List.range n).all fun j=>decide (j≤i)|| l5 A j i
def HO.N3(i:Nat)(H:Y)(ld:List (Nat×Nat)):HO→List (Nat×Nat)
 |.alloc _ _=>(i,H.length)::ld
 |.box _ _ _=>(i,H.length)::ld
 |.kO _ _ _ _ _=>(i,H.length)::ld
 |.jN _ _ _ _ _=>(i,H.length)::ld
 |_=>ld
theorem HO.Wv{i:Nat}{H:Y}{ld:List (Nat×Nat)}(q:HO):∀l∈ld,l∈HO.N3 i H ld q:=by
 intro l hl
 cases q<;>simp only[HO.N3]<;>first|exact hl|exact List.mem_cons_of_mem _ hl
theorem HO.Ww{i:Nat}{H:Y}{ld:List (Nat×Nat)}{q:HO}(h:q.bC=true):(i,H.length)∈HO.N3 i H ld q:=by
 cases q<;>simp[HO.N3,HO.bC] at h ⊢
def Ij(P:Program)(A:List (List Nat))(n i:Nat)(ev:X→AV)(H:Y)(ld:List (Nat×Nat))(hs:List (Nat×Y×Y))(C:AV→Y→List (Nat×Nat)→List (Nat×Y×Y)→Prop)(Kp:AV→Y→Prop):eX→Prop
 |.p q=>PO.bu ev (fun v=>C v H ld hs) q
 |.h (.load m ag a)=>match ev a with
  |.ptr k id j f=>(∀c∈hs,nj A c.1 i=true→id<c.2.1.length→Y.find c.2.2 id=Y.find c.2.1 id)∧HO.bu P ev H (fun v H'=>C v H' ((i,id)::ld) hs) (fun _ _=>False) (.load m ag a)
  |_=>HO.bu P ev H (fun v H'=>C v H' ld hs) (fun _ _=>False) (.load m ag a)
 |.h q=>if q.bo then HO.bu P ev H (fun v H'=>(∀l∈ld,nj A l.1 i=true→Y.find H' l.2=Y.find H l.2)∧C v H' ld ((i,H,H')::hs)) (fun v H'=>ry A n i=true∧Kp v H') q
  else HO.bu P ev H (fun v H'=>C v H' (HO.N3 i H ld q) hs) (fun _ _=>False) q
def pP(P:Program)(A:List (List Nat))(n:Nat)(K:List AV→Y→Prop)(Kp:AV→Y→Prop):Nat→List cy→List AV→Y→List (Nat×Nat)→List (Nat×Y×Y)→Prop
 |_,[],ts,H,_,_=>K ts H
 |i,o::r,ts,H,ld,hs=>cI ts (Ij P A n i (X.ev ts) H ld hs (fun v H' z8 hs'=>pP P A n K Kp (i+1) r (cz ts o.dst v) H' z8 hs') Kp o.op) (pP P A n K Kp (i+1) r (cz ts o.dst (.aO [])) H ld hs) o.guard
theorem Ke{H:Y}{k:Nat}{x:AV}{K:List AV→Prop}(h:JS H k x K):∃ys,K ys∧∀L:List AV→Prop,L ys→JS H k x L:=by
 cases x<;>try exact False.elim h
 ·exact ⟨_,h.2,fun L hL=>⟨h.1,hL⟩⟩
 ·obtain ⟨blk,h1,h2,h3⟩:=h
  exact ⟨_,h3,fun L hL=>⟨blk,h1,h2,hL⟩⟩
theorem HO.sU{P:Program}{ev:X→AV}{H:Y}{K Kp:AV→Y→Prop}:∀{q:HO},HO.bu P ev H K Kp q→
  (∃v H',K v H'∧HO.bu P ev H (fun v' rz=>v'=v∧rz=H') (fun _ _=>False) q)∨(q.bo=true∧∃v H',Kp v H'∧HO.bu P ev H (fun _ _=>False) (fun v' rz=>v'=v∧rz=H') q):=by
 intro q h
 cases q with
 |load n ag a =>
  simp only[HO.bu] at h ⊢
  left
  split at h
  ·obtain ⟨blk,e,h1,h2,h3,h4⟩:=h;exact ⟨_,_,h4,blk,e,h1,h2,h3,rfl,rfl⟩
  ·exact ⟨_,_,h.2,h.1,rfl,rfl⟩
  ·exact h.elim
 |alloc z ty=>exact .inl ⟨_,_,h,rfl,rfl⟩
 |box k ty x=>exact .inl ⟨_,_,h.2,h.1,rfl,rfl⟩
 |ep k ty z ln ps =>
  obtain ⟨cs,h1,h2⟩:=uH h
  exact .inl ⟨_,_,h1,h2 _ ⟨rfl,rfl⟩⟩
 |kO k ty z ln ps =>
  obtain ⟨cs,h1,h2⟩:=uH h
  exact .inl ⟨_,_,h1,h2 _ ⟨rfl,rfl⟩⟩
 |store n a x =>
  simp only[HO.bu] at h ⊢
  left
  split at h
  ·obtain ⟨blk,e,h1,h2,h3,h4⟩:=h;exact ⟨_,_,h4,blk,e,h1,h2,h3,rfl,rfl⟩
  ·exact h.elim
 |jN k ty z l c =>
  simp only[HO.bu] at h ⊢
  left
  split at h
  ·exact ⟨_,_,h.2,h.1,rfl,rfl⟩
  ·exact h.elim
 |gx g xs=>exact .inl ⟨_,_,h.2,h.1,rfl,rfl⟩
 |rP kd x=>exact h.elim
 |ez k ty s x =>
  simp only[HO.bu] at h ⊢
  left
  obtain ⟨ys,h,hL⟩:=Ke h
  split at h
  ·obtain ⟨h1,h2,h3⟩:=h
   by_cases e:ys=[]
   ·exact ⟨_,_,h2 e,hL _ ⟨h1,fun _=>⟨rfl,rfl⟩,fun h=>absurd e h⟩⟩
   ·exact ⟨_,_,h3 e,hL _ ⟨h1,fun h=>absurd h e,fun _=>⟨rfl,rfl⟩⟩⟩
  ·rename_i k' id off n c _
   obtain ⟨blk,h1,h2,h3⟩:=h
   cases c with
   |none=>exact ⟨_,_,h3.2,hL _ ⟨blk,h1,h2,h3.1,rfl,rfl⟩⟩
   |some m =>
    obtain ⟨h4,h5,h6⟩:=h3
    by_cases e:n+ys.length≤m
    ·exact ⟨_,_,h5 e,hL _ ⟨blk,h1,h2,h4,fun _=>⟨rfl,rfl⟩,fun h=>by omega⟩⟩
    ·exact ⟨_,_,h6 (by omega),hL _ ⟨blk,h1,h2,h4,fun h=>absurd h e,fun _=>⟨rfl,rfl⟩⟩⟩
  ·exact h.elim
 |call f fw =>
  obtain ⟨e,H',h1,h2⟩:=h
  cases e with
  |ret v=>exact .inl ⟨v,H',h2,_,_,h1,rfl,rfl⟩
  |bP v=>exact .inr ⟨rfl,v,H',h2,_,_,h1,rfl,rfl⟩
 |cq f fw =>
  simp only[HO.bu] at h ⊢
  split at h
  ·obtain ⟨h0,e,H',h1,h2⟩:=h
   cases e with
   |ret v=>exact .inl ⟨v,H',h2,h0,_,_,h1,rfl,rfl⟩
   |bP v=>exact .inr ⟨rfl,v,H',h2,h0,_,_,h1,rfl,rfl⟩
  ·exact h.elim
 |bP x =>
  simp only[HO.bu] at h ⊢
  right
  split at h
  ·exact ⟨rfl,_,_,h,rfl,rfl⟩
  ·exact h.elim
def mj(P:Program)(o:cy)(ts:List AV)(H:Y)(v:AV)(H':Y):Prop :=
 (cI ts True False o.guard∧sS P (X.ev ts) H (fun v' rz=>v'=v∧rz=H') (fun _ _=>False) o.op)∨(cI ts False True o.guard∧v = .aO []∧H'=H)
def aeA(P:Program)(o:cy)(ts:List AV)(H:Y)(v:AV)(H':Y):Prop :=
 cI ts True False o.guard∧o.op.bo=true∧sS P (X.ev ts) H (fun _ _=>False) (fun v' rz=>v'=v∧rz=H') o.op
def qN(o:cy)(ts:List AV)(id:Nat):Prop:=∃m ag a k j f,o.op = .h (.load m ag a)∧X.ev ts a = .ptr k id j f
structure Road(P:Program)(A:List (List Nat))(n:Nat)(K:List AV→Y→Prop)(Kp:AV→Y→Prop)(i:Nat)(r:List cy)(ld:List (Nat×Nat))(hs:List (Nat×Y×Y))(N:Nat)(vs:Nat→AV)(Hs:Nat→Y)(fs:Nat→List AV):Prop where
 lo:i≤N
 hi:N≤i+r.length
 step:∀m o,i≤m→m<N→r[m-i]? = some o→fs (m+1)=cz (fs m) o.dst (vs m)∧mj P o (fs m) (Hs m) (vs m) (Hs (m+1))
 ldc:∀l∈ld,∀c o,i≤c→c<N→r[c-i]? = some o→o.op.bo=true→nj A l.1 c=true→Y.find (Hs (c+1)) l.2=Y.find (Hs c) l.2
 hsc:∀c∈hs,∀m o id,i≤m→m<N→r[m-i]? = some o→qN o (fs m) id→cI (fs m) True False o.guard→nj A c.1 m=true→id<c.2.1.length→Y.find c.2.2 id=Y.find c.2.1 id
 both:∀m o id c o',i≤m→m<N→i≤c→c<N→r[m-i]? = some o→qN o (fs m) id→cI (fs m) True False o.guard→r[c-i]? = some o'→o'.op.bo=true→nj A m c=true→nj A c m=true→id<(Hs c).length→Y.find (Hs (c+1)) id=Y.find (Hs c) id
 acI:∀m o c o',i≤m→m<c→c<N→r[m-i]? = some o→o.op.bC=true→cI (fs m) True False o.guard→r[c-i]? = some o'→o'.op.bo=true→nj A m c=true→Y.find (Hs (c+1)) (Hs m).length=Y.find (Hs c) (Hs m).length
 fin:(N=i+r.length∧K (fs N) (Hs N))∨∃o v H',r[N-i]? = some o∧aeA P o (fs N) (Hs N) v H'∧ry A n N=true∧Kp v H'
theorem Fj{ts:List AV}{yes no:Prop}:∀{g:Option (Nat×Bool)},cI ts yes no g→(cI ts True False g∧yes)∨(cI ts False True g∧no)
 |none,h=>.inl ⟨trivial,h⟩
 |some (d,want),h=>by
  simp only[cI] at h ⊢
  split at h
  ·rename_i b _
   by_cases e:b=want
   ·exact .inl ⟨⟨fun _=>trivial,fun h=>absurd e h⟩,h.1 e⟩
   ·exact .inr ⟨⟨fun h=>absurd h e,fun _=>trivial⟩,h.2 e⟩
  ·exact .inr ⟨trivial,h⟩
  ·exact h.elim
theorem SS(A:List (List Nat))(i j:Nat):nj A i j=nj A j i:=by unfold nj;rw[Bool.and_comm]
theorem Road.cons{P:Program}{A:List (List Nat)}{n:Nat}{K:List AV→Y→Prop}{Kp:AV→Y→Prop}{i:Nat}{o:cy}{r:List cy}{ld z8:List (Nat×Nat)}{hs hs':List (Nat×Y×Y)}{ts:List AV}{H:Y}{v:AV}{H':Y}
  (hst:mj P o ts H v H'){N:Nat}{vs:Nat→AV}{Hs:Nat→Y}{fs:Nat→List AV}(hrd:Road P A n K Kp (i+1) r z8 hs' N vs Hs fs)(hf:fs (i+1)=cz ts o.dst v)(hH:Hs (i+1)=H')
  (zQ:∀l∈ld,l∈z8∧(o.op.bo=true→nj A l.1 i=true→Y.find H' l.2=Y.find H l.2))
  (hhs:∀c∈hs,c∈hs'∧∀id,qN o ts id→cI ts True False o.guard→nj A c.1 i=true→id<c.2.1.length→Y.find c.2.2 id=Y.find c.2.1 id)
  (ui:∀id,qN o ts id→cI ts True False o.guard→(i,id)∈z8)(hch:o.op.bo=true→(i,H,H')∈hs'∨(H'=H))(aeB:o.op.bC=true→cI ts True False o.guard→(i,H.length)∈z8) :
  ∃vs2 Hs2 fs2,Road P A n K Kp i (o::r) ld hs N vs2 Hs2 fs2∧Hs2 i=H∧fs2 i=ts:=by
 have hlo:=hrd.lo
 have mo:∀m,i+1≤m→(o::r)[m-i]? = r[m-(i+1)]?:=fun m hm=>by
  rw[show m-i=(m-(i+1))+1 from by omega]
  simp
 have ej:∀o',(o::r)[i-i]? = some o'→o'=o:=fun o' h=>by simpa using h.symm
 refine ⟨fun m=>if m=i then v else vs m,fun m=>if m=i then H else Hs m,fun m=>if m=i then ts else fs m,?_,by simp,by simp⟩
 have e1:∀{α:Type}(x y:α) m,i+1≤m→(if m=i then x else y)=y:=fun x y m hm=>by rw[if_neg (by omega)]
 refine ⟨by omega,by have:=hrd.hi;simp;omega,?_,?_,?_,?_,?_,?_⟩
 ·intro m o' hm Aa fN
  by_cases e:m=i
  ·subst e
   cases ej o' fN
   simp only[if_true]
   rw[if_neg (by omega),if_neg (by omega),hf,hH]
   exact ⟨rfl,hst⟩
  ·rw[mo m (by omega)] at fN
   have:=hrd.step m o' (by omega) Aa fN
   rw[if_neg e,if_neg e,if_neg e,if_neg (by omega),if_neg (by omega)]
   exact this
 ·intro l hl c o' hc BR fN uI hu
  by_cases e:c=i
  ·subst e
   cases ej o' fN
   simp only[if_true]
   rw[if_neg (by omega),hH]
   exact (zQ l hl).2 uI hu
  ·rw[mo c (by omega)] at fN
   rw[if_neg e,if_neg (by omega)]
   exact hrd.ldc l (zQ l hl).1 c o' (by omega) BR fN uI hu
 ·intro c hc m o' id hm Aa fN hl hg hu hid
  by_cases e:m=i
  ·subst e
   cases ej o' fN
   simp only[if_true] at hl hg
   exact (hhs c hc).2 id hl hg hu hid
  ·rw[mo m (by omega)] at fN
   simp only[if_neg e] at hl hg
   exact hrd.hsc c (hhs c hc).1 m o' id (by omega) Aa fN hl hg hu hid
 ·intro m o1 id c o2 hm Aa hc BR nT hl hg wv uI hu SL hid
  by_cases e:m=i
  ·subst e
   cases ej o1 nT
   simp only[if_true] at hl hg
   by_cases e2:c=m
   ·subst e2
    cases ej o2 wv
    obtain ⟨_,_,_,_,_,_,hop,_⟩:=hl
    rw[hop] at uI
    simp[eX.bo,HO.bo] at uI
   ·rw[mo c (by omega)] at wv
    simp only[if_neg e2] at hid ⊢
    rw[if_neg (by omega)]
    exact hrd.ldc (m,id) (ui id hl hg) c o2 (by omega) BR wv uI hu
  ·by_cases e2:c=i
   ·subst e2
    cases ej o2 wv
    rw[mo m (by omega)] at nT
    simp only[if_neg e] at hl hg
    simp only[if_true] at hid ⊢
    rw[if_neg (by omega),hH]
    rcases hch uI with h1|h1
    ·exact hrd.hsc (c,H,H') h1 m o1 id (by omega) Aa nT hl hg SL hid
    ·rw[h1]
   ·rw[mo m (by omega)] at nT
    rw[mo c (by omega)] at wv
    simp only[if_neg e] at hl hg
    simp only[if_neg e2] at hid ⊢
    rw[if_neg (by omega)]
    exact hrd.both m o1 id c o2 (by omega) Aa (by omega) BR nT hl hg wv uI hu SL hid
 ·intro m o1 c o2 hm hmc BR nT hal hg wv uI hu
  rw[mo c (by omega)] at wv
  by_cases e:m=i
  ·subst e
   cases ej o1 nT
   simp only[if_true] at hg
   simp only[if_true]
   rw[if_neg (by omega),if_neg (by omega)]
   exact hrd.ldc (m,H.length) (aeB hal hg) c o2 (by omega) BR wv uI hu
  ·rw[mo m (by omega)] at nT
   simp only[if_neg e] at hg
   simp only[if_neg e]
   rw[if_neg (by omega),if_neg (by omega)]
   exact hrd.acI m o1 c o2 (by omega) hmc BR nT hal hg wv uI hu
 ·have e2:N≠i:=by omega
  simp only[if_neg e2]
  rcases hrd.fin with ⟨h1,h2⟩|⟨o',v',H2,h1,h2⟩
  ·exact .inl ⟨by rw[h1];simp;omega,h2⟩
  ·exact .inr ⟨o',v',H2,by rw[mo N (by omega)];exact h1,h2⟩
theorem pQ{P:Program}{A:List (List Nat)}{n:Nat}{K:List AV→Y→Prop}{Kp:AV→Y→Prop}:∀(r:List cy)(i:Nat)(ts:List AV)(H:Y)(ld:List (Nat×Nat))(hs:List (Nat×Y×Y)),pP P A n K Kp i r ts H ld hs→
  ∃N vs Hs fs,Road P A n K Kp i r ld hs N vs Hs fs∧Hs i=H∧fs i=ts
 |[],i,ts,H,ld,hs,h=>by
  refine ⟨i,fun _=>.top,fun _=>H,fun _=>ts,⟨Nat.le_refl _,by simp,fun m o h1 h2=>by omega,fun l _ c o h1 h2=>by omega,fun c _ m o id h1 h2=>by omega,fun m o id c o' h1 h2=>by omega,fun m o c o' h1 h2 h3=>by omega,.inl ⟨by simp,h⟩⟩,rfl,rfl⟩
 |o::r,i,ts,H,ld,hs,h=>by
  simp only[pP] at h
  rcases Fj h with ⟨hg,hy⟩|⟨hg,hn⟩
  case inr =>
   obtain ⟨N,vs,Hs,fs,h1,h2,h3⟩:=pQ r (i+1) _ _ _ _ hn
   have Wx:¬cI ts True False o.guard:=by
    intro hc
    cases hgo:o.guard with
    |none=>rw[hgo] at hg;exact hg
    |some dw =>
     obtain ⟨d,want⟩:=dw
     rw[hgo] at hg hc
     simp only[cI] at hg hc
     split at hg
     ·rename_i b he
      rw[he] at hc
      by_cases e:b=want
      ·exact hg.1 e
      ·exact hc.2 e
     ·rename_i _ he
      rw[he] at hc
      exact hc
     ·exact hg
   have hst:mj P o ts H (.aO []) H:=.inr ⟨hg,rfl,rfl⟩
   obtain ⟨a,b,c,k⟩:=Road.cons hst h1 h3 h2 (fun l hl=>⟨hl,fun _ _=>rfl⟩) (fun c hc=>⟨hc,fun id _ Wy=>absurd Wy Wx⟩) (fun id _ Wy=>absurd Wy Wx) (fun _=>.inr rfl) (fun _ Wy=>absurd Wy Wx)
   exact ⟨N,a,b,c,k⟩
  case inl =>
   have plain:∀(v:AV)(H':Y)(z8:List (Nat×Nat)),(∀l∈ld,l∈z8)→(o.op.bC=true→(i,H.length)∈z8)→sS P (X.ev ts) H (fun v' rz=>v'=v∧rz=H') (fun _ _=>False) o.op→pP P A n K Kp (i+1) r (cz ts o.dst v) H' z8 hs→(∀id,¬qN o ts id)→o.op.bo=false→∃N vs Hs fs,Road P A n K Kp i (o::r) ld hs N vs Hs fs∧Hs i=H∧fs i=ts:=by
    intro v H' z8 hsub hnA h1 h2 h3 h4
    obtain ⟨N,vs,Hs,fs,k1,k2,k3⟩:=pQ r (i+1) _ _ _ _ h2
    have hst:mj P o ts H v H':=.inl ⟨hg,h1⟩
    obtain ⟨a,b,c,k⟩:=Road.cons hst k1 k3 k2 (fun l hl=>⟨hsub l hl,fun h=>by rw[h4] at h;simp at h⟩) (fun c hc=>⟨hc,fun id hl=>absurd hl (h3 id)⟩) (fun id hl=>absurd hl (h3 id)) (fun h=>by rw[h4] at h;simp at h) (fun h _=>hnA h)
    exact ⟨N,a,b,c,k⟩
   cases hop:o.op with
   |p q =>
    rw[hop] at hy
    obtain ⟨v,h1,h2⟩:=PO.sU (show PO.bu (X.ev ts) (fun v=>pP P A n K Kp (i+1) r (cz ts o.dst v) H ld hs) q from hy)
    have BQ:sS P (X.ev ts) H (fun v' rz=>v'=v∧rz=H) (fun _ _=>False) o.op:=by
     rw[hop]
     show PO.bu (X.ev ts) (fun u=>u=v∧H=H) q
     have e:(fun u=>u=v∧H=H)=fun u=>u=v:=by funext u;simp
     rw[e]
     exact h2
    exact plain v H ld (fun _ h=>h) (fun h=>by rw[hop] at h;simp[eX.bC] at h) BQ h1 (fun id hl=>by obtain ⟨_,_,_,_,_,_,e,_⟩:=hl;rw[hop] at e;cases e) (by rw[hop];rfl)
   |h q =>
    rw[hop] at hy
    by_cases C3:∃m ag a,q = .load m ag a
    ·obtain ⟨m,ag,a,rfl⟩:=C3
     simp only[Ij] at hy
     split at hy
     ·rename_i k id j f he
      obtain ⟨hc,hy⟩:=hy
      rcases HO.sU hy with ⟨v,H',h1,h2⟩|⟨h0,_⟩
      ·obtain ⟨N,vs,Hs,fs,k1,k2,k3⟩:=pQ r (i+1) _ _ _ _ h1
       have hst:mj P o ts H v H':=.inl ⟨hg,by rw[hop];exact h2⟩
       have hone:∀id',qN o ts id'→id'=id:=by
        rintro id' ⟨_,_,a',_,_,_,e1,e2⟩
        rw[hop] at e1
        cases e1
        rw[he] at e2
        cases e2
        rfl
       have hnc:o.op.bo=false:=by rw[hop];rfl
       obtain ⟨a,b,c,k⟩:=Road.cons hst k1 k3 k2 (fun l hl=>⟨List.mem_cons_of_mem _ hl,fun h=>by rw[hnc] at h;simp at h⟩) (fun c sV=>⟨sV,fun id' hl _ hu hid=>by
        cases hone id' hl;exact hc c sV hu hid⟩) (fun id' hl _=>by cases hone id' hl;simp) (fun h=>by rw[hnc] at h;simp at h) (fun h=>by rw[hop] at h;simp[eX.bC,HO.bC] at h)
       exact ⟨N,a,b,c,k⟩
      ·simp[HO.bo] at h0
     ·rename_i hne
      rcases HO.sU hy with ⟨v,H',h1,h2⟩|⟨h0,_⟩
      ·exact plain v H' ld (fun _ h=>h) (fun h=>by rw[hop] at h;simp[eX.bC,HO.bC] at h) (by rw[hop];exact h2) h1 (fun id hl=>by
        obtain ⟨_,_,a',k,j,f,e1,e2⟩:=hl
        rw[hop] at e1
        cases e1
        exact hne _ _ _ _ e2) (by rw[hop];rfl)
      ·simp[HO.bo] at h0
    ·have hnl:∀id,¬qN o ts id:=by
      rintro id ⟨m,ag,a,_,_,_,e1,_⟩
      rw[hop] at e1
      cases e1
      exact C3 ⟨_,_,_,rfl⟩
     have hy':if q.bo then HO.bu P (X.ev ts) H (fun v H'=>(∀l∈ld,nj A l.1 i=true→Y.find H' l.2=Y.find H l.2)∧pP P A n K Kp (i+1) r (cz ts o.dst v) H' ld ((i,H,H')::hs)) (fun v H'=>ry A n i=true∧Kp v H') q
       else HO.bu P (X.ev ts) H (fun v H'=>pP P A n K Kp (i+1) r (cz ts o.dst v) H' (HO.N3 i H ld q) hs) (fun _ _=>False) q:=by
      cases q<;>first|exact hy|exact absurd ⟨_,_,_,rfl⟩ C3
     cases tX:q.bo with
     |false =>
      rw[tX] at hy'
      simp only[Bool.false_eq_true,if_false] at hy'
      rcases HO.sU hy' with ⟨v,H',h1,h2⟩|⟨h0,_⟩
      ·exact plain v H' _ (HO.Wv q) (fun h=>HO.Ww (by rw[hop] at h;exact h)) (by rw[hop];exact h2) h1 hnl (by rw[hop];exact tX)
      ·rw[tX] at h0;simp at h0
     |true =>
      rw[tX] at hy'
      simp only[if_true] at hy'
      have hch:o.op.bo=true:=by rw[hop];exact tX
      rcases HO.sU hy' with ⟨v,H',⟨h0,h1⟩,h2⟩|⟨_,v,H',⟨h0,h1⟩,h2⟩
      ·obtain ⟨N,vs,Hs,fs,k1,k2,k3⟩:=pQ r (i+1) _ _ _ _ h1
       have hst:mj P o ts H v H':=.inl ⟨hg,by rw[hop];exact h2⟩
       obtain ⟨a,b,c,k⟩:=Road.cons hst k1 k3 k2 (fun l hl=>⟨hl,fun _ hu=>h0 l hl hu⟩) (fun c hc=>⟨List.mem_cons_of_mem _ hc,fun id hl=>absurd hl (hnl id)⟩) (fun id hl=>absurd hl (hnl id)) (fun _=>.inl (by simp)) (fun h=>by
        rw[hop] at h
        cases q<;>simp[eX.bC,HO.bC,HO.bo] at h tX)
       exact ⟨N,a,b,c,k⟩
      ·refine ⟨i,fun _=>.top,fun _=>H,fun _=>ts,⟨Nat.le_refl _,by simp,fun m o h1 h2=>by omega,fun l _ c o h1 h2=>by omega,fun c _ m o id h1 h2=>by omega,fun m o id c o' h1 h2=>by omega,fun m o c o' h1 h2 h3=>by omega,.inr ⟨o,v,H',by simp,⟨hg,hch,by rw[hop];exact h2⟩,h0,h1⟩⟩,rfl,rfl⟩
def agF:X→Option Nat
 |.t n=>some n
 |.k _=>none
def vV(o:cy):List Nat:=o.op.xs.filterMap agF++(o.guard.map (·.1)).toList
def Fk(l:List cy)(A:List (List Nat)):Bool:=l.zipIdx.all fun (o,i) =>
 (A.getD i []).all (fun j=>decide (j<i)) &&
 l.zipIdx.all fun (o',j) =>
  (o'.dst == none|| j == i|| o'.dst != o.dst) &&
  (match o'.dst with|some d=>!(vV o).contains d|| (l5 A i j|| l5 A j i)|none=>true) &&
  (!(decide (j<i) && ((o.op.bo && o'.op.bo)|| (o.op.bC && o'.op.bo)))|| l5 A i j)
def Ab(ops:Array Oper)(A:List (List Nat)):Bool:=ops.toList.zipIdx.all fun (o,i) =>
 (A.getD i []).all (fun j=>o.after.toList.any fun e=>Region.binds .any e && (e.on == j|| l5 A e.on j)) &&
 o.after.toList.all fun e=>decide (e.on<i)|| !Region.binds .any e
def Q2(ops:Array Oper):List (List Nat):=ops.toList.foldl (fun A o=>A++[((o.after.toList.filter (Region.binds .any)).flatMap fun e=>e.on::A.getD e.on []).eraseDups]) []
def ko(l:List cy)(ts:List AV):List AV:=l.foldl (fun ts o=>cz ts o.dst .top) ts
section
variable {P:Program}
theorem eI{l:List cy}{A:List (List Nat)}(h:Fk l A=true){i j:Nat}{o o':cy}(ho:l[i]? = some o)(fN:l[j]? = some o') :
  (∀k,l5 A i k=true→k<i)∧(∀d,o'.dst=some d→o.dst=some d→j=i)∧(∀d,o'.dst=some d→d∈vV o→l5 A i j=true∨l5 A j i=true)∧
  (j<i→(o.op.bo=true∧o'.op.bo=true∨o.op.bC=true∧o'.op.bo=true)→l5 A i j=true):=by
 unfold Fk at h
 rw[List.all_eq_true] at h
 have h1:=h (o,i) (List.mem_zipIdx_iff_getElem?.2 ho)
 simp only[Bool.and_eq_true] at h1
 have h2:=List.all_eq_true.1 h1.2 (o',j) (List.mem_zipIdx_iff_getElem?.2 fN)
 simp only[Bool.and_eq_true] at h2
 refine ⟨fun k hk=>?_,fun d e1 e2=>?_,fun d e1 e2=>?_,fun hlt hc=>?_⟩
 ·have:=List.all_eq_true.1 h1.1 k (by unfold l5 at hk;simpa using hk)
  simpa using this
 ·have h3:=h2.1.1
  rw[e1,e2] at h3
  simpa using h3
 ·have h3:=h2.1.2
  rw[e1] at h3
  simp only[Bool.or_eq_true,Bool.not_eq_true'] at h3
  rcases h3 with h3|h3
  ·have:(vV o).contains d=true:=by simpa using e2
   rw[this] at h3
   simp at h3
  ·exact h3
 ·have h3:=h2.2
  simp only[Bool.or_eq_true,Bool.not_eq_true',Bool.and_eq_false_iff] at h3
  rcases h3 with h3|h3
  ·rcases h3 with h3|h3
   ·simp at h3;omega
   ·rcases hc with ⟨c1,c2⟩|⟨c1,c2⟩
    ·simp[c1,c2] at h3
    ·simp[c1,c2] at h3
  ·exact h3
theorem vW{ops:Array Oper}{A:List (List Nat)}(h:Ab ops A=true){listed:Array Bool}(iG:∀(j:Nat)(o:Oper),ops[j]? = some o→listed.getD j false=true→∀e∈o.after.toList,Region.binds .any e=true→listed.getD e.on false=true) :
  ∀(n i:Nat)(o:Oper),i<n→ops[i]? = some o→(∀e∈o.after.toList,Region.binds .any e=true→listed.getD e.on false=true)→∀j,l5 A i j=true→listed.getD j false=true:=by
 unfold Ab at h
 rw[List.all_eq_true] at h
 intro n
 induction n with
 |zero=>intro i o hi;omega
 |succ n ih =>
  intro i o hi ho hr j hj
  have h1:=h (o,i) (by rw[List.mem_zipIdx_iff_getElem?];simpa using ho)
  simp only[Bool.and_eq_true] at h1
  have h2:=List.all_eq_true.1 h1.1 j (by unfold l5 at hj;simpa using hj)
  rw[List.any_eq_true] at h2
  obtain ⟨e,he,h3⟩:=h2
  simp only[Bool.and_eq_true,Bool.or_eq_true,beq_iff_eq] at h3
  have hl:=hr e he h3.1
  rcases h3.2 with h4|h4
  ·rw[←h4];exact hl
  ·have h5:=List.all_eq_true.1 h1.2 e he
   rw[h3.1] at h5
   simp at h5
   have:e.on<ops.size:=by have:=(Array.getElem?_eq_some_iff.1 ho).1;omega
   exact ih e.on ops[e.on] (by omega) (by simp[this]) (iG e.on _ (by simp[this]) hl) j h4
theorem SU{ops:Array Oper}{A:List (List Nat)}(h:Ab ops A=true){i:Nat}{o:Oper}(ho:ops[i]? = some o):∀e∈o.after.toList,Region.binds .any e=true→e.on<i:=by
 unfold Ab at h
 rw[List.all_eq_true] at h
 have h1:=h (o,i) (by rw[List.mem_zipIdx_iff_getElem?];simpa using ho)
 simp only[Bool.and_eq_true] at h1
 intro e he hb
 have h5:=List.all_eq_true.1 h1.2 e he
 rw[hb] at h5
 simpa using h5
theorem Kf{ops:Array Oper}{A:List (List Nat)}(h:Ab ops A=true){listed:Array Bool}(hsz:listed.size=ops.size)(hr:Region.ready .any ops listed=[]):∀n i,i<n→i<ops.size→listed.getD i false=true:=by
 intro n
 induction n with
 |zero=>intro i hi;omega
 |succ n ih =>
  intro i hi qE
  by_cases hin:i<n
  ·exact ih i hin qE
  ·have agG:i=n:=by omega
   subst agG
   apply Classical.byContradiction
   intro hno
   have:i∈Region.ready .any ops listed:=by
    unfold Region.ready
    simp only[List.mem_filter,List.mem_range,Bool.and_eq_true,Bool.not_eq_true']
    refine ⟨qE,?_,?_⟩
    ·have h1:i<listed.size:=by omega
     simp[Array.getD,h1] at hno ⊢
     exact hno
    ·have ho:ops[i]? = some ops[i]:=by simp[qE]
     rw[ho]
     simp only[Option.map_some,Option.getD_some,Array.all_eq_true_iff_forall_mem]
     intro e he
     cases hb:Region.binds .any e with
     |false=>simp
     |true =>
      have hlt:=SU h ho e (by simpa using he) hb
      simp[ih e.on hlt (by omega)]
   rw[hr] at this
   simp at this
def tY(H H':Y):Prop:=H.length≤H'.length∧∀id,id<H.length→Y.find H' id=Y.find H id
theorem tY.refl(H:Y):tY H H:=⟨Nat.le_refl _,fun _ _=>rfl⟩
theorem tY.trans{G H K:Y}(h:tY G H)(k:tY H K):tY G K:=⟨Nat.le_trans h.1 k.1,fun id hid=>(k.2 id (Nat.lt_of_lt_of_le hid h.1)).trans (h.2 id hid)⟩
theorem tY.cons(H:Y)(b:Option aP):tY H (b::H):=⟨by simp,fun id hid=>Y.bA hid⟩
theorem Rel.ext{φ:aU}{H H':Y}{w:World}(h:Rel φ H w)(he:tY H H'):Rel φ H' w∧Step φ H w φ H' w:=by
 have hown:∀b,Own φ H' b↔Own φ H b:=by
  intro b
  constructor
  ·rintro ⟨i,k,h1,h2⟩
   rw[he.2 i (h.dom i b h1).1] at h2
   exact ⟨i,k,h1,h2⟩
  ·rintro ⟨i,k,h1,h2⟩
   exact ⟨i,k,h1,by rw[he.2 i (h.dom i b h1).1];exact h2⟩
 have hl:Later (fun _=>True) φ φ (Own φ H) (Own φ H') w w:=⟨fun _ _ _ h=>h,Nat.le_refl _,fun b _ ho fN=>ho ((hown b).1 fN),fun _ _ _=>rfl,fun _ _=>rfl⟩
 refine ⟨⟨h.jC.later hl,fun i b hi=>⟨Nat.lt_of_lt_of_le (h.dom i b hi).1 he.1,(h.dom i b hi).2⟩,fun i j b hi hj jx mM=>?_,fun i b k h1 h2=>?_⟩,⟨hl,rfl,rfl,rfl,he.1,fun _ _=>rfl⟩⟩
 ·rw[he.2 i (h.dom i b hi).1] at jx
  rw[he.2 j (h.dom j b hj).1] at mM
  exact h.inj i j b hi hj jx mM
 ·rw[he.2 i (h.dom i b h1).1] at h2
  exact (h.blk i b k h1 h2).on hl rfl
theorem Rel.Wz{φ:aU}{T:Y}{w:World}(h:Rel φ T w){id:Nat}{blk:aP}(hid:φ id=none)(hf:Y.find T id=some blk)(cE:0<blk.k)(cur:Array Value)(cap:Nat)(hsz:cur.size=cap*blk.k)
  (hcap:blk.es.length≤cap)(hex:blk.exact=true→cap=blk.es.length)(hm:cap≤maxLen)(hk:∀x∈blk.es,x.az=blk.k)(hr:Rs φ (Own φ T) w (flat blk.es) (fun i=>cur[i]?)) :
  Rel (φ.add id w.heap.size) T (w.alloc (.cells cur blk.ty))∧Later (fun _=>True) φ (φ.add id w.heap.size) (Own φ T) (Own (φ.add id w.heap.size) T) w (w.alloc (.cells cur blk.ty)):=by
 have hold:∀b,b<w.heap.size→(w.alloc (.cells cur blk.ty)).heap[b]? = w.heap[b]?:=fun b hb=>heap_alloc_old w _ hb
 have hsize:w.heap.size≤(w.alloc (.cells cur blk.ty)).heap.size:=by simp
 have agH:∀i b,φ i=some b→i≠id:=fun i b hi e=>by rw[e,hid] at hi;simp at hi
 have eK:Later (fun _=>True) φ (φ.add id w.heap.size) (Own φ T) (Own (φ.add id w.heap.size) T) w (w.alloc (.cells cur blk.ty)):=by
  refine ⟨fun i b _ hm'=>?_,hsize,fun b hb ho fN=>?_,fun b hb _=>hold b hb,fun b hb=>by unfold World.shape?;rw[hold b hb]⟩
  ·unfold aU.add
   rw[if_neg (agH i b hm')]
   exact hm'
  ·obtain ⟨i,k,h1,h2⟩:=fN
   unfold aU.add at h1
   split at h1
   ·cases h1;omega
   ·exact ho ⟨i,k,h1,h2⟩
 refine ⟨⟨h.jC.later eK,fun i b' hm'=>?_,fun i j b' hi hj jx mM=>?_,fun i b' k h1 h2=>?_⟩,eK⟩
 ·unfold aU.add at hm'
  split at hm'
  ·rename_i e
   cases hm'
   exact ⟨by rw[e];exact Y.ax hf,by simp⟩
  ·have:=h.dom i b' hm'
   exact ⟨this.1,by simp;omega⟩
 ·unfold aU.add at hi hj
  split at hi<;>split at hj
  ·omega
  ·cases hi;have:=(h.dom j _ hj).2;omega
  ·cases hj;have:=(h.dom i _ hi).2;omega
  ·exact h.inj i j b' hi hj jx mM
 ·unfold aU.add at h1
  split at h1
  ·rename_i e
   cases h1
   subst e
   rw[hf] at h2
   cases h2
   refine .inl ⟨cE,cur,cap,heap_alloc_new w _,hsz,hcap,hex,hm,uk hk (jq eK _ _ _ (AV.cO _) (fun i v hv=>?_) hr)⟩
   unfold cX
   rw[Nat.zero_add,World.cell?_alloc_at _ _ _ _ rfl]
   exact hv
  ·have l2:=(h.dom i b' h1).2
   exact (h.blk i b' k h1 h2).on eK (hold b' l2)
theorem SV{b:Bool}{o:Oper}{q:HO}(hc0:oq P b o=some q)(ha:q.bC=true){φ:aU}{T:Y}{w:World}{ts:List AV}{a:Act}(hF:FR φ (Own φ T) w ts a){Hi H1:Y}{v:AV}{F:AV→Y→Prop}
    (h:HO.bu P (X.ev ts) Hi (fun v' rz=>v'=v∧rz=H1) F q) :
    ∃blk cur cap u,H1=some blk::Hi∧0<blk.k∧(execOp a.eval o).run P w = .ok (.value u) (w.alloc (.cells cur blk.ty))∧cur.size=cap*blk.k∧blk.es.length≤cap∧(blk.exact=true→cap=blk.es.length)∧cap≤maxLen∧
      (∀x∈blk.es,x.az=blk.k)∧Rs φ (Own φ T) w (flat blk.es) (fun i=>(cur:Array Value)[i]?)∧
      ∀(φ':aU)(O':Nat→Prop)(w':World),φ' Hi.length=some w.heap.size→w'.heap[w.heap.size]? = some (.cells cur blk.ty (0,0))→VR φ' O' w' v u:=by
  have hone:∀{x:AV}{u:Value}{k:Nat}{t:TypeId},VR φ (Own φ T) w x u→x.bT=false→x.az=k→0<k→(execOp a.eval o).run P w = .ok (.value (.pointer (some ⟨w.heap.size,0,none⟩))) (w.alloc (.cells u.cells t))→v = .ptr k Hi.length 0 0→H1=some ⟨k,[x],true,t⟩::Hi→
      ∃blk cur cap u,H1=some blk::Hi∧0<blk.k∧(execOp a.eval o).run P w = .ok (.value u) (w.alloc (.cells cur blk.ty))∧cur.size=cap*blk.k∧blk.es.length≤cap∧(blk.exact=true→cap=blk.es.length)∧cap≤maxLen∧
      (∀x∈blk.es,x.az=blk.k)∧Rs φ (Own φ T) w (flat blk.es) (fun i=>(cur:Array Value)[i]?)∧
      ∀(φ':aU)(O':Nat→Prop)(w':World),φ' Hi.length=some w.heap.size→w'.heap[w.heap.size]? = some (.cells cur blk.ty (0,0))→VR φ' O' w' v u:=by
    intro x u k t hv ht hk cE hrun hve WA
    refine ⟨⟨k,[x],true,t⟩,u.cells,1,_,WA,cE,hrun,by simp[gJ hv ht,hk],by simp,by simp,by unfold maxLen;omega,by simp[hk],by simp only[flat,List.flatMap_cons,List.flatMap_nil,List.append_nil];exact uf hv ht,fun φ' O' w' h1 h2=>?_⟩
    rw[hve]
    exact ⟨rfl,_,h1,by simp[fR,Value.cells,fJ cE]⟩
  have hc:kg P b o=some q:=by
    unfold oq at hc0
    split at hc0
    · rename_i h;cases hc0;exact h
    · rcases w5 hc0 with ⟨g,xs,rfl⟩|⟨g,xs,rfl⟩<;>simp[HO.bC] at ha
  unfold kg at hc
  split at hc
  · split at hc<;>cases hc
    simp[HO.bC] at ha
  · rename_i t ho
    split at hc
    case h_2=>simp at hc
    rename_i z hz
    split at hc
    case h_2=>simp at hc
    rename_i z' hJ
    split at hc
    case isFalse=>simp at hc
    rename_i ht
    cases hc
    rw[Option.bind_eq_some_iff] at hz
    obtain ⟨i,h1,h2⟩:=hz
    obtain ⟨e1,e2⟩:=h
    refine hone (yc hJ) ht.1 rfl ht.2 ?_ e1.symm e2.symm
    simp only[execOp,ho,Instr.alloc,zeroValue,typeInfo,Sem.run_bind,run_program,h1,Result.andThen_ok,Sem.run_pure,h2,newVar,newRow,run_newObj]
    rfl
  · rename_i t x ho
    split at hc
    case h_2=>simp at hc
    rename_i x' hi hx
    split at hc
    case isFalse=>simp at hc
    rename_i cE
    cases hc
    obtain ⟨⟨g1,g2⟩,e1,e2⟩:=h
    refine hone (aF hF hx) g1 g2 cE ?_ e1.symm e2.symm
    simp only[execOp,ho,Instr.box,Sem.run_bind,newVar,newRow,run_newObj,Result.andThen_ok,Sem.run_pure]
    rfl
  · rename_i t ln parts ho
    split at hc
    case h_2=>simp at hc
    rename_i e ht
    split at hc
    case h_2=>simp at hc
    rename_i i hi
    split at hc
    case h_2=>simp at hc
    rename_i z ps hz hps
    split at hc
    case isFalse=>simp at hc
    rename_i hJ
    obtain ⟨c1,c2,c3,c5⟩:=hJ
    cases hc
    rw[Option.bind_eq_some_iff] at hz
    obtain ⟨zv,h1,h2⟩:=hz
    cases b with
    |false=>simp[HO.bC] at ha
    |true =>
      obtain ⟨es,cells,k1,k2,k3,k4,k5,k6⟩:=CL (H:=T) hF ht hi h1 h2 hps c1 c2 c3 c5 h
      have nQ:ln≤maxLen:=by
        have:ln*1≤ln*i.size:=Nat.mul_le_mul_left _ c2
        unfold maxLen
        omega
      refine ⟨⟨i.size,es,true,e⟩,cells,ln,.slice (some ⟨w.heap.size,0,none⟩) ln ln,k1.2.symm,c2,?_,k4,by simp[k2],fun _=>by simp[k2],nQ,k3,k5,fun φ' O' w' g1 g2=>?_⟩
      · simp only[execOp,ho,Sem.run_bind,k6,Result.andThen_ok,Sem.run_pure]
      · rw[←k1.1]
        exact ng g1 (Nat.le_refl _) nQ (fun m hm=>by simpa using hm) g2 k4
  · split at hc<;>cases hc
    simp[HO.bC] at ha
  · rename_i t l c ho
    split at hc
    case h_2=>simp at hc
    rename_i e ht
    split at hc
    case h_2=>simp at hc
    rename_i i l' c' hi hl ow
    split at hc
    case h_2=>simp at hc
    rename_i z hz
    split at hc
    case isFalse=>simp at hc
    rename_i hJ
    obtain ⟨c1,c2,c3,c4⟩:=hJ
    cases hc
    rw[Option.bind_eq_some_iff] at hz
    obtain ⟨zv,h1,h2⟩:=hz
    have hv:=aF hF hl
    have hw:=aF hF ow
    simp only[HO.bu] at h
    split at h
    case h_2=>exact h.elim
    rename_i k1 n k2 m he hf
    rw[he] at hv
    rw[hf] at hw
    obtain ⟨⟨m0,m1,m2⟩,e1,e2⟩:=h
    have tV:VR φ (Own φ T) w z zv:=eF h2
    have hzs:=gJ tV c4
    rw[c1] at hzs
    have hks:∀x∈List.replicate m.toNat z,x.az=i.size:=fun x hx=>by rw[List.eq_of_mem_replicate hx];exact c1
    have CM:=lv (zc:=zv.cells) (uf tV c4) c1 c2 m.toNat (fun j=>((Array.range (m.toNat*i.size)).map (zv.cells[· % zv.cells.size]!))[j]?) (fun j hj=>sM hzs c2 hj)
    have nQ:m.toNat≤maxLen:=by unfold maxLen;omega
    refine ⟨⟨i.size,List.replicate m.toNat z,true,e⟩,_,m.toNat,.slice (some ⟨w.heap.size,0,none⟩) n.toNat m.toNat,e2.symm,c2,?_,by simp,by simp,fun _=>by simp,nQ,hks,CM,fun φ' O' w' g1 g2=>?_⟩
    · simp only[execOp,ho,cw hv,cw hw,Sem.run_bind,uA ht hi h1 c3 m0 m1 m2,Result.andThen_ok,Sem.run_pure]
    · rw[←e1]
      exact ng g1 (by omega) nQ (fun q hq=>by simpa using hq) g2 (by simp)
  · split at hc
    case h_2=>simp at hc
    split at hc
    case isFalse=>obtain ⟨g,xs,rfl⟩:=Gh hc;simp[HO.bC] at ha
    split at hc
    case h_2=>simp at hc
    split at hc
    case h_2=>simp at hc
    split at hc
    case h_2=>simp at hc
    split at hc<;>cases hc
    simp[HO.bC] at ha
  · split at hc
    case isFalse=>obtain ⟨g,xs,rfl⟩:=J4 hc;simp[HO.bC] at ha
    rw[Option.map_eq_some_iff] at hc
    obtain ⟨fw,h1,rfl⟩:=hc
    simp[HO.bC] at ha
  · rw[Option.map_eq_some_iff] at hc
    obtain ⟨fw,h1,rfl⟩:=hc
    simp[HO.bC] at ha
  · rw[Option.map_eq_some_iff] at hc
    obtain ⟨fw,h1,rfl⟩:=hc
    simp[HO.bC] at ha
  all_goals first
    | (have h9:=rS hc;obtain ⟨g,xs,rfl⟩:=h9;simp[HO.bC] at ha;done)
    | (repeat' split at hc
       all_goals first|(simp at hc;done)|(cases hc;simp[HO.bC] at ha))
end
section
variable {P:Program}
theorem yE{b:Bool}{ops:Array Oper}:∀{os:List Oper}{l:List cy},eg P b ops os=some l→l.length=os.length∧∀(i:Nat)(o:Oper),os[i]? = some o→∃x,l[i]? = some x∧ot P b ops o=some x
 |[],l,h=>by simp[eg] at h;subst h;exact ⟨rfl,fun i o h=>by simp at h⟩
 |o::r,l,h=>by
  unfold eg at h
  split at h
  case h_2=>simp at h
  rename_i x s h1 h2
  cases h
  obtain ⟨k1,k2⟩:=yE h2
  refine ⟨by simp[k1],fun i o' ho=>?_⟩
  cases i with
  |zero=>simp at ho;subst ho;exact ⟨x,rfl,h1⟩
  |succ i=>simp at ho;obtain ⟨y,h3,h4⟩:=k2 i o' ho;exact ⟨y,by simpa using h3,h4⟩
theorem Ac(ts:List AV)(d:Option Nat)(v:AV)(t:Nat):(cz ts d v).getD t .top=if d=some t∧t<ts.length then v else ts.getD t .top:=by
 cases d with
 |none=>simp[cz]
 |some d =>
  simp only[cz,List.getD,List.getElem?_set]
  by_cases e:d=t
  ·subst e
   by_cases hl:d<ts.length
   ·simp[hl]
   ·simp[hl]
  ·have:¬(some d=some t∧t<ts.length):=by simp[e]
   rw[if_neg e,if_neg this]
theorem rA{ts ts':List AV}{yes no:Prop}{g:Option (Nat×Bool)}(h:∀d w,g=some (d,w)→ts.getD d .top=ts'.getD d .top)(hg:cI ts yes no g):cI ts' yes no g:=by
 cases g with
 |none=>exact hg
 |some dw =>
  obtain ⟨d,w⟩:=dw
  simp only[cI] at hg ⊢
  rw[←h d w rfl]
  exact hg
theorem Kg{ts:List AV}{yes no acJ no':Prop}(h1:yes→acJ)(h2:no→no'){g:Option (Nat×Bool)}(hg:cI ts yes no g):cI ts acJ no' g:=by
 cases g with
 |none=>exact h1 hg
 |some dw =>
  obtain ⟨d,w⟩:=dw
  simp only[cI] at hg ⊢
  split at hg
  ·exact ⟨fun e=>h1 (hg.1 e),fun e=>h2 (hg.2 e)⟩
  ·exact h2 hg
  ·exact hg.elim
theorem C4{ev ou:X→AV}{H:Y}{K Kp:AV→Y→Prop}{q:eX}(h:∀x∈q.xs,ev x=ou x):sS P ev H K Kp q=sS P ou H K Kp q:=by
 cases q with
 |p q=>exact PO.xb (K:=fun v=>K v H) h
 |h q=>exact HO.xb (K:=K) (Kp:=Kp) h
theorem Ad{ev:X→AV}{H T:Y}{v:AV}{H':Y}{q:eX}(hc:q.bo=false)(ha:q.bC=false)(h:sS P ev H (fun v' rz=>v'=v∧rz=H') (fun _ _=>False) q)
  (hl:∀m ag a k id j f,q = .h (.load m ag a)→ev a = .ptr k id j f→Y.find T id=Y.find H id):H'=H∧sS P ev T (fun v' rz=>v'=v∧rz=T) (fun _ _=>False) q:=by
 cases q with
 |p q =>
  obtain ⟨u,⟨h1,h2⟩,h3⟩:=PO.sU (show PO.bu ev (fun v'=>v'=v∧H=H') q from h)
  refine ⟨h2.symm,?_⟩
  show PO.bu ev (fun v'=>v'=v∧T=T) q
  have e:(fun v':AV=>v'=v∧T=T)=fun v'=>v'=u:=by funext v';simp[h1]
  rw[e]
  exact h3
 |h q =>
  cases q with
  |load m ag a =>
   have h':=h
   simp only[sS,HO.bu] at h' ⊢
   split at h'
   ·rename_i k id j f he
    obtain ⟨blk,e,h1,h2,h3,h4,h5⟩:=h'
    exact ⟨h5.symm,blk,e,by rw[hl m ag a k id j f rfl he];exact h1,h2,h3,h4,trivial⟩
   ·obtain ⟨h1,h2,h3⟩:=h'
    exact ⟨h3.symm,h1,h2,trivial⟩
   ·exact h'.elim
  |ep k ty z ln ps =>
   obtain ⟨cs,⟨h1,h2⟩,h3⟩:=uH (show pN ev k (List.replicate ln z) ps (fun es=>AV.am k es (some [])=v∧H=H') from h)
   exact ⟨h2.symm,h3 _ ⟨h1,rfl⟩⟩
  |rP kd x=>exact (show False from h).elim
  |_=>first|(simp[eX.bo,HO.bo] at hc;done)|(simp[eX.bC,HO.bC] at ha;done)
theorem Gk{ev:X→AV}{H:Y}{v:AV}{H':Y}{q:eX}(ha:q.bC=true)(h:sS P ev H (fun v' rz=>v'=v∧rz=H') (fun _ _=>False) q):∃blk,H'=some blk::H:=by
 cases q with
 |p q=>simp[eX.bC] at ha
 |h q =>
  cases q with
  |alloc z ty=>exact ⟨_,h.2.symm⟩
  |box k ty x=>exact ⟨_,h.2.2.symm⟩
  |kO k ty z ln ps =>
   obtain ⟨cs,⟨h1,h2⟩,h3⟩:=uH (show pN ev k (List.replicate ln z) ps (fun es=>AV.aD k H.length 0 ln (some ln)=v∧some ⟨k,es,true,ty⟩::H=H') from h)
   exact ⟨_,h2.symm⟩
  |jN k ty z l c =>
   simp only[sS,HO.bu] at h
   split at h
   ·exact ⟨_,h.2.2.symm⟩
   ·exact h.elim
  |_=>simp[eX.bC,HO.bC] at ha
theorem N4{ev:X→AV}{H:Y}{v:AV}{H':Y}{q:eX}(h:sS P ev H (fun v' rz=>v'=v∧rz=H') (fun _ _=>False) q):H.length≤H'.length:=by
 cases hc:q.bo with
 |false =>
  cases ha:q.bC with
  |false=>rw[(Ad hc ha h (T:=H) (fun _ _ _ _ _ _ _ _ _=>rfl)).1];exact Nat.le_refl _
  |true=>obtain ⟨blk,rfl⟩:=Gk ha h;simp
 |true =>
  cases q with
  |p q=>simp[eX.bo] at hc
  |h q =>
   cases q with
   |store n a x =>
    simp only[sS,HO.bu] at h
    split at h
    ·obtain ⟨blk,e,h1,h2,h3,h4,h5⟩:=h;rw[←h5,Y.af];exact Nat.le_refl _
    ·exact h.elim
   |gx g xs =>
    simp only[sS,HO.bu] at h
    rw[←h.2.2]
    exact GX.VU
   |ez k ty s x =>
    simp only[sS,HO.bu] at h
    obtain ⟨ys,h,_⟩:=Ke h
    split at h
    ·obtain ⟨h1,h2,h3⟩:=h
     by_cases e:ys=[]
     ·rw[←(h2 e).2];exact Nat.le_refl _
     ·rw[←(h3 e).2];simp
    ·rename_i k' id off n c _
     obtain ⟨blk,h1,h2,h3⟩:=h
     cases c with
     |none=>rw[←h3.2.2];simp[Y.af]
     |some m =>
      obtain ⟨h4,h5,h6⟩:=h3
      by_cases e:n+ys.length≤m
      ·rw[←(h5 e).2,Y.af];exact Nat.le_refl _
      ·rw[←(h6 (by omega)).2];simp
    ·exact h.elim
   |call f fw =>
    obtain ⟨e,H2,h1,h2⟩:=h
    cases e with
    |ret u=>rw[←h2.2];exact h1.1
    |bP u=>exact h2.elim
   |cq f fw =>
    simp only[sS,HO.bu] at h
    split at h
    ·obtain ⟨_,e,H2,h1,h2⟩:=h
     cases e with
     |ret u=>rw[←h2.2];exact h1.1
     |bP u=>exact h2.elim
    ·exact h.elim
   |bP x =>
    simp only[sS,HO.bu] at h
    split at h<;>exact h.elim
   |_=>simp[eX.bo,HO.bo] at hc
theorem mj.len{o:cy}{ts:List AV}{H:Y}{v:AV}{H':Y}(h:mj P o ts H v H'):H.length≤H'.length:=by
 rcases h with ⟨_,h⟩|⟨_,_,rfl⟩
 ·exact N4 h
 ·exact Nat.le_refl _
theorem mj.ext{o:cy}{ts:List AV}{H:Y}{v:AV}{H':Y}(h:mj P o ts H v H')(hc:o.op.bo=false):tY H H':=by
 rcases h with ⟨_,h⟩|⟨_,_,rfl⟩
 ·cases ha:o.op.bC with
  |false=>rw[(Ad hc ha h (T:=H) (fun _ _ _ _ _ _ _ _ _=>rfl)).1];exact tY.refl _
  |true=>obtain ⟨blk,rfl⟩:=Gk ha h;exact tY.cons _ _
 ·exact tY.refl _
theorem yF(p:Nat→Bool)(N:Nat):∀(k lo:Nat),lo+k=N→∃s,lo≤s∧s≤N∧(s=N∨p s=true)∧∀m,lo≤m→m<s→p m=false
 |0,lo,h=>⟨lo,Nat.le_refl _,by omega,.inl (by omega),fun m h1 h2=>by omega⟩
 |k+1,lo,h=>by
  cases hp:p lo with
  |true=>exact ⟨lo,Nat.le_refl _,by omega,.inr hp,fun m h1 h2=>by omega⟩
  |false =>
   obtain ⟨s,h1,h2,h3,h4⟩:=yF p N k (lo+1) (by omega)
   refine ⟨s,by omega,h2,h3,fun m g1 g2=>?_⟩
   by_cases e:m=lo
   ·rw[e];exact hp
   ·exact h4 m (by omega) g2
theorem tN{listed:Array Bool}{i j:Nat}(h:listed.getD j false=true):(listed.setIfInBounds i true).getD j false=true:=by
 simp only[Array.getD_eq_getD_getElem?,Array.getElem?_setIfInBounds] at h ⊢
 by_cases e:i=j
 ·subst e
  by_cases hl:i<listed.size
  ·simp[hl]
  ·simp[hl] at h
 ·rw[if_neg e];exact h
theorem dy{listed:Array Bool}{i j:Nat}(h:i≠j):(listed.setIfInBounds i true).getD j false=listed.getD j false:=by
 simp only[Array.getD_eq_getD_getElem?,Array.getElem?_setIfInBounds,if_neg h]
theorem jg{listed:Array Bool}{i:Nat}(h:i<listed.size):(listed.setIfInBounds i true).getD i false=true:=by
 simp[Array.getD_eq_getD_getElem?,Array.getElem?_setIfInBounds,h]
theorem uJ:∀(l:List cy)(ts:List AV),(ko l ts).length=ts.length∧∀t,(ko l ts).getD t .top = .top∨((ko l ts).getD t .top=ts.getD t .top∧∀o∈l,o.dst≠some t)
 |[],ts=>⟨rfl,fun t=>.inr ⟨rfl,by simp⟩⟩
 |o::r,ts=>by
  obtain ⟨h1,h2⟩:=uJ r (cz ts o.dst .top)
  simp only[ko,List.foldl_cons] at h1 h2 ⊢
  refine ⟨by rw[h1,yz],fun t=>?_⟩
  rcases h2 t with h3|⟨h3,h4⟩
  ·exact .inl h3
  ·rw[Ac] at h3
   by_cases e:o.dst=some t
   ·by_cases hl:t<ts.length
    ·rw[if_pos ⟨e,hl⟩] at h3
     exact .inl h3
    ·left
     rw[h3,if_neg (by simp[hl])]
     simp[List.getD,List.getElem?_eq_none (Nat.le_of_not_lt hl)]
   ·rw[if_neg (by simp[e])] at h3
    exact .inr ⟨h3,fun o' fN=>by
     rcases List.mem_cons.1 fN with rfl|fN
     ·exact e
     ·exact h4 o' fN⟩
end
section
variable {P:Program}
structure DI(ops:Array Oper)(l:List cy)(N:Nat)(vs:Nat→AV)(Hs:Nat→Y)(ts:List AV)(H:Y)(φ:aU)(w0:World)(ds:List Deferred)(listed:Array Bool)(act:Act)(w:World):Prop where
 size:listed.size=ops.size
 lt:∀i,listed.getD i false=true→i<N
 cl:∀(j:Nat)(o:Oper),ops[j]? = some o→listed.getD j false=true→∀e∈o.after.toList,Region.binds .any e=true→listed.getD e.on false=true
 SW:act.defers=ds
 ex:∃(φ':aU)(s:Nat),s≤N∧(∀(c:Nat)(x:cy),l[c]? = some x→x.op.bo=true→(listed.getD c false=true↔c<s))∧(s=N∨∃x:cy,l[s]? = some x∧x.op.bo=true)∧Rel φ' (Hs s) w∧Step φ H w0 φ' (Hs s) w∧
  (∀(i:Nat)(x:cy),l[i]? = some x→x.op.bC=true→i<N→(Hs i).length<(Hs (i+1)).length→listed.getD i false=false→φ' (Hs i).length=none)∧
  act.tmps.size=ts.length∧(∀(i:Nat)(x:cy)(d:Nat),l[i]? = some x→x.dst=some d→d<ts.length→listed.getD i false=true→VR φ' (Own φ' (Hs s)) w (vs i) (act.tmps.getD d undef))∧
  (∀t:Nat,(∀(i:Nat)(x:cy),l[i]? = some x→x.dst=some t→listed.getD i false=false)→VR φ' (Own φ' (Hs s)) w (ts.getD t .top) (act.tmps.getD t undef))
theorem Gl(a:Act)(d:Option Tmp)(u:Value)(t:Nat):(a.put d u).tmps.getD t undef=if d=some t∧t<a.tmps.size then u else a.tmps.getD t undef:=by
 cases d with
 |none=>simp[Act.put]
 |some d =>
  simp only[Act.put,Array.getD_eq_getD_getElem?,Array.getElem?_setIfInBounds]
  by_cases e:d=t
  ·subst e
   by_cases hl:d<a.tmps.size
   ·simp[hl]
   ·simp[hl]
  ·have:¬(some d=some t∧t<a.tmps.size):=by simp[e]
   rw[if_neg e,if_neg this]
theorem SX(a:Act)(d:Option Tmp)(u:Value):(a.put d u).tmps.size=a.tmps.size:=by
 cases d<;>simp[Act.put]
def DQ(ops:Array Oper)(K:List AV→Y→Prop)(H:Y)(φ:aU)(w0:World)(ds:List Deferred)(listed:Array Bool)(act:Act)(w:World):Prop :=
 (listed.size=ops.size∧∀i,i<ops.size→listed.getD i false=true)∧∃ts' φ' H',K ts' H'∧FR φ' (Own φ' H') w ts' act∧Rel φ' H' w∧Step φ H w0 φ' H' w∧act.defers=ds
set_option maxHeartbeats 2000000 in
theorem yG{b:Bool}{ops:Array Oper}{l l0:List cy}{last:Option cy}{A:List (List Nat)}(hc:eg P b ops ops.toList=some l)(hl:l=l0++last.toList)(hA:Ab ops A=true)(hD:Fk l A=true)
    (WB:∀o,last=some o→(List.range l0.length).all (fun j=>l5 A l0.length j)=true)
    {Q:Exit→Act→World→Prop}{K K':List AV→Y→Prop}{Kp:AV→List AV→Y→Prop}{φ:aU}{H:Y}{w:World}{ts:List AV}{a:Act}
    (hR:Rel φ H w)(hF:FR φ (Own φ H) w ts a)(h:pP P A l0.length K' (fun v H'=>Kp v (ko l0 ts) H') 0 l0 ts H [] [])
    (hK:∀ig H1,K' ig H1→(last=none→K ig H1)∧∀o,last=some o→cI ig (Wr P (X.ev ig) H1 (fun v H'=>K (cz ig o.dst v) H') (fun v H'=>Kp v ig H') o.op) (K (cz ig o.dst (.aO [])) H1) o.guard)
    (hk:nJ Q K φ H w a.defers)(hp:ni Q Kp φ H w a.defers):wpAny P .any ops Q ops.size (Array.replicate ops.size false) a { w with drawn:=w.drawn+1 }:=by
  obtain ⟨N,vs,Hs,fs,hrd,Fl,Sx⟩:=pQ l0 0 ts H [] [] h
  have hN0:N≤l0.length:=by simpa using hrd.hi
  have ef:l.length=l0.length+last.toList.length:=by rw[hl,List.length_append]
  have oh:∀(m:Nat)(x:cy),m<N→l[m]? = some x→l0[m]? = some x:=fun m x hm hx=>by
    rw[hl,List.getElem?_append_left (by omega)] at hx
    exact hx
  obtain ⟨hlen,mo⟩:=yE hc
  have hls:l.length=ops.size:=by simpa using hlen
  have hNl:N≤l.length:=by omega
  have hx:∀i,i<ops.size→∃o x,ops[i]? = some o∧l[i]? = some x∧ot P b ops o=some x:=by
    intro i hi
    obtain ⟨x,h1,h2⟩:=mo i ops[i] (by simp[hi])
    exact ⟨ops[i],x,by simp[hi],h1,h2⟩
  have hst:∀(m:Nat)(x:cy),m<N→l[m]? = some x→fs (m+1)=cz (fs m) x.dst (vs m)∧mj P x (fs m) (Hs m) (vs m) (Hs (m+1)):=fun m x Aa hx=>hrd.step m x (Nat.zero_le _) Aa (by simpa using oh m x Aa hx)
  have Ki:∀m,m<N→∃x,l[m]? = some x:=fun m Aa=>⟨l[m]'(by omega),by simp[show m<l.length by omega]⟩
  have aa5:∀m,m<N→(Hs m).length≤(Hs (m+1)).length:=fun m Aa=>by
    obtain ⟨x,hx⟩:=Ki m Aa
    exact (hst m x Aa hx).2.len
  have aeC:∀k m,m+k≤N→(Hs m).length≤(Hs (m+k)).length:=by
    intro k
    induction k with
    |zero=>intro m _;exact Nat.le_refl _
    |succ k ih=>intro m hmk;exact Nat.le_trans (ih m (by omega)) (aa5 (m+k) (by omega))
  have o7:∀m m',m≤m'→m'≤N→(Hs m).length≤(Hs m').length:=fun m m' h1 h2=>by
    have:=aeC (m' - m) m (by omega)
    rwa [show m+(m' - m)=m' from by omega] at this
  have WC:∀k lo,lo+k≤N→(∀(m:Nat)(x:cy),lo≤m→m<lo+k→l[m]? = some x→x.op.bo=false)→tY (Hs lo) (Hs (lo+k)):=by
    intro k
    induction k with
    |zero=>intro lo _ _;exact tY.refl _
    |succ k ih =>
      intro lo h1 h2
      obtain ⟨x,hx⟩:=Ki (lo+k) (by omega)
      exact (ih lo (by omega) fun m x g1 g2 g3=>h2 m x g1 (by omega) g3).trans ((hst (lo+k) x (by omega) hx).2.ext (h2 (lo+k) x (by omega) (by omega) hx))
  have SY:∀i,i≤N→(fs i).length=ts.length:=by
    intro i
    induction i with
    |zero=>intro _;rw[Sx]
    |succ i ih =>
      intro hi
      obtain ⟨x,hx⟩:=Ki i (by omega)
      rw[(hst i x (by omega) hx).1,yz,ih (by omega)]
  have hfN:∀i,i≤N→∀t:Nat,(∀(j:Nat)(x:cy),j<i→l[j]? = some x→x.dst≠some t)→(fs i).getD t .top=ts.getD t .top:=by
    intro i
    induction i with
    |zero=>intro _ t _;rw[Sx]
    |succ i ih =>
      intro hi t ht
      obtain ⟨x,hx⟩:=Ki i (by omega)
      rw[(hst i x (by omega) hx).1,Ac,if_neg (fun e=>ht i x (by omega) hx e.1)]
      exact ih (by omega) t fun j y hj hy=>ht j y (by omega) hy
  have hfW:∀i,i≤N→∀(j:Nat)(x:cy)(t:Nat),j<i→l[j]? = some x→x.dst=some t→t<ts.length→(fs i).getD t .top=vs j:=by
    intro i
    induction i with
    |zero=>intro _ j x t hj;omega
    |succ i ih =>
      intro hi j x t hj hxj hd ht
      obtain ⟨y,hy⟩:=Ki i (by omega)
      rw[(hst i y (by omega) hy).1,Ac,SY i (by omega)]
      by_cases e:j=i
      · subst e
        rw[hxj] at hy
        cases hy
        rw[if_pos ⟨hd,ht⟩]
      · rw[if_neg (fun e2=>e ((eI hD hy hxj).2.1 t hd e2.1))]
        exact ih (by omega) j x t (by omega) hxj hd ht
  refine C2 (fun li ac ww=>DI ops l N vs Hs ts H φ w a.defers li ac ww∨DQ ops K H φ w a.defers li ac ww) (fun _ _ _ hI=>hI.elim (fun h=>h.size) fun h=>h.1.1) ?_ ?_ ops.size _ a _ ?_ (by omega)
  case refine_3 =>
    obtain ⟨s,h1,h2,h3,h4⟩:=yF (fun m=>match l[m]? with|some x=>x.op.bo|none=>false) N N 0 (by omega)
    have sL:∀i,(Array.replicate ops.size false).getD i false=false:=fun i=>by simp[Array.getD]
    have hE:tY (Hs 0) (Hs s):=by
      have:=WC s 0 (by omega) fun m x g1 g2 g3=>by have:=h4 m g1 (by omega);rw[g3] at this;exact this
      rwa [Nat.zero_add] at this
    rw[Fl] at hE
    obtain ⟨r1,r2⟩:=(pB hR).ext hE
    have r3:=(iR φ H w).trans r2
    refine .inl ⟨by simp,fun i hi=>by rw[sL] at hi;simp at hi,fun j o ho hl=>by rw[sL] at hl;simp at hl,rfl,φ,s,h2,fun c x ow hch=>?_,?_,r1,r3,fun i x Fm hal WD _ _=>?_,hF.1,fun i x d _ _ _ hl=>by rw[sL] at hl;simp at hl,fun t _=>r3.vr (hF.2 t)⟩
    · rw[sL]
      refine ⟨fun e=>by simp at e,fun e=>?_⟩
      have:=h4 c (by omega) e
      rw[ow] at this
      simp only at this
      rw[hch] at this
      simp at this
    · rcases h3 with h3|h3
      · exact .inl h3
      · split at h3
        · rename_i x hx;exact .inr ⟨x,hx,h3⟩
        · simp at h3
    · cases N5:φ (Hs i).length with
      |none=>rfl
      |some b =>
        have g1:=(hR.dom _ _ N5).1
        have g2:=o7 0 i (by omega) (by omega)
        rw[Fl] at g2
        omega
  case refine_1 =>
    intro listed act w' hI hr
    rcases hI with hI|⟨_,ts',φ',H',q1,q2,q3,q4,q5⟩
    case inr=>exact hk ts' act φ' H' w' q1 q2 q3 q4 q5
    have hall:=Kf hA hI.size hr
    have hN:N=ops.size:=by
      rcases Nat.lt_or_ge N ops.size with h1|h1
      · have:=hI.lt N (hall (N+1) N (by omega) h1)
        omega
      · omega
    obtain ⟨φ',s,h1,h2,h3,h4,h5,h6,h7,h8,h9⟩:=hI.ex
    have hs:s=N:=by
      rcases h3 with h3|⟨x,hx,hch⟩
      · exact h3
      · have pR:s<l.length:=(List.getElem?_eq_some_iff.1 hx).1
        have:=(h2 s x hx hch).1 (hall (s+1) s (by omega) (by omega))
        omega
    subst hs
    rcases hrd.fin with ⟨g1,g2⟩|⟨o,v,H',g1,_⟩
    · have hno:last=none:=by
        cases hlo:last with
        |none=>rfl
        |some o=>rw[hlo] at ef;simp at ef;omega
      have g2:=(hK _ _ g2).1 hno
      refine hk (fs s) act φ' (Hs s) w' g2 ⟨by rw[h7,SY s (Nat.le_refl _)],fun t=>?_⟩ h4 h5 hI.SW
      by_cases hw:∃(j:Nat)(x:cy),l[j]? = some x∧x.dst=some t
      · obtain ⟨j,x,hj,hd⟩:=hw
        have rQ:j<l.length:=(List.getElem?_eq_some_iff.1 hj).1
        by_cases ht:t<ts.length
        · rw[hfW s (Nat.le_refl _) j x t (by omega) hj hd ht]
          exact h8 j x t hj hd ht (hall (j+1) j (by omega) (by omega))
        · have:(fs s).getD t .top = .top:=by
            simp[List.getD,List.getElem?_eq_none (show (fs s).length≤t by rw[SY s (Nat.le_refl _)];omega)]
          rw[this]
          exact nI _
      · have hno:∀(i:Nat)(x:cy),l[i]? = some x→x.dst≠some t:=fun i x hi hd=>hw ⟨i,x,hi,hd⟩
        rw[hfN s (Nat.le_refl _) t fun j x _ hj=>hno j x hj]
        exact h9 t fun i x hi hd=>absurd hd (hno i x hi)
    · have:=(List.getElem?_eq_some_iff.1 g1).1
      omega
  case refine_2 =>
    intro listed act w' i hI hi
    obtain ⟨qE,hnt,WG⟩:=uF hi
    rcases hI with hI|⟨⟨q0,q1⟩,_⟩
    case inr =>
      have h1:=q1 i qE
      have h2:i<listed.size:=by omega
      simp[Array.getD,h2] at hnt h1
      rw[h1] at hnt
      simp at hnt
    have Gm:i<listed.size:=by rw[hI.size];exact qE
    have hnl:listed.getD i false=false:=by
      simp[Array.getD,Gm] at hnt ⊢
      exact hnt
    obtain ⟨o,x,ho,nn,ow⟩:=hx i qE
    obtain ⟨yH,hgd⟩:=w8 ow
    have yI:∀j,l5 A i j=true→listed.getD j false=true:=vW hA hI.cl (i+1) i o (by omega) ho (WG o ho)
    have WD:i≤N:=by
      rcases Nat.lt_or_ge N i with h1|h1
      · exfalso
        have ajf:last.toList.length≤1:=by cases last<;>simp
        rcases hrd.fin with ⟨g1,_⟩|⟨o',v',H',gg,_,g3,_⟩
        · omega
        · have ajg:N<l0.length:=by
            have:=(List.getElem?_eq_some_iff.1 gg).1
            omega
          by_cases NI:i<l0.length
          · unfold ry at g3
            have:=List.all_eq_true.1 g3 i (by simp;omega)
            simp only[Bool.or_eq_true,decide_eq_true_eq] at this
            rcases this with h2|h2
            · omega
            · have:=hI.lt N (yI N h2)
              omega
          · cases hlo:last with
            |none=>rw[hlo] at ef;simp at ef;omega
            |some lo =>
              rw[hlo] at ef
              simp at ef
              have hie:i=l0.length:=by omega
              have h2:=List.all_eq_true.1 (WB lo hlo) N (by simp;omega)
              rw[←hie] at h2
              have:=hI.lt N (yI N h2)
              omega
      · exact h1
    obtain ⟨φ',s,hs1,wy,Kj,Ik,Il,S0,WH,hs8,WI⟩:=hI.ex
    obtain ⟨S1,acK,acL,acM⟩:∃S1:Nat→AV,(∀(j:Nat)(y:cy)(t:Nat),l[j]? = some y→y.dst=some t→listed.getD j false=true→S1 t=vs j)∧
        (∀t:Nat,(∀(j:Nat)(y:cy),l[j]? = some y→y.dst≠some t)→S1 t=ts.getD t .top)∧(∀(j:Nat)(y:cy)(t:Nat),l[j]? = some y→y.dst=some t→listed.getD j false=false→S1 t=ts.getD t .top):=by
      classical
      refine ⟨fun t=>if hh:∃(j:Nat)(y:cy),l[j]? = some y∧y.dst=some t∧listed.getD j false=true then vs hh.choose else ts.getD t .top,?_,?_,?_⟩
      · intro j y t hj hd hl
        have hh:∃(j:Nat)(y:cy),l[j]? = some y∧y.dst=some t∧listed.getD j false=true:=⟨j,y,hj,hd,hl⟩
        obtain ⟨y',c1,c2,c3⟩:=hh.choose_spec
        have:hh.choose=j:=(eI hD hj c1).2.1 t c2 hd
        simp only
        rw[dif_pos hh,this]
      · intro t ht
        simp only
        rw[dif_neg (fun ⟨j,y,h1,h2,_⟩=>ht j y h1 h2)]
      · intro j y t hj hd hl
        simp only
        rw[dif_neg (fun ⟨j',y',h1,h2,h3⟩=>by
          have:=(eI hD hj h1).2.1 t h2 hd
          rw[this,hl] at h3
          simp at h3)]
    let C5:List AV:=(List.range ts.length).map S1
    have acN:∀t,t<ts.length→C5.getD t .top=S1 t:=fun t ht=>by simp[C5,List.getD,ht]
    have acO:∀t,ts.length≤t→C5.getD t .top = .top:=fun t ht=>by simp[C5,List.getD,ht]
    have Im:FR φ' (Own φ' (Hs s)) w' C5 act:=by
      refine ⟨by simp[C5,WH],fun t=>?_⟩
      by_cases ht:t<ts.length
      · rw[acN t ht]
        by_cases hw:∃(j:Nat)(y:cy),l[j]? = some y∧y.dst=some t
        · obtain ⟨j,y,hj,hd⟩:=hw
          cases hl:listed.getD j false with
          |true=>rw[acK j y t hj hd hl];exact hs8 j y t hj hd ht hl
          |false =>
            rw[acM j y t hj hd hl]
            exact WI t fun j' y' hj' hd'=>by
              have:=(eI hD hj hj').2.1 t hd' hd
              rw[this]
              exact hl
        · have hno:∀(j:Nat)(y:cy),l[j]? = some y→y.dst≠some t:=fun j y hj hd=>hw ⟨j,y,hj,hd⟩
          rw[acL t hno]
          exact WI t fun j y hj hd=>absurd hd (hno j y hj)
      · rw[acO t (by omega)]
        exact nI _
    have WJ:∀t,t∈vV x→C5.getD t .top=(fs i).getD t .top:=by
      intro t dW
      by_cases ht:t<ts.length
      · rw[acN t ht]
        by_cases hw:∃(j:Nat)(y:cy),l[j]? = some y∧y.dst=some t
        · obtain ⟨j,y,hj,hd⟩:=hw
          rcases (eI hD nn hj).2.2.1 t hd dW with h1|h1
          · have h2:=(eI hD nn hj).1 j h1
            rw[acK j y t hj hd (yI j h1),hfW i WD j y t h2 hj hd ht]
          · have h2:=(eI hD hj nn).1 i h1
            have rQ:j<l.length:=(List.getElem?_eq_some_iff.1 hj).1
            have hno:listed.getD j false=false:=by
              cases hq:listed.getD j false with
              |false=>rfl
              |true =>
                obtain ⟨oj,yj,m1,m2,_⟩:=hx j (by omega)
                have:=vW hA hI.cl (j+1) j oj (by omega) m1 (hI.cl j oj m1 hq) i h1
                rw[hnl] at this
                simp at this
            rw[acM j y t hj hd hno,hfN i WD t fun j' y' acP hj' hd'=>by
              have:=(eI hD hj hj').2.1 t hd' hd
              omega]
        · have hno:∀(j:Nat)(y:cy),l[j]? = some y→y.dst≠some t:=fun j y hj hd=>hw ⟨j,y,hj,hd⟩
          rw[acL t hno,hfN i WD t fun j y _ hj=>hno j y hj]
      · rw[acO t (by omega)]
        simp[List.getD,List.getElem?_eq_none (show (fs i).length≤t by rw[SY i WD];omega)]
    have hev:∀y∈x.op.xs,X.ev (fs i) y=X.ev C5 y:=by
      intro y hy
      cases y with
      |k v=>rfl
      |t t =>
        simp only[X.ev]
        exact (WJ t (by unfold vV;exact List.mem_append_left _ (List.mem_filterMap.2 ⟨.t t,hy,rfl⟩))).symm
    have WK:∀d wt,x.guard=some (d,wt)→(fs i).getD d .top=C5.getD d .top:=by
      intro d wt hg
      exact (WJ d (by unfold vV;rw[hg];simp)).symm
    have WL:∀(dJ:aU)(s2:Nat)(w2:World)(u:Value),i<N→s2≤N→(∀(c:Nat)(y:cy),l[c]? = some y→y.op.bo=true→((listed.setIfInBounds i true).getD c false=true↔c<s2))→(s2=N∨∃y:cy,l[s2]? = some y∧y.op.bo=true)→Rel dJ (Hs s2) w2→
        Later (fun _=>True) φ' dJ (Own φ' (Hs s)) (Own dJ (Hs s2)) w' w2→(∀id,id<H.length→dJ id=φ' id)→w2.os=w'.os→w2.tape=w'.tape→w2.output=w'.output→
        (∀(j:Nat)(y:cy),l[j]? = some y→y.op.bC=true→j<N→(Hs j).length<(Hs (j+1)).length→(listed.setIfInBounds i true).getD j false=false→dJ (Hs j).length=none)→VR dJ (Own dJ (Hs s2)) w2 (vs i) u→
        DI ops l N vs Hs ts H φ w a.defers (listed.setIfInBounds i true) (act.put o.dst u) w2∨DQ ops K H φ w a.defers (listed.setIfInBounds i true) (act.put o.dst u) w2:=by
      intro dJ s2 w2 u ajh g1 g2 g3 g4 g5 g6 g7 g8 g9 g10 g11
      refine .inl ⟨by simpa using hI.size,fun j hj=>?_,fun j oj hoj hj e he hb=>?_,by rw[put_defers];exact hI.SW,dJ,s2,g1,g2,g3,g4,⟨Il.toLater.trans g5,g7.trans Il.os,g8.trans Il.tape,g9.trans Il.output,?_,fun id hid=>(g6 id hid).trans (Il.old id hid)⟩,g10,by rw[SX];exact WH,fun j y d hj hd hdl hl=>?_,fun t ht=>?_⟩
      · by_cases e:i=j
        · omega
        · rw[dy e] at hj
          exact hI.lt j hj
      · by_cases e2:i=j
        · subst e2
          rw[ho] at hoj
          cases hoj
          exact tN (WG o ho e he hb)
        · rw[dy e2] at hj
          exact tN (hI.cl j oj hoj hj e he hb)
      · have:=o7 0 s2 (Nat.zero_le _) g1
        rwa [Fl] at this
      · rw[Gl]
        by_cases e:i=j
        · subst e
          rw[nn] at hj
          cases hj
          rw[if_pos ⟨by rw[←yH];exact hd,by rw[WH];exact hdl⟩]
          exact g11
        · rw[if_neg (fun e2=>e ((eI hD hj nn).2.1 d (by rw[yH];exact e2.1) hd))]
          rw[dy e] at hl
          exact rL g5 (AV.lQ _) (hs8 j y d hj hd hdl hl)
      · rw[Gl,if_neg (fun e2=>by
          have:=ht i x nn (by rw[yH];exact e2.1)
          rw[jg Gm] at this
          simp at this)]
        exact rL g5 (AV.lQ _) (WI t fun j y hj hd=>by
          have:=ht j y hj hd
          by_cases e:i=j
          · rw[←e];exact hnl
          · rw[dy e] at this;exact this)
    have C6:x.op.bo=false→∀(c:Nat)(y:cy),l[c]? = some y→y.op.bo=true→((listed.setIfInBounds i true).getD c false=true↔c<s):=by
      intro hnc c y sV hch
      have e:i≠c:=fun e=>by
        subst e
        rw[nn] at sV
        cases sV
        rw[hnc] at hch
        simp at hch
      rw[dy e]
      exact wy c y sV hch
    have WM:x.op.bC=false→∀(j:Nat)(y:cy),l[j]? = some y→y.op.bC=true→j<N→(Hs j).length<(Hs (j+1)).length→(listed.setIfInBounds i true).getD j false=false→φ' (Hs j).length=none:=by
      intro hna j y hj hal C7 hlt hu
      have e:i≠j:=fun e=>by
        subst e
        rw[nn] at hj
        cases hj
        rw[hna] at hal
        simp at hal
      rw[dy e] at hu
      exact S0 j y hj hal C7 hlt hu
    unfold wpOp
    rw[ho]
    simp only
    rcases Nat.lt_or_ge i N with hlt|hge
    case inr =>
      have agI:i=N:=by omega
      subst agI
      rcases hrd.fin with ⟨g1,gk⟩|⟨o',v',H',g1,⟨g2,g3,g4⟩,g5,g6⟩
      ·
        cases hlo:last with
        |none=>rw[hlo] at ef;simp at ef;omega
        |some lo =>
          have hie:i=l0.length:=by omega
          have uv:x=lo:=by
            rw[hl,hlo,hie] at nn
            simp at nn
            exact nn.symm
          subst uv
          have fx:=(hK _ _ gk).2 x hlo
          have rQ:∀j,j<i→listed.getD j false=true:=fun j hj=>yI j (by
            rw[hie]
            exact List.all_eq_true.1 (WB x hlo) j (by simp;omega))
          have hs:s=i:=by
            rcases Kj with h1|⟨y,h1,h2⟩
            · exact h1
            · rcases Nat.lt_or_ge s i with h3|h3
              · have:=(wy s y h1 h2).1 (rQ s h3)
                omega
              · omega
          subst hs
          have WN:FR φ' (Own φ' (Hs s)) w' (fs s) act:=by
            refine ⟨by rw[WH,SY s (Nat.le_refl _)],fun t=>?_⟩
            by_cases hw:∃(j:Nat)(y:cy),j<s∧l[j]? = some y∧y.dst=some t
            · obtain ⟨j,y,hjs,hj,hd⟩:=hw
              by_cases ht:t<ts.length
              · rw[hfW s (Nat.le_refl _) j y t hjs hj hd ht]
                exact hs8 j y t hj hd ht (rQ j hjs)
              · have:(fs s).getD t .top = .top:=by
                  simp[List.getD,List.getElem?_eq_none (show (fs s).length≤t by rw[SY s (Nat.le_refl _)];omega)]
                rw[this]
                exact nI _
            · have hno:∀(j:Nat)(y:cy),j<s→l[j]? = some y→y.dst≠some t:=fun j y h1 h2 h3=>hw ⟨j,y,h1,h2,h3⟩
              rw[hfN s (Nat.le_refl _) t hno]
              refine WI t fun j y hj hd=>?_
              cases hq:listed.getD j false with
              |false=>rfl
              |true=>exact absurd hd (hno j y (hI.lt j hq) hj)
          have hY:∀m,m<ops.size→(listed.setIfInBounds s true).getD m false=true:=fun m hm=>by
            by_cases e:s=m
            · subst e;exact jg Gm
            · rw[dy e]
              refine rQ m ?_
              rw[hlo] at ef
              simp at ef
              omega
          rcases jr hgd WN fx with ⟨hw,hy⟩|⟨hw,hn⟩
          · rw[if_pos hw]
            left
            refine Ii ow Ik WN hy (fun v u dJ H2 w2 k1 k2 k3 k4=>?_) (fun v u dJ H2 w2 k1 k2 k3 k4=>?_)
            · refine .inr ⟨⟨by simpa using hI.size,hY⟩,_,dJ,H2,k1,?_,k3,Il.trans k4,by rw[put_defers];exact hI.SW⟩
              rw[yH]
              exact (FR.step k4 WN).put _ k2
            · exact hp v u (fs s) act dJ H2 w2 k1 k2 (FR.step k4 WN) k3 (Il.trans k4) hI.SW
          · rw[if_neg (by rw[hw];simp)]
            refine .inr ⟨⟨by simpa using hI.size,hY⟩,_,φ',_,hn,?_,Ik,Il,by rw[put_defers];exact hI.SW⟩
            rw[yH]
            exact WN.put _ pC
      · have g1:l0[i]? = some o':=g1
        have NI:i<l0.length:=(List.getElem?_eq_some_iff.1 g1).1
        have acQ:=nn
        rw[hl,List.getElem?_append_left NI,g1] at acQ
        cases acQ
        have hs:s=i:=by
          rcases Kj with h1|⟨y,h1,h2⟩
          · exact h1
          · rcases Nat.lt_or_ge s i with h3|h3
            · have h4:=(eI hD nn h1).2.2.2 h3 (.inl ⟨g3,h2⟩)
              have:=(wy s y h1 h2).1 (yI s h4)
              omega
            · omega
        subst hs
        rcases jr hgd Im (rA WK g2) with ⟨hw,_⟩|⟨_,hf⟩
        · rw[if_pos hw]
          left
          rw[C4 hev] at g4
          refine CY ow Ik Im g4 (fun v u dJ H2 w2 k1=>k1.elim) (fun v u dJ H2 w2 k1 k2 k3 k4=>?_)
          obtain ⟨rfl,rfl⟩:=k1
          refine hp v u (ko l0 ts) act dJ H2 w2 g6 k2 ⟨by rw[WH,(uJ l0 ts).1],fun t=>?_⟩ k3 (Il.trans k4) hI.SW
          rcases (uJ l0 ts).2 t with h1|⟨h1,h2⟩
          · rw[h1];exact nI _
          · rw[h1]
            exact k4.vr (WI t fun j y hj hd=>by
              cases hq:listed.getD j false with
              |false=>rfl
              | true=>exact absurd hd (h2 y (List.mem_of_getElem? (oh j y (hI.lt j hq) hj))))
        · exact hf.elim
    case inl =>
      have hsi:=(hst i x hlt nn).2
      have hno:cI C5 False True x.guard→Region.wanted o (yielded ops act.tmps)=false:=fun hg=>by
        rcases jr hgd Im hg with ⟨_,hf⟩|⟨hw,_⟩
        · exact hf.elim
        · exact hw
      rcases hsi with ⟨hg,hop⟩|⟨hg,hv,WA⟩
      case inr =>
        rw[if_neg (by rw[hno (rA WK hg)];simp)]
        have hsame:∀s2 w2,Later (fun _=>True) φ' φ' (Own φ' (Hs s2)) (Own φ' (Hs s2)) w2 w2:=fun _ _=>Later.refl
        have hvu:∀(dJ:aU)(O2:Nat→Prop),VR dJ O2 w' (vs i) undef:=fun _ _=>by rw[hv];exact pC
        cases hch:x.op.bo with
        |false =>
          refine WL φ' s w' undef hlt hs1 (C6 hch) Kj Ik Later.refl (fun _ _=>rfl) rfl rfl rfl (fun j y hj hal C7 eK hu=>?_) (hvu _ _)
          by_cases e:i=j
          · subst e
            rw[WA] at eK
            omega
          · rw[dy e] at hu
            exact S0 j y hj hal C7 eK hu
        |true =>
          have S2:s=i:=by
            have h1:¬i<s:=fun h1=>by
              have:=(wy i x nn hch).2 h1
              rw[hnl] at this
              simp at this
            rcases Kj with h2|⟨y,h2,h3⟩
            · omega
            · rcases Nat.lt_or_ge s i with h4|h4
              · have h5:=(eI hD nn h2).2.2.2 h4 (.inl ⟨hch,h3⟩)
                have:=(wy s y h2 h3).1 (yI s h5)
                omega
              · omega
          subst S2
          obtain ⟨s2,n1,n2,n3,n4⟩:=yF (fun m=>match l[m]? with|some y=>y.op.bo|none=>false) N (N-(s+1)) (s+1) (by omega)
          have hE:tY (Hs (s+1)) (Hs s2):=by
            have:=WC (s2-(s+1)) (s+1) (by omega) fun m y g1 g2 g3=>by have:=n4 m g1 (by omega);rw[g3] at this;exact this
            rwa [show s+1+(s2-(s+1))=s2 from by omega] at this
          rw[WA] at hE
          obtain ⟨r1,r2⟩:=Ik.ext hE
          refine WL φ' s2 w' undef hlt n2 (fun c y WO hJ=>?_) ?_ r1 r2.toLater (fun _ _=>rfl) rfl rfl rfl (fun j y hj hal C7 eK hu=>?_) (hvu _ _)
          · by_cases e:s=c
            · subst e
              rw[jg Gm]
              simp;omega
            · rw[dy e,wy c y WO hJ]
              constructor
              · intro h;omega
              · intro h
                rcases Nat.lt_or_ge c (s+1) with h1|h1
                · omega
                · have:=n4 c h1 h
                  rw[WO] at this
                  simp only at this
                  rw[hJ] at this
                  simp at this
          · rcases n3 with h3|h3
            · exact .inl h3
            · split at h3
              · rename_i y hy;exact .inr ⟨y,hy,h3⟩
              · simp at h3
          · by_cases e:s=j
            · subst e
              rw[WA] at eK
              omega
            · rw[dy e] at hu
              exact S0 j y hj hal C7 eK hu
      case inl =>
        rcases jr hgd Im (rA WK hg) with ⟨hw,_⟩|⟨_,hf⟩
        case inr=>exact hf.elim
        rw[if_pos hw]
        left
        have Q3:=hop
        rw[C4 hev] at hop
        cases hch:x.op.bo with
        |true =>
          have S2:s=i:=by
            have h1:¬i<s:=fun h1=>by
              have:=(wy i x nn hch).2 h1
              rw[hnl] at this
              simp at this
            rcases Kj with h2|⟨y,h2,h3⟩
            · omega
            · rcases Nat.lt_or_ge s i with h4|h4
              · have h5:=(eI hD nn h2).2.2.2 h4 (.inl ⟨hch,h3⟩)
                have:=(wy s y h2 h3).1 (yI s h5)
                omega
              · omega
          subst S2
          refine CY ow Ik Im hop (fun v u dJ H2 w2 k1 k2 k3 k4=>?_) (fun v u dJ H2 w2 k1=>k1.elim)
          obtain ⟨rfl,rfl⟩:=k1
          obtain ⟨s2,n1,n2,n3,n4⟩:=yF (fun m=>match l[m]? with|some y=>y.op.bo|none=>false) N (N-(s+1)) (s+1) (by omega)
          have hE:tY (Hs (s+1)) (Hs s2):=by
            have:=WC (s2-(s+1)) (s+1) (by omega) fun m y g1 g2 g3=>by have:=n4 m g1 (by omega);rw[g3] at this;exact this
            rwa [show s+1+(s2-(s+1))=s2 from by omega] at this
          obtain ⟨r1,r2⟩:=k3.ext hE
          have k5:=k4.trans r2
          have oh:H.length≤(Hs s).length:=by
            have:=o7 0 s (Nat.zero_le _) hs1
            rwa [Fl] at this
          refine WL dJ s2 w2 u hlt n2 (fun c y WO hJ=>?_) ?_ r1 k5.toLater (fun id hid=>k5.old id (by omega)) k5.os k5.tape k5.output (fun j y hj hal C7 eK hu=>?_) (r2.vr k2)
          · by_cases e:s=c
            · subst e
              rw[jg Gm]
              simp;omega
            · rw[dy e,wy c y WO hJ]
              constructor
              · intro h;omega
              · intro h
                rcases Nat.lt_or_ge c (s+1) with h1|h1
                · omega
                · have:=n4 c h1 h
                  rw[WO] at this
                  simp only at this
                  rw[hJ] at this
                  simp at this
          · rcases n3 with h3|h3
            · exact .inl h3
            · split at h3
              · rename_i y hy;exact .inr ⟨y,hy,h3⟩
              · simp at h3
          · have e:s≠j:=fun e=>by
              subst e
              rw[nn] at hj
              cases hj
              cases S3:x.op with
              |p q=>rw[S3] at hal;simp[eX.bC] at hal
              |h q=>rw[S3] at hal hch;cases q<;>simp[eX.bC,HO.bC,eX.bo,HO.bo] at hal hch
            rw[dy e] at hu
            rcases Nat.lt_or_ge j s with h1|h1
            · have h2:=S0 j y hj hal C7 eK hu
              have h3:(Hs j).length<(Hs s).length:=by
                have:=o7 (j+1) s (by omega) (by omega)
                omega
              rw[k4.old _ h3]
              exact h2
            · cases N5:dJ (Hs j).length with
              |none=>rfl
              |some bb =>
                have g1:=(k3.dom _ _ N5).1
                have g2:=o7 (s+1) j (by omega) (by omega)
                omega
        |false =>
          cases hal:x.op.bC with
          |true =>
            obtain ⟨q,hq⟩:∃q,x.op = .h q:=by
              cases S3:x.op with
              |p q=>rw[S3] at hal;simp[eX.bC] at hal
              |h q=>exact ⟨q,rfl⟩
            have hcq:oq P b o=some q:=by
              unfold ot at ow
              split at ow
              · simp at ow
              split at ow
              · cases ow;cases hq
              · split at ow
                · rename_i q' iq
                  cases ow
                  cases hq
                  exact iq
                · cases ow;cases hq
            rw[hq] at hop
            obtain ⟨blk,cur,cap,u,a1,a1k,a2,a3,a4,a5,a6,a7,a8,a9⟩:=SV hcq (by rw[hq] at hal;exact hal) Im hop
            have S2:i<s:=by
              rcases Nat.lt_or_ge i s with h1|h1
              · exact h1
              · rcases Kj with h2|⟨y,h2,h3⟩
                · omega
                · rcases Nat.lt_or_ge s i with h4|h4
                  · have h5:=(eI hD nn h2).2.2.2 h4 (.inr ⟨hal,h3⟩)
                    have:=(wy s y h2 h3).1 (yI s h5)
                    omega
                  · have:s=i:=by omega
                    subst this
                    rw[nn] at h2
                    cases h2
                    rw[hch] at h3
                    simp at h3
            have ai9:(Hs (i+1)).length=(Hs i).length+1:=by rw[a1];simp
            have aeD:Y.find (Hs s) (Hs i).length=some blk:=by
              have key:∀k,i+1+k≤s→Y.find (Hs (i+1+k)) (Hs i).length=some blk:=by
                intro k
                induction k with
                |zero=>intro _;rw[Nat.add_zero,a1,Y.iw]
                |succ k ih =>
                  intro hk
                  have ih:=ih (by omega)
                  obtain ⟨y,hy⟩:=Ki (i+1+k) (by omega)
                  have hl:=(hst (i+1+k) y (by omega) hy).2
                  cases hJ:y.op.bo with
                  |false=>exact ((hl.ext hJ).2 _ (Y.ax ih)).trans ih
                  |true =>
                    refine (hrd.acI i x (i+1+k) y (Nat.zero_le _) (by omega) (by omega) (by simpa using oh _ _ (by omega) nn) hal hg (by simpa using oh _ _ (by omega) hy) hJ ?_).trans ih
                    have g4:=(wy _ y hy hJ).2 (by omega)
                    unfold nj
                    have n1:l5 A i (i+1+k)=false:=by
                      cases hq:l5 A i (i+1+k) with
                      |false=>rfl
                      |true=>have:=(eI hD nn hy).1 _ hq;omega
                    have n2:l5 A (i+1+k) i=false:=by
                      cases hq:l5 A (i+1+k) i with
                      |false=>rfl
                      |true =>
                        have o8:i+1+k<l.length:=(List.getElem?_eq_some_iff.1 hy).1
                        obtain ⟨om,ym,m1,m2,_⟩:=hx (i+1+k) (by omega)
                        have:=vW hA hI.cl (i+1+k+1) (i+1+k) om (by omega) m1 (hI.cl _ om m1 g4) i hq
                        rw[hnl] at this
                        simp at this
                    rw[n1,n2];rfl
              have:=key (s-(i+1)) (by omega)
              rwa [show i+1+(s-(i+1))=s from by omega] at this
            have hun:φ' (Hs i).length=none:=S0 i x nn hal hlt (by omega) hnl
            obtain ⟨r1,r2⟩:=Ik.Wz hun aeD a1k cur cap a3 a4 a5 a6 a7 a8
            have oh:H.length≤(Hs i).length:=by
              have:=o7 0 i (Nat.zero_le _) (by omega)
              rwa [Fl] at this
            refine aY a2 (WL (φ'.add (Hs i).length w'.heap.size) s _ u hlt hs1 (C6 hch) Kj r1 r2 (fun id hid=>by unfold aU.add;rw[if_neg (by omega)]) rfl rfl rfl (fun j y hj haj C7 eK hu=>?_) (a9 _ _ _ (by simp[aU.add]) (heap_alloc_new w' _)))
            have e:i≠j:=fun e=>by
              subst e
              rw[jg Gm] at hu
              simp at hu
            rw[dy e] at hu
            have hne:(Hs j).length≠(Hs i).length:=by
              rcases Nat.lt_or_ge i j with h1|h1
              · have:=o7 (i+1) j (by omega) (by omega)
                omega
              · have:=o7 (j+1) i (by omega) (by omega)
                omega
            unfold aU.add
            rw[if_neg hne]
            exact S0 j y hj haj C7 eK hu
          |false =>
            have C3:∀m ag ad k id j f,x.op = .h (.load m ag ad)→X.ev C5 ad = .ptr k id j f→Y.find (Hs s) id=Y.find (Hs i) id:=by
              intro m ag ad k id j f he hp'
              have hlo:qN x (fs i) id:=⟨m,ag,ad,k,j,f,he,by rw[hev ad (by rw[he];simp[eX.xs,HO.xs])];exact hp'⟩
              have hvr:∃bb,φ' id=some bb:=by
                have aji:ad∈x.op.xs:=by rw[he];simp[eX.xs,HO.xs]
                cases ad with
                |k v =>
                  simp only[X.ev] at hp'
                  subst hp'
                  unfold ot at ow
                  split at ow
                  · simp at ow
                  split at ow
                  · cases ow;cases he
                  · split at ow
                    · rename_i q' iq
                      cases ow
                      cases he
                      unfold oq at iq
                      split at iq
                      case h_2=>rcases w5 iq with ⟨g9,xs9,e9⟩|⟨g9,xs9,e9⟩<;>cases e9
                      rename_i hq1
                      cases iq
                      replace iq:=hq1
                      clear hq1
                      unfold kg at iq
                      split at iq
                      · split at iq<;>cases iq
                        rename_i xo _ nT _ S3
                        have:=aF Im S3
                        obtain ⟨bb,h1,_⟩:=fK this
                        exact ⟨bb,h1⟩
                      · split at iq<;>(try split at iq)<;>(try split at iq)<;>(try split at iq)<;>simp at iq
                      all_goals first
                        | (have h9:=rS iq;simp at h9;done)
                        | (split at iq<;>(try split at iq)<;>(try split at iq)<;>(try split at iq)<;>(try split at iq)<;>simp at iq;done)
                        | (simp at iq;done)
                        | (repeat' split at iq
                           all_goals first|(simp at iq;done)|(have:=Gh iq;simp at this;done)|(have:=J4 iq;simp at this;done))
                    · cases ow;cases he
                |t t =>
                  have:=Im.2 t
                  simp only[X.ev] at hp'
                  rw[hp'] at this
                  obtain ⟨bb,h1,_⟩:=fK this
                  exact ⟨bb,h1⟩
              obtain ⟨bb,Kk⟩:=hvr
              have uK:=(Ik.dom id bb Kk).1
              have both:=fun c y (h1:c<N)(h2:l[c]? = some y)(h3:y.op.bo=true)(h4:nj A i c=true)(h5:id<(Hs c).length)=>hrd.both i x id c y (Nat.zero_le _) hlt (Nat.zero_le _) h1 (by simpa using oh _ _ hlt nn) hlo hg (by simpa using oh _ _ h1 h2) h3 h4 (by rw[SS];exact h4) h5
              rcases Nat.lt_or_ge s i with h1|h1
              ·
                have key:∀k,s+k≤i→Y.find (Hs (s+k)) id=Y.find (Hs s) id∧id<(Hs (s+k)).length:=by
                  intro k
                  induction k with
                  |zero=>intro _;exact ⟨rfl,uK⟩
                  |succ k ih =>
                    intro hk
                    obtain ⟨e1,e2⟩:=ih (by omega)
                    obtain ⟨y,hy⟩:=Ki (s+k) (by omega)
                    have hl:=(hst (s+k) y (by omega) hy).2
                    refine ⟨?_,Nat.lt_of_lt_of_le e2 hl.len⟩
                    rw[←e1]
                    cases hJ:y.op.bo with
                    |false=>exact (hl.ext hJ).2 id e2
                    |true =>
                      refine both (s+k) y (by omega) hy hJ ?_ e2
                      unfold nj
                      have n1:l5 A i (s+k)=false:=by
                        cases hq:l5 A i (s+k) with
                        |false=>rfl
                        |true =>
                          have:=(wy _ y hy hJ).1 (yI _ hq)
                          omega
                      have n2:l5 A (s+k) i=false:=by
                        cases hq:l5 A (s+k) i with
                        |false=>rfl
                        |true=>have:=(eI hD hy nn).1 i hq;omega
                      rw[n1,n2];rfl
                have:=(key (i-s) (by omega)).1
                rw[show s+(i-s)=i from by omega] at this
                exact this.symm
              ·
                have agJ:id<(Hs i).length:=by
                  have h2:∃blk,Y.find (Hs i) id=some blk:=by
                    rw[he] at Q3
                    simp only[sS,HO.bu] at Q3
                    obtain ⟨_,_,_,_,_,_,e1,e2⟩:=hlo
                    rw[he] at e1
                    cases e1
                    rw[e2] at Q3
                    obtain ⟨blk,_,h3,_⟩:=Q3
                    exact ⟨blk,h3⟩
                  obtain ⟨blk,h3⟩:=h2
                  exact Y.ax h3
                have key:∀k,i+k≤s→Y.find (Hs (i+k)) id=Y.find (Hs i) id∧id<(Hs (i+k)).length:=by
                  intro k
                  induction k with
                  |zero=>intro _;exact ⟨rfl,agJ⟩
                  |succ k ih =>
                    intro hk
                    obtain ⟨e1,e2⟩:=ih (by omega)
                    obtain ⟨y,hy⟩:=Ki (i+k) (by omega)
                    have hl:=(hst (i+k) y (by omega) hy).2
                    refine ⟨?_,Nat.lt_of_lt_of_le e2 hl.len⟩
                    rw[←e1]
                    cases hJ:y.op.bo with
                    |false=>exact (hl.ext hJ).2 id e2
                    |true =>
                      refine both (i+k) y (by omega) hy hJ ?_ e2
                      unfold nj
                      have n1:l5 A i (i+k)=false:=by
                        cases hq:l5 A i (i+k) with
                        |false=>rfl
                        |true=>have:=(eI hD nn hy).1 _ hq;omega
                      have n2:l5 A (i+k) i=false:=by
                        cases hq:l5 A (i+k) i with
                        |false=>rfl
                        |true =>
                          have g4:=(wy _ y hy hJ).2 (by omega)
                          have o8:i+k<l.length:=(List.getElem?_eq_some_iff.1 hy).1
                          obtain ⟨om,ym,m1,m2,_⟩:=hx (i+k) (by omega)
                          have:=vW hA hI.cl (i+k+1) (i+k) om (by omega) m1 (hI.cl _ om m1 g4) i hq
                          rw[hnl] at this
                          simp at this
                      rw[n1,n2];rfl
                have:=(key (s-i) (by omega)).1
                rw[show i+(s-i)=s from by omega] at this
                exact this
            obtain ⟨q1,q2⟩:=Ad (T:=Hs s) hch hal hop C3
            refine CY ow Ik Im q2 (fun v u dJ H2 w2 k1 k2 k3 k4=>?_) (fun v u dJ H2 w2 k1=>k1.elim)
            obtain ⟨rfl,rfl⟩:=k1
            have oh:H.length≤(Hs s).length:=by
              have:=o7 0 s (Nat.zero_le _) hs1
              rwa [Fl] at this
            refine WL dJ s w2 u hlt hs1 (C6 hch) Kj k3 k4.toLater (fun id hid=>k4.old id (by omega)) k4.os k4.tape k4.output (fun j y hj haj C7 eK hu=>?_) k2
            have h1:=WM hal j y hj haj C7 eK hu
            rcases Nat.lt_or_ge (Hs j).length (Hs s).length with h2|h2
            · rw[k4.old _ h2];exact h1
            · cases N5:dJ (Hs j).length with
              |none=>rfl
              |some bb=>have:=(k3.dom _ _ N5).1;omega
theorem Bo{b:Bool}{ops:Array Oper}{l:List cy}{A:List (List Nat)}(hc:eg P b ops ops.toList=some l)(hA:Ab ops A=true)(hD:Fk l A=true)
  {Q:Exit→Act→World→Prop}{K:List AV→Y→Prop}{Kp:AV→List AV→Y→Prop}{φ:aU}{H:Y}{w:World}{ts:List AV}{a:Act}
  (hR:Rel φ H w)(hF:FR φ (Own φ H) w ts a)(h:pP P A l.length K (fun v H'=>Kp v (ko l ts) H') 0 l ts H [] [])(hk:nJ Q K φ H w a.defers)(hp:ni Q Kp φ H w a.defers):wpAny P .any ops Q ops.size (Array.replicate ops.size false) a { w with drawn:=w.drawn+1 } :=
 yG (last:=none) hc (by simp) hA hD (fun o h=>by simp at h) hR hF h (fun _ _ h=>⟨fun _=>h,fun o h=>by simp at h⟩) hk hp
theorem Fo{b:Bool}{id:Nat}{ops:Array Oper}{l:List cy}{A:List (List Nat)}(hm:P.follows .mixedOrders=true)(hc:eg P b ops ops.toList=some l)(hA:Ab ops A=true)(hD:Fk l A=true)
  {Q:Exit→Act→World→Prop}{K:List AV→Y→Prop}{Kp:AV→List AV→Y→Prop}{φ:aU}{H:Y}{w:World}{ts:List AV}{a:Act}
  (hR:Rel φ H w)(hF:FR φ (Own φ H) w ts a)(h:pP P A l.length K (fun v H'=>Kp v (ko l ts) H') 0 l ts H [] [])(hk:nJ Q K φ H w a.defers)(hp:ni Q Kp φ H w a.defers):(Code.region id ops true).wp P Q a w :=
 wp_region_any hm (Bo hc hA hD hR hF h hk hp)
def Ae(ρ:Nat→Nat)(o:Oper):Oper:={ o with after:=o.after.map (fun e=>{ e with on:=ρ e.on }),guard:=o.guard.map fun g=>(ρ g.1,g.2) }
def aa6(ops:Array Oper):List Nat :=
 let free:=fun i=>match ops[i]? with|some o=>(match o.op with|.alloc _=>o.after.isEmpty && o.guard.isNone|_=>false)|none=>false
 (List.range ops.size).filter free++(List.range ops.size).filter (fun i=>!free i)
def fW(σ:List Nat)(i:Nat):Nat:=if i<σ.length then σ.idxOf i else i
def gy(σ:List Nat)(ops:Array Oper):Array Oper:=(σ.map fun i=>Ae (fW σ) (ops.getD i default)).toArray
def lB(σ:List Nat)(n:Nat):Bool:=σ.length == n && (List.range n).all (fun i=>σ.contains i) && σ.all (fun i=>decide (i<n)) && (List.range n).all fun p=>fW σ (σ.getD p 0) == p
section hoist
variable {ops:Array Oper}{σ:List Nat}
theorem ku(h:lB σ ops.size=true):σ.length=ops.size∧(∀p,p<ops.size→σ.getD p 0<ops.size∧fW σ (σ.getD p 0)=p)∧(∀i,i<ops.size→fW σ i<ops.size∧σ.getD (fW σ i) 0=i)∧(∀i,ops.size≤i→fW σ i=i):=by
 unfold lB at h
 simp only[Bool.and_eq_true,beq_iff_eq,List.all_eq_true,List.mem_range,decide_eq_true_eq] at h
 obtain ⟨⟨⟨h1,h2⟩,h3⟩,h4⟩:=h
 refine ⟨h1,fun p hp=>⟨h3 _ ?_,h4 p hp⟩,fun i hi=>?_,fun i hi=>?_⟩
 ·rw[List.getD_eq_getElem?_getD,List.getElem?_eq_getElem (by omega)]
  exact List.getElem_mem _
 ·have hm:i∈σ:=by simpa using h2 i hi
  have hl:=List.idxOf_lt_length_of_mem hm
  unfold fW
  rw[if_pos (by omega)]
  refine ⟨by omega,?_⟩
  rw[List.getD_eq_getElem?_getD,List.getElem?_eq_getElem hl]
  exact List.getElem_idxOf hl
 ·unfold fW
  rw[if_neg (by omega)]
theorem uL(h:lB σ ops.size=true){p:Nat}(hp:p<ops.size):∃o,ops[σ.getD p 0]? = some o∧(gy σ ops)[p]? = some (Ae (fW σ) o):=by
 obtain ⟨h1,h2,_,_⟩:=ku h
 have h3:=(h2 p hp).1
 refine ⟨ops[σ.getD p 0],by simp[h3],?_⟩
 have dY:p<σ.length:=by omega
 have e:σ.getD p 0=σ[p]:=by simp[List.getD,dY]
 simp only[e] at h3 ⊢
 simp[gy,dY,Array.getD,h3]
theorem o9(h:lB σ ops.size=true):(gy σ ops).size=ops.size:=by simp[gy,(ku h).1]
theorem C8(h:lB σ ops.size=true)(ts:Array Value)(j:Nat):yielded (gy σ ops) ts (fW σ j)=yielded ops ts j:=by
 obtain ⟨h1,h2,h3,h4⟩:=ku h
 by_cases hj:j<ops.size
 ·obtain ⟨o,e1,e2⟩:=uL h (h3 j hj).1
  rw[(h3 j hj).2] at e1
  unfold yielded
  rw[e1,e2]
  rfl
 ·rw[h4 j (by omega)]
  unfold yielded
  have e1:ops[j]? = none:=by simp;omega
  have e2:(gy σ ops)[j]? = none:=by simp[o9 h];omega
  rw[e1,e2]
theorem Kl(h:lB σ ops.size=true){Q:Exit→Act→World→Prop}{K:Act→World→Prop}{a:Act}{w:World}{i:Nat}(hi:i<ops.size)(hw:wpOp P (gy σ ops) Q (fW σ i) K a w):wpOp P ops Q i K a w:=by
 obtain ⟨h1,h2,h3,h4⟩:=ku h
 obtain ⟨o,e1,e2⟩:=uL h (h3 i hi).1
 rw[(h3 i hi).2] at e1
 unfold wpOp at hw ⊢
 rw[e2] at hw
 rw[e1]
 simp only at hw ⊢
 have e3:Region.wanted (Ae (fW σ) o) (yielded (gy σ ops) a.tmps)=Region.wanted o (yielded ops a.tmps):=by
  unfold Region.wanted Ae
  cases o.guard with
  |none=>rfl
  |some g=>simp only[Option.map_some];rw[C8 h]
 rw[e3] at hw
 exact hw
theorem N6(h:lB σ ops.size=true){Q:Exit→Act→World→Prop}:∀(fuel:Nat)(L L':Array Bool)(a:Act)(w:World),L.size=ops.size→L'.size=ops.size→(∀i,i<ops.size→L'[fW σ i]? = L[i]?)→wpAny P .any (gy σ ops) Q fuel L' a w→wpAny P .any ops Q fuel L a w:=by
 obtain ⟨h1,h2,h3,h4⟩:=ku h
 have mo:∀(L L':Array Bool),L.size=ops.size→L'.size=ops.size→(∀i,i<ops.size→L'[fW σ i]? = L[i]?)→∀i b,L'.getD (fW σ i) b=L.getD i b:=by
  intro L L' z1 z2 hL i b
  by_cases hi:i<ops.size
  ·have:=hL i hi
   rw[Array.getD_eq_getD_getElem?,Array.getD_eq_getD_getElem?,this]
  ·rw[h4 i (by omega),Array.getD_eq_getD_getElem?,Array.getD_eq_getD_getElem?]
   have e1:L'[i]? = none:=by simp;omega
   have e2:L[i]? = none:=by simp;omega
   rw[e1,e2]
 have Io:∀(L L':Array Bool),L.size=ops.size→L'.size=ops.size→(∀i,i<ops.size→L'[fW σ i]? = L[i]?)→∀i,i<ops.size→(fW σ i∈Region.ready .any (gy σ ops) L'↔i∈Region.ready .any ops L):=by
  intro L L' z1 z2 hL i hi
  obtain ⟨o,e1,e2⟩:=uL h (h3 i hi).1
  rw[(h3 i hi).2] at e1
  unfold Region.ready
  simp only[List.mem_filter,List.mem_range,o9 h,e1,e2,Option.map_some,Option.getD_some,mo L L' z1 z2 hL]
  have e3:((Ae (fW σ) o).after.all fun e=>!Region.binds .any e|| L'.getD e.on false)=(o.after.all fun e=>!Region.binds .any e|| L.getD e.on false):=by
   unfold Ae
   simp only[Array.all_map]
   congr 1
   funext e
   simp only[Function.comp]
   rw[mo L L' z1 z2 hL]
   rfl
  rw[e3]
  constructor
  ·intro hh;exact ⟨hi,hh.2⟩
  ·intro hh;exact ⟨(h3 i hi).1,hh.2⟩
 have hnil:∀(L L':Array Bool),L.size=ops.size→L'.size=ops.size→(∀i,i<ops.size→L'[fW σ i]? = L[i]?)→(Region.ready .any ops L=[]↔Region.ready .any (gy σ ops) L'=[]):=by
  intro L L' z1 z2 hL
  constructor
  ·intro he
   apply List.eq_nil_iff_forall_not_mem.2
   intro p hp
   have dY:p<ops.size:=by
    unfold Region.ready at hp
    simp only[List.mem_filter,List.mem_range,o9 h] at hp
    exact hp.1
   have hq:=(Io L L' z1 z2 hL (σ.getD p 0) (h2 p dY).1).1 (by rw[(h2 p dY).2];exact hp)
   rw[he] at hq
   simp at hq
  ·intro he
   apply List.eq_nil_iff_forall_not_mem.2
   intro i hi
   have qE:i<ops.size:=by
    unfold Region.ready at hi
    simp only[List.mem_filter,List.mem_range] at hi
    exact hi.1
   have hq:=(Io L L' z1 z2 hL i qE).2 hi
   rw[he] at hq
   simp at hq
 intro fuel
 induction fuel with
 |zero =>
  intro L L' a w z1 z2 hL hw
  exact ⟨(hnil L L' z1 z2 hL).2 hw.1,hw.2⟩
 |succ fuel ih =>
  intro L L' a w z1 z2 hL hw
  refine ⟨fun he=>hw.1 ((hnil L L' z1 z2 hL).1 he),fun i hi=>?_⟩
  have qE:i<ops.size:=by
   have:=hi
   unfold Region.ready at this
   simp only[List.mem_filter,List.mem_range] at this
   exact this.1
  have hq:=hw.2 _ ((Io L L' z1 z2 hL i qE).2 hi)
  refine wpOp_mono (fun a' w' hh=>ih _ _ a' w' (by simpa using z1) (by simpa using z2) (fun j hj=>?_) hh) (Kl h qE hq)
  rw[Array.getElem?_setIfInBounds,Array.getElem?_setIfInBounds]
  by_cases e:i=j
  ·subst e
   rw[if_pos rfl,if_pos rfl,if_pos (by rw[z2];exact (h3 i qE).1),if_pos (by rw[z1];exact qE)]
  ·rw[if_neg e,if_neg (fun e2=>e (by
    have:=congrArg (fun p=>σ.getD p 0) e2
    simp only[(h3 i qE).2,(h3 j hj).2] at this
    exact this))]
   exact hL j hj
end hoist
theorem C9{b:Bool}{ops:Array Oper}{σ:List Nat}{l:List cy}{A:List (List Nat)}(hm:P.follows .mixedOrders=true)(WP:lB σ ops.size=true)(hc:eg P b (gy σ ops) (gy σ ops).toList=some l)(hA:Ab (gy σ ops) A=true)(hD:Fk l A=true)
  {Q:Exit→Act→World→Prop}{K:List AV→Y→Prop}{Kp:AV→List AV→Y→Prop}{φ:aU}{H:Y}{w:World}{ts:List AV}{a:Act}
  (hR:Rel φ H w)(hF:FR φ (Own φ H) w ts a)(h:pP P A l.length K (fun v H'=>Kp v (ko l ts) H') 0 l ts H [] [])(hk:nJ Q K φ H w a.defers)(hp:ni Q Kp φ H w a.defers):wpAny P .any ops Q ops.size (Array.replicate ops.size false) a { w with drawn:=w.drawn+1 }:=by
 have h1:=Bo hc hA hD hR hF h hk hp
 rw[o9 WP] at h1
 obtain ⟨_,_,h3,_⟩:=ku WP
 refine N6 WP _ _ _ a _ (by simp) (by simp) (fun i hi=>?_) h1
 rw[Array.getElem?_replicate,Array.getElem?_replicate,if_pos hi,if_pos (h3 i hi).1]
theorem Fp{b:Bool}{id:Nat}{ops:Array Oper}{σ:List Nat}{l:List cy}{A:List (List Nat)}(hm:P.follows .mixedOrders=true)(WP:lB σ ops.size=true)(hc:eg P b (gy σ ops) (gy σ ops).toList=some l)(hA:Ab (gy σ ops) A=true)(hD:Fk l A=true)
  {Q:Exit→Act→World→Prop}{K:List AV→Y→Prop}{Kp:AV→List AV→Y→Prop}{φ:aU}{H:Y}{w:World}{ts:List AV}{a:Act}
  (hR:Rel φ H w)(hF:FR φ (Own φ H) w ts a)(h:pP P A l.length K (fun v H'=>Kp v (ko l ts) H') 0 l ts H [] [])(hk:nJ Q K φ H w a.defers)(hp:ni Q Kp φ H w a.defers):(Code.region id ops true).wp P Q a w :=
 wp_region_any hm (C9 hm WP hc hA hD hR hF h hk hp)
end
inductive IC where
 | skip
 | ops (l:List cy)
 | di (l:List cy)(A:List (List Nat))
 | seq (a b:IC)
 | cond (c:X)(a b:IC)
 | block (id:Nat)(c:IC)
 | loop (c:IC)
 | exit (id:Nat)
 | ret
 | yld (l1:List cy)(g:Option (Nat×Bool))(y:X)(args:List X)(d:Option Nat)(l2:List cy)
 | rng (g:X)(ps:Array Tmp)(wz body:Code)
inductive AX where
 | normal
 | exit (id:Nat)
 | ret
 | bP (v:AV)
def Ip(P:Program)(b:Bool)(ops:Array Oper):Option IC :=
 let σ:=aa6 ops
 let ops':=gy σ ops
 match eg P b ops' ops'.toList with
 |none=>none
 |some l=>(let A:=Q2 ops';if lB σ ops.size && Ab ops' A && Fk l A && P.follows .mixedOrders then some (.di l A) else none)
def N7(l:List cy)(A:List (List Nat)):Option IC:=match l.getLast? with
 |some o=>if (List.range l.dropLast.length).all (fun j=>l5 A l.dropLast.length j)=true then some (.seq (.di l.dropLast A) (.ops [o])) else none
 |none=>none
def Iq:IC:=.ops [⟨none,none,.p (.un .not (.k .top))⟩]
def dU(P:Program)(bx:List Nat):Code→Option IC
 |.skip=>some .skip
 |.label _=>some .skip
 |.region id ops draw =>
  match eg P (bx.contains id) ops ops.toList with
  |none=>none
  |some l=>if draw then (let A:=Q2 ops;if Ab ops A && Fk l A && P.follows .mixedOrders then (if bx.contains (id+1000) then N7 l A else some (.di l A)) else Ip P (bx.contains id) ops) else some (.ops l)
 |.seq a b=>match dU P bx a,dU P bx b with
  |some x,some y=>some (.seq x y)
  |_,_=>none
 |.cond c a b=>match bt c,dU P bx a,dU P bx b with
  |some c,some x,some y=>some (.cond c x y)
  |_,_,_=>none
 |.block id c=>(dU P bx c).map (.block id)
 |.loop c=>(dU P bx c).map .loop
 |.exit id=>some (.exit id)
 |.ret=>some .ret
 |.refuse _=>some Iq
 |_=>none
abbrev Post:=AX→List AV→Y→Prop
def kX(next:List AV→Y→Prop)(K:Post):Post
 |.normal,ts,H=>next ts H
 |x,ts,H=>K x ts H
def mq(id:Nat)(K:Post):Post
 |.exit i,ts,H=>if i=id then K .normal ts H else K (.exit i) ts H
 |x,ts,H=>K x ts H
def DY(P:Program)(id:Nat)(args:List AV)(H:Y)(e:cH)(H':Y):Prop :=
 H.length≤H'.length∧∀(φ:aU)(w:World)(b:Nat)(vs:Array Value),Rel φ H w→φ id=some b→Rt φ (Own φ H) w args vs.toList→
  ∃f tmps wz body,(Instr.yield b vs).run P w = .ok (.round b f tmps wz body) w∧
   RoundIn Fence.wide 0 P b f tmps wz body w fun en w'=>∃φ',Bg φ' (Own φ' H') w' e en∧Rel φ' H' w'∧Step φ H w φ' H' w'
def Q4(P:Program)(K Kp:AV→Y→Prop)(args:List AV)(H:Y):AV→Prop
 |.ptr k id j f=>(k=0∧f=1)∧∃e H',DY P id args H e H'∧cH.post K Kp H' e
 |_=>False
def agK(fn db:Nat)(ps:Array Tmp)(wz body:Code):Loop:={ state:=.ready,pending:=none,fn:=fn,tmps:=#[],params:=ps,assign:=wz,body:=body,defers:=db }
def lpB(r:Loop)(ts:List AV):aP:=⟨0,.HQ r::ts,false,1⟩
def Q5(K:Post)(ts:List AV)(H:Y):Option Code→Prop
 |none=>K .normal ts H
 |some .ret=>K .ret ts H
 |some (.exit i)=>K (.exit i) ts H
 |_=>False
def Km(P:Program)(ps:Array Tmp)(wz body:Code)(K:Post)(ts:List AV)(H:Y):AV→Prop
 |.fn (.func f) [] cK=>cr P f=true∧∀fn db,∃v H' r ts',D P f (.ptr 0 H.length 0 1::cK) (some (lpB (agK fn db ps wz body) ts)::H) (.ret v) H'∧
   Y.find H' H.length=some (lpB r ts')∧r.state≠.busy∧Q5 K ts (Y.set H' H.length none) r.pending
 |_=>False
def E(P:Program):IC→Post→List AV→Y→Prop
 |.skip,K,ts,H=>K .normal ts H
 |.ops l,K,ts,H=>iX P (K .normal) (fun v ts' H'=>K (.bP v) ts' H') l ts H
 |.di l A,K,ts,H=>pP P A l.length (K .normal) (fun v H'=>K (.bP v) (ko l ts) H') 0 l ts H [] []
 |.seq a b,K,ts,H=>E P a (kX (E P b K) K) ts H
 |.cond c a b,K,ts,H=>match c.ev ts with
  |.sc (.bool t)=>(t=true→E P a K ts H)∧(t=false→E P b K ts H)
  |.ub=>E P a K ts H∧E P b K ts H
  |_=>False
 |.block id c,K,ts,H=>E P c (mq id K) ts H
 |.loop c,K,ts,H=>∃(I:List AV→Y→Prop)(μ:List AV→Y→Nat),I ts H∧∀ts H,I ts H→E P c (kX (fun ts' H'=>I ts' H'∧μ ts' H'<μ ts H) K) ts H
 |.exit id,K,ts,H=>K (.exit id) ts H
 |.ret,K,ts,H=>K .ret ts H
 |.yld l1 g y args d l2,K,ts,H=>iX P (fun ig H1=>cI ig (Q4 P (fun v H2=>iX P (K .normal) (fun v ts' H'=>K (.bP v) ts' H') l2 (cz ig d v) H2) (fun v H2=>K (.bP v) ig H2) (args.map (X.ev ig)) H1 (y.ev ig)) (iX P (K .normal) (fun v ts' H'=>K (.bP v) ts' H') l2 (cz ig d (.aO [])) H1) g) (fun v ts' H'=>K (.bP v) ts' H') l1 ts H
 |.rng g ps wz body,K,ts,H=>Km P ps wz body K ts H (g.ev ts)
def XR(φ:aU)(O:Nat→Prop)(w:World):AX→Exit→Prop
 |.normal,.normal=>True
 |.exit i,.exit j=>i=j
 |.ret,.ret=>True
 |.bP x,.panic c=>tW φ O w x c
 |_,_=>False
def CK(K:Post)(φ:aU)(H:Y)(w:World)(ds:List Deferred):Exit→Act→World→Prop:=fun e a' w' =>
 ∃x ts' H' φ',XR φ' (Own φ' H') w' x e∧K x ts' H'∧FR φ' (Own φ' H') w' ts' a'∧Rel φ' H' w'∧Step φ H w φ' H' w'∧a'.defers=ds
theorem CK.step{K:Post}{φ φ':aU}{H H':Y}{w w':World}{ds:List Deferred}{e:Exit}{a:Act}{w2:World}(hs:Step φ H w φ' H' w')(h:CK K φ' H' w' ds e a w2):CK K φ H w ds e a w2:=by
 obtain ⟨x,ts,H2,dJ,h1,h2,h3,h4,h5,h6⟩:=h
 exact ⟨x,ts,H2,dJ,h1,h2,h3,h4,hs.trans h5,h6⟩
theorem N8{P:Program}{b:Bool}{ops:Array Oper}{l:List cy}{A:List (List Nat)}{ic:IC}(hc:N7 l A=some ic)(hl:eg P b ops ops.toList=some l)(hA:Ab ops A=true)(hD:Fk l A=true)
  {Q:Exit→Act→World→Prop}{K:Post}{φ:aU}{H:Y}{w:World}{ts:List AV}{a:Act}(hR:Rel φ H w)(hF:FR φ (Own φ H) w ts a)(h:E P ic K ts H)
  (hk:nJ Q (K .normal) φ H w a.defers)(hp:ni Q (fun v ts' H'=>K (.bP v) ts' H') φ H w a.defers):wpAny P .any ops Q ops.size (Array.replicate ops.size false) a { w with drawn:=w.drawn+1 }:=by
 unfold N7 at hc
 split at hc
 case h_2=>simp at hc
 rename_i o ho
 split at hc
 case isFalse=>simp at hc
 rename_i yJ
 cases hc
 have hne:l≠[]:=fun e=>by rw[e] at ho;simp at ho
 have eK:l=l.dropLast++(some o:Option cy).toList:=by
  have h1:=List.dropLast_concat_getLast hne
  rw[List.getLast?_eq_some_getLast hne] at ho
  cases ho
  exact h1.symm
 exact yG (last:=some o) hl eK hA hD (fun o' he=>yJ) hR hF (K':=fun ts' H'=>iX P (K .normal) (fun v ts' H'=>K (.bP v) ts' H') [o] ts' H') h (fun ig H1 hh=>⟨fun e=>(by cases e),fun o' he=>(by cases he;exact hh)⟩) hk hp
theorem uM{P:Program}{bx:List Nat}:∀(c:Code)(ic:IC),dU P bx c=some ic→∀(K:Post)(φ:aU)(H:Y)(w:World)(ts:List AV)(a:Act),Rel φ H w→FR φ (Own φ H) w ts a→E P ic K ts H→c.wp P (CK K φ H w a.defers) a w:=by
 intro c
 induction c with
 |skip =>
  intro ic hc K φ H w ts a hR hF h
  cases hc
  exact wp_skip ⟨.normal,ts,H,φ,trivial,h,hF,hR,Step.refl _ _ _,rfl⟩
 |label l =>
  intro ic hc K φ H w ts a hR hF h
  cases hc
  exact wp_label ⟨.normal,ts,H,φ,trivial,h,hF,hR,Step.refl _ _ _,rfl⟩
 |region id ops draw =>
  intro ic hc K φ H w ts a hR hF h
  simp only[dU] at hc
  split at hc
  ·simp at hc
  rename_i l hl
  have hk:nJ (CK K φ H w a.defers) (K .normal) φ H w a.defers:=fun ts' a' φ' H' w' k1 k2 k3 k4 k5=>⟨.normal,ts',H',φ',trivial,k1,k2,k3,k4,k5⟩
  have hp:ni (CK K φ H w a.defers) (fun v ts' H'=>K (.bP v) ts' H') φ H w a.defers:=fun v u ts' a' φ' H' w' k1 k2 k3 k4 k5 k6=>⟨.bP v,ts',H',φ',k2,k1,k3,k4,k5,k6⟩
  cases draw with
  |false =>
   simp only[Bool.false_eq_true,if_false] at hc
   cases hc
   exact Kb hl hR hF h hk hp
  |true =>
   simp only[if_true] at hc
   split at hc
   case isFalse =>
    unfold Ip at hc
    simp only at hc
    split at hc
    ·simp at hc
    rename_i l2 eK
    split at hc
    case isFalse=>simp at hc
    rename_i kW
    simp only[Bool.and_eq_true] at kW
    cases hc
    exact Fp kW.2 kW.1.1.1 eK kW.1.1.2 kW.1.2 hR hF h hk hp
   rename_i kW
   simp only[Bool.and_eq_true] at kW
   split at hc
   ·exact wp_region_any kW.2 (N8 hc hl kW.1.1 kW.1.2 hR hF h hk hp)
   cases hc
   exact Fo kW.2 hl kW.1.1 kW.1.2 hR hF h hk hp
 |seq x y WQ S4 =>
  intro ic hc K φ H w ts a hR hF h
  simp only[dU] at hc
  split at hc
  case h_2=>simp at hc
  rename_i ix iy h1 h2
  cases hc
  refine wp_seq (wp_mono (WQ ix h1 _ φ H w ts a hR hF h) ?_)
  rintro e a' w' ⟨x',ts',H',φ',k1,k2,k3,k4,k5,k6⟩
  cases x' with
  |normal =>
   cases e<;>try exact k1.elim
   show y.wp P _ a' w'
   have:=S4 iy h2 K φ' H' w' ts' a' k4 k3 k2
   rw[k6] at this
   exact wp_mono this fun e a2 w2 hc=>hc.step k5
  |exit i =>
   cases e<;>try exact k1.elim
   exact ⟨_,ts',H',φ',k1,k2,k3,k4,k5,k6⟩
  |ret =>
   cases e<;>try exact k1.elim
   exact ⟨.ret,ts',H',φ',k1,k2,k3,k4,k5,k6⟩
  |bP v =>
   cases e<;>try exact k1.elim
   exact ⟨_,ts',H',φ',k1,k2,k3,k4,k5,k6⟩
 |cond c x y WQ S4 =>
  intro ic hc K φ H w ts a hR hF h
  simp only[dU] at hc
  split at hc
  case h_2=>simp at hc
  rename_i c' ix iy h0 h1 h2
  cases hc
  have hv:=aF hF h0
  simp only[E] at h
  split at h
  ·rename_i t he
   rw[he] at hv
   have hu:=cw hv
   refine wp_cond hu ?_
   cases t with
   |true=>exact WQ ix h1 K φ H w ts a hR hF (h.1 rfl)
   |false=>exact S4 iy h2 K φ H w ts a hR hF (h.2 rfl)
  ·rename_i he
   rw[he] at hv
   obtain ⟨t,ht⟩:=hv.2
   have hu:a.eval c = .bool t:=by
    have h1:=hv.1
    revert ht h1
    cases a.eval c<;>intro ht h1<;>first|(simp[fR,Value.cells] at ht;first|exact congrArg Value.bool ht|done)|(exact absurd h1 (by simp[kV,Value.oneCell']))
   refine wp_cond hu ?_
   cases t with
   |true=>exact WQ ix h1 K φ H w ts a hR hF h.1
   |false=>exact S4 iy h2 K φ H w ts a hR hF h.2
  ·exact h.elim
 |block id c ih =>
  intro ic hc K φ H w ts a hR hF h
  simp only[dU,Option.map_eq_some_iff] at hc
  obtain ⟨ix,h1,rfl⟩:=hc
  refine wp_block (wp_mono (ih ix h1 _ φ H w ts a hR hF h) ?_)
  rintro e a' w' ⟨x',ts',H',φ',k1,k2,k3,k4,k5,k6⟩
  cases x' with
  |normal =>
   cases e<;>try exact k1.elim
   exact ⟨.normal,ts',H',φ',k1,k2,k3,k4,k5,k6⟩
  |exit i =>
   cases e<;>try exact k1.elim
   rename_i j
   have:i=j:=k1
   subst this
   simp only[mq] at k2
   simp only[Exit.inBlock]
   split
   ·rename_i e2
    rw[if_pos e2] at k2
    exact ⟨.normal,ts',H',φ',trivial,k2,k3,k4,k5,k6⟩
   ·rename_i e2
    rw[if_neg e2] at k2
    exact ⟨.exit i,ts',H',φ',rfl,k2,k3,k4,k5,k6⟩
  |ret =>
   cases e<;>try exact k1.elim
   exact ⟨.ret,ts',H',φ',k1,k2,k3,k4,k5,k6⟩
  |bP v =>
   cases e<;>try exact k1.elim
   exact ⟨.bP v,ts',H',φ',k1,k2,k3,k4,k5,k6⟩
 |loop c ih =>
  intro ic hc K φ H w ts a hR hF h
  simp only[dU,Option.map_eq_some_iff] at hc
  obtain ⟨ix,h1,rfl⟩:=hc
  obtain ⟨I,μ,h2,h3⟩:=h
  intro b k cs
  have key:∀n ig H1 bK w1 a1,μ ig H1=n→I ig H1→FR bK (Own bK H1) w1 ig a1→Rel bK H1 w1→Step φ H w bK H1 w1→a1.defers=a.defers→
    ∃e a' w',CK K φ H w a.defers e a' w'∧Arrives P (lone (b.at a1 (.code c::.inLoop c::k)) cs w1) b k cs e a' w':=by
   intro n
   induction n using Nat.strongRecOn with
   |_ n ihn =>
    intro ig H1 bK w1 a1 hn hI kY zX nS Ir
    obtain ⟨e,a2,w2,⟨x',ts',H',φ',k1,k2,k3,k4,k5,k6⟩,mh⟩:=ih ix h1 _ bK H1 w1 ig a1 zX kY (h3 ig H1 hI) b (.inLoop c::k) cs
    cases x' with
    |normal =>
     cases e<;>try exact k1.elim
     obtain ⟨g1,g2⟩:=k2
     obtain ⟨e3,a3,w3,Iu,N9⟩:=ihn (μ ts' H') (hn▸g2) ts' H' φ' w2 a2 rfl g1 k3 k4 (nS.trans k5) (by rw[k6,Ir])
     exact ⟨e3,a3,w3,Iu,.of_steps (Steps.trans mh (.one step_inLoop)) N9⟩
    |exit i =>
     cases e<;>try exact k1.elim
     exact ⟨_,a2,w2,⟨.exit i,ts',H',φ',k1,k2,k3,k4,nS.trans k5,by rw[k6,Ir]⟩,.pass (x:=.inLoop c) rfl (fun _ _=>.inl (by simp)) mh⟩
    |ret =>
     cases e<;>try exact k1.elim
     exact ⟨_,a2,w2,⟨.ret,ts',H',φ',k1,k2,k3,k4,nS.trans k5,by rw[k6,Ir]⟩,.pass (x:=.inLoop c) rfl (fun _ _=>.inl (by simp)) mh⟩
    |bP v =>
     cases e<;>try exact k1.elim
     exact ⟨_,a2,w2,⟨.bP v,ts',H',φ',k1,k2,k3,k4,nS.trans k5,by rw[k6,Ir]⟩,.pass (x:=.inLoop c) rfl (fun _ _=>.inl (by simp)) mh⟩
  obtain ⟨e,a',w',hq,mh⟩:=key _ ts H φ w a rfl h2 hF hR (Step.refl _ _ _) rfl
  exact ⟨e,a',w',hq,.of_steps (.one step_loop) mh⟩
 |exit id =>
  intro ic hc K φ H w ts a hR hF h
  cases hc
  exact wp_exit ⟨.exit id,ts,H,φ,rfl,h,hF,hR,Step.refl _ _ _,rfl⟩
 |ret =>
  intro ic hc K φ H w ts a hR hF h
  cases hc
  exact wp_ret ⟨.ret,ts,H,φ,trivial,h,hF,hR,Step.refl _ _ _,rfl⟩
 |refuse s =>
  intro ic hc K φ H w ts a hR hF h
  cases hc
  exact False.elim h
 |_=>intro ic hc;simp[dU] at hc
inductive RV where
 | t (n:Nat)
 | c (a n:Nat)(ag:Bool)
def ox(P:Program):List ResultVar→Option (List RV)
 |[]=>some []
 |.tmp t::r=>(ox P r).map (.t t::·)
 |.cell a t::r=>match fT P t,ox P r with
  |some (n,ag),some s=>some (.c a n ag::s)
  |_,_=>none
def uN:List RV→List AV→Y→(List AV→Prop)→Prop
 |[],ts,H,K=>K []
 |.t n::r,ts,H,K=>uN r ts H fun l=>K (ts.getD n .top::l)
 |.c a n ag::r,ts,H,K=>match ts.getD a .top with
  |.ptr k id j f=>∃blk e,Y.find H id=some blk∧blk.es[j]? = some e∧(blk.k=k∧AV.jw e f n ag∧0<k)∧uN r ts H fun l=>K (AV.sub e f n ag::l)
  |_=>False
def oneOf:List AV→AV
 |[x]=>x
 |l=>.aO l
def Af(rs:List RV)(Kr:cH→Y→Prop):Post
 |.normal,ts,H=>uN rs ts H fun l=>Kr (.ret (oneOf l)) H
 |.ret,ts,H=>uN rs ts H fun l=>Kr (.ret (oneOf l)) H
 |.bP v,ts,H=>Kr (.bP v) H
 |.exit _,_,_=>False
section
variable {P:Program}
theorem Ag{φ:aU}{H:Y}{w:World}{ts:List AV}{a:Act}(hR:Rel φ H w)(hF:FR φ (Own φ H) w ts a):∀{rv:List ResultVar}{rs:List RV},ox P rv=some rs→∀{K:List AV→Prop},uN rs ts H K→
  ∃l us,K l∧Rt φ (Own φ H) w l us∧(rv.mapM fun (r:ResultVar)=>(match r with|.tmp t=>pure (a.tmps.getD t undef)|.cell ad t=>do loadVar t (←asAddr (a.tmps.getD ad undef)):Sem Value)).run P w = .ok us w
 |[],rs,h,K,hk=>by
  simp[ox] at h
  subst h
  exact ⟨[],[],hk,rfl,by simp⟩
 |.tmp t::r,rs,h,K,hk=>by
  simp only[ox,Option.map_eq_some_iff] at h
  obtain ⟨s,h1,rfl⟩:=h
  obtain ⟨l,us,h2,h3,h4⟩:=Ag hR hF h1 hk
  refine ⟨_,a.tmps.getD t undef::us,h2,⟨_,_,rfl,(hF.2 t).1,(hF.2 t).2,h3⟩,?_⟩
  simp only[List.mapM_cons,Sem.run_bind,Sem.run_pure,Result.andThen_ok,h4]
 |.cell ad t::r,rs,h,K,hk=>by
  simp only[ox] at h
  split at h
  case h_2=>simp at h
  rename_i n ag s hs h1
  cases h
  simp only[uN] at hk
  split at hk
  case h_2=>exact hk.elim
  rename_i k id j f he
  obtain ⟨blk,e,g1,g2,⟨rfl,g3,cE⟩,hk⟩:=hk
  obtain ⟨l,us,h2,h3,h4⟩:=Ag hR hF h1 hk
  have hv:=hF.2 ad
  rw[he] at hv
  obtain ⟨b,e1,e2⟩:=fK hv
  rw[fJ cE] at e2
  obtain ⟨h7,h8⟩:=hR.elem e1 g1 g2 cE
  obtain ⟨u,h9,h10⟩:=zT hs h8 g3
  refine ⟨_,u::us,h2,⟨_,_,rfl,h10.1,h10.2,h3⟩,?_⟩
  have e3:(asAddr (a.tmps.getD ad undef)).run P w = .ok ⟨b,j*blk.k+f,none⟩ w:=by rw[e2];rfl
  simp only[List.mapM_cons,Sem.run_bind,Sem.run_pure,Result.andThen_ok,e3,h9,h4]
theorem pb{φ:aU}{H:Y}{w:World}{ts:List AV}{a:Act}(hR:Rel φ H w)(hF:FR φ (Own φ H) w ts a){fn:Func}{rs:List RV}(hc:ox P fn.results.toList=some rs){K:AV→Prop}(h:uN rs ts H fun l=>K (oneOf l)) :
  ∃x v,K x∧VR φ (Own φ H) w x v∧(results fn a.tmps).run P w = .ok v w:=by
 obtain ⟨l,us,h1,h2,h3⟩:=Ag hR hF hc h
 refine ⟨_,(if us.length=1 then us.getD 0 undef else .tuple us.toArray),h1,?_,?_⟩
 ·have hl:=Cd h2
  match l,h2,hl with
  |[],h2,hl =>
   simp only[Rt] at h2
   subst h2
   exact ⟨⟨_,rfl⟩,_,rfl,rfl⟩
  |[x],h2,hl =>
   obtain ⟨v,s,rfl,g1,g2,g3⟩:=h2
   simp only[Rt] at g3
   subst g3
   exact ⟨g1,g2⟩
  |x::y::r,h2,hl =>
   have:¬us.length=1:=by rw[hl];simp
   rw[if_neg this]
   exact ⟨⟨_,rfl⟩,_,rfl,h2⟩
 ·unfold results
  rw[Array.mapM_eq_mapM_toList]
  rw[Sem.run_bind,Sem.run_map]
  erw[h3]
  simp only[Result.andThen_ok,Sem.run_pure]
  congr 1
  by_cases h4:us.length=1
  ·have:us.toArray.size=1:=by simpa using h4
   rw[dif_pos this,if_pos h4]
   match us,h4 with
   |[v],_=>rfl
  ·have:¬us.toArray.size=1:=by simpa using h4
   rw[dif_neg this,if_neg h4]
theorem qO{f:FuncId}{fn:Func}{c:Code}{ic:IC}{rs:List RV}{bx:List Nat}(hf:P.funcs[f]? = some fn)(hb:fn.body=some c)(hc:dU P bx c=some ic)(hr:ox P fn.results.toList=some rs){args:List AV}{H:Y}{Kr:cH→Y→Prop}
  (h:E P ic (Af rs Kr) (args++List.replicate (fn.ntmps-args.length) (.aO [])) H):DK P f args H Kr:=by
 intro φ w vs hR ha
 have hlen:=Cd ha
 have hF:FR φ (Own φ H) w (args++List.replicate (fn.ntmps-args.length) (.aO [])) { tmps:=vs++Array.replicate (fn.ntmps-vs.size) undef,defers:=[] }:=by
  have hsz:vs.size=args.length:=by simpa using hlen
  refine ⟨by simp[hsz],fun i=>?_⟩
  by_cases h1:i<args.length
  ·obtain ⟨u,g1,g2⟩:=Cc ha (i:=i) (x:=args[i]) (by simp[h1])
   have e1:(args++List.replicate (fn.ntmps-args.length) (AV.aO [])).getD i .top=args[i]:=by simp[List.getD,List.getElem?_append_left h1,h1]
   have e2:(vs++Array.replicate (fn.ntmps-vs.size) undef).getD i undef=u:=by
    rw[Array.getElem?_toList] at g1
    rw[Array.getD_eq_getD_getElem?,Array.getElem?_append_left (by omega),g1]
    rfl
   rw[e1,e2]
   exact g2
  ·by_cases h2:i<args.length+(fn.ntmps-args.length)
   ·have e1:(args++List.replicate (fn.ntmps-args.length) (AV.aO [])).getD i .top = .aO []:=by
     simp only[List.getD]
     rw[List.getElem?_append_right (by omega),List.getElem?_replicate,if_pos (by omega)]
     rfl
    have e2:(vs++Array.replicate (fn.ntmps-vs.size) undef).getD i undef=undef:=by
     rw[Array.getD_eq_getD_getElem?,Array.getElem?_append_right (by omega),Array.getElem?_replicate]
     split<;>rfl
    rw[e1,e2]
    exact pC
   ·have e1:(args++List.replicate (fn.ntmps-args.length) (AV.aO [])).getD i .top = .top:=by
     simp only[List.getD]
     rw[List.getElem?_eq_none (by simp;omega)]
     rfl
    rw[e1]
    exact nI _
 refine calls_of_wp hf hb (wp_mono (uM c ic hc _ φ H w _ _ hR hF h) ?_)
 rintro e a' w' ⟨x,ts',H',φ',k1,k2,k3,k4,k5,k6⟩
 have Kn:(uN rs ts' H' fun l=>Kr (.ret (oneOf l)) H')→a'.defers=[]∧∃v,(results fn a'.tmps).run P w' = .ok v w'∧∃e H2 dJ,Bg dJ (Own dJ H2) w' e (.returned v)∧Kr e H2∧Rel dJ H2 w'∧Step φ H w dJ H2 w':=by
  intro hl
  obtain ⟨y,v,g1,g2,g3⟩:=pb k4 k3 hr (K:=fun x=>Kr (.ret x) H') hl
  exact ⟨k6,v,g3,.ret y,H',φ',g2,g1,k4,k5⟩
 cases x with
 |normal =>
  cases e<;>try exact k1.elim
  exact Kn k2
 |ret =>
  cases e<;>try exact k1.elim
  exact Kn k2
 |exit i=>exact k2.elim
 |bP v =>
  cases e<;>try exact k1.elim
  exact ⟨k6,.bP v,H',φ',k1,k2,k4,k5⟩
def eB(H:Y)(e1:cH)(H1:Y)(e:cH)(H':Y):Prop :=
 ∀φ w bK w1 en,Rel φ H w→Bg bK (Own bK H1) w1 e1 en→Rel bK H1 w1→Step φ H w bK H1 w1→∃φ',Bg φ' (Own φ' H') w1 e en∧Rel φ' H' w1∧Step φ H w φ' H' w1
theorem eB.refl(H:Y)(e:cH)(H':Y):eB H e H' e H':=fun φ w bK w1 en _ h1 h2 h3=>⟨bK,h1,h2,h3⟩
theorem aG{f:FuncId}{args:List AV}{H:Y}{e:cH}{H':Y}(hl:H.length≤H'.length)(h:DK P f args H fun e1 H1=>eB H e1 H1 e H'):D P f args H e H' :=
 ⟨hl,fun φ w vs hR ha=>(h φ w vs hR ha).mono fun en w' ⟨e1,H1,bK,h1,h2,h3,h4⟩=>h2 φ w bK w' en hR h1 h3 h4⟩
mutual
inductive Fz(H1:Y)(n0:Nat):AV→AV→Prop where
 | same {x:AV}:x.ids (· < n0)→Fz H1 n0 x x
 | aD {k id off n:Nat}{c:Option Nat}{blk:aP}{ys:List AV}:n0≤id→Y.find H1 id=some blk→blk.k=k→off+n≤blk.es.length→qF H1 n0 ((blk.es.drop off).take n) ys→Fz H1 n0 (.aD k id off n c) (.am k ys none)
 | am {k:Nat}{xs ys:List AV}{room:Option (List AV)}:qF H1 n0 xs ys→Fz H1 n0 (.am k xs room) (.am k ys none)
 | nil {k:Nat}{room:Option (List AV)}{k':Nat}:Fz H1 n0 (.am k' [] room) (.am k [] none)
 | agg {xs ys:List AV}:qF H1 n0 xs ys→Fz H1 n0 (.agg xs) (.agg ys)
 | aO {xs ys:List AV}:qF H1 n0 xs ys→Fz H1 n0 (.aO xs) (.aO ys)
 | eP {t:TypeId}{x y:AV}:Fz H1 n0 x y→Fz H1 n0 (.eP t x) (.eP t y)
inductive qF(H1:Y)(n0:Nat):List AV→List AV→Prop where
 | nil:qF H1 n0 [] []
 | cons {x y:AV}{r s:List AV}:Fz H1 n0 x y→qF H1 n0 r s→qF H1 n0 (x::r) (y::s)
end
theorem qF.len{H1:Y}{n0:Nat}:∀{xs ys:List AV},qF H1 n0 xs ys→ys.length=xs.length
 |_,_,.nil=>rfl
 |_,_,.cons _ h=>by simp[h.len]
theorem Fz.isAgg{H1:Y}{n0:Nat}{x y:AV}(h:Fz H1 n0 x y):y.isAgg=x.isAgg∧y.az=x.az:=by
 cases h with
 |agg h=>exact ⟨rfl,h.len⟩
 |_=>exact ⟨rfl,rfl⟩
theorem Fz.kV{H1:Y}{n0:Nat}{x y:AV}(h:Fz H1 n0 x y){u:Value}(hk:kV x u):kV y u:=by
 cases h with
 |agg h=>obtain ⟨us,h1,h2⟩:=hk;exact ⟨us,h1,by rw[h2,h.len]⟩
 |_=>exact hk
def aU.below(φ:aU)(n:Nat):aU:=fun i=>if i<n then φ i else none
theorem sW{bK:aU}{G H2:Y}{b:Nat}(h:Own (bK.below H2.length) H2 b):∃id blk,id<H2.length∧bK id=some b∧Y.find H2 id=some blk∧Y.find (G++H2) id=some blk:=by
 obtain ⟨id,blk,h1,h2⟩:=h
 have hl:=Y.ax h2
 unfold aU.below at h1
 rw[if_pos hl] at h1
 exact ⟨id,blk,hl,h1,h2,by rw[Y.bF hl];exact h2⟩
theorem yK{bK:aU}{G H2:Y}{w1:World}:Later (· < H2.length) bK (bK.below H2.length) (Own bK (G++H2)) (Own (bK.below H2.length) H2) w1 w1:=by
 refine ⟨fun id b hid hm=>?_,Nat.le_refl _,fun b hb ho fN=>?_,fun _ _ _=>rfl,fun _ _=>rfl⟩
 ·unfold aU.below;rw[if_pos hid];exact hm
 ·obtain ⟨id,blk,h1,h2,h3,h4⟩:=sW (G:=G) fN
  exact ho ⟨id,blk,h2,h4⟩
mutual
theorem Fz.R{bK:aU}{G H2:Y}{w1:World}(hR:Rel bK (G++H2) w1):∀{x y:AV},Fz (G++H2) H2.length x y→∀{g:Nat→Option Value},R bK (Own bK (G++H2)) w1 x g→R (bK.below H2.length) (Own (bK.below H2.length) H2) w1 y g
 |_,_,.same hi,g,h=>lh yK _ _ _ hi (fun _ _ h=>h) h
 |_,_,.aD (k:=k) (id:=id) (off:=off) (n:=n) (c:=c) (blk:=blk) (ys:=ys) h1 h2 h3 h4 h5,g,h=>by
  obtain ⟨b,c',cur,e,fr,v1,v2,v3,v4,v5,v6,v7⟩:=h
  have mb:((blk.es.drop off).take n).length=n:=by simp;omega
  have pO:ys.length=n:=by rw[h5.len,mb]
  refine ⟨_,c',by rw[pO];exact v2,by omega,v4,fun h=>by simp at h,fun hp=>⟨b,off*k,rfl,?_,jI v6,?_⟩,trivial⟩
  ·intro ho
   obtain ⟨id',acR,g1,g2,g3,g4⟩:=sW (G:=G) ho
   have:=hR.inj id' id b g2 v1 (by rw[g4];rfl) (by rw[h2];rfl)
   omega
  ·obtain ⟨_,uC,cap,a1,a2,a3,a4,a5,a6⟩:=(hR.blk id b blk v1 h2).jK v6
   have h7:=jL (n:=n) (lq (f:=off) a6)
   rw[h3,Nat.zero_add] at h7
   exact qF.Rl hR h5 h7
 |_,_,.am (k:=k) (xs:=xs) (ys:=ys) hl,g,h=>by
  obtain ⟨a,c,h1,h2,h3,h4,h5,h6⟩:=h
  have pO:=hl.len
  refine ⟨a,c,by rw[pO];exact h1,by omega,h3,h4,fun hp=>?_,trivial⟩
  obtain ⟨b,off,e1,e2,e3,e4⟩:=h5 (by omega)
  refine ⟨b,off,e1,fun ho=>?_,e3,qF.Rl hR hl e4⟩
  obtain ⟨id',acR,g1,g2,g3,g4⟩:=sW (G:=G) ho
  exact e2 ⟨id',acR,g2,g4⟩
 |_,_,.nil,g,h=>by
  obtain ⟨a,c,h1,h2,h3,h4,h5,h6⟩:=h
  exact ⟨a,c,h1,h2,h3,h4,fun hp=>by simp at hp,trivial⟩
 |_,_,.agg hl,g,h=>qF.Rs hR hl h
 |_,_,.aO hl,g,h=>by
  obtain ⟨us,h1,h2⟩:=h
  exact ⟨us,h1,qF.Rt hR hl h2⟩
 |_,_,.eP hx,g,h=>by
  obtain ⟨u,h1,h2,h3⟩:=h
  exact ⟨u,h1,hx.kV h2,Fz.R hR hx h3⟩
theorem qF.Rl{bK:aU}{G H2:Y}{w1:World}(hR:Rel bK (G++H2) w1):∀{xs ys:List AV},qF (G++H2) H2.length xs ys→∀{b k off:Nat},Rl bK (Own bK (G++H2)) w1 b k xs off→Rl (bK.below H2.length) (Own (bK.below H2.length) H2) w1 b k ys off
 |_,_,.nil,b,k,off,_=>trivial
 |_,_,.cons hx hr,b,k,off,h=>⟨by rw[hx.isAgg.2];exact h.1,by rw[hx.isAgg.1];exact h.2.1,Fz.R hR hx h.2.2.1,qF.Rl hR hr h.2.2.2⟩
theorem qF.Rs{bK:aU}{G H2:Y}{w1:World}(hR:Rel bK (G++H2) w1):∀{xs ys:List AV},qF (G++H2) H2.length xs ys→∀{g:Nat→Option Value},Rs bK (Own bK (G++H2)) w1 xs g→Rs (bK.below H2.length) (Own (bK.below H2.length) H2) w1 ys g
 |_,_,.nil,g,_=>trivial
 |_,_,.cons hx hr,g,h=>⟨by rw[hx.isAgg.1];exact h.1,Fz.R hR hx h.2.1,h.2.2.1,qF.Rs hR hr h.2.2.2⟩
theorem qF.Rt{bK:aU}{G H2:Y}{w1:World}(hR:Rel bK (G++H2) w1):∀{xs ys:List AV},qF (G++H2) H2.length xs ys→∀{us:List Value},Rt bK (Own bK (G++H2)) w1 xs us→Rt (bK.below H2.length) (Own (bK.below H2.length) H2) w1 ys us
 |_,_,.nil,us,h=>h
 |_,_,.cons hx hr,us,h=>by
  obtain ⟨v,s,h1,h2,h3,h4⟩:=h
  exact ⟨v,s,h1,hx.kV h2,Fz.R hR hx h3,qF.Rt hR hr h4⟩
end
mutual
theorem xc{φ:aU}{O:Nat→Prop}{w:World}:∀(x:AV)(g:Nat→Option Value),R φ O w x g→x.ids (fun id=>∃b,φ id=some b)
 |.sc v,g,_=>trivial
 |.am k xs room,g,h=>by
  obtain ⟨a,c,h1,h2,h3,h4,h5,h6⟩:=h
  refine ⟨?_,?_⟩
  ·cases xs with
   |nil=>trivial
   |cons x r=>obtain ⟨b,off,_,_,_,h7⟩:=h5 (by simp);exact Ch _ _ _ _ h7
  ·cases room with
   |none=>trivial
   |some ys =>
    cases ys with
    |nil=>trivial
    |cons y s=>obtain ⟨b,off,_,_,_,h7⟩:=h6.2 (by simp);exact Ch _ _ _ _ h7
 |.aD k id off n c,g,h=>by obtain ⟨b,_,_,_,_,h1,_⟩:=h;exact ⟨b,h1⟩
 |.ptr k id j f,g,h=>by obtain ⟨b,h1,_⟩:=h;exact ⟨b,h1⟩
 |.lp x f,g,h=>by obtain ⟨b,off,_,_,_,_,h1⟩:=h;exact xc x _ h1
 |.agg cs,g,h=>Q6 cs g h
 |.aO vs,g,h=>by obtain ⟨us,_,h1⟩:=h;exact vY vs _ h1
 |.fn f a b,g,h=>by obtain ⟨us,ws,_,h1,h2⟩:=h;exact ⟨vY a _ h1,vY b _ h2⟩
 |.eP t x,g,h=>by obtain ⟨u,_,_,h1⟩:=h;exact xc x _ h1
 |.ub,g,_=>trivial
 |.top,g,_=>trivial
 |.HQ _,g,_=>trivial
theorem Ch{φ:aU}{O:Nat→Prop}{w:World}:∀(l:List AV)(b k off:Nat),Rl φ O w b k l off→AV.cV (fun id=>∃b,φ id=some b) l
 |[],_,_,_,_=>trivial
 |x::r,b,k,off,h=>⟨xc x _ h.2.2.1,Ch r _ _ _ h.2.2.2⟩
theorem Q6{φ:aU}{O:Nat→Prop}{w:World}:∀(l:List AV)(g:Nat→Option Value),Rs φ O w l g→AV.cV (fun id=>∃b,φ id=some b) l
 |[],_,_=>trivial
 |x::r,g,h=>⟨xc x _ h.2.1,Q6 r _ h.2.2.2⟩
theorem vY{φ:aU}{O:Nat→Prop}{w:World}:∀(l:List AV)(us:List Value),Rt φ O w l us→AV.cV (fun id=>∃b,φ id=some b) l
 |[],_,_=>trivial
 |x::r,us,h=>by obtain ⟨v,s,_,_,h1,h2⟩:=h;exact ⟨xc x _ h1,vY r _ h2⟩
end
theorem Iv{φ:aU}{O:Nat→Prop}{w:World}:∀(l:List AV)(es:List MapEntry),RE φ O w l es→AV.cV (fun id=>∃b,φ id=some b) l
 |[],_,_=>trivial
 |x::r,es,h=>by
  obtain ⟨e,s,_,h1,h2⟩:=h
  exact ⟨xc x _ h1.2,Iv r _ h2⟩
theorem jJ.ids{φ:aU}{O:Nat→Prop}{w:World}{k:aP}{b:Nat}(h:jJ φ O w k b):AV.cV (fun id=>∃b,φ id=some b) k.es:=by
 rcases h with ⟨_,_,_,_,_,_,_,_,h⟩|⟨_,_,_,_,_,_,_,h⟩|⟨_,_,r,ts,tm,e,_,h⟩|⟨_,_,_,_,x,r,e,_,_,_,h1,h2⟩|⟨_,_,_,_,_,_,h⟩
 ·exact Ch _ _ _ _ h
 ·exact Iv _ _ h
 ·rw[e];exact ⟨trivial,vY _ _ h⟩
 ·rw[e];exact ⟨xc x _ h1.2,Iv _ _ h2⟩
 ·exact vY _ _ h
theorem S5{H G H2:Y}(hl:H.length≤H2.length)(hold:∀id k,Y.find H2 id=some k→(id<H.length∧Y.find H id=some k)∨AV.cV (· < H2.length) k.es){φ bK:aU}{w w1:World}(Iw:Rel φ H w)(hR:Rel bK (G++H2) w1)(hS:Step φ H w bK (G++H2) w1) :
  Rel (bK.below H2.length) H2 w1∧Step φ H w (bK.below H2.length) H2 w1:=by
 have hlb:Later (· < H2.length) bK (bK.below H2.length) (Own bK (G++H2)) (Own (bK.below H2.length) H2) w1 w1:=yK
 have Oa:∀id b,bK.below H2.length id=some b→id<H2.length∧bK id=some b:=fun id b h=>by
  unfold aU.below at h
  split at h
  ·rename_i hlt;exact ⟨hlt,h⟩
  ·simp at h
 refine ⟨⟨hR.jC.later hlb,fun id b h=>⟨(Oa id b h).1,(hR.dom id b (Oa id b h).2).2⟩,fun i j b hi hj jx mM=>?_,fun id b k h1 h2=>?_⟩,⟨⟨fun id b _ h=>?_,hS.size,fun b hb ho fN=>?_,hS.same,hS.shape⟩,hS.os,hS.tape,hS.output,hl,fun id hid=>?_⟩⟩
 ·have l1:=(Oa i b hi).1
  have l2:=(Oa j b hj).1
  exact hR.inj i j b (Oa i b hi).2 (Oa j b hj).2 (by rw[Y.bF l1];exact jx) (by rw[Y.bF l2];exact mM)
 ·obtain ⟨hlt,h3⟩:=Oa id b h1
  refine (hR.blk id b k h3 (by rw[Y.bF hlt];exact h2)).later hlb rfl ?_
  rcases hold id k h2 with ⟨g1,g2⟩|g
  ·have h4:φ id=some b:=by rw[←hS.old id g1];exact h3
   exact AV.eU (fun i ⟨b',hb'⟩=>Nat.lt_of_lt_of_le (Iw.dom i b' hb').1 hl) _ (Iw.blk id b k h4 g2).ids
  ·exact g
 ·have h4:=(Iw.dom id b h).1
  unfold aU.below
  rw[if_pos (by omega),hS.old id h4]
  exact h
 ·obtain ⟨id,blk,g1,g2,g3,g4⟩:=sW (G:=G) fN
  exact hS.own b hb ho ⟨id,blk,g2,g4⟩
 ·unfold aU.below
  rw[if_pos (by omega)]
  exact hS.old id hid
theorem Gn{H G H2:Y}{x y:AV}(hl:H.length≤H2.length)(hold:∀id k,Y.find H2 id=some k→(id<H.length∧Y.find H id=some k)∨AV.cV (· < H2.length) k.es)(hz:Fz (G++H2) H2.length x y):eB H (.ret x) (G++H2) (.ret y) H2:=by
 intro φ w bK w1 en Iw he hR hS
 obtain ⟨h1,h2⟩:=S5 hl hold Iw hR hS
 refine ⟨bK.below H2.length,?_,h1,h2⟩
 cases en with
 |returned v=>exact ⟨hz.kV he.1,Fz.R hR hz he.2⟩
 |_=>exact he.elim
theorem Ob{H G:Y}{x y:AV}(hz:Fz (G++H) H.length x y):eB H (.ret x) (G++H) (.ret y) H :=
 Gn (Nat.le_refl _) (fun id k h=>.inl ⟨Y.ax h,h⟩) hz
end
end Go.Proofs.YtnoplgongieehaaGreatDoor
