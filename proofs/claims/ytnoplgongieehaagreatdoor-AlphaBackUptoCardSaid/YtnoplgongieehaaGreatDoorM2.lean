import Derived.Test.YtnoplgongieehaaGreatDoorM1
import Derived.Laws.IdiomStrings
import Derived.Laws.StructEq
import Derived.ChangeKeysEq
import Derived.Laws.Externs
import Derived.KernelRfl
import Derived.Lib.AppendZerosOnto
import Derived.Lib.UnsafeStr
import Derived.Lib.BufferWrite
import Derived.Lib.Builder
import Derived.RangeFuncRecord
namespace Go.Proofs.YtnoplgongieehaaGreatDoor
open Go.RowKit
set_option linter.unusedVariables false
set_option linter.unusedSimpArgs false
section
variable {P:Program}
theorem NN{φ:aC}{H:Y}{w:World}(hR:Rel φ H w){k:Nat}{x:Z}{v:Value}(hv:VR φ (Own φ H) w x v){K:List Z→Prop}(h:FJ H k x K):∃ys,K ys∧Src φ (Own φ H) w k ys v:=by
 cases x<;>try exact False.elim h
 ·exact ⟨_,h.2,Src.Md hv h.1⟩
 ·obtain ⟨blk,h1,⟨rfl,h2,h3⟩,h4⟩:=h
  exact ⟨_,h4,Src.r6 hR hv h1 h2 h3⟩
theorem NP{H:Y}{id:Nat}{b:Option aD}(h:Y.find H id=b)(hl:id<H.length):Y.set H id b=H:=by
 induction H with
 | nil=>rfl
 | cons x r ih =>
  simp only[Y.set]
  simp only[Y.find] at h
  split
  ·rename_i e;rw[if_pos e] at h;rw[h]
  ·rename_i e
   rw[if_neg e] at h
   rw[ih h (by simp at hl;omega)]
theorem set_set{id:Nat}(b c:Option aD):∀(H:Y),Y.set (Y.set H id b) id c=Y.set H id c
 | []=>rfl
 | x::r=>by
  simp only[Y.set]
  split
  ·rename_i e;simp only[Y.set];rw[if_pos e]
  ·rename_i e;simp only[Y.set,Y.aj];rw[if_neg e,set_set b c r]
theorem CG{H:Y}{id:Nat}{b x:Option aD}(hl:id<H.length):Y.set (b::H) id x=b::Y.set H id x:=by
 simp only[Y.set]
 rw[if_neg (by omega)]
theorem ew{w:World}{b off:Nat}{cur:Array Value}{t:TypeId}{fr:Nat×Nat}(h:w.heap[b]? = some (.cells cur t fr))(i:Nat):b6 w b off i=cur[off+i]?:=by
 simp[b6,World.cell?,h]
theorem zB{φ:aC}{H:Y}{w:World}(hR:Rel φ H w){t ty e:TypeId}{inf:TypeInfo}(ht:P.underlying t=some (.slice e))(hi:P.info? e=some inf)(bV:0<inf.size)
  {id b n c' cap:Nat}{blk:aD}{cur:Array Value}{ys:List Z}{v:Value}(hm:φ id=some b)(hf:Y.find H id=some blk)(hb:w.heap[b]? = some (.cells cur blk.ty (0,0)))(hsz:cur.size=cap*blk.k)(hk:blk.k=inf.size)(hty:blk.ty=e)
  (hel:blk.es.length≤cap)(hex:blk.exact=true→cap=blk.es.length)(k7:cap≤maxLen)(Q4:Rl φ (Own φ H) w b blk.k blk.es 0)(hv:Src φ (Own φ H) w inf.size ys v)(hn:n≤blk.es.length)(hroom:n+ys.length≤c')(hc:c'≤cap)
  (es':List Z)(j7:es'=blk.es.take n++ys++blk.es.drop (n+ys.length))(Ro:blk.exact=true→cap=es'.length) :
  ∃w',(Builtin.append_ #[t,t] ty #[.slice (some ⟨b,0,none⟩) n c',v]).run P w = .ok (.slice (some ⟨b,0,none⟩) (n+ys.length) c') w'∧
   Rel φ (Y.set H id (some { blk with es:=es' })) w'∧Step φ H w φ (Y.set H id (some { blk with es:=es' })) w':=by
 obtain ⟨a2,c2,news,rfl,n2,n3,n4,n5,n6⟩:=hv.ex
 obtain ⟨f1,f2⟩:=mD Q4
 have o9:(flat blk.es).length=blk.es.length*blk.k:=cC f1
 have mK:(flat ys).length=ys.length*inf.size:=cC n3
 have hcm:blk.es.length*blk.k≤cap*blk.k:=Nat.mul_le_mul_right _ hel
 have hnm:n*blk.k≤blk.es.length*blk.k:=Nat.mul_le_mul_right _ hn
 have hnc:(n+ys.length)*blk.k≤cap*blk.k:=Nat.mul_le_mul_right _ (by omega)
 have Rp:(n+ys.length)*blk.k=n*blk.k+ys.length*blk.k:=Nat.add_mul _ _ _
 rw[←hk] at n2 n3 mK
 by_cases hy:0<ys.length
 ·obtain ⟨ad,rfl,hnews⟩:=n6 hy
  have hrun:=run_append_room (P:=P) w t ty e inf ht hi b n c' cur (by rw[←hty];exact hb) ad ys.length c2 news (by rw[n2,hk]) hnews n5 hroom (by rw[n2,hsz,←hk];omega)
  have zC:∀x∈es',x.an=blk.k:=by
   intro x hx
   rw[j7] at hx
   rcases List.mem_append.1 hx with hx | hx
   ·rcases List.mem_append.1 hx with hx | hx
    ·exact f1 x (List.mem_of_mem_take hx)
    ·exact n3 x hx
   ·exact f1 x (List.mem_of_mem_drop hx)
  have zq:flat es'=(flat blk.es).take (n*blk.k)++flat ys++(flat blk.es).drop (n*blk.k+ys.length*blk.k):=by
   rw[j7,dg,dg,mF f1,j4 f1,Rp]
  have zD:es'.length≤cap:=by rw[j7];simp;omega
  have fD:(cur.toList.take (n*blk.k)).length=n*blk.k:=by simp;omega
  have mC:((flat blk.es).take (n*blk.k)).length=n*blk.k:=by rw[List.length_take,o9];exact Nat.min_eq_left hnm
  have hw:=hR.write (by rw[hk];exact bV) hm hf hb hsz es' (fL:=(cur.toList.take (n*inf.size)++news++cur.toList.drop (n*inf.size+news.length)).toArray) (by simp[n2,←hk];omega) zD k7 Ro zC (by
   rw[zq,←hk]
   refine cQ (cQ (bK (fun q hq=>?_) (iR (n:=n*blk.k) f2)) (bK (fun q hq=>?_) n4)) (bK (fun q hq=>?_) (iQ (f:=n*blk.k+ys.length*blk.k) f2))
   ·have fC:q<n*blk.k:=by rw[mC] at hq;exact hq
    simp only[List.getElem?_toArray]
    rw[List.append_assoc,List.getElem?_append_left (by omega),List.getElem?_take_of_lt fC,ew hb]
    simp
   ·have fC:q<ys.length*blk.k:=by rw[mK] at hq;exact hq
    rw[mC]
    simp only[List.getElem?_toArray]
    rw[List.getElem?_append_left (by rw[List.length_append,fD,n2];omega),List.getElem?_append_right (by omega),fD]
    congr 1
    omega
   ·have hl:((flat blk.es).take (n*blk.k)++flat ys).length=n*blk.k+ys.length*blk.k:=by rw[List.length_append,mC,mK]
    rw[hl]
    simp only[List.getElem?_toArray]
    have dz:(cur.toList.take (n*blk.k)++news).length=n*blk.k+ys.length*blk.k:=by rw[List.length_append,fD,n2]
    rw[List.getElem?_append_right (by omega),dz,ew hb,n2]
    simp)
  exact ⟨_,hrun,hw.1,hw.2⟩
 ·have hy0:ys=[]:=List.length_eq_zero_iff.1 (by omega)
  subst hy0
  have he:es'=blk.es:=by rw[j7];simp
  have hz:=uq (P:=P) (w:=w) (ty:=ty) ht hi (base:=some ⟨b,0,none⟩) (a:=a2) (c':=c2) (show n≤c' by simpa using hroom)
  have jV:Y.set H id (some { blk with es:=es' })=H:=by
   rw[he]
   exact NP hf (Y.am hf)
  rw[jV]
  exact ⟨w,by simpa using hz,hR,Step.refl _ _ _⟩
theorem j8{φ:aC}{O:Nat→Prop}{w:World}{k id n c' b:Nat}{c:Option Nat}{cur:Array Value}{e:TypeId}{fr:Nat×Nat}(h1:φ id=some b)(h2:n≤c')(h3:c'≤maxLen)(h4:∀m,c=some m→c'=m)(h5:w.heap[b]? = some (.cells cur e fr))(h6:cur.size=c'*k) :
  VR φ O w (.aB k id 0 n c) (.slice (some ⟨b,0,none⟩) n c') :=
 ⟨rfl,b,c',cur,e,fr,h1,by simp[dZ,Value.cells],h2,h3,h4,h5,by rw[h6];congr 1;omega⟩
theorem Wi{o:Oper}{t e:TypeId}{inf:TypeInfo}{z:Value}{s x:Operand}{s' x':X}{args:Array Operand}{ats:Array TypeId}(ho:o.op = .call { callee:=.builtin .append,args,argTypes:=ats })(ha:args.toList=[s,x])(df:ats.toList=[t,t])
  (ht:P.underlying t=some (.slice e))(hi:P.info? e=some inf)(hz:inf.zero=some z)(hzs:z.cells.size=inf.size)(bV:0<inf.size)(hby:inf.bytes≤1000)(hs:aU s=some s')(hx:aU x=some x'):b8 P o (.eN inf.size e s' x'):=by
 intro φ H w ts a hR hr K Kp h next Q hn ov
 obtain rfl:args=#[s,x]:=by apply Array.toList_inj.1;simpa using ha
 obtain rfl:ats=#[t,t]:=by apply Array.toList_inj.1;simpa using df
 have hv:=aq hr hs
 have hw:=aq hr hx
 have hex:∀{r:Value}{w':World},(Builtin.append_ #[t,t] o.type #[a.eval s,a.eval x]).run P w = .ok r w'→(execOp a.eval o).run P w = .ok (.value r) w':=by
  intro r w' h1
  simp only[execOp,ho,resolve,invoke,builtin,Sem.run_bind,Sem.run_pure,Result.andThen_ok,List.map_toArray,List.map_cons,List.map_nil,h1]
 simp only[HO.aV] at h
 obtain ⟨ys,h,hsrc⟩:=NN hR hw h
 split at h
 ·rename_i k' xs he
  rw[he] at hv
  obtain ⟨⟨g1,g2⟩,g3,g4⟩:=h
  obtain ⟨ad,c,vU,c1,c2,c3,c4,c5⟩:=eU hv
  by_cases hy:ys=[]
  ·subst hy
   obtain ⟨a2,cc,news,e2,_⟩:=hsrc.ex
   refine aG (hex ?_) (hn _ _ _ _ _ (g3 rfl) hv hR (Step.refl _ _ _))
   rw[vU,e2]
   exact uq ht hi c1
  ·have hpos:0<ys.length:=List.length_pos_iff.2 hy
   have hcap:c=xs.length:=by have:=c5.1;simpa using this
   obtain ⟨c',w',r1,r2,r3,r4⟩:=qB (P:=P) hR (ty:=o.type) ht hi hz hzs hby bV (Src.Md hv g1) hsrc hpos g2 ⟨ad,c,vU,by omega,c3⟩
   exact aG (hex r1) (hn _ _ _ _ _ (g4 hy) r4 r2 r3)
 ·rename_i k' id off n c he
  rw[he] at hv
  obtain ⟨blk,h1,⟨rfl,hk,hty,rfl,hb8⟩,h⟩:=h
  obtain ⟨b,c',cur,e',fr,v1,v2,v3,v4,v5,v6,v7⟩:=eV hv
  obtain ⟨_,ow,cap,a1,a2,a3,a4,a5,a6⟩:=(hR.blk id b blk v1 h1).gC v6
  rw[v6] at a1
  cases a1
  have fw:c'=cap:=by
   rw[v7,hk] at a2
   have:(0+c')=cap:=Nat.eq_of_mul_eq_mul_right bV a2
   omega
  subst fw
  rw[Nat.zero_mul] at v2
  have CH:id<H.length:=Y.am h1
  cases c with
  | none =>
   obtain ⟨⟨g1,g2⟩,g3⟩:=h
   by_cases hroom:n+ys.length≤c'
   ·obtain ⟨w',r1,r2,r3⟩:=zB (P:=P) hR (ty:=o.type) ht hi bV v1 h1 v6 a2 hk hty a3 a4 a5 a6 hsrc (Nat.le_of_eq g2) hroom (Nat.le_refl _) (blk.es++ys) (by
     rw[g2,List.take_length,List.drop_of_length_le (by omega),List.append_nil]) (fun h=>by rw[g1] at h;simp at h)
    have FU:Y.find (Y.set H id (some { blk with es:=blk.es++ys })) id=some { blk with es:=blk.es++ys }:=Y.ay CH
    obtain ⟨m1,m2⟩:=r2.move v1 FU
    have jV:Y.set (Y.set H id (some { blk with es:=blk.es++ys })) id none=Y.set H id none:=set_set _ _ _
    rw[Y.aj,jV] at m1 m2
    have Rn:({ blk with es:=blk.es++ys }:aD)=⟨inf.size,blk.es++ys,false,e⟩:=by
     cases blk
     simp only at hk hty g1
     subst hk
     subst hty
     subst g1
     rfl
    rw[Rn] at m1 m2 r3
    have hcell:=r3.toLater.cells v6
    obtain ⟨fL,fr',q1,q2⟩:=hcell
    refine aG (hex (by rw[v2];exact r1)) (hn _ _ _ _ _ g3 (j8 (by simp[aC.add]) hroom v4 (fun m hm=>by simp at hm) q1 (by rw[q2,v7];congr 1;omega)) m1 (r3.trans m2))
   ·have hpos:0<ys.length:=by omega
    obtain ⟨c2,w',r1,r2,r3,r4⟩:=qB (P:=P) hR (ty:=o.type) ht hi hz hzs hby bV (xs:=blk.es) (s:=a.eval s) (by
     have:=Src.r6 hR hv h1 hk (by omega)
     rwa [List.drop_zero,g2,List.take_length] at this) hsrc hpos (by omega) ⟨_,c',by rw[v2,g2],by omega,fun h=>by simp at h⟩
    obtain ⟨k1,k2⟩:=r2.kill id
    rw[CG CH] at k1 k2
    refine aG (hex r1) (hn _ _ _ _ _ ?_ (k2.vr r4) k1 (r3.trans k2))
    rw[←g2]
    exact g3
  | some m =>
   obtain ⟨g1,g4,g5⟩:=h
   have hcm:=v5 m rfl
   subst hcm
   have g3:n≤blk.es.length:=by
    rcases g1 with ⟨_,h2,h3⟩ | ⟨_,h2⟩
    ·omega
    ·exact h2
   by_cases hroom:n+ys.length≤c'
   ·obtain ⟨w',r1,r2,r3⟩:=zB (P:=P) hR (ty:=o.type) ht hi bV v1 h1 v6 a2 hk hty a3 a4 a5 a6 hsrc g3 hroom (Nat.le_refl _) _ rfl (fun hx=>by
     rcases g1 with ⟨_,h2,h3⟩ | ⟨h2,_⟩
     ·have j7:(blk.es.take n++ys++blk.es.drop (n+ys.length)).length=blk.es.length:=by simp;omega
      rw[j7];exact h2
     ·rw[h2] at hx;simp at hx)
    obtain ⟨fL,fr',q1,q2⟩:=r3.toLater.cells v6
    exact aG (hex (by rw[v2];exact r1)) (hn _ _ _ _ _ (g4 hroom) (j8 v1 hroom v4 (fun m hm=>by simpa using hm) q1 (by rw[q2,v7];congr 1;omega)) r2 r3)
   ·have hpos:0<ys.length:=by omega
    have hl:(blk.es.take n).length=n:=by simp;omega
    obtain ⟨c2,w',r1,r2,r3,r4⟩:=qB (P:=P) hR (ty:=o.type) ht hi hz hzs hby bV (xs:=blk.es.take n) (s:=a.eval s) (by
     have:=Src.r6 hR hv h1 hk (by omega)
     rwa [List.drop_zero] at this) hsrc hpos (by rw[hl];omega) ⟨_,c',by rw[v2,hl],by rw[hl];omega,fun h=>by simp at h⟩
    rw[hl] at r1 r4
    exact aG (hex r1) (hn _ _ _ _ _ (g5 (by omega)) r4 r2 r3)
 ·exact h.elim
theorem iW {f : FuncId} {fn : Func} (h1 : P.funcs[f]? = some fn) (h2 : fn.body.isSome) (h3 : fn.name ≠ "runtime.NumGoroutine") (args : Array Value) (w : World) : (callFunc f args).run P w = .ok (.enter f args) w := by
 have h4 : (fn.name == "runtime.NumGoroutine") = false := by simpa using h3
 have h5:fn.body.isNone=false:=by
  cases hb:fn.body with
  | none=>rw[hb] at h2;simp at h2
  | some c=>rfl
 simp only[callFunc,Sem.run_bind,run_program,Result.andThen_ok,h1,h4,h5,Bool.false_eq_true,if_false,Sem.run_pure]
theorem CI{o:Oper}{a:Act}{φ:aC}{H:Y}{w:World}{f:FuncId}{vs:Array Value}{dS:List Z}{e:cm}{H':Y}{K Kp:Z→Y→Prop}{next:Act→World→Prop}{Q:Exit→Act→World→Prop}
  (hrun:(execOp a.eval o).run P w = .ok (.enter f vs) w)(hR:Rel φ H w)(ha:Rt φ (Own φ H) w dS vs.toList)(hD:D P f dS H e H')(hK:cm.post K Kp H' e)
  (hn:∀v u φ' H' w',K v H'→VR φ' (Own φ' H') w' v u→Rel φ' H' w'→Step φ H w φ' H' w'→next (a.put o.dst u) w')
  (hp:∀v u φ' H' w',Kp v H'→qi φ' (Own φ' H') w' v u→Rel φ' H' w'→Step φ H w φ' H' w'→Q (.panic u) a w'):o.wp P a w next Q:=by
 unfold Oper.wp
 rw[hrun,Oper.upon_enter]
 refine (hD.2 φ w vs hR ha).mono ?_
 rintro en w' ⟨φ',h1,h2,h3⟩
 cases e with
 | ret v =>
  cases en with
  | returned u=>exact hn _ _ _ _ _ hK h1 h2 h3
  | panicked c=>exact h1.elim
  | outgrown=>exact h1.elim
 | bu v =>
  cases en with
  | returned u=>exact h1.elim
  | panicked c =>
   exact hp _ _ _ _ _ hK h1 h2 h3
  | outgrown=>exact h1.elim
theorem zE{o:Oper}{a:Act}{φ:aC}{H:Y}{w:World}{f:FuncId}{vs:Array Value}{dS:List Z}{K Kp:Z→Y→Prop}{next:Act→World→Prop}{Q:Exit→Act→World→Prop}
  (hrun:(execOp a.eval o).run P w = .ok (.enter f vs) w)(hR:Rel φ H w)(ha:Rt φ (Own φ H) w dS vs.toList)(hD:DK P f dS H (fun e H'=>cm.post K Kp H' e))
  (hn:∀v u φ' H' w',K v H'→VR φ' (Own φ' H') w' v u→Rel φ' H' w'→Step φ H w φ' H' w'→next (a.put o.dst u) w')
  (hp:∀v u φ' H' w',Kp v H'→qi φ' (Own φ' H') w' v u→Rel φ' H' w'→Step φ H w φ' H' w'→Q (.panic u) a w'):o.wp P a w next Q:=by
 unfold Oper.wp
 rw[hrun,Oper.upon_enter]
 refine (hD φ w vs hR ha).mono ?_
 rintro en w' ⟨e,H',φ',h1,hK,h2,h3⟩
 cases e with
 | ret v =>
  cases en with
  | returned u=>exact hn _ _ _ _ _ hK h1 h2 h3
  | panicked c=>exact h1.elim
  | outgrown=>exact h1.elim
 | bu v =>
  cases en with
  | returned u=>exact h1.elim
  | panicked c =>
   exact hp _ _ _ _ _ hK h1 h2 h3
  | outgrown=>exact h1.elim
def HO.FW(P:Program)(ev:X→Z)(H:Y)(K Kp:Z→Y→Prop):HO→Prop
 | .call f args=>DK P f (args.map ev) H (fun e H'=>cm.post K Kp H' e)
 | .bD f args=>match ev f with
  | .fn (.func g) a b => (∃ fn, P.funcs[g]? = some fn ∧ fn.body.isSome ∧ fn.name ≠ "runtime.NumGoroutine") ∧ DK P g (a ++ args.map ev ++ b) H (fun e H' => cm.post K Kp H' e)
  | _=>False
 | .ot kd x=>Jn K H kd (ev x)
 | q=>HO.aV P ev H K Kp q
theorem NQ{o:Oper}{f:FuncId}{args:Array Operand}{ats:Array TypeId}{dS:List X}(ho:o.op = .call { callee:=.value (.func f),args,argTypes:=ats })(hc:bA P f=true)(has:mA args=some dS){φ:aC}{H:Y}{w:World}{ts:List Z}{a:Act}(hR:Rel φ H w)(hr:FR φ (Own φ H) w ts a){K Kp:Z→Y→Prop}(h:HO.FW P (X.ev ts) H K Kp (.call f dS)){next:Act→World→Prop}{Q:Exit→Act→World→Prop}
  (hn:∀v u φ' H' w',K v H'→VR φ' (Own φ' H') w' v u→Rel φ' H' w'→Step φ H w φ' H' w'→next (a.put o.dst u) w')
  (hp:∀v u φ' H' w',Kp v H'→qi φ' (Own φ' H') w' v u→Rel φ' H' w'→Step φ H w φ' H' w'→Q (.panic u) a w'):o.wp P a w next Q:=by
 unfold bA at hc
 split at hc
 case h_2=>simp at hc
 rename_i fn hf
 simp only[Bool.and_eq_true,Bool.not_eq_true',beq_eq_false_iff_ne] at hc
 refine zE (vs:=args.map a.eval) ?_ hR (by simpa using lY hr has) h hn hp
 simp only[execOp,ho,resolve,Deferred.ofValue,Act.eval,invoke,Sem.run_bind,Sem.run_pure,Result.andThen_ok]
 rw[iW hf hc.1 hc.2]
 simp
theorem Jp{o:Oper}{t:Tmp}{args:Array Operand}{ats:Array TypeId}{dS:List X}(ho:o.op = .call { callee:=.value (.tmp t),args,argTypes:=ats })(has:mA args=some dS){φ:aC}{H:Y}{w:World}{ts:List Z}{a:Act}(hR:Rel φ H w)(hr:FR φ (Own φ H) w ts a){K Kp:Z→Y→Prop}(h:HO.FW P (X.ev ts) H K Kp (.bD (.t t) dS)){next:Act→World→Prop}{Q:Exit→Act→World→Prop}
  (hn:∀v u φ' H' w',K v H'→VR φ' (Own φ' H') w' v u→Rel φ' H' w'→Step φ H w φ' H' w'→next (a.put o.dst u) w')
  (hp:∀v u φ' H' w',Kp v H'→qi φ' (Own φ' H') w' v u→Rel φ' H' w'→Step φ H w φ' H' w'→Q (.panic u) a w'):o.wp P a w next Q:=by
 have hv:VR φ (Own φ H) w (X.ev ts (.t t)) (a.eval (.tmp t)):=aq hr rfl
 simp only[HO.FW] at h
 split at h
 case h_2=>exact h.elim
 rename_i g A B he
 rw[he] at hv
 obtain ⟨⟨fn,c1,c2,c3⟩,h1⟩:=h
 obtain ⟨us,ws,e1,e2,e3⟩:=zb hv
 refine zE (vs:=us++args.map a.eval++ws) ?_ hR ?_ h1 hn hp
 ·simp only[execOp,ho,resolve,e1,Deferred.ofValue,invoke,Sem.run_bind,Sem.run_pure,Result.andThen_ok]
  rw[iW c1 c2 c3]
 ·have ha:=lY hr has
  have zF:∀{l m:List Z}{x y:List Value},Rt φ (Own φ H) w l x→Rt φ (Own φ H) w m y→Rt φ (Own φ H) w (l++m) (x++y):=by
   intro l
   induction l with
   | nil=>intro m x y h1 h2;simp only[Rt] at h1;subst h1;simpa using h2
   | cons q r ih =>
    intro m x y h1 h2
    obtain ⟨v,s,rfl,k1,k2,k3⟩:=h1
    exact ⟨v,s++y,rfl,k1,k2,ih k3 h2⟩
  simp only[Array.toList_append,Array.toList_map]
  exact zF (zF e2 ha) e3
theorem Rq{o:Oper}{f:FuncId}{args:Array Operand}{ats:Array TypeId}{dS:List X}(ho:o.op = .call { callee:=.value (.func f),args,argTypes:=ats })(hc:bA P f=true)(has:mA args=some dS):b8 P o (.call f dS):=by
 intro φ H w ts a hR hr K Kp h next Q hn hp
 obtain ⟨e,H',h1,h2⟩:=h
 unfold bA at hc
 split at hc
 case h_2=>simp at hc
 rename_i fn hf
 simp only[Bool.and_eq_true,Bool.not_eq_true',beq_eq_false_iff_ne] at hc
 refine CI (vs:=args.map a.eval) ?_ hR (by simpa using lY hr has) h1 h2 hn hp
 simp only[execOp,ho,resolve,Deferred.ofValue,Act.eval,invoke,Sem.run_bind,Sem.run_pure,Result.andThen_ok]
 rw[iW hf hc.1 hc.2]
 simp
theorem NR{o:Oper}{t:Tmp}{args:Array Operand}{ats:Array TypeId}{dS:List X}(ho:o.op = .call { callee:=.value (.tmp t),args,argTypes:=ats })(has:mA args=some dS):b8 P o (.bD (.t t) dS):=by
 intro φ H w ts a hR hr K Kp h next Q hn hp
 have hv:VR φ (Own φ H) w (X.ev ts (.t t)) (a.eval (.tmp t)):=aq hr rfl
 simp only[HO.aV] at h
 split at h
 case h_2=>exact h.elim
 rename_i g A B he
 rw[he] at hv
 obtain ⟨⟨fn,c1,c2,c3⟩,e,H',h1,h2⟩:=h
 obtain ⟨us,ws,e1,e2,e3⟩:=zb hv
 refine CI (vs:=us++args.map a.eval++ws) ?_ hR ?_ h1 h2 hn hp
 ·simp only[execOp,ho,resolve,e1,Deferred.ofValue,invoke,Sem.run_bind,Sem.run_pure,Result.andThen_ok]
  rw[iW c1 c2 c3]
 ·have ha:=lY hr has
  have zF:∀{l m:List Z}{x y:List Value},Rt φ (Own φ H) w l x→Rt φ (Own φ H) w m y→Rt φ (Own φ H) w (l++m) (x++y):=by
   intro l
   induction l with
   | nil=>intro m x y h1 h2;simp only[Rt] at h1;subst h1;simpa using h2
   | cons q r ih =>
    intro m x y h1 h2
    obtain ⟨v,s,rfl,k1,k2,k3⟩:=h1
    exact ⟨v,s++y,rfl,k1,k2,ih k3 h2⟩
  simp only[Array.toList_append,Array.toList_map]
  exact zF (zF e2 ha) e3
theorem Wj{o:Oper}{x:Operand}{x':X}(ho:o.op = .panic x)(hx:aU x=some x'):b8 P o (.bu x'):=by
 intro φ H w ts a hR hr K Kp h next Q hn hp
 have hv:=aq hr hx
 simp only[HO.aV] at h
 split at h
 case h_2=>exact h.elim
 rename_i t v he
 rw[he] at hv
 obtain ⟨u,h1,_⟩:=rY hv
 have hrun:(execOp a.eval o).run P w = .halt (.panic (a.eval x)) w:=by
  simp only[execOp,ho,h1,Instr.panic,Sem.run_bind,run_goPanic,Result.andThen_halt]
 unfold Oper.wp
 rw[hrun,Oper.upon_panic]
 exact hp _ _ _ _ _ h (qi.one hv) hR (Step.refl _ _ _)
theorem CJ{φ:aC}{O:Nat→Prop}{w:World}{b:Nat}:∀(l:List UInt8)(off:Nat),(∀j (h:j<l.length),b6 w b (off+j) 0=some (.int .u8 (l[j].toNat:Int)))→Rl φ O w b 1 (l.map fun b=>.sc (.int .u8 b.toNat)) off
 | [],_,_=>trivial
 | x::r,off,h=>by
  have h0:=h 0 (by simp)
  simp only[Nat.add_zero,List.getElem_cons_zero] at h0
  refine ⟨rfl,fun _=>⟨_,h0,rfl⟩,h0,CJ r (off+1) fun j hj=>?_⟩
  have:=h (j+1) (by simpa using hj)
  rw[show off+1+j=off+(j+1) from by omega]
  simpa using this
theorem Wk{o:Oper}{s d e:TypeId}{x:Operand}{x':X}(ho:o.op = .convert s d x)(hs:P.underlying s=some .string)(hd:P.underlying d=some (.slice e))(he:P.underlying e=some (.int .u8))(hx:aU x=some x'):b8 P o (.gx .Jf [x']):=by
 intro φ H w ts a hR hr K Kp h next Q hn ov
 have hv:=aq hr hx
 simp only[HO.aV,List.map_cons,List.map_nil] at h
 obtain ⟨h1,h2⟩:=h
 cases nN:X.ev ts x'<;>rw[nN] at h1 h2 hv<;>try exact False.elim h1
 rename_i v
 cases v<;>try exact False.elim h1
 rename_i str
 have h1:str.size≤100000000:=h1
 have hu:=bF hv
 have gen:∀(v:Value)(W1:World),(convert s d (.string str)).run P w = .ok v W1→(execOp a.eval o).run P w = .ok (.value v) W1:=fun v W1 h=>by
  unfold execOp
  simp only[ho,hu,Sem.run_bind,h,Result.andThen_ok,Sem.run_pure]
 have hrun:=gen _ _ (run_bytes_of_string w s d e str hs hd he)
 have hsz:(bt str).length=str.size:=by
  unfold bt
  rw[List.length_map,Array.length_toList]
  rfl
 have hge:=grownCap_ge w str.size 0 e
 have hle:=grownCap_le_maxLen w str.size 0 e (by unfold maxLen;omega)
 generalize hrow:bytesRow str (grownCap w str.size 0 e)=row at hrun
 have hheap:(w.drew.alloc (.cells row e (row.size,row.size+1))).heap[w.heap.size]? = some (.cells row e (row.size,row.size+1)):=heap_alloc_new w.drew _
 have hold:∀b,b<w.heap.size→(w.drew.alloc (.cells row e (row.size,row.size+1))).heap[b]? = w.heap[b]?:=fun b hb=>Below.heap_alloc w.drew _ b hb
 have hsize:(w.drew.alloc (.cells row e (row.size,row.size+1))).heap.size=w.heap.size+1:=World.size_alloc w.drew _
 refine aG hrun (hn _ _ φ H _ h2 ?_ (hR.grow (by omega) hold) (grow_step rfl rfl rfl (by omega) hold))
 have hno:¬Own φ H w.heap.size:=fun ⟨id,blk,g1,_⟩=>by have:=(hR.dom id _ g1).2;omega
 refine ⟨rfl,some ⟨w.heap.size,0,none⟩,grownCap w str.size 0 e,by rw[hsz];rfl,by rw[hsz];exact hge,hle,fun h=>by simp at h,fun _=>⟨w.heap.size,0,rfl,hno,by omega,?_⟩,trivial⟩
 refine CJ str.data.toList 0 fun j hj=>?_
 have hj':j<str.data.size:=by simpa using hj
 rw[ew hheap,←hrow]
 have:=bytesRow_at str (grownCap w str.size 0 e) j hj'
 simpa using this
theorem Wl{o:Oper}{t e:TypeId}{x:Operand}{x':X}{args:Array Operand}{ats:Array TypeId}(ho:o.op = .call { callee:=.builtin .cap,args,argTypes:=ats })(ha:args.toList=[x])(df:ats.toList=[t])(ht:P.underlying t=some (.slice e))(hx:aU x=some x'):b8 P o (.gx .cap [x']):=by
 intro φ H w ts a hR hr K Kp h next Q hn ov
 obtain rfl:args=#[x]:=by apply Array.toList_inj.1;simpa using ha
 obtain rfl:ats=#[t]:=by apply Array.toList_inj.1;simpa using df
 have hv:=aq hr hx
 have hex:∀{r:Value}{w':World},(Builtin.cap_ #[t] o.type #[a.eval x]).run P w = .ok r w'→(execOp a.eval o).run P w = .ok (.value r) w':=by
  intro r w' h1
  simp only[execOp,ho,resolve,invoke,builtin,Sem.run_bind,Sem.run_pure,Result.andThen_ok,List.map_toArray,List.map_cons,List.map_nil,h1]
 have hcap:∀(ad:Option Addr)(n c:Nat),a.eval x = .slice ad n c→(Builtin.cap_ #[t] o.type #[a.eval x]).run P w = .ok (.int .i64 c) w:=fun ad n c e=>by
  rw[e]
  simp[Builtin.cap_,run_underlying ht,goInt]
 simp only[HO.aV,List.map_cons,List.map_nil] at h
 obtain ⟨h1,h2⟩:=h
 cases nN:X.ev ts x'<;>rw[nN] at h1 h2 hv<;>try exact False.elim h1
 ·rename_i k xs room
  cases room with
  | none=>exact h1.elim
  | some ys =>
   obtain ⟨ad,e1,_⟩:=Cv hv
   exact aG (hex (hcap _ _ _ e1)) (hn _ _ φ H w h2 (cF rfl) hR (Step.refl _ _ _))
 ·rename_i k id off n c
  cases c with
  | none=>exact h1.elim
  | some c =>
   obtain ⟨b,c',cur,e0,fr,_,e1,_,_,e2,_⟩:=eV hv
   have:=e2 c rfl
   subst this
   exact aG (hex (hcap _ _ _ e1)) (hn _ _ φ H w h2 (cF rfl) hR (Step.refl _ _ _))
theorem Jq {fn : Func} (hn : fn.name = "internal/bytealg.IndexByteString") : Extern.find fn = some Extern.BytealgIndexByte.indexByte := by
 unfold Extern.find
 rw[hn]
 have h1 : Extern.allGenericRows.lookup "internal/bytealg.IndexByteString" = none := by kernel_rfl
 have h2 : Extern.allTypedRows.lookup "internal/bytealg.IndexByteString" = none := by kernel_rfl
 have h3 : Extern.allRows.lookup "internal/bytealg.IndexByteString" = some Extern.BytealgIndexByte.indexByte := by kernel_rfl
 simp only[h1,h2,h3]
 rfl
theorem NS {fn : Func} (hn : fn.origin = "slices.overlaps") (g1 : Extern.allGenericRows.lookup fn.name = none) (g2 : Extern.allTypedRows.lookup fn.name = none) (g3 : Extern.allRows.lookup fn.name = none) : Extern.find fn = some (Extern.SlicesOverlaps.overlaps fn.params fn.resultTypes) := by
 unfold Extern.find
 have h1 : Extern.allGenericRows.lookup "slices.overlaps" = none := by kernel_rfl
 have h2 : Extern.allTypedRows.lookup "slices.overlaps" = some Extern.SlicesOverlaps.overlaps := by kernel_rfl
 simp only[g1,g2,g3,hn,h1,h2]
 rfl
theorem qJ{o:Oper}{f:FuncId}{args:Array Operand}{ats:Array TypeId}{fn:Func}{e:Array Value→Sem Value}{a:Act}{w w':World}{v:Value}(ho:o.op = .call { callee:=.value (.func f),args,argTypes:=ats })(hf:P.funcs[f]? = some fn)(hx:zl fn=true)(he:Extern.find fn=some e)
  (hv:(e (args.map a.eval)).run P w = .ok v w'):(execOp a.eval o).run P w = .ok (.value v) w':=by
 simp only[zl,Bool.and_eq_true,Bool.not_eq_true',Option.isNone_iff_eq_none] at hx
 have:=run_callFunc_extern (P:=P) hf hx.1.2 (by simp[hx.1.1]) hx.2 he (args.map a.eval) w
 rw[hv] at this
 simp only[Result.andThen_ok] at this
 simp only[execOp,ho,resolve,Deferred.ofValue,Act.eval,invoke,Sem.run_bind,Sem.run_pure,Result.andThen_ok,Array.append_empty,Array.empty_append]
 simpa using this
theorem Ea {fn : Func} (hn : fn.name = "maps.clone") : Extern.find fn = some Extern.MapsClone.clone := by
 unfold Extern.find
 rw[hn]
 have h1 : Extern.allGenericRows.lookup "maps.clone" = none := by kernel_rfl
 have h2 : Extern.allTypedRows.lookup "maps.clone" = none := by kernel_rfl
 have h3 : Extern.allRows.lookup "maps.clone" = some Extern.MapsClone.clone := by kernel_rfl
 simp only[h1,h2,h3]
 rfl
theorem Jr{H:Y}{l:List Z}(h:GX.ok H .r7 l):∃t id j,l=[.dK t (.ptr 0 id j 0)]∧qE H id fun _=>True:=by
 match l,h with
 | [.dK t (.ptr 0 id j 0)],h=>exact ⟨t,id,j,rfl,h⟩
theorem Rr{H:Y}{l:List Z}(h:GX.ok H .zh l):∃s c,l=[.sc (.string s),.sc (.int .u8 c)]:=by
 unfold GX.ok at h
 split at h<;>simp_all
theorem Wm{H:Y}{l:List Z}(h:GX.ok H .Jg l):∃k x xs r k2 id off n c blk,l=[.ak k (x::xs) r,.aB k2 id off n c]∧Y.find H id=some blk∧0<k:=by
 match l,h with
 | [.ak k (x::xs) r,.aB k2 id off n c],h =>
  simp only[GX.ok] at h
  split at h
  ·rename_i blk hf;exact ⟨_,_,_,_,_,_,_,_,_,blk,rfl,hf,h⟩
  ·exact h.elim
theorem Ru{φ:aC}{H:Y}{w:World}(hR:Rel φ H w){k:Nat}{x:Z}{xs:List Z}{r:Option (List Z)}{k2 id off n:Nat}{c:Option Nat}{blk:aD}{u v:Value}(hu:VR φ (Own φ H) w (.ak k (x::xs) r) u)(hv:VR φ (Own φ H) w (.aB k2 id off n c) v)(hf:Y.find H id=some blk)(hk:0<k)
  {t e:TypeId}{inf:TypeInfo}{ps rs:Array TypeId}(hp:ps[0]? = some t)(ht:P.underlying t=some (.slice e))(hi:P.info? e=some inf):(Extern.SlicesOverlaps.overlaps ps rs #[u,v]).run P w = .ok (.bool false) w:=by
 obtain ⟨ad,cu,rfl,c1,c2,c3,c4,c5⟩:=eU hu
 obtain ⟨b,off',rfl,ho,hb,h1,h2,h3,h4⟩:=c4 (by simp)
 obtain ⟨b2,c',cur,e',fr,v1,rfl,v3,v4,v5,v6,v7⟩:=eV hv
 obtain ⟨_,ow,cap,a1,a2,a3,a4,a5,a6⟩:=(hR.blk id b2 blk v1 hf).gC v6
 have hne:b≠b2:=fun e=>ho (e▸⟨id,blk,v1,hf⟩)
 have hcell:∃q,w.cell? ⟨b,off',none⟩=some q:=by
  cases hx:x.isAgg with
  | false=>obtain ⟨q,hq,_⟩:=h2 hx;exact ⟨q,by simpa [b6] using hq⟩
  | true =>
   cases x<;>simp[Z.isAgg] at hx
   rename_i cs
   cases cs with
   | nil=>simp[Z.an] at h1;omega
   | cons y ys =>
    obtain ⟨_,_,⟨q,hq,_⟩,_⟩:=h3
    exact ⟨q,by simpa [b6] using hq⟩
 obtain ⟨q,hq⟩:=hcell
 unfold World.cell? at hq
 split at hq
 case h_2=>simp at hq
 rename_i cc ec frc hbc
 have hsz:cc.size≠0:=by
  intro h0
  have:cc=#[]:=Array.eq_empty_of_size_eq_zero h0
  subst this
  simp at hq
 have Js:w.shape? b=some (ec,cc.size):=by simp[World.shape?,hbc]
 have NT:w.shape? b2=some (blk.ty,ow.size):=by simp[World.shape?,a1]
 have hfb:∀o,w.frozen? ⟨b2,o,none⟩=false:=fun o=>by simp[World.frozen?,a1]
 obtain ⟨kA,hkA⟩:∃kA,cc.size=kA+1:=⟨cc.size - 1,by omega⟩
 rw[hkA] at Js
 have hnb:(b != b2)=true:=by simpa using hne
 have abZ:(b == b2)=false:=by simpa using hne
 change Sem.run P (α:=Value) (do
  let some t := ps[0]? | stuck "slices.overlaps: no parameter types"
  let .slice elem ← underlying t | stuck "slices.overlaps: slice type expected"
  let size ←sizeOf elem
  match (some ⟨b,off',none⟩:Option Addr),(some ⟨b2,off*k2,none⟩:Option Addr) with
  | some a,some b =>
   if xs.length+1=0∨n=0∨size=0 then pure (Value.bool false)
   else if a.block != b.block && (←frozen a) && (←frozen b) then unsupported .addressObserved
   else do
    if a.block != b.block then do
     noView a;noView b
     if ← mayBeOne a b then return Value.bool ((← choose (.extern "sameAddr.stringBytes" 2)) == 1)
    pure (Value.bool (a.block == b.block && a.off<b.off+n*size && b.off<a.off+(xs.length+1)*size))
  | _,_=>pure (Value.bool false)) w=_
 simp only[hp]
 by_cases hn0:n=0
 ·simp[run_underlying ht,sizeOf,typeInfo,hi,hn0]
 by_cases hs0:inf.size=0
 ·simp[run_underlying ht,sizeOf,typeInfo,hi,hs0]
 cases hfa:w.frozen? ⟨b,off',none⟩<;>cases ab0:w.frozen? ⟨b,kA+1,none⟩ <;>
  simp[run_underlying ht,sizeOf,typeInfo,hi,hn0,hs0,hnb,abZ,hne,frozen,noView,viewAt,mayBeOne,stringish,shape,Sem.run,Js,NT,hfa,ab0,hfb]
theorem Wn{o:Oper}{f:FuncId}{args:Array Operand}{ats:Array TypeId}{q:HO}(ho:o.op = .call { callee:=.value (.func f),args,argTypes:=ats })(hq:xK P f args=some q):b8 P o q:=by
 unfold xK at hq
 split at hq
 case h_2=>simp at hq
 rename_i fn xs hf hxs
 split at hq
 case isFalse=>simp at hq
 rename_i hx
 intro φ H w ts a hR hr K Kp h next Q hn ov
 have qK:=lY hr (l:=args.toList) hxs
 have hvs:args.map a.eval=(args.toList.map a.eval).toArray:=by rw[←Array.toList_map]
 split at hq
 ·rename_i hnm
  cases hq
  simp only[HO.aV] at h
  obtain ⟨h1,h2⟩:=h
  obtain ⟨s,c,hl⟩:=Rr h1
  rw[hl] at qK h2
  obtain ⟨u1,r1,e1,o1,p1,u2,r2,e2,o2,p2,e3⟩:=qK
  simp only[Rt] at e3
  subst e3
  have q1:=bF (⟨o1,p1⟩:VR φ (Own φ H) w _ u1)
  have q2:=bF (⟨o2,p2⟩:VR φ (Own φ H) w _ u2)
  refine aG (qJ ho hf hx (Jq hnm) ?_) (hn _ _ φ H w h2 (cF rfl) hR (Step.refl _ _ _))
  rw[hvs,e1,e2,q1,q2]
  exact run_indexByte_string s c w
 split at hq
 case isFalse =>
  split at hq
  case isFalse=>simp at hq
  rename_i hnm
  cases hq
  simp only[HO.aV] at h
  obtain ⟨h1,h2⟩:=h
  obtain ⟨t,id,j,hl,hm⟩:=Jr h1
  rw[hl] at qK h2
  obtain ⟨u1,r1,e1,o1,p1,e3⟩:=qK
  simp only[Rt] at e3
  subst e3
  obtain ⟨y,q1,q2⟩:=rY (⟨o1,p1⟩:VR φ (Own φ H) w _ u1)
  obtain ⟨b,blk,bz,clock,D8,m1,m2,m3,m4,m5,m6,m7,m8,m9⟩:=qI hR q2 rfl hm
  obtain ⟨wc,k9⟩:=hR.Mj ⟨0,blk.es,true,0⟩ (.map bz clock) (fun hl=>.inr (.inl ⟨rfl,rfl,bz,clock,(MapKept.heap_alloc w _).1,m7,m8,jZ hl (Z.b7 _) m9⟩))
  have h2:K (.dK t (.ptr 0 H.length 0 0)) (some ⟨0,blk.es,true,0⟩::H):=by
   have wg:K (.dK t (.ptr 0 H.length 0 0)) (some ⟨0,j5 H id,true,0⟩::H):=h2
   rwa [m5] at wg
  refine aG (qJ (v:=.iface t (.map (some w.heap.size))) ho hf hx (Ea hnm) ?_) (hn _ _ _ _ _ h2 ⟨rfl,_,rfl,rfl,w.heap.size,by simp[aC.add],rfl⟩ wc k9)
  rw[hvs,e1,q1,D8]
  refine Eq.trans (b:=((do
   let o ←getObj b
   match o with
   | .map entries clock=>pure (.iface t (.map (some (←newObj (.map entries clock)))))
   | _ => stuck "maps.clone: a map expected") : Sem Value).run P w) rfl ?_
  simp only[Sem.run_bind,MapKept.run_getObj_map m6,Result.andThen_ok,run_newObj,Sem.run_pure]
  rfl
 rename_i hov
 cases hq
 simp only[Q0,Bool.and_eq_true,beq_iff_eq,Option.isNone_iff_eq_none] at hov
 obtain ⟨⟨⟨⟨g0,g1⟩,g2⟩,g3⟩,g4⟩:=hov
 split at g4
 case h_2=>simp at g4
 rename_i t tr th
 split at g4
 case h_2=>simp at g4
 rename_i e ht
 obtain ⟨inf,hi⟩:=Option.isSome_iff_exists.1 g4
 simp only[HO.aV] at h
 obtain ⟨h1,h2⟩:=h
 obtain ⟨k,x,ys,r,k2,id,off,n,c,blk,hl,NU,hk⟩:=Wm h1
 rw[hl] at qK h2
 obtain ⟨u1,r1,e1,o1,p1,u2,r2,e2,o2,p2,e3⟩:=qK
 simp only[Rt] at e3
 subst e3
 have sE:fn.params[0]? = some t:=by rw[←Array.getElem?_toList,th];rfl
 refine aG (qJ ho hf hx (NS g0 g1 g2 g3) ?_) (hn _ _ φ H w h2 (cF rfl) hR (Step.refl _ _ _))
 rw[hvs,e1,e2]
 exact Ru hR ⟨o1,p1⟩ ⟨o2,p2⟩ NU hk sE ht hi
theorem CL{s x:Operand}{t t':TypeId}{q:HO}(h:tc P s x t t'=some q):∃g xs,q = .gx g xs:=by
 unfold tc at h
 repeat' split at h
 all_goals first | (simp at h;done) | (cases h;exact ⟨_,_,rfl⟩)
theorem ox{p:Op}{q:HO}(h:zm P p=some q):∃g xs,q = .gx g xs:=by
 unfold zm at h
 repeat' split at h
 all_goals first | (simp at h;done) | (cases h;exact ⟨_,_,rfl⟩) | (rw[Option.map_eq_some_iff] at h;obtain ⟨_,_,rfl⟩:=h;exact ⟨_,_,rfl⟩)
theorem FX{f:FuncId}{args:Array Operand}{q:HO}(h:xK P f args=some q):∃g xs,q = .gx g xs:=by
 unfold xK at h
 repeat' split at h
 all_goals first | (simp at h;done) | (cases h;exact ⟨_,_,rfl⟩)
theorem Mn{r:List (Option IntKind)}:∀{xs ys:List Z},lW (none::r) xs ys→∃a xs' b ys',xs = .sc (.string a)::xs'∧ys = .sc (.string b)::ys'∧lW r xs' ys':=by
 intro xs ys h
 unfold lW at h
 split at h<;>first | exact h.elim | skip
 ·rename_i e;cases e
 ·rename_i e;cases e;exact ⟨_,_,_,_,rfl,rfl,h⟩
 ·rename_i e;cases e
theorem Eb{r:List (Option IntKind)}{k:IntKind}:∀{xs ys:List Z},lW (some k::r) xs ys→∃a xs' b ys',xs = .sc (.int k a)::xs'∧ys = .sc (.int k b)::ys'∧lW r xs' ys':=by
 intro xs ys h
 unfold lW at h
 split at h<;>first | exact h.elim | skip
 ·rename_i e;cases e
 ·rename_i e;cases e
 ·rename_i e;cases e;obtain ⟨⟨rfl,rfl⟩,h⟩:=h;exact ⟨_,_,_,_,rfl,rfl,h⟩
theorem Ec:∀{xs ys:List Z},lW [] xs ys→xs=[]∧ys=[]:=by
 intro xs ys h
 unfold lW at h
 split at h<;>first | exact h.elim | skip
 ·exact ⟨rfl,rfl⟩
 ·rename_i e;cases e
 ·rename_i e;cases e
theorem FY{w:World}{d:Nat}:∀{fs:List Field}{ks:List (Option IntKind)}{xs ys:List Z}{i:Nat}{us vs:Array Value},CB P i fs=some ks→lW ks xs ys→(∀j,j<xs.length→∃u,xs[j]? = some (.sc u)∧us[i+j]? = some u)→(∀j,j<ys.length→∃u,ys[j]? = some (.sc u)∧vs[i+j]? = some u)→
  (Op.eqFields (d+1) us vs fs).run P w = .ok (qD xs ys) w
 | [],ks,xs,ys,i,us,vs,hf,hk,hx,hy=>by
  simp only[CB,Option.some.injEq] at hf
  subst hf
  obtain ⟨rfl,rfl⟩:=Ec hk
  simp[Op.eqFields,qD]
 | f::r,ks,xs,ys,i,us,vs,hf,hk,hx,hy=>by
  unfold CB at hf
  split at hf
  case isFalse=>simp at hf
  rename_i hc
  obtain ⟨c1,c2,c3⟩:=hc
  have c1 : f.name ≠ "_" := by simpa using c1
  have hp:∀{cs:Array Value}{u:Value},cs[i]? = some u→(part f.type cs f.offset).run P w = .ok u w:=by
   intro cs u hu
   unfold eu at c3
   split at c3
   case h_2=>simp at c3
   rename_i dd ii h1 h2
   simp only[Option.some.injEq,Prod.mk.injEq] at c3
   unfold part
   simp[rX h1,c3.2,c2,hu]
  have go:∀{xs ys:List Z}{p q:Value}{ks':List (Option IntKind)}{b:Bool},CB P (i+1) r=some ks'→lW ks' xs ys→(∀j,j<(Z.sc p::xs).length→∃u,(Z.sc p::xs)[j]? = some (.sc u)∧us[i+j]? = some u)→(∀j,j<(Z.sc q::ys).length→∃u,(Z.sc q::ys)[j]? = some (.sc u)∧vs[i+j]? = some u)→
    (Op.equalIn (d+1) f.type p q).run P w = .ok b w→(Op.eqFields (d+1) us vs (f::r)).run P w = .ok (b && qD xs ys) w:=by
   intro xs ys p q ks' b h2 hk hx hy hb
   obtain ⟨u,e1,e2⟩:=hx 0 (by simp)
   obtain ⟨v,e3,e4⟩:=hy 0 (by simp)
   simp at e1 e3
   subst e1
   subst e3
   have ih:=FY (w:=w) (d:=d) (us:=us) (vs:=vs) h2 hk (fun j hj=>by
    obtain ⟨u,g1,g2⟩:=hx (j+1) (by simpa using hj)
    exact ⟨u,by simpa using g1,by rw[←g2];congr 1;omega⟩) (fun j hj=>by
    obtain ⟨u,g1,g2⟩:=hy (j+1) (by simpa using hj)
    exact ⟨u,by simpa using g1,by rw[←g2];congr 1;omega⟩)
   have zG : (f.name ≠ "_") = True := eq_true c1
   simp only[Op.eqFields,zG,if_true,Sem.run_bind,hp (by simpa using e2),hp (by simpa using e4),Result.andThen_ok,hb]
   cases b<;>simp[ih]
  split at hf
  ·rename_i ks' h1 h2
   cases hf
   obtain ⟨a,xs',b,ys',rfl,rfl,hk⟩:=Mn hk
   simp only[qD]
   exact go h2 hk hx hy (by rw[run_equalIn_string w d _ _ _ h1,beq_toListBytes])
  ·rename_i k ks' h1 h2
   cases hf
   obtain ⟨a,xs',b,ys',rfl,rfl,fB⟩:=Eb hk
   simp only[qD]
   exact go h2 fB hx hy (run_equalIn_int w d _ _ _ _ _ h1)
  ·simp at hf
theorem oy:∀{ks:List (Option IntKind)}{xs ys:List Z},lW ks xs ys→(∀x∈xs,∃u,x = .sc u)∧(∀x∈ys,∃u,x = .sc u)
 | [],_,_,h=>by obtain ⟨rfl,rfl⟩:=Ec h;simp
 | none::r,_,_,h=>by
  obtain ⟨a,xs',b,ys',rfl,rfl,hk⟩:=Mn h
  have ih:=oy hk
  exact ⟨fun x hx=>by rcases List.mem_cons.1 hx with rfl | hx;exact ⟨_,rfl⟩;exact ih.1 x hx,fun x hx=>by rcases List.mem_cons.1 hx with rfl | hx;exact ⟨_,rfl⟩;exact ih.2 x hx⟩
 | some k::r,_,_,h=>by
  obtain ⟨a,xs',b,ys',rfl,rfl,hk⟩:=Eb h
  have ih:=oy hk
  exact ⟨fun x hx=>by rcases List.mem_cons.1 hx with rfl | hx;exact ⟨_,rfl⟩;exact ih.1 x hx,fun x hx=>by rcases List.mem_cons.1 hx with rfl | hx;exact ⟨_,rfl⟩;exact ih.2 x hx⟩
theorem uC{φ:aC}{O:Nat→Prop}{w:World}{xs:List Z}{v:Value}(h:VR φ O w (.agg xs) v)(hs:∀x∈xs,∃u,x = .sc u):∃us,v = .agg us∧∀j,j<xs.length→∃u,xs[j]? = some (.sc u)∧us[0+j]? = some u:=by
 obtain ⟨us,rfl,h1,h2⟩:=y6 h
 refine ⟨us,rfl,fun j hj=>?_⟩
 obtain ⟨u,hu⟩:=hs _ (List.getElem_mem hj)
 have hx:xs[j]? = some (.sc u):=by rw[←hu];simp[hj]
 obtain ⟨a1,a2,_⟩:=yL h2 hx
 exact ⟨u,hx,by simpa [R] using a2⟩
theorem zH{w:World}{d:Nat}{e:TypeId}{k:IntKind}{us vs:Array Value}(he:P.underlying e=some (.int k))(hp:∀{cs:Array Value}{i:Nat}{u:Value},cs[i]? = some u→(part e cs i).run P w = .ok u w):∀(m i:Nat){xs ys:List Z},lW (List.replicate m (some k)) xs ys→
  (∀j,j<xs.length→∃u,xs[j]? = some (.sc u)∧us[i+j]? = some u)→(∀j,j<ys.length→∃u,ys[j]? = some (.sc u)∧vs[i+j]? = some u)→(Op.eqItems (d+1) e 1 us vs (List.range' i m)).run P w = .ok (qD xs ys) w
 | 0,i,xs,ys,hk,hx,hy=>by
  obtain ⟨rfl,rfl⟩:=Ec hk
  simp[Op.eqItems,qD]
 | m+1,i,xs,ys,hk,hx,hy=>by
  obtain ⟨a,xs',b,ys',rfl,rfl,hk'⟩:=Eb (r:=List.replicate m (some k)) hk
  obtain ⟨u,e1,e2⟩:=hx 0 (by simp)
  obtain ⟨v,e3,e4⟩:=hy 0 (by simp)
  simp at e1 e3
  subst e1
  subst e3
  rw[Nat.add_zero] at e2 e4
  have ih:=zH (d:=d) he hp m (i+1) hk' (fun j hj=>by
   obtain ⟨u,f1,f2⟩:=hx (j+1) (by simp;omega)
   exact ⟨u,by simpa using f1,by rw[show i+1+j=i+(j+1) by omega];exact f2⟩) (fun j hj=>by
   obtain ⟨u,f1,f2⟩:=hy (j+1) (by simp;omega)
   exact ⟨u,by simpa using f1,by rw[show i+1+j=i+(j+1) by omega];exact f2⟩)
  have hq:(Op.equalIn (d+1) e (.int k a) (.int k b)).run P w = .ok (a == b) w:=by
   simp[Op.equalIn,run_underlying he]
  simp only[List.range'_succ,Op.eqItems,Nat.mul_one,Sem.run_bind,hp e2,hp e4,hq,Result.andThen_ok]
  cases hab:(a == b)
  ·simp[qD,hab]
  ·simp[qD,hab,ih]
theorem Mo{o:Oper}{op:BinOp}{t ty:TypeId}{x y:Operand}{x' y':X}{pos:Bool}{ks:List (Option IntKind)}(ho:o.op = .binOp op t x y ty)(ht:Jl P t=some ks)(hop:op=if pos then .eql else .neq)(hx:aU x=some x')(hy:aU y=some y'):b8 P o (.gx (.oo pos ks) [x',y']):=by
 intro φ H w ts a hR hr K Kp h next Q hn ov
 have hv:=aq hr hx
 have hw:=aq hr hy
 simp only[HO.aV,List.map_cons,List.map_nil] at h
 obtain ⟨h1,h2⟩:=h
 cases nN:X.ev ts x'<;>rw[nN] at h1 h2 hv<;>try exact False.elim h1
 cases Rv:X.ev ts y'<;>rw[Rv] at h1 h2 hw<;>try exact False.elim h1
 rename_i xs ys
 have h1:lW ks xs ys:=h1
 unfold Jl at ht
 split at ht
 case h_3=>simp at ht
 case h_1 =>
  rename_i fs hs
  split at ht
  case isFalse=>simp at ht
  rename_i hc
  obtain ⟨hsi,hg⟩:=hc
  obtain ⟨us,e1,g1⟩:=uC hv (oy h1).1
  obtain ⟨vs,e2,g2⟩:=uC hw (oy h1).2
  have hfo:P.fieldsOf t=fs:=by simp[Program.fieldsOf,hs]
  have hrun:(Op.equalIn (9999+1) t (.agg us) (.agg vs)).run P w = .ok (qD xs ys) w:=by
   rw[run_equalIn_struct w 9999 t us vs (by rw[hfo];exact hs) hsi,hfo]
   exact FY (d:=9998) ht h1 g1 g2
  refine aG ?_ (hn _ _ φ H w h2 (cF rfl) hR (Step.refl _ _ _))
  cases pos<;>simp at hop<;>subst hop
  ·simp only[execOp,ho,e1,e2,Sem.run_bind,run_eqGuard_agg w _ _ _ _ _ _ hg,Result.andThen_ok,run_neq_struct,hrun,Bool.false_eq_true,if_false,Sem.run_pure]
  ·simp only[execOp,ho,e1,e2,Sem.run_bind,run_eqGuard_agg w _ _ _ _ _ _ hg,Result.andThen_ok,run_eql_struct,hrun,if_true,Sem.run_pure]
 case h_2 =>
  rename_i n e hs
  split at ht
  case isFalse=>simp at ht
  rename_i hc
  obtain ⟨hg,hz⟩:=hc
  split at ht
  case h_2=>simp at ht
  rename_i k he
  simp only[Option.some.injEq] at ht
  subst ht
  obtain ⟨us,e1,g1⟩:=uC hv (oy h1).1
  obtain ⟨vs,e2,g2⟩:=uC hw (oy h1).2
  unfold eu at hz
  split at hz
  case h_2=>simp at hz
  rename_i dd ii hu hi
  simp only[Option.some.injEq,Prod.mk.injEq] at hz
  have hc1:P.cellsOf e=1:=by simp[Program.cellsOf,hi,hz.1]
  have hrun:(Op.equalIn (9999+1) t (.agg us) (.agg vs)).run P w = .ok (qD xs ys) w:=by
   rw[Go.run_equalIn_array w 9999 us vs hs hi,hc1,List.range_eq_range']
   refine zH (d:=9998) he (fun {cs i u} NV=>?_) n 0 h1 g1 g2
   unfold part
   simp[rX hu,hz.2,NV]
  refine aG ?_ (hn _ _ φ H w h2 (cF rfl) hR (Step.refl _ _ _))
  cases pos<;>simp at hop<;>subst hop
  ·simp only[execOp,ho,e1,e2,Sem.run_bind,run_eqGuard_agg w _ _ _ _ _ _ hg,Result.andThen_ok,run_neq_struct,hrun,Bool.false_eq_true,if_false,Sem.run_pure]
  ·simp only[execOp,ho,e1,e2,Sem.run_bind,run_eqGuard_agg w _ _ _ _ _ _ hg,Result.andThen_ok,run_eql_struct,hrun,if_true,Sem.run_pure]
theorem Rx{o:Oper}{t tn e:TypeId}{kn:IntKind}{inf:TypeInfo}{z:Value}{za:Z}{s x:Operand}{s' x':X}{args:Array Operand}{ats:Array TypeId}(ho:o.op = .call { callee:=.builtin .append,args,argTypes:=ats })(ha:args.toList=[s,x])(df:ats.toList=[t,tn])
  (ht:P.underlying t=some (.slice e))(htn:P.underlying tn=some (.int kn))(hi:P.info? e=some inf)(hz:inf.zero=some z)(hc:ep z=some za)(hk:za.an=inf.size)(bV:0<inf.size)(hby:inf.bytes≤1000)(vZ:za.bO=false)(hs:aU s=some s')(hx:aU x=some x'):b8 P o (.gx (.nr inf.size e za) [s',x']):=by
 intro φ H w ts a hR hr K Kp h next Q hn ov
 obtain rfl:args=#[s,x]:=by apply Array.toList_inj.1;simpa using ha
 obtain rfl:ats=#[t,tn]:=by apply Array.toList_inj.1;simpa using df
 have hv:=aq hr hs
 have hw:=aq hr hx
 have hex:∀{r:Value}{w':World},(Builtin.append_ #[t,tn] o.type #[a.eval s,a.eval x]).run P w = .ok r w'→(execOp a.eval o).run P w = .ok (.value r) w':=by
  intro r w' h1
  simp only[execOp,ho,resolve,invoke,builtin,Sem.run_bind,Sem.run_pure,Result.andThen_ok,List.map_toArray,List.map_cons,List.map_nil,h1]
 simp only[HO.aV,List.map_cons,List.map_nil] at h
 obtain ⟨h1,h2⟩:=h
 cases nN:X.ev ts s'<;>rw[nN] at h1 h2 hv<;>try exact False.elim h1
 ·rename_i k xs room
  cases xs with
  | cons x r=>exact False.elim h1
  | nil =>
  cases room with
  | none=>exact False.elim h1
  | some ys =>
  cases ys with
  | cons y s=>exact False.elim h1
  | nil =>
  cases Rv:X.ev ts x'<;>rw[Rv] at h1 h2 hw<;>try exact False.elim h1
  rename_i u
  cases u<;>try exact False.elim h1
  rename_i kq m
  obtain ⟨hm0,Ed⟩:=h1
  obtain ⟨m',rfl⟩:∃m':Nat,m=m':=⟨m.toNat,by omega⟩
  obtain ⟨ad,c,vU,_,_,_,_,c5⟩:=eU hv
  have hc0:c=0:=by have:=c5.1;simpa using this
  subst hc0
  have qg:VR φ (Own φ H) w za z:=dn hc
  have hzs:=eW qg vZ
  rw[hk] at hzs
  have hold:(Builtin.firstCells inf.size 0 (.slice ad 0 0)).run P w.drew = .ok ([]:List Value).toArray w.drew:=by
   cases ad with
   | none=>rfl
   | some ad=>exact run_firstCells_some w.drew inf.size 0 ad 0 0 [] (by simp) fun j u hj=>by simp at hj
  have hmb:m'*inf.bytes≤100000000*1000:=Nat.mul_le_mul (by omega) hby
  have BR:=Go.Lib.run_append_grow_zeros (P:=P) w t tn o.type e inf z kq kn ht htn hi hz ad 0 0 [] hold m' (by omega) bV (by omega) (by omega) (by omega) (growslice_fits (by omega) (by simpa using (show m'*inf.bytes≤_ from by omega)))
  rw[Nat.zero_add] at BR
  have hge:=grownCap_ge w m' 0 e
  have hle:=grownCap_le_maxLen w m' 0 e (by unfold maxLen;omega)
  generalize hcap:grownCap w m' 0 e=cap at BR hge hle
  generalize jE:([]:List Value).toArray++Builtin.zeroCells z.cells m'++Builtin.zeroCells z.cells (cap - m')=arr at BR
  have hsz:arr.size=cap*inf.size:=by
   rw[←jE]
   simp only[Array.size_append,List.size_toArray,List.length_nil,Nat.zero_add,size_zeroCells,hzs,←Nat.add_mul]
   congr 1;omega
  have hal:=(mo hR).alloc ⟨inf.size,[],false,e⟩ bV arr cap hsz (Nat.zero_le _) (fun h=>by simp at h) hle (fun x hx=>by simp at hx) trivial
  have fB:K (.aB inf.size H.length 0 m' none) (some ⟨inf.size,[],false,e⟩::H):=by
   simpa [GX.val,GX.heap] using h2
  refine aG (hex (by rw[vU,bF hw];exact BR)) (hn _ _ _ _ _ fB ?_ hal.1 ((fO φ H w).trans hal.2))
  exact ⟨rfl,w.heap.size,cap,arr,e,(0,0),by simp[aC.add],by simp[dZ,Value.cells],hge,hle,fun m hm=>by simp at hm,heap_alloc_new w.drew _,by simpa using hsz⟩
 rename_i k' id off n c
 cases c with
 | none=>exact h1.elim
 | some c =>
 cases Rv:X.ev ts x'<;>rw[Rv] at h1 h2 hw<;>try exact False.elim h1
 rename_i u
 cases u<;>try exact False.elim h1
 rename_i kq m
 simp only[GX.ok] at h1
 split at h1
 case h_2=>exact h1.elim
 rename_i blk hf
 obtain ⟨⟨rfl,hbk,rfl,hn0⟩,hm0,hcm,Ed⟩:=h1
 obtain ⟨b,c',cur,e',fr,v1,v2,v3,v4,v5,v6,v7⟩:=eV hv
 have fw:=v5 c rfl
 subst fw
 have hsrc:Src φ (Own φ H) w inf.size (blk.es.take n) (a.eval s):=by
  have:=Src.r6 hR hv hf hbk (by omega)
  rwa [List.drop_zero] at this
 obtain ⟨a2,c2,olds,e1,o2,o3,o4,o5,o6⟩:=hsrc.ex
 have hl:(blk.es.take n).length=n:=by simp;omega
 rw[hl] at e1 o2
 rw[v2] at e1
 cases e1
 obtain ⟨m',rfl⟩:∃m':Nat,m=m':=⟨m.toNat,by omega⟩
 have qg:VR φ (Own φ H) w za z:=dn hc
 have hzs:=eW qg vZ
 rw[hk] at hzs
 have ol:olds.length=n*inf.size:=o2
 have hold:(Builtin.firstCells inf.size n (.slice (some ⟨b,0*inf.size,none⟩) n c')).run P w.drew = .ok olds.toArray w.drew:=by
  refine run_firstCells_some w.drew inf.size n ⟨b,0*inf.size,none⟩ n c' olds ol fun j u hj=>?_
  have hp:0<(blk.es.take n).length:=by
   rcases Nat.eq_zero_or_pos (blk.es.take n).length with h | h
   ·rw[hl] at h
    rw[h,Nat.zero_mul] at ol
    have:olds=[]:=List.length_eq_zero_iff.1 ol
    subst this
    simp at hj
   ·exact h
  obtain ⟨ad',h,h'⟩:=o6 hp
  cases h
  exact h' j u hj
 have hbytes:(n+m')*inf.bytes≤100000000*1000:=Nat.mul_le_mul (by omega) hby
 have hmb:m'*inf.bytes≤(n+m')*inf.bytes:=Nat.mul_le_mul_right _ (by omega)
 have BR:=Go.Lib.run_append_grow_zeros (P:=P) w t tn o.type e inf z kq kn ht htn hi hz (some ⟨b,0*inf.size,none⟩) n c' olds hold m' (by omega) bV (by omega) (by omega) (by omega) (growslice_fits (by omega) (by omega))
 have hge:=grownCap_ge w (n+m') c' e
 have hle:=grownCap_le_maxLen w (n+m') c' e (by unfold maxLen;omega)
 generalize hcap:grownCap w (n+m') c' e=cap at BR hge hle
 generalize jE:olds.toArray++Builtin.zeroCells z.cells m'++Builtin.zeroCells z.cells (cap - (n+m'))=arr at BR
 have hsz:arr.size=cap*inf.size:=by
  rw[←jE]
  simp only[Array.size_append,List.size_toArray,size_zeroCells,hzs,ol,←Nat.add_mul]
  congr 1;omega
 have QV:=mo hR
 have hnc:∀x∈blk.es.take n++List.replicate m' za,x.an=inf.size:=fun x hx=>by
  rcases List.mem_append.1 hx with h | h
  ·exact o3 x h
  ·rw[List.eq_of_mem_replicate h];exact hk
 have QW:Rs φ (Own φ H) w.drew (flat (blk.es.take n++List.replicate m' za)) (fun i=>arr[i]?):=by
  have hlt:Later (fun _=>True) φ φ (Own φ H) (Own φ H) w w.drew:=(fO φ H w).toLater
  refine gf hlt _ _ _ (Z.b7 _) (fun i v hv=>hv) ?_
  rw[dg]
  have o9:(flat (blk.es.take n)).length=n*inf.size:=by rw[cC o3,hl]
  refine cQ (bK (fun i hi=>?_) o4) (iV (zc:=z.cells) (qv qg vZ) hk bV m' _ (fun j hj=>?_))
  ·rw[←jE,Array.getElem?_append_left (by simp;omega),Array.getElem?_append_left (by simp;omega)]
   simp
  ·rw[←jE,o9,Array.getElem?_append_left (by simp only[Array.size_append,List.size_toArray,size_zeroCells,hzs,ol];omega),Array.getElem?_append_right (by simp only[List.size_toArray,ol];omega)]
   simp only[List.size_toArray,ol,Nat.add_sub_cancel_left,Builtin.zeroCells]
   rw[hzs]
   have:=pb hzs bV hj
   rwa [hzs] at this
 have hal:=QV.alloc ⟨inf.size,blk.es.take n++List.replicate m' za,false,e⟩ (by assumption) arr cap hsz (by simp;omega) (fun h=>by simp at h) hle hnc QW
 have fB:K (.aB inf.size H.length 0 (n+m') none) (some ⟨inf.size,blk.es.take n++List.replicate m' za,false,e⟩::H):=by
  simpa [GX.val,GX.heap,hf] using h2
 refine aG (hex (by rw[v2,bF hw];exact BR)) (hn _ _ _ _ _ fB ?_ hal.1 ((fO φ H w).trans hal.2))
 exact ⟨rfl,w.heap.size,cap,arr,e,(0,0),by simp[aC.add],by simp[dZ,Value.cells],hge,hle,fun m hm=>by simp at hm,heap_alloc_new w.drew _,by simpa using hsz⟩
theorem Ry{o:Oper}{t e:TypeId}{inf:TypeInfo}{d s:Operand}{d' s':X}{args:Array Operand}{ats:Array TypeId}(ho:o.op = .call { callee:=.builtin .copy,args,argTypes:=ats })(ha:args.toList=[d,s])(df:ats.toList=[t,t])
  (ht:P.underlying t=some (.slice e))(hi:P.info? e=some inf)(hz:0<inf.size)(hd:aU d=some d')(hs:aU s=some s'):b8 P o (.gx (.copy inf.size) [d',s']):=by
 intro φ H w ts a hR hr K Kp h next Q hn ov
 obtain rfl:args=#[d,s]:=by apply Array.toList_inj.1;simpa using ha
 obtain rfl:ats=#[t,t]:=by apply Array.toList_inj.1;simpa using df
 have hv:=aq hr hd
 have hw:=aq hr hs
 have hex:∀{r:Value}{w':World},(Builtin.copy_ #[t,t] o.type #[a.eval d,a.eval s]).run P w = .ok r w'→(execOp a.eval o).run P w = .ok (.value r) w':=by
  intro r w' h1
  simp only[execOp,ho,resolve,invoke,builtin,Sem.run_bind,Sem.run_pure,Result.andThen_ok,List.map_toArray,List.map_cons,List.map_nil,h1]
 simp only[HO.aV,List.map_cons,List.map_nil] at h
 obtain ⟨h1,h2⟩:=h
 have src:∀m,xJ H inf.size m (X.ev ts s')→m≤jk (X.ev ts s')∧∃ad c,a.eval s = .slice ad (jk (X.ev ts s')) c∧∃ys,ys=NB H m (X.ev ts s')∧ys.length=m∧∃news:List Value,news.length=m*inf.size∧(∀x∈ys,x.an=inf.size)∧Rs φ (Own φ H) w (flat ys) (fun i=>news[i]?)∧(∀u∈news,u.oneCell'=true)∧
   (0<m→∃aa,ad=some aa∧∀j u,news[j]? = some u→w.cell? (aa.add j)=some u):=by
  intro m hm
  have fin:∀{b off c:Nat}{ys:List Z},Rl φ (Own φ H) w b inf.size ys off→∃news:List Value,news.length=ys.length*inf.size∧(∀x∈ys,x.an=inf.size)∧Rs φ (Own φ H) w (flat ys) (fun i=>news[i]?)∧(∀u∈news,u.oneCell'=true)∧(0<ys.length→∀j u,news[j]? = some u→w.cell? ((⟨b,off,none⟩:Addr).add j)=some u):=by
   intro b off c ys hl
   obtain ⟨a2,c2,news,e1,n2,n3,n4,n5,n6⟩:=(Src.D4 (c:=c) hl).ex
   refine ⟨news,n2,n3,n4,n5,fun h0=>?_⟩
   obtain ⟨ad,e2,n7⟩:=n6 h0
   simp only[Value.slice.injEq] at e1
   rw[←e1.1] at e2
   cases e2
   exact n7
  cases Ee:X.ev ts s'<;>rw[Ee] at hm hw<;>try exact False.elim hm
  ·rename_i k xs room
   obtain ⟨hk,hl⟩:=hm
   obtain ⟨ad,c,g1,g2,g3,g4,g5,_⟩:=eU hw
   refine ⟨hl,ad,c,g1,xs.take m,rfl,by simp;omega,?_⟩
   by_cases h0:m=0
   ·subst h0
    exact ⟨[],by simp,by simp,trivial,by simp,fun h=>by omega⟩
   ·obtain ⟨b,off,rfl,g6,g7,g8⟩:=g5 (by omega)
    have Wo:k=inf.size:=hk.resolve_right h0
    subst Wo
    obtain ⟨news,n2,n3,n4,n5,n6⟩:=fin (c:=c) (gG (n:=m) g8)
    have Ed:(xs.take m).length=m:=by simp;omega
    rw[Ed] at n2 n6
    exact ⟨news,n2,n3,n4,n5,fun h=>⟨_,rfl,n6 h⟩⟩
  ·rename_i k id off n c
   simp only[xJ] at hm
   split at hm
   case h_2=>exact hm.elim
   rename_i blk hf
   obtain ⟨rfl,hbk,hmn,hmo⟩:=hm
   obtain ⟨b,c',cur,e0,fr,g1,g2,g3,g4,g5,g6,g7⟩:=eV hw
   refine ⟨hmn,_,_,g2,(blk.es.drop off).take m,by simp only[NB,hf],by simp;omega,?_⟩
   obtain ⟨_,ow,cap,k1,k2,k3,k4,k5,k6⟩:=(hR.blk id b blk g1 hf).gC g6
   have hl:=gG (n:=m) (iU (f:=off) k6)
   rw[hbk,Nat.zero_add] at hl
   obtain ⟨news,n2,n3,n4,n5,n6⟩:=fin (c:=0) hl
   have Ed:((blk.es.drop off).take m).length=m:=by simp;omega
   rw[Ed] at n2 n6
   exact ⟨news,n2,n3,n4,n5,fun h=>⟨_,rfl,n6 h⟩⟩
 have mC:∀(ad:Addr),(loadCells ad 0).run P w = .ok #[] w:=fun ad=>by simpa using run_loadCells_list (P:=P) w ad [] (fun j v h=>by simp at h)
 cases hde:X.ev ts d'<;>rw[hde] at h1 h2 hv<;>try exact False.elim h1
 ·rename_i k xs room
  cases xs with
  | cons x r=>exact h1.elim
  | nil =>
   obtain ⟨_,ad,c,e1,_⟩:=src 0 h1
   obtain ⟨bd,cd,e2,_⟩:=eU hv
   have hrun:(Builtin.copy_ #[t,t] o.type #[a.eval d,a.eval s]).run P w = .ok (.int .i64 0) w:=by
    rw[e1,e2]
    cases ad<;>cases bd<;>simp[Builtin.copy_,run_underlying ht,Builtin.lenOf,Builtin.firstCells,sizeOf,typeInfo,hi,storeCells,mC,goInt]
   have hval:GX.val H (.copy inf.size) [.ak k [] room,X.ev ts s'] = .sc (.int .i64 0):=by simp[GX.val,jk]
   rw[hval] at h2
   exact aG (hex hrun) (hn _ _ φ H w h2 (cF rfl) hR (Step.refl _ _ _))
 ·rename_i k id off n c
  have hY:Cy H inf.size (X.ev ts s') (.aB k id off n c):=h1
  simp only[Cy] at hY
  split at hY
  case h_2=>exact hY.elim
  rename_i blk hf
  obtain ⟨rfl,hbk,hoff,ab1,hsrc⟩:=hY
  obtain ⟨ad3,ad,cs,e1,ys,hys,mK,news,n2,n3,n4,n5,n6⟩:=src _ hsrc
  obtain ⟨b,c',YK,e0,fr0,g1,e2,g3,g4,g5,g6,g7⟩:=eV hv
  obtain ⟨bV,cur,cap,k1,k2,k3,k4,k5,k6⟩:=(hR.blk id b blk g1 hf).gC g6
  rw[k1] at g6
  simp only[Option.some.injEq,Obj.cells.injEq] at g6
  rw[←g6.1] at g7
  generalize hm:min (jk (X.ev ts s')) n=m at *
  have hmn:m≤n:=by omega
  have adY:off+c'=cap:=by
   have:(off+c')*blk.k=cap*blk.k:=by rw[←k2,g7,hbk]
   exact Nat.eq_of_mul_eq_mul_right (by omega) this
  have hroom:off+m≤cap:=by omega
  have hsz:inf.size=blk.k:=hbk.symm
  rw[hsz] at h2 n2 n3 e2 g7
  have hval:GX.val H (.copy blk.k) [.aB blk.k id off n c,X.ev ts s'] = .sc (.int .i64 (m:Nat)):=by
   show Z.sc (.int .i64 ((min (jk (X.ev ts s')) n:Nat):Int))=_
   rw[hm]
  rw[hval] at h2
  have hheap:GX.heap H (.copy blk.k) [.aB blk.k id off n c,X.ev ts s']=Y.set H id (some { blk with es:=blk.es.take off++ys++blk.es.drop (off+m) }):=by
   show Ji H (X.ev ts s') (.aB blk.k id off n c)=_
   simp only[Ji,hf,hm,hys]
  rw[hheap] at h2
  obtain ⟨f1,f2⟩:=mD k6
  have o9:(flat blk.es).length=blk.es.length*blk.k:=cC f1
  have hyk:∀x∈ys,x.an=blk.k:=n3
  have hyf:(flat ys).length=m*blk.k:=by rw[cC hyk,mK]
  have hnm:off*blk.k≤blk.es.length*blk.k:=Nat.mul_le_mul_right _ hoff
  have hcm:blk.es.length*blk.k≤cap*blk.k:=Nat.mul_le_mul_right _ k3
  have hnc:(off+m)*blk.k≤cap*blk.k:=Nat.mul_le_mul_right _ hroom
  have Rp:(off+m)*blk.k=off*blk.k+m*blk.k:=Nat.add_mul _ _ _
  have hst:=run_storeCells_at (P:=P) b (off*blk.k) blk.ty news 0 cur w k1 (by rw[n2,k2];omega) n5
  have hrun:(Builtin.copy_ #[t,t] o.type #[a.eval d,a.eval s]).run P w = .ok (.int .i64 (m:Nat)) (w.setRow b (cur.toList.take (off*blk.k+0)++news++cur.toList.drop (off*blk.k+0+news.length)).toArray):=by
   rw[e1,e2]
   have Rz:Nat.min (jk (X.ev ts s')) n=m:=hm
   by_cases h0:0<m
   ·obtain ⟨aa,rfl,hnews⟩:=n6 h0
    have vT:=run_loadCells_list (P:=P) w aa news hnews
    rw[n2] at vT
    simp[Builtin.copy_,run_underlying ht,Builtin.lenOf,Builtin.firstCells,sizeOf,typeInfo,hi,hsz,Rz,vT,hst,goInt]
   ·have h00:m=0:=by omega
    have hnil:news=[]:=List.length_eq_zero_iff.1 (by rw[n2,h00,Nat.zero_mul])
    subst hnil
    cases ad with
    | none=>simp[Builtin.copy_,run_underlying ht,Builtin.lenOf,Builtin.firstCells,sizeOf,typeInfo,hi,hsz,Rz,h00,hst,goInt]
    | some ad=>simp[Builtin.copy_,run_underlying ht,Builtin.lenOf,Builtin.firstCells,sizeOf,typeInfo,hi,hsz,Rz,h00,mC,hst,goInt]
  have zC:∀x∈blk.es.take off++ys++blk.es.drop (off+m),x.an=blk.k:=by
   intro x hx
   rcases List.mem_append.1 hx with hx | hx
   ·rcases List.mem_append.1 hx with hx | hx
    ·exact f1 x (List.mem_of_mem_take hx)
    ·exact hyk x hx
   ·exact f1 x (List.mem_of_mem_drop hx)
  have zq:flat (blk.es.take off++ys++blk.es.drop (off+m))=(flat blk.es).take (off*blk.k)++flat ys++(flat blk.es).drop (off*blk.k+m*blk.k):=by
   rw[dg,dg,mF f1,j4 f1,Rp]
  have zD:(blk.es.take off++ys++blk.es.drop (off+m)).length≤cap:=by simp;omega
  have fD:(cur.toList.take (off*blk.k)).length=off*blk.k:=by simp;omega
  have tj:((flat blk.es).take (off*blk.k)).length=off*blk.k:=by rw[List.length_take,o9];exact Nat.min_eq_left hnm
  have hwr:=hR.write bV g1 hf k1 k2 (blk.es.take off++ys++blk.es.drop (off+m)) (fL:=(cur.toList.take (off*blk.k+0)++news++cur.toList.drop (off*blk.k+0+news.length)).toArray) (by simp[n2];omega) zD k5 (fun hx=>by
    have h3:=k4 hx
    rcases ab1 with h4 | h4
    ·rw[hx] at h4;simp at h4
    ·simp;omega) zC (by
   rw[zq,Nat.add_zero]
   refine cQ (cQ (bK (fun q hq=>?_) (iR (n:=off*blk.k) f2)) (bK (fun q hq=>?_) n4)) (bK (fun q hq=>?_) (iQ (f:=off*blk.k+m*blk.k) f2))
   ·have fC:q<off*blk.k:=by rw[tj] at hq;exact hq
    simp only[List.getElem?_toArray]
    rw[List.append_assoc,List.getElem?_append_left (by omega),List.getElem?_take_of_lt fC,ew k1]
    simp
   ·have fC:q<m*blk.k:=by rw[hyf] at hq;exact hq
    rw[tj]
    simp only[List.getElem?_toArray]
    rw[List.getElem?_append_left (by rw[List.length_append,fD,n2];omega),List.getElem?_append_right (by omega),fD]
    congr 1
    omega
   ·have hl:((flat blk.es).take (off*blk.k)++flat ys).length=off*blk.k+m*blk.k:=by rw[List.length_append,tj,hyf]
    rw[hl]
    simp only[List.getElem?_toArray]
    have dz:(cur.toList.take (off*blk.k)++news).length=off*blk.k+m*blk.k:=by rw[List.length_append,fD,n2]
    rw[List.getElem?_append_right (by omega),dz,ew k1,n2]
    simp)
  exact aG (hex hrun) (hn _ _ φ _ _ h2 (cF rfl) hwr.1 hwr.2)
theorem BU{b:Bool}{o:Oper}{op:HO}(h:hJ P b o=some op):b8 P o op:=by
 unfold hJ at h
 split at h
 ·rename_i t x ho
  split at h<;>cases h
  exact Q1 ho (by assumption) (by assumption)
 ·rename_i t ho
  split at h
  case h_2=>simp at h
  rename_i z hz
  split at h
  case h_2=>simp at h
  rename_i z' hc
  split at h
  case isFalse=>simp at h
  rename_i ht
  cases h
  rw[Option.bind_eq_some_iff] at hz
  obtain ⟨i,h1,h2⟩:=hz
  exact ND ho h1 h2 hc ht.1 ht.2
 ·rename_i t x ho
  split at h
  case h_2=>simp at h
  split at h
  case isFalse=>simp at h
  cases h
  exact V5 (by assumption) ho (by assumption)
 ·rename_i t ln parts ho
  split at h
  case h_2=>simp at h
  rename_i e ht
  split at h
  case h_2=>simp at h
  rename_i i hi
  split at h
  case h_2=>simp at h
  rename_i z ps hz hps
  split at h
  case isFalse=>simp at h
  rename_i hc
  obtain ⟨c1,c2,c3,c4⟩:=hc
  cases h
  rw[Option.bind_eq_some_iff] at hz
  obtain ⟨zv,h1,h2⟩:=hz
  cases b with
  | true=>exact Q5 ho ht hi h1 h2 hps c1 c2 c3 c4
  | false=>exact V8 ho ht hi h1 h2 hps c1 c2 c3 c4
 ·rename_i t x y ho
  split at h<;>cases h
  exact NF ho (by assumption) (by assumption) (by assumption)
 ·rename_i t l c ho
  split at h
  case h_2=>simp at h
  rename_i e ht
  split at h
  case h_2=>simp at h
  rename_i i l' c' hi hl hc
  split at h
  case h_2=>simp at h
  rename_i z hz
  split at h
  case isFalse=>simp at h
  rename_i fw
  obtain ⟨c1,c2,c3,c4⟩:=fw
  cases h
  rw[Option.bind_eq_some_iff] at hz
  obtain ⟨zv,h1,h2⟩:=hz
  exact Q6 ho ht hi h1 h2 hl hc c1 c2 c3 c4
 ·rename_i args ats ho
  split at h
  case h_2=>simp at h
  rename_i s x t t' ha df
  split at h
  case isFalse =>
   unfold tc at h
   split at h
   case h_2=>simp at h
   rename_i e kn h1 h2
   split at h
   case h_2=>simp at h
   rename_i i s' x' h3 h4 h5
   split at h
   case h_2=>simp at h
   rename_i z h6
   split at h
   case isFalse=>simp at h
   rename_i fw
   obtain ⟨d1,d2,d3,d4⟩:=fw
   cases h
   rw[Option.bind_eq_some_iff] at h6
   obtain ⟨zv,f1,f2⟩:=h6
   exact Rx ho ha df h1 h2 h3 f1 f2 d1 d2 d3 d4 h4 h5
  rename_i hte
  subst hte
  split at h
  case h_2=>simp at h
  rename_i e ht
  split at h
  case h_2=>simp at h
  rename_i i s' x' hi hs hx
  split at h
  case h_2=>simp at h
  rename_i z hz
  split at h
  case isFalse=>simp at h
  rename_i fw
  cases h
  exact Wi ho ha df ht hi hz fw.1 fw.2.1 fw.2.2 hs hx
 ·rename_i f args ats ho
  split at h
  case isFalse=>exact Wn ho h
  rename_i hc
  rw[Option.map_eq_some_iff] at h
  obtain ⟨dS,h1,rfl⟩:=h
  exact Rq ho hc h1
 ·rename_i t args ats ho
  rw[Option.map_eq_some_iff] at h
  obtain ⟨dS,h1,rfl⟩:=h
  exact NR ho h1
 ·rename_i x ho
  rw[Option.map_eq_some_iff] at h
  obtain ⟨x',h1,rfl⟩:=h
  exact Wj ho h1
 ·rename_i s d x ho
  split at h
  case h_2=>simp at h
  rename_i e x' h1 h2 h3
  split at h
  case isFalse=>simp at h
  rename_i h4
  cases h
  exact Wk ho h1 h2 (y8 h4) h3
 ·rename_i args ats ho
  split at h
  case h_2=>simp at h
  rename_i x t ha df
  split at h
  case h_2=>simp at h
  rename_i e x' h1 h2
  cases h
  exact Wl ho ha df h1 h2
 ·rename_i args ats ho
  split at h
  case h_2=>simp at h
  rename_i d s t t' ha df
  split at h
  case isFalse=>simp at h
  rename_i hte
  subst hte
  split at h
  case h_2=>simp at h
  rename_i e ht
  split at h
  case h_2=>simp at h
  rename_i i d' s' hi hd hs
  split at h
  case isFalse=>simp at h
  rename_i hz
  cases h
  exact Ry ho ha df ht hi hz hd hs
 ·rename_i op t x y ty ho
  split at h
  case h_2=>simp at h
  rename_i ks x' y' h1 h2 h3
  split at h
  ·cases h
   exact Mo ho h1 rfl h2 h3
  ·cases h
   exact Mo ho h1 rfl h2 h3
  ·simp at h
 ·exact Wh rfl h
end
section
variable {P:Program}
theorem gL(s:ByteArray):(bt s).length=s.size:=by simp[bt]
theorem nQ{s:ByteArray}:∀x∈bt s,x.an=1:=by
 intro x hx
 simp only[bt,List.mem_map] at hx
 obtain ⟨b,_,rfl⟩:=hx
 rfl
theorem qM(s:ByteArray):flat (bt s)=bt s:=by
 unfold bt
 generalize s.data.toList=l
 induction l with
 | nil=>rfl
 | cons b r ih=>rw[List.map_cons,fq,ih];rfl
theorem wi{φ:aC}{O:Nat→Prop}{w:World}(s:ByteArray):Rs φ O w (bt s) (fun i=>(Lib.strCells s)[i]?):=by
 rw[Lib.strCells_eq]
 unfold bt Lib.byteCells
 generalize s.data.toList=l
 induction l with
 | nil=>trivial
 | cons b r ih=>exact ⟨rfl,rfl,⟨_,rfl,rfl⟩,ih⟩
theorem Wp{o:Oper}{b:Builtin}{args:Array Operand}{ats:Array TypeId}{a:Act}{w w':World}{r:Value}(ho:o.op = .call { callee:=.builtin b,args,argTypes:=ats })(hb:∀c,(builtin b ats o.type c (args.map a.eval)).run P w = .ok (.value r) w'):(execOp a.eval o).run P w = .ok (.value r) w':=by
 simp only[execOp,ho,resolve,invoke,Sem.run_bind,Sem.run_pure,Result.andThen_ok]
 exact hb _
theorem NW{o:Oper}{t t' e:TypeId}{d s:Operand}{d' s':X}{args:Array Operand}{ats:Array TypeId}(ho:o.op = .call { callee:=.builtin .copy,args,argTypes:=ats })(ha:args.toList=[d,s])(df:ats.toList=[t,t'])
  (ht:P.underlying t=some (.slice e))(hi:(P.info? e).map (·.size)=some 1)(hd:aU d=some d')(hs:aU s=some s'):b8 P o (.gx .nP [d',s']):=by
 intro φ H w ts a hR hr K Kp h next Q hn ov
 obtain rfl:args=#[d,s]:=by apply Array.toList_inj.1;simpa using ha
 obtain rfl:ats=#[t,t']:=by apply Array.toList_inj.1;simpa using df
 have hv:=aq hr hd
 have hw:=aq hr hs
 simp only[HO.aV,List.map_cons,List.map_nil] at h
 obtain ⟨h1,h2⟩:=h
 generalize X.ev ts d'=x1 at h1 h2 hv
 generalize X.ev ts s'=x2 at h1 h2 hw
 match x1,x2,h1 with
 | .aB k id off n c,.sc (.string x),h1 =>
  have hY:=h1
  simp only[GX.ok] at hY
  split at hY
  case h_2=>exact hY.elim
  rename_i blk hf
  obtain ⟨rfl,hbk,hle,uD⟩:=hY
  have FZ:=bF hw
  obtain ⟨b,c',YK,e0,fr0,g1,e2,g3,g4,g5,g6,g7⟩:=eV hv
  obtain ⟨bV,cur,cap,k1,k2,k3,k4,k5,k6⟩:=(hR.blk id b blk g1 hf).gC g6
  rw[hbk,Nat.mul_one] at k2
  rw[Nat.mul_one] at e2
  have hrun:=Lib.run_copy_row_string (P:=P) w t t' o.type e b off n c' x cur blk.ty ht hi k1 uD (by omega)
  have hheap:GX.heap H .nP [.aB 1 id off n c,.sc (.string x)]=Y.set H id (some { blk with es:=blk.es.take off++bt x++blk.es.drop (off+x.size) }):=by
   simp only[GX.heap,hf]
  rw[hheap] at h2
  obtain ⟨f1,f2⟩:=mD k6
  have o9:(flat blk.es).length=blk.es.length:=by rw[cC f1,hbk,Nat.mul_one]
  have gz:(Lib.byteCells x.data.toList).length=x.size:=by rw[Lib.byteCells_length];exact (Lib.size_eq x).symm
  have zC:∀y∈blk.es.take off++bt x++blk.es.drop (off+x.size),y.an=blk.k:=by
   intro y hy
   rcases List.mem_append.1 hy with hy | hy
   ·rcases List.mem_append.1 hy with hy | hy
    ·exact f1 y (List.mem_of_mem_take hy)
    ·rw[hbk];exact nQ y hy
   ·exact f1 y (List.mem_of_mem_drop hy)
  have ft:∀j,flat (blk.es.take j)=(flat blk.es).take j:=fun j=>by have:=mF f1 j;rwa [hbk,Nat.mul_one] at this
  have fd:∀j,flat (blk.es.drop j)=(flat blk.es).drop j:=fun j=>by have:=j4 f1 j;rwa [hbk,Nat.mul_one] at this
  have nv:(bt x).length=x.size:=gL x
  have hwr:=hR.write bV g1 hf k1 (by rw[hbk,Nat.mul_one];exact k2) (blk.es.take off++bt x++blk.es.drop (off+x.size)) (fL:=(cur.toList.take off++Lib.byteCells x.data.toList++cur.toList.drop (off+x.size)).toArray) (by simp[gz];omega) (by simp[nv];omega) k5 (fun hx=>by
    have h3:=k4 hx
    simp[nv];omega) zC (by
   rw[dg,dg,ft,fd,qM]
   have tj:((flat blk.es).take off).length=off:=by rw[List.length_take,o9];omega
   have fD:(cur.toList.take off).length=off:=by simp;omega
   refine cQ (cQ (bK (fun q hq=>?_) (iR (n:=off) f2)) (bK (fun q hq=>?_) (wi x))) (bK (fun q hq=>?_) (iQ (f:=off+x.size) f2))
   ·have fC:q<off:=by rw[tj] at hq;exact hq
    simp only[List.getElem?_toArray]
    rw[List.append_assoc,List.getElem?_append_left (by omega),List.getElem?_take_of_lt fC,ew k1]
    simp
   ·rw[nv] at hq
    rw[tj]
    simp only[List.getElem?_toArray]
    rw[List.getElem?_append_left (by rw[List.length_append,fD,gz];omega),List.getElem?_append_right (by omega),fD,Lib.strCells_eq]
    congr 1
    omega
   ·have hl:((flat blk.es).take off++bt x).length=off+x.size:=by rw[List.length_append,tj,nv]
    rw[hl]
    simp only[List.getElem?_toArray]
    have dz:(cur.toList.take off++Lib.byteCells x.data.toList).length=off+x.size:=by rw[List.length_append,fD,gz]
    rw[List.getElem?_append_right (by omega),dz,ew k1]
    simp)
  refine aG (Wp ho fun c=>?_) (hn _ _ φ _ _ h2 (cF rfl) hwr.1 hwr.2)
  simp only[builtin,Sem.run_bind,Sem.run_pure,List.map_toArray,List.map_cons,List.map_nil,e2,FZ,hrun,Result.andThen_ok]
  rfl
theorem pf{φ:aC}{w:World}{H:Y}(hR:Rel φ H w){t t' ty e:TypeId}{inf:TypeInfo}{z:Value}(ht:P.underlying t=some (.slice e))(ht':P.underlying t'=some .string)(hi:P.info? e=some inf)(hz:inf.zero=some z)(hzs:z.cells.size=1)(hs1:inf.size=1)(hby:inf.bytes=1)
  {xs:List Z}{s:Value}{x:ByteArray}(hs:Src φ (Own φ H) w 1 xs s)(hy:0<x.size)(hb:xs.length+x.size≤100000000)(hc:∃a c,s = .slice a xs.length c∧c<xs.length+x.size∧(a=none→c=0)) :
  ∃c' w',(Builtin.append_ #[t,t'] ty #[s,.string x]).run P w = .ok (.slice (some ⟨w.heap.size,0,none⟩) (xs.length+x.size) c') w'∧
   Rel (φ.add H.length w.heap.size) (some ⟨1,xs++bt x,false,e⟩::H) w'∧Step φ H w (φ.add H.length w.heap.size) (some ⟨1,xs++bt x,false,e⟩::H) w'∧
   VR (φ.add H.length w.heap.size) (Own (φ.add H.length w.heap.size) (some ⟨1,xs++bt x,false,e⟩::H)) w' (.aB 1 H.length 0 (xs.length+x.size) none) (.slice (some ⟨w.heap.size,0,none⟩) (xs.length+x.size) c'):=by
 obtain ⟨a,c,olds,e1,o2,o3,o4,o5,o6⟩:=hs.ex
 obtain ⟨a',c',e3,hlt,hn0⟩:=hc
 rw[e1] at e3
 cases e3
 subst e1
 rw[Nat.mul_one] at o2
 have nv:(bt x).length=x.size:=gL x
 have n2:(Lib.strCells x).length=x.size:=by rw[Lib.strCells_eq,Lib.byteCells_length];exact (Lib.size_eq x).symm
 have QV:=mo hR
 have zg:∀(cap:Nat)(arr:Array Value),xs.length+x.size≤cap→cap≤maxLen→arr.size=cap→(∀i,i<(olds++Lib.strCells x).length→arr[i]? = (olds++Lib.strCells x)[i]?)→
   Rel (φ.add H.length w.heap.size) (some ⟨1,xs++bt x,false,e⟩::H) (w.drew.alloc (.cells arr e))∧Step φ H w (φ.add H.length w.heap.size) (some ⟨1,xs++bt x,false,e⟩::H) (w.drew.alloc (.cells arr e))∧
   VR (φ.add H.length w.heap.size) (Own (φ.add H.length w.heap.size) (some ⟨1,xs++bt x,false,e⟩::H)) (w.drew.alloc (.cells arr e)) (.aB 1 H.length 0 (xs.length+x.size) none) (.slice (some ⟨w.heap.size,0,none⟩) (xs.length+x.size) cap):=by
  intro cap arr h1 h2 h3 h4
  have hk:∀y∈xs++bt x,y.an=1:=fun y hy=>by
   rcases List.mem_append.1 hy with h | h
   ·exact o3 y h
   ·exact nQ y h
  have QW:Rs φ (Own φ H) w.drew (flat (xs++bt x)) (fun i=>arr[i]?):=by
   have hl:Later (fun _=>True) φ φ (Own φ H) (Own φ H) w w.drew:=(fO φ H w).toLater
   refine gf hl _ _ _ (Z.b7 _) (fun i v hv=>hv) ?_
   rw[dg,qM]
   have ol:(flat xs).length=olds.length:=by rw[cC o3,o2,Nat.mul_one]
   refine cQ (bK (fun i hi=>?_) o4) (bK (fun i hi=>?_) (wi x))
   ·rw[h4 i (by simp;omega),List.getElem?_append_left (by omega)]
   ·rw[h4 _ (by simp;omega),List.getElem?_append_right (by omega)]
    congr 1
    omega
  have:=QV.alloc ⟨1,xs++bt x,false,e⟩ (Nat.zero_lt_one) arr cap (by rw[h3,Nat.mul_one]) (by simp[nv];omega) (fun h=>by simp at h) h2 hk QW
  refine ⟨this.1,(fO φ H w).trans this.2,rfl,?_⟩
  refine ⟨w.heap.size,cap,arr,e,(0,0),by simp[aC.add],by simp[dZ,Value.cells],h1,h2,fun m hm=>by simp at hm,heap_alloc_new w.drew _,by simpa using h3⟩
 cases a with
 | none =>
  have hc0:=hn0 rfl
  have hx:xs=[]:=by
   cases xs with
   | nil=>rfl
   | cons y r=>obtain ⟨_,h,_⟩:=o6 (by simp);simp at h
  subst hc0
  subst hx
  have ho:olds=[]:=List.length_eq_zero_iff.1 (by simpa using o2)
  subst ho
  have hr:=run_append_nil_string (P:=P) w t t' ty e inf z ht ht' hi hz x hy (by simp at hb;omega) (by simp at hb;rw[hby];omega)
  simp only[List.length_nil,Nat.zero_add,List.nil_append] at zg hb ⊢
  have hge:=grownCap_ge w x.size 0 e
  have hxa:x.data.map (fun b=>Value.int .u8 b.toNat)=(Lib.strCells x).toArray:=by
   apply Array.ext'
   simp[Lib.strCells]
  rw[hxa] at hr
  obtain ⟨f1,f2,f3⟩:=zg (grownCap w x.size 0 e) ((Lib.strCells x).toArray++Builtin.zeroCells z.cells (grownCap w x.size 0 e - x.size)) hge (grownCap_le_maxLen w _ _ _ (by unfold maxLen;omega))
   (by simp only[Array.size_append,List.size_toArray,size_zeroCells,hzs,n2,Nat.mul_one];omega) (fun i hi=>by rw[Array.getElem?_append_left (by simpa using hi)];simp)
  exact ⟨_,_,hr,f1,f2,f3⟩
 | some b =>
  have holds:∀j u,olds[j]? = some u→w.cell? (b.add j)=some u:=fun j u hj=>by
   have hp:0<xs.length:=by
    rcases Nat.eq_zero_or_pos xs.length with h | h
    ·rw[h] at o2
     have:olds=[]:=List.length_eq_zero_iff.1 (by simpa using o2)
     subst this
     simp at hj
    ·exact h
   obtain ⟨ad',h,h'⟩:=o6 hp
   cases h
   exact h' j u hj
  have hr:=Lib.run_append_grow_string (P:=P) w t t' ty e inf z ht ht' hi hz b xs.length c olds (by rw[hs1,Nat.mul_one];exact o2) holds x hlt (by omega) (growslice_fits (by omega) (by rw[hby];omega))
  have hge:=grownCap_ge w (xs.length+x.size) c e
  obtain ⟨f1,f2,f3⟩:=zg (grownCap w (xs.length+x.size) c e) (olds.toArray++(Lib.strCells x).toArray++Builtin.zeroCells z.cells (grownCap w (xs.length+x.size) c e - (xs.length+x.size))) hge (grownCap_le_maxLen w _ _ _ (by unfold maxLen;omega))
   (by simp only[Array.size_append,List.size_toArray,size_zeroCells,hzs,n2,o2,Nat.mul_one];omega) (fun i hi=>by rw[Array.getElem?_append_left (by simpa using hi)];simp[List.getElem?_append])
  exact ⟨_,_,hr,f1,f2,f3⟩
theorem xO{φ:aC}{H:Y}{w:World}(hR:Rel φ H w){t t' ty e:TypeId}{inf:TypeInfo}(ht:P.underlying t=some (.slice e))(ht':P.underlying t'=some .string)(hi:P.info? e=some inf)(hs1:inf.size=1)
  {id b n c' cap:Nat}{blk:aD}{cur:Array Value}{x:ByteArray}(hm:φ id=some b)(hf:Y.find H id=some blk)(hb:w.heap[b]? = some (.cells cur blk.ty (0,0)))(hsz:cur.size=cap)(hk:blk.k=1)(hty:blk.ty=e)
  (hel:blk.es.length≤cap)(k7:cap≤maxLen)(Q4:Rl φ (Own φ H) w b blk.k blk.es 0)(hn:n≤blk.es.length)(hroom:n+x.size≤c')(hc:c'≤cap)
  (es':List Z)(j7:es'=blk.es.take n++bt x++blk.es.drop (n+x.size))(Ro:blk.exact=true→cap=es'.length) :
  ∃w',(Builtin.append_ #[t,t'] ty #[.slice (some ⟨b,0,none⟩) n c',.string x]).run P w = .ok (.slice (some ⟨b,0,none⟩) (n+x.size) c') w'∧
   Rel φ (Y.set H id (some { blk with es:=es' })) w'∧Step φ H w φ (Y.set H id (some { blk with es:=es' })) w':=by
 have hrun:=Lib.run_append_room_string (P:=P) w t t' ty e inf ht ht' hi hs1 b n c' cur (by rw[←hty];exact hb) x hroom (by omega)
 obtain ⟨f1,f2⟩:=mD Q4
 have o9:(flat blk.es).length=blk.es.length:=by rw[cC f1,hk,Nat.mul_one]
 have gz:(Lib.strCells x).length=x.size:=by rw[Lib.strCells_eq,Lib.byteCells_length];exact (Lib.size_eq x).symm
 have nv:(bt x).length=x.size:=gL x
 have zC:∀y∈es',y.an=blk.k:=by
  intro y hy
  rw[j7] at hy
  rcases List.mem_append.1 hy with hy | hy
  ·rcases List.mem_append.1 hy with hy | hy
   ·exact f1 y (List.mem_of_mem_take hy)
   ·rw[hk];exact nQ y hy
  ·exact f1 y (List.mem_of_mem_drop hy)
 have ft:∀j,flat (blk.es.take j)=(flat blk.es).take j:=fun j=>by have:=mF f1 j;rwa [hk,Nat.mul_one] at this
 have fd:∀j,flat (blk.es.drop j)=(flat blk.es).drop j:=fun j=>by have:=j4 f1 j;rwa [hk,Nat.mul_one] at this
 have zD:es'.length≤cap:=by rw[j7];simp[nv];omega
 have hw:=hR.write (by rw[hk];exact Nat.zero_lt_one) hm hf hb (by rw[hk,Nat.mul_one];exact hsz) es' (fL:=(cur.toList.take n++Lib.strCells x++cur.toList.drop (n+x.size)).toArray) (by simp[gz];omega) zD k7 Ro zC (by
  rw[j7,dg,dg,ft,fd,qM]
  have tj:((flat blk.es).take n).length=n:=by rw[List.length_take,o9];omega
  have fD:(cur.toList.take n).length=n:=by simp;omega
  refine cQ (cQ (bK (fun q hq=>?_) (iR (n:=n) f2)) (bK (fun q hq=>?_) (wi x))) (bK (fun q hq=>?_) (iQ (f:=n+x.size) f2))
  ·have fC:q<n:=by rw[tj] at hq;exact hq
   simp only[List.getElem?_toArray]
   rw[List.append_assoc,List.getElem?_append_left (by omega),List.getElem?_take_of_lt fC,ew hb]
   simp
  ·rw[nv] at hq
   rw[tj]
   simp only[List.getElem?_toArray]
   rw[List.getElem?_append_left (by rw[List.length_append,fD,gz];omega),List.getElem?_append_right (by omega),fD]
   congr 1
   omega
  ·have hl:((flat blk.es).take n++bt x).length=n+x.size:=by rw[List.length_append,tj,nv]
   rw[hl]
   simp only[List.getElem?_toArray]
   have dz:(cur.toList.take n++Lib.strCells x).length=n+x.size:=by rw[List.length_append,fD,gz]
   rw[List.getElem?_append_right (by omega),dz,ew hb]
   simp)
 exact ⟨_,hrun,hw.1,hw.2⟩
theorem RA{o:Oper}{t t' e:TypeId}{inf:TypeInfo}{z:Value}{d s:Operand}{d' s':X}{args:Array Operand}{ats:Array TypeId}(ho:o.op = .call { callee:=.builtin .append,args,argTypes:=ats })(ha:args.toList=[d,s])(df:ats.toList=[t,t'])
  (ht:P.underlying t=some (.slice e))(ht':P.underlying t'=some .string)(hi:P.info? e=some inf)(hz:inf.zero=some z)(hzs:z.cells.size=1)(hs1:inf.size=1)(hby:inf.bytes=1)(hd:aU d=some d')(hs:aU s=some s'):b8 P o (.gx (.oq e) [d',s']):=by
 intro φ H w ts a hR hr K Kp h next Q hn ov
 obtain rfl:args=#[d,s]:=by apply Array.toList_inj.1;simpa using ha
 obtain rfl:ats=#[t,t']:=by apply Array.toList_inj.1;simpa using df
 have hv:=aq hr hd
 have hw:=aq hr hs
 simp only[HO.aV,List.map_cons,List.map_nil] at h
 obtain ⟨h1,h2⟩:=h
 generalize X.ev ts d'=x1 at h1 h2 hv
 generalize X.ev ts s'=x2 at h1 h2 hw
 obtain ⟨x,rfl⟩:∃x,x2 = .sc (.string x):=by
  match x1,x2,h1 with
  | _,.sc (.string x),_=>exact ⟨x,rfl⟩
 have FZ:=bF hw
 have hok:Cz H e x x1:=h1
 have hex:∀{r:Value}{w':World},(Builtin.append_ #[t,t'] o.type #[a.eval d,.string x]).run P w = .ok r w'→(execOp a.eval o).run P w = .ok (.value r) w':=fun {r w'} h1=>Wp ho fun c=>by
  simp only[builtin,Sem.run_bind,Sem.run_pure,List.map_toArray,List.map_cons,List.map_nil,FZ,h1,Result.andThen_ok]
 have CM:∀{ad:Option Addr}{x1:Z},(∀id,x1≠id→True)→K (if x.size=0 then x1 else .aB 1 H.length 0 x.size none) (if x.size=0 then H else some ⟨1,bt x,false,e⟩::H)→VR φ (Own φ H) w x1 (a.eval d)→a.eval d = .slice ad 0 0→x.size≤100000000→o.wp P a w next Q:=by
  intro ad x1 _ hK hv he hx
  by_cases h0:x.size=0
  ·rw[if_pos h0,if_pos h0] at hK
   refine aG (hex ?_) (hn _ _ _ _ _ hK hv hR (Step.refl _ _ _))
   have hfc:=Lib.run_firstCells_string (P:=P) w inf.size x
   have hsc:Lib.strCells x=[]:=List.length_eq_zero_iff.1 (by rw[Lib.strCells_length];exact h0)
   rw[h0,hsc] at hfc
   rw[he]
   cases ad<;>simp[Builtin.append_,run_underlying ht,run_underlying ht',sizeOf,typeInfo,hi,Builtin.lenOf,h0,hfc,storeCells]
  ·rw[if_neg h0,if_neg h0] at hK
   obtain ⟨c',w',r1,r2,r3,r4⟩:=pf (P:=P) hR (ty:=o.type) ht ht' hi hz hzs hs1 hby (xs:=[]) (s:=a.eval d) (x:=x) ⟨ad,0,[],he,rfl,by simp,trivial,by simp,fun h=>by simp at h⟩ (by omega) (by simpa using hx) ⟨ad,0,he,by simp;omega,fun _=>rfl⟩
   simp only[List.length_nil,Nat.zero_add,List.nil_append] at r1 r2 r3 r4
   exact aG (hex r1) (hn _ _ _ _ _ hK r4 r2 r3)
 unfold Cz at hok
 split at hok
 ·exact CM (ad:=none) (fun _ _=>trivial) h2 hv (bF hv) hok
 ·rename_i k
  obtain ⟨ad,c,vU,c1,c2,c3,c4,c5⟩:=eU hv
  have hc0:c=0:=by have:=c5.1;simpa using this
  rw[hc0] at vU
  exact CM (fun _ _=>trivial) h2 hv vU hok
 ·rename_i k id off n c
  split at hok
  case h_2=>exact hok.elim
  rename_i blk hf
  obtain ⟨⟨rfl,hk,hty,rfl,hb8⟩,fw⟩:=hok
  obtain ⟨b,c',cur,e',fr,v1,v2,v3,v4,v5,v6,v7⟩:=eV hv
  obtain ⟨_,ow,cap,a1,a2,a3,a4,a5,a6⟩:=(hR.blk id b blk v1 hf).gC v6
  rw[v6] at a1
  cases a1
  rw[hk,Nat.mul_one] at a2
  have ab2:c'=cap:=by rw[Nat.zero_add,Nat.mul_one] at v7;omega
  subst ab2
  rw[Nat.zero_mul] at v2
  have CH:id<H.length:=Y.am hf
  have nv:(bt x).length=x.size:=gL x
  have hsz:cur.size=c'*1:=by omega
  cases c with
  | none =>
   obtain ⟨g1,g2⟩:=fw
   have g3:K (.aB 1 H.length 0 (n+x.size) none) (some ⟨1,blk.es++bt x,false,e⟩::Y.set H id none):=by
    have:GX.heap H (.oq e) [.aB 1 id 0 n none,.sc (.string x)]=some ⟨1,blk.es++bt x,false,e⟩::Y.set H id none:=by simp only[GX.heap,FI,hf]
    rw[this] at h2
    exact h2
   by_cases hroom:n+x.size≤c'
   ·obtain ⟨w',r1,r2,r3⟩:=xO (P:=P) hR (ty:=o.type) ht ht' hi hs1 (x:=x) v1 hf v6 a2 hk hty a3 a5 a6 (Nat.le_of_eq g2) hroom (Nat.le_refl _) (blk.es++bt x) (by
     rw[g2,List.take_length,List.drop_of_length_le (by omega),List.append_nil]) (fun h=>by rw[g1] at h;simp at h)
    have FU:Y.find (Y.set H id (some { blk with es:=blk.es++bt x })) id=some { blk with es:=blk.es++bt x }:=Y.ay CH
    obtain ⟨m1,m2⟩:=r2.move v1 FU
    have jV:Y.set (Y.set H id (some { blk with es:=blk.es++bt x })) id none=Y.set H id none:=set_set _ _ _
    rw[Y.aj,jV] at m1 m2
    have Rn:({ blk with es:=blk.es++bt x }:aD)=⟨1,blk.es++bt x,false,e⟩:=by
     cases blk
     simp only at hk hty g1
     subst hk
     subst hty
     subst g1
     rfl
    rw[Rn] at m1 m2 r3
    obtain ⟨fL,fr',q1,q2⟩:=r3.toLater.cells v6
    exact aG (hex (by rw[v2];exact r1)) (hn _ _ _ _ _ g3 (j8 (by simp[aC.add]) hroom v4 (fun m hm=>by simp at hm) q1 (by rw[q2];exact hsz)) m1 (r3.trans m2))
   ·obtain ⟨c2,w',r1,r2,r3,r4⟩:=pf (P:=P) hR (ty:=o.type) ht ht' hi hz hzs hs1 hby (xs:=blk.es) (s:=a.eval d) (x:=x) (by
     have:=Src.r6 hR hv hf hk (by omega)
     rwa [List.drop_zero,g2,List.take_length] at this) (by omega) (by omega) ⟨_,c',by rw[v2,g2],by omega,fun h=>by simp at h⟩
    obtain ⟨k1,k2⟩:=r2.kill id
    rw[CG CH] at k1 k2
    refine aG (hex r1) (hn _ _ _ _ _ ?_ (k2.vr r4) k1 (r3.trans k2))
    rw[←g2]
    exact g3
  | some m =>
   have hcm:=v5 m rfl
   subst hcm
   have g3:n≤blk.es.length:=by
    rcases fw with ⟨_,h2,h3⟩ | ⟨_,h2⟩
    ·omega
    ·exact h2
   by_cases hroom:n+x.size≤c'
   ·have g4:K (.aB 1 id 0 (n+x.size) (some c')) (Y.set H id (some { blk with es:=blk.es.take n++bt x++blk.es.drop (n+x.size) })):=by
     have e1:GX.heap H (.oq e) [.aB 1 id 0 n (some c'),.sc (.string x)]=Y.set H id (some { blk with es:=blk.es.take n++bt x++blk.es.drop (n+x.size) }):=by simp only[GX.heap,FI,hf,if_pos hroom]
     have e2:GX.val H (.oq e) [.aB 1 id 0 n (some c'),.sc (.string x)] = .aB 1 id 0 (n+x.size) (some c'):=by simp only[GX.val,Jj,if_pos hroom]
     rw[e1,e2] at h2
     exact h2
    obtain ⟨w',r1,r2,r3⟩:=xO (P:=P) hR (ty:=o.type) ht ht' hi hs1 (x:=x) v1 hf v6 a2 hk hty a3 a5 a6 g3 hroom (Nat.le_refl _) _ rfl (fun hx=>by
     rcases fw with ⟨_,h2,h3⟩ | ⟨h2,_⟩
     ·have j7:(blk.es.take n++bt x++blk.es.drop (n+x.size)).length=blk.es.length:=by simp[nv];omega
      rw[j7];exact h2
     ·rw[h2] at hx;simp at hx)
    obtain ⟨fL,fr',q1,q2⟩:=r3.toLater.cells v6
    exact aG (hex (by rw[v2];exact r1)) (hn _ _ _ _ _ g4 (j8 v1 hroom v4 (fun m hm=>by simpa using hm) q1 (by rw[q2];exact hsz)) r2 r3)
   ·have g4:K (.aB 1 H.length 0 (n+x.size) none) (some ⟨1,blk.es.take n++bt x,false,e⟩::H):=by
     have e1:GX.heap H (.oq e) [.aB 1 id 0 n (some c'),.sc (.string x)]=some ⟨1,blk.es.take n++bt x,false,e⟩::H:=by simp only[GX.heap,FI,hf,if_neg hroom]
     have e2:GX.val H (.oq e) [.aB 1 id 0 n (some c'),.sc (.string x)] = .aB 1 H.length 0 (n+x.size) none:=by simp only[GX.val,Jj,if_neg hroom]
     rw[e1,e2] at h2
     exact h2
    have hl:(blk.es.take n).length=n:=by simp;omega
    obtain ⟨c2,w',r1,r2,r3,r4⟩:=pf (P:=P) hR (ty:=o.type) ht ht' hi hz hzs hs1 hby (xs:=blk.es.take n) (s:=a.eval d) (x:=x) (by
     have:=Src.r6 hR hv hf hk (by omega)
     rwa [List.drop_zero] at this) (by omega) (by rw[hl];omega) ⟨_,c',by rw[v2,hl],by rw[hl];omega,fun h=>by simp at h⟩
    rw[hl] at r1 r4
    exact aG (hex r1) (hn _ _ _ _ _ g4 r4 r2 r3)
 ·exact hok.elim
theorem RB{o:Oper}{t it e:TypeId}{p n:Operand}{p' n':X}{args:Array Operand}{ats:Array TypeId}(ho:o.op = .call { callee:=.builtin .unsafeString,args,argTypes:=ats })(ha:args.toList=[p,n])(df:ats.toList=[t,it])
  (ht:P.underlying t=some (.pointer e))(hc:P.cellsOf e=1)(hp:aU p=some p')(hn':aU n=some n'):b8 P o (.gx (.sQ e) [p',n']):=by
 intro φ H w ts a hR hr K Kp h next Q hn ov
 obtain rfl:args=#[p,n]:=by apply Array.toList_inj.1;simpa using ha
 obtain rfl:ats=#[t,it]:=by apply Array.toList_inj.1;simpa using df
 have hv:=aq hr hp
 have hw:=aq hr hn'
 simp only[HO.aV,List.map_cons,List.map_nil] at h
 obtain ⟨h1,h2⟩:=h
 generalize X.ev ts p'=x1 at h1 h2 hv
 generalize X.ev ts n'=x2 at h1 h2 hw
 obtain ⟨m,rfl⟩:∃m,x2 = .sc (.int .i64 m):=by
  match x1,x2,h1 with
  | _,.sc (.int .i64 m),_=>exact ⟨m,rfl⟩
 have hm:=bF hw
 have hok:CA H e m x1:=h1
 have hex:∀{r:Value}{w':World},(Builtin.unsafeString_ #[t,it] o.type #[a.eval p,.int .i64 m]).run P w = .ok r w'→(execOp a.eval o).run P w = .ok (.value r) w':=fun {r w'} h1=>Wp ho fun c=>by
  simp only[builtin,Sem.run_bind,Sem.run_pure,List.map_toArray,List.map_cons,List.map_nil,hm,h1,Result.andThen_ok]
 unfold CA at hok
 split at hok
 ·rename_i k id j f
  split at hok
  case h_2=>exact hok.elim
  rename_i blk hf
  obtain ⟨⟨rfl,hbk,hty,rfl,rfl,h0,hle⟩,x,hx⟩:=hok
  obtain ⟨b,v1,v2⟩:=ee hv
  obtain ⟨cur,cap,a1,a2,a3,a4,a5,a6⟩:=(hR.blk id b blk v1 hf).cells (by rw[hbk];exact Nat.zero_lt_one)
  rw[hbk,Nat.mul_one] at a2
  rw[hbk] at a6
  rw[hty] at a1
  have hlen:x.size=m.toNat:=by rw[←gL,←hx,List.length_take];omega
  have eI:x.data.toList.length=m.toNat:=by rw[←hlen];exact (Lib.size_eq x).symm
  have hcell:∀j y,x.data.toList[j]? = some y→w.cell? ((⟨b,0,none⟩:Addr).add j)=some (.int .u8 y.toNat):=by
   intro j y hj
   have ou:=(List.getElem?_eq_some_iff.1 hj).1
   have j7:blk.es[j]? = some (.sc (.int .u8 y.toNat)):=by
    have h3:(blk.es.take m.toNat)[j]? = some (.sc (.int .u8 y.toNat)):=by rw[hx];simp[bt,hj]
    rwa [List.getElem?_take_of_lt (by omega)] at h3
   have hr3:b6 w b (0+j*1) 0=some (.int .u8 y.toNat):=(rZ a6 j7).2.2
   rw[addr_add]
   simpa [b6] using hr3
  have NM:m=((x.data.toList.length:Nat):Int):=by rw[eI];omega
  have hrun:=Lib.run_unsafeString_row (P:=P) w t it o.type e ht hc b cur.size (by unfold World.shape?;rw[a1]) x.data.toList (fun e0=>by rw[e0] at eI;simp at eI;omega) (by omega) (by unfold maxLen at a5;omega) hcell
  rw[←NM] at hrun
  have hval:Jk H m (.ptr 1 id 0 0)=x:=by
   simp only[Jk,hf,hx]
   apply ByteArray.ext
   simp only[lZ,bt,List.map_map]
   apply Array.ext'
   simp only[List.toList_toArray]
   have:∀l:List UInt8,l.map ((fun x=>(mz x).getD 0)∘fun b=>Z.sc (.int .u8 (b.toNat:Int)))=l:=by
    intro l
    induction l with
    | nil=>rfl
    | cons c r ih =>
     rw[List.map_cons,ih]
     congr 1
     simp[Function.comp,mz]
   exact this _
  have wg:K (.sc (.string x)) (Y.set H id none):=by
   have e1:GX.val H (.sQ e) [.ptr 1 id 0 0,.sc (.int .i64 m)] = .sc (.string (Jk H m (.ptr 1 id 0 0))):=rfl
   rw[e1,hval] at h2
   exact h2
  have nN:(⟨x.data.toList.toArray⟩:ByteArray)=x:=by apply ByteArray.ext;simp
  rw[nN] at hrun
  have pe:∀b',b'≠b→(w.freeze ⟨b,0,none⟩ x.data.toList.length).heap[b']? = w.heap[b']?:=by
   intro b' hb'
   unfold World.freeze
   split
   ·rfl
   ·simp only[Array.getElem?_modify]
    rw[if_neg (fun e=>hb' e.symm)]
  have hres:=hR.uA (w':=w.freeze ⟨b,0,none⟩ x.data.toList.length) v1 hf none (by unfold World.freeze;split<;>simp) pe (by
   unfold World.freeze
   split
   ·rfl
   ·simp only[World.shape?,Array.getElem?_modify,if_true,a1,Option.map_some]) (by unfold World.freeze;split<;>rfl) (by unfold World.freeze;split<;>rfl) (by unfold World.freeze;split<;>rfl) (fun k hk=>by cases hk)
  exact aG (hex (by rw[v2];exact hrun)) (hn _ _ φ _ _ wg (cF rfl) hres.1 hres.2)
 ·have:m=0:=hok
  subst this
  rw[show a.eval p = .pointer none from bF hv] at hex
  exact aG (hex (Lib.run_unsafeString_none (P:=P) w t it o.type none)) (hn _ _ φ H w h2 (cF rfl) hR (Step.refl _ _ _))
 ·exact hok.elim
theorem NX{o:Oper}{s:Operand}{s':X}{args:Array Operand}{ats:Array TypeId}(ho:o.op = .call { callee:=.builtin .unsafeSliceData,args,argTypes:=ats })(ha:args.toList=[s])(hs:aU s=some s'):b8 P o (.gx .mH [s']):=by
 intro φ H w ts a hR hr K Kp h next Q hn ov
 obtain rfl:args=#[s]:=by apply Array.toList_inj.1;simpa using ha
 have hv:=aq hr hs
 simp only[HO.aV,List.map_cons,List.map_nil] at h
 obtain ⟨h1,h2⟩:=h
 generalize X.ev ts s'=x1 at h1 h2 hv
 have hex:∀{r:Value}{w':World},(Builtin.unsafeSliceData_ ats o.type #[a.eval s]).run P w = .ok r w'→(execOp a.eval o).run P w = .ok (.value r) w':=fun {r w'} h1=>Wp ho fun c=>by
  simp only[builtin,Sem.run_bind,Sem.run_pure,List.map_toArray,List.map_cons,List.map_nil,h1,Result.andThen_ok]
 match x1,h1 with
 | .aB k id off n c,h1 =>
  obtain ⟨hk,hn0⟩:=h1
  obtain ⟨b,c',YK,e0,fr0,g1,e2,g3,g4,g5,g6,g7⟩:=eV hv
  refine aG (hex (by rw[e2];exact Lib.run_unsafeSliceData_row (P:=P) w ats o.type _ n c' (by omega))) (hn _ _ φ H w h2 ?_ hR (Step.refl _ _ _))
  have:=yP (O:=Own φ H) (w:=w) (k:=k) (j:=off) (f:=0) g1
  rw[ed hk] at this
  exact this
 | .sc (.slice none 0 0),_ =>
  rw[show a.eval s = .slice none 0 0 from bF hv] at hex
  exact aG (hex (Lib.run_unsafeSliceData_nil (P:=P) w ats o.type 0 0)) (hn _ _ φ H w h2 (cF rfl) hR (Step.refl _ _ _))
theorem RC{t e:TypeId}(ht:P.underlying t=some (.pointer e))(p:Option Addr)(w:World):(Op.equal t (.pointer p) (.pointer none)).run P w = .ok p.isNone w:=by
 show (Op.equalIn (9999+1) t _ _).run P w=_
 rw[Op.equalIn]
 simp only[Sem.run_bind,bh ht,Result.andThen_ok]
 cases p<;>rfl
theorem Jt{φ:aC}{O:Nat→Prop}{w:World}{x:Z}{v:Value}(h:VR φ O w x v)(hp:zj x):∃p:Option Addr,v = .pointer p∧p.isNone=jB x:=by
 match x,hp with
 | .ptr k id j f,hp =>
  obtain ⟨b,_,e⟩:=ee h
  rw[ed hp] at e
  exact ⟨_,e,rfl⟩
 | .lp x f,_ =>
  obtain ⟨b,off,e,_⟩:=y9 h
  exact ⟨_,e,rfl⟩
 | .sc (.pointer none),_=>exact ⟨none,bF h,rfl⟩
theorem F6{o:Oper}{op:BinOp}{t ty e:TypeId}{x:Operand}{x':X}{pos:Bool}(ho:o.op = .binOp op t x (.const (.pointer none)) ty)(ht:P.underlying t=some (.pointer e))(hop:op=if pos then .eql else .neq)(hx:aU x=some x'):b8 P o (.gx (.nt pos) [x']):=by
 intro φ H w ts a hR hr K Kp h next Q hn ov
 have hv:=aq hr hx
 simp only[HO.aV,List.map_cons,List.map_nil] at h
 obtain ⟨h1,h2⟩:=h
 generalize X.ev ts x'=x1 at h1 h2 hv
 obtain ⟨p,e1,e2⟩:=Jt hv h1
 have wg:K (.sc (.bool (if pos then jB x1 else !jB x1))) H:=h2
 have hq:=RC (P:=P) ht p w
 refine aG (u:=.bool (if pos then jB x1 else !jB x1)) ?_ (hn _ _ φ H w wg (cF rfl) hR (Step.refl _ _ _))
 cases pos<;>simp only[if_true,if_false,Bool.false_eq_true] at hop ⊢<;>subst hop<;>simp[execOp,ho,e1,show a.eval (.const (.pointer none)) = .pointer none from rfl,eqGuard,binOp,hq,e2]
theorem Mp{o:Oper}{op:BinOp}{t ty e:TypeId}{i:TypeInfo}{x y:Operand}{x' y':X}{pos:Bool}(ho:o.op = .binOp op t x y ty)(ht:P.underlying t=some (.pointer e))(hi:P.info? e=some i)(hz:0<i.size)(hop:op=if pos then .eql else .neq)(hx:aU x=some x')(hy:aU y=some y'):b8 P o (.gx (.FG pos) [x',y']):=by
 intro φ H w ts a hR hr K Kp h next Q hn ov
 have hv:=aq hr hx
 have hw:=aq hr hy
 simp only[HO.aV,List.map_cons,List.map_nil] at h
 obtain ⟨h1,h2⟩:=h
 generalize X.ev ts x'=x1 at h1 h2 hv
 generalize X.ev ts y'=x2 at h1 h2 hw
 match x1,x2,h1 with
 | .ptr k id j f,.ptr k' id' j' f',h1 =>
  obtain ⟨⟨rfl,rfl,rfl,rfl⟩,hk⟩:=h1
  obtain ⟨b,g1,e1⟩:=ee hv
  obtain ⟨b',g2,e2⟩:=ee hw
  rw[g1] at g2
  cases g2
  rw[ed hk] at e1 e2
  have hq:(Op.equal t (.pointer (some ⟨b,j*k+f,none⟩)) (.pointer (some ⟨b,j*k+f,none⟩))).run P w = .ok true w:=by
   have hne:i.size≠0:=by omega
   show (Op.equalIn (9999+1) t _ _).run P w=_
   rw[Op.equalIn]
   simp only[Sem.run_bind,bh ht,Result.andThen_ok]
   simp[sizeOf,typeInfo,hi,hne,sameAddr]
  refine aG (u:=.bool pos) ?_ (hn _ _ φ H w h2 (cF rfl) hR (Step.refl _ _ _))
  cases pos<;>simp only[if_true,if_false,Bool.false_eq_true] at hop ⊢<;>subst hop<;>simp[execOp,ho,e1,e2,eqGuard,binOp,hq]
theorem Wq{o:Oper}{s d e:TypeId}{i:TypeInfo}{x:Operand}{x':X}(ho:o.op = .convert s d x)(hs:P.underlying s=some (.pointer e))(hd:P.underlying d=some .unsafePointer)(hi:P.info? e=some i)(hz:0<i.size)(hx:aU x=some x'):b8 P o (.gx .Jh [x']):=by
 intro φ H w ts a hR hr K Kp h next Q hn ov
 have hv:=aq hr hx
 simp only[HO.aV,List.map_cons,List.map_nil] at h
 obtain ⟨h1,h2⟩:=h
 generalize X.ev ts x'=x1 at h1 h2 hv
 match x1,h1 with
 | .ptr k id j f,h1 =>
  have hY:=h1
  simp only[GX.ok] at hY
  split at hY
  case h_2=>exact hY.elim
  rename_i blk hf
  obtain ⟨hbk,hk,hj,Q2⟩:=hY
  obtain ⟨b,v1,v2⟩:=ee hv
  rw[ed hk] at v2
  obtain ⟨cur,cap,a1,a2,a3,a4,a5,a6⟩:=(hR.blk id b blk v1 hf).cells (by omega)
  have hoff:j*k+f<cur.size:=by
   rw[a2,hbk]
   have:(j+1)*k≤cap*k:=Nat.mul_le_mul_right _ (by omega)
   rw[Nat.add_mul] at this
   omega
  refine aG ?_ (hn _ _ φ H w h2 hv hR (Step.refl _ _ _))
  simp only[execOp,ho,v2,Sem.run_bind,Sem.run_pure,Lib.run_to_unsafe (P:=P) w ⟨b,j*k+f,none⟩ hs hd hi (by omega) (show w.shape? b=some (blk.ty,cur.size) by unfold World.shape?;rw[a1]) hoff,Result.andThen_ok]
theorem BV{u T:TypeId}(h:(uw P u).contains T=true):P.cellsOf T=2∧liesAt P P.depth T 1 0 u 1=true:=by
 unfold uw at h
 rw[List.contains_iff_mem,List.mem_filter] at h
 have:=h.2
 simp only[Bool.and_eq_true,beq_iff_eq] at this
 exact this
theorem NY{o:Oper}{s d u:TypeId}{x:Operand}{x':X}(ho:o.op = .convert s d x)(hs:P.underlying s=some .unsafePointer)(hd:P.underlying d=some (.pointer u))(hi:(P.info? u).isSome=true)(hx:aU x=some x'):b8 P o (.gx (.s9 (uw P u)) [x']):=by
 intro φ H w ts a hR hr K Kp h next Q hn ov
 have hv:=aq hr hx
 obtain ⟨i,hi⟩:=Option.isSome_iff_exists.1 hi
 simp only[HO.aV,List.map_cons,List.map_nil] at h
 obtain ⟨h1,h2⟩:=h
 generalize X.ev ts x'=x1 at h1 h2 hv
 match x1,h1 with
 | .ptr k id j f,h1 =>
  have hY:=h1
  simp only[GX.ok] at hY
  split at hY
  case h_2=>exact hY.elim
  rename_i blk hf
  obtain ⟨⟨rfl,hbk,rfl,rfl,hex,hel⟩,hty⟩:=hY
  obtain ⟨hc2,hlies⟩:=BV hty
  obtain ⟨b,v1,v2⟩:=ee hv
  rw[ed (by decide)] at v2
  obtain ⟨cur,cap,a1,a2,a3,a4,a5,a6⟩:=(hR.blk id b blk v1 hf).cells (by omega)
  have hcap:=a4 hex
  have hcs:cur.size=2:=by rw[a2,hcap,hel,hbk]
  refine aG ?_ (hn _ _ φ H w h2 hv hR (Step.refl _ _ _))
  simp only[execOp,ho,v2,Sem.run_bind,Sem.run_pure,Lib.run_from_unsafe (P:=P) w ⟨b,0*2+0,none⟩ hs hd hi (show w.shape? b=some (blk.ty,cur.size) by unfold World.shape?;rw[a1]) (by rw[hcs,hc2];exact hlies),Result.andThen_ok]
theorem F7 {fn : Func} (hn : fn.name = "internal/abi.NoEscape") : Extern.find fn = some Extern.AbiNoEscape.same := by
 unfold Extern.find
 rw[hn]
 have h1 : Extern.allGenericRows.lookup "internal/abi.NoEscape" = none := by kernel_rfl
 have h2 : Extern.allTypedRows.lookup "internal/abi.NoEscape" = none := by kernel_rfl
 have h3 : Extern.allRows.lookup "internal/abi.NoEscape" = some Extern.AbiNoEscape.same := by kernel_rfl
 simp only[h1,h2,h3]
 rfl
theorem Ju {fn : Func} (hn : fn.name = "internal/bytealg.CountString") : Extern.find fn = some Extern.BytealgCount.count := by
 unfold Extern.find
 rw[hn]
 have h1 : Extern.allGenericRows.lookup "internal/bytealg.CountString" = none := by kernel_rfl
 have h2 : Extern.allTypedRows.lookup "internal/bytealg.CountString" = none := by kernel_rfl
 have h3 : Extern.allRows.lookup "internal/bytealg.CountString" = some Extern.BytealgCount.count := by kernel_rfl
 simp only[h1,h2,h3]
 rfl
theorem NZ{H:Y}{l:List Z}(h:GX.ok H .qC l):∃x,l=[x]:=by
 match l,h with
 | [x],_=>exact ⟨x,rfl⟩
theorem RD{H:Y}{l:List Z}(h:GX.ok H .xH l):∃s c,l=[.sc (.string s),.sc (.int .u8 c)]:=by
 match l,h with
 | [.sc (.string s),.sc (.int .u8 c)],_=>exact ⟨s,c,rfl⟩
theorem RF{o:Oper}{f:FuncId}{args:Array Operand}{ats:Array TypeId}{fn:Func}{xs:List X}{q:HO}(ho:o.op = .call { callee:=.value (.func f),args,argTypes:=ats })(hf:P.funcs[f]? = some fn)(hxs:mA args=some xs)(hx:zl fn=true)
  (hq : (if fn.name = "internal/abi.NoEscape" then some (HO.gx .qC xs) else if fn.name = "internal/bytealg.CountString" then some (.gx .xH xs) else none) = some q) : b8 P o q := by
 intro φ H w ts a hR hr K Kp h next Q hn ov
 have qK:=lY hr (l:=args.toList) hxs
 have hvs:args.map a.eval=(args.toList.map a.eval).toArray:=by rw[←Array.toList_map]
 split at hq
 ·rename_i hnm
  cases hq
  simp only[HO.aV] at h
  obtain ⟨h1,h2⟩:=h
  obtain ⟨x,hl⟩:=NZ h1
  rw[hl] at qK h2
  obtain ⟨u1,r1,e1,o1,p1,e3⟩:=qK
  simp only[Rt] at e3
  subst e3
  refine aG (qJ ho hf hx (F7 hnm) (v:=u1) ?_) (hn _ _ φ H w h2 ⟨o1,p1⟩ hR (Step.refl _ _ _))
  rw[hvs,e1]
  rfl
 ·split at hq
  case isFalse=>simp at hq
  rename_i hnm
  cases hq
  simp only[HO.aV] at h
  obtain ⟨h1,h2⟩:=h
  obtain ⟨s,c,hl⟩:=RD h1
  rw[hl] at qK h2
  obtain ⟨u1,r1,e1,o1,p1,u2,r2,e2,o2,p2,e3⟩:=qK
  simp only[Rt] at e3
  subst e3
  have q1:=bF (⟨o1,p1⟩:VR φ (Own φ H) w _ u1)
  have q2:=bF (⟨o2,p2⟩:VR φ (Own φ H) w _ u2)
  refine aG (qJ ho hf hx (Ju hnm) ?_) (hn _ _ φ H w h2 (cF rfl) hR (Step.refl _ _ _))
  rw[hvs,e1,e2,q1,q2]
  exact Lib.run_countString s c w
theorem N0{t k e:TypeId}(ht:P.underlying t=some (.map k e))(p:Option Nat)(w:World):(Op.equal t (.map p) (.map none)).run P w = .ok p.isNone w:=by
 show (Op.equalIn (9999+1) t _ _).run P w=_
 rw[Op.equalIn]
 simp only[Sem.run_bind,bh ht,Result.andThen_ok]
 cases p<;>rfl
theorem F8{o:Oper}{op:BinOp}{t ty k e:TypeId}{x:Operand}{x':X}{pos:Bool}(ho:o.op = .binOp op t x (.const (.map none)) ty)(ht:P.underlying t=some (.map k e))(hop:op=if pos then .eql else .neq)(hx:aU x=some x'):b8 P o (.gx (.xF pos) [x']):=by
 intro φ H w ts a hR hr K Kp h next Q hn ov
 have hv:=aq hr hx
 simp only[HO.aV,List.map_cons,List.map_nil] at h
 obtain ⟨h1,h2⟩:=h
 generalize X.ev ts x'=x1 at h1 h2 hv
 obtain ⟨p,e1,wg⟩:∃p:Option Nat,a.eval x = .map p∧K (.sc (.bool (if pos then p.isNone else !p.isNone))) H:=by
  match x1,h1 with
  | .ptr 0 id j 0,_ =>
   obtain ⟨b,_,g⟩:=ee hv
   refine ⟨some b,g,?_⟩
   have:K (.sc (.bool !pos)) H:=h2
   cases pos<;>exact this
  | .sc (.map none),_ =>
   refine ⟨none,bF hv,?_⟩
   have:K (.sc (.bool pos)) H:=h2
   cases pos<;>exact this
 have hq:=N0 (P:=P) ht p w
 refine aG (u:=.bool (if pos then p.isNone else !p.isNone)) ?_ (hn _ _ φ H w wg (cF rfl) hR (Step.refl _ _ _))
 cases pos<;>simp only[if_true,if_false,Bool.false_eq_true] at hop ⊢<;>subst hop<;>simp[execOp,ho,e1,show a.eval (.const (.map none)) = .map none from rfl,eqGuard,binOp,hq]
theorem any_some{α:Type}{o:Option α}{p:α→Bool}(h:o.any p=true):∃x,o=some x∧p x=true:=by
 cases o with
 | none=>simp at h
 | some x=>exact ⟨x,rfl,by simpa using h⟩
theorem Ef{o:Oper}{q:HO}(h:zn P o=some q):b8 P o q:=by
 unfold zn at h
 split at h
 ·rename_i args ats ho
  split at h
  case h_2=>simp at h
  rename_i d s t t' ha df
  split at h
  case h_2=>simp at h
  rename_i e d' s' h1 h2 h3 h4
  split at h
  case isFalse=>simp at h
  rename_i hc
  cases h
  exact NW ho ha df h1 hc.2 h3 h4
 ·rename_i args ats ho
  split at h
  case h_2=>simp at h
  rename_i d s t t' ha df
  split at h
  case h_2=>simp at h
  rename_i e d' s' h1 h2 h3 h4
  split at h
  case h_2=>simp at h
  rename_i i hi
  split at h
  case isFalse=>simp at h
  rename_i hc
  obtain ⟨c1,c2,c3,c4⟩:=hc
  cases h
  obtain ⟨z,hz,hzs⟩:=any_some c4
  exact RA ho ha df h1 h2 hi hz (by simpa using hzs) c2 c3 h3 h4
 ·rename_i args ats ho
  split at h
  case h_2=>simp at h
  rename_i p n t it ha df
  split at h
  case h_2=>simp at h
  rename_i e p' n' h1 h2 h3
  split at h
  case isFalse=>simp at h
  rename_i hc
  cases h
  exact RB ho ha df h1 hc.2 h2 h3
 ·rename_i args ats ho
  split at h
  case h_2=>simp at h
  rename_i s ha
  rw[Option.map_eq_some_iff] at h
  obtain ⟨s',h1,rfl⟩:=h
  exact NX ho ha h1
 ·rename_i op t x y ty ho
  split at h
  case h_3=>simp at h
  case h_2 =>
   rename_i kt e x' h1 h2
   split at h
   ·cases h;exact F8 ho h1 rfl h2
   ·cases h;exact F8 ho h1 rfl h2
   ·simp at h
  rename_i e x' h1 h2
  split at h
  ·cases h;exact F6 ho h1 rfl h2
  ·cases h;exact F6 ho h1 rfl h2
  ·split at h
   case isFalse=>simp at h
   rename_i hc
   obtain ⟨i,hi,hz⟩:=any_some hc
   rw[Option.map_eq_some_iff] at h
   obtain ⟨y',h3,rfl⟩:=h
   exact Mp ho h1 hi (by simpa using hz) rfl h2 h3
  ·split at h
   case isFalse=>simp at h
   rename_i hc
   obtain ⟨i,hi,hz⟩:=any_some hc
   rw[Option.map_eq_some_iff] at h
   obtain ⟨y',h3,rfl⟩:=h
   exact Mp ho h1 hi (by simpa using hz) rfl h2 h3
  ·simp at h
 ·rename_i s d x ho
  split at h
  ·rename_i e x' h1 h2 h3
   split at h
   case isFalse=>simp at h
   rename_i hc
   obtain ⟨i,hi,hz⟩:=any_some hc
   cases h
   exact Wq ho h1 h2 hi (by simpa using hz) h3
  ·rename_i u x' h1 h2 h3
   split at h
   case isFalse=>simp at h
   rename_i hc
   cases h
   exact NY ho h1 h2 hc h3
  ·simp at h
 ·rename_i f args ats ho
  split at h
  case h_2=>simp at h
  rename_i fn xs h1 h2
  split at h
  case isFalse=>simp at h
  rename_i hx
  exact RF ho h1 h2 hx h
 ·simp at h
theorem Eg{b:Bool}{o:Oper}{op:HO}(h:lE P b o=some op):b8 P o op:=by
 unfold lE at h
 split at h
 ·rename_i h0;cases h;exact BU h0
 ·unfold uy at h
  split at h
  ·rename_i h1;cases h;exact Ef h1
  ·obtain ⟨kd,x,rfl⟩:=zo h
   intro φ H w ts a hR hr K Kp hh
   exact (show False from hh).elim
end
inductive dR where
 | p (q:PO)
 | h (q:HO)
structure bG where
 dst:Option Nat
 guard:Option (Nat×Bool)
 op:dR
def pg(P:Program)(ev:X→Z)(H:Y)(K Kp:Z→Y→Prop):dR→Prop
 | .p q=>PO.aV ev (fun v=>K v H) q
 | .h q=>HO.aV P ev H K Kp q
def RG(P:Program)(ev:X→Z)(H:Y)(K Kp:Z→Y→Prop):dR→Prop
 | .p q=>PO.aV ev (fun v=>K v H) q
 | .h q=>HO.FW P ev H K Kp q
def bT(ts:List Z)(yes no:Prop):Option (Nat×Bool)→Prop
 | none=>yes
 | some (d,want)=>match ts.getD d .top with
  | .sc (.bool b)=>(b=want→yes)∧(b≠want→no)
  | .aK _=>no
  | _=>False
def fP(P:Program)(K:List Z→Y→Prop)(Kp:Z→List Z→Y→Prop):List bG→List Z→Y→Prop
 | [],ts,H=>K ts H
 | o::r,ts,H=>bT ts (RG P (X.ev ts) H (fun v H'=>fP P K Kp r (bJ ts o.dst v) H') (fun v H'=>Kp v ts H') o.op) (fP P K Kp r (bJ ts o.dst (.aK [])) H) o.guard
def Eh(ops:Array Oper):Option (Nat×Bool)→Option (Option (Nat×Bool))
 | none=>some none
 | some (j,want)=>match (ops[j]?).bind (·.dst) with
  | some d=>some (some (d,want))
  | none=>none
def lG(P:Program)(aX:Bool)(ops:Array Oper)(o:Oper):Option bG :=
 match Eh ops o.guard with
 | none=>none
 | some g=>match Ja P o with
  | some q=>some ⟨o.dst,g,.p q⟩
  | none=>match lE P aX o with
   | some q=>some ⟨o.dst,g,.h q⟩
   | none=>some ⟨o.dst,g,.p (.un .not (.k .top))⟩
def dc(P:Program)(aX:Bool)(ops:Array Oper):List Oper→Option (List bG)
 | []=>some []
 | o::r=>match lG P aX ops o,dc P aX ops r with
  | some x,some s=>some (x::s)
  | _,_=>none
section
variable {P:Program}
theorem mq{φ:aC}{O:Nat→Prop}{w:World}:VR φ O w (.aK []) undef:=⟨⟨#[],rfl⟩,⟨#[],rfl,rfl⟩⟩
theorem zI{b:Bool}{ops:Array Oper}{o:Oper}{x:bG}(hc:lG P b ops o=some x){φ:aC}{H:Y}{w:World}{ts:List Z}{a:Act}(hR:Rel φ H w)(hF:FR φ (Own φ H) w ts a){K Kp:Z→Y→Prop}(h:pg P (X.ev ts) H K Kp x.op)
  {next:Act→World→Prop}{Q:Exit→Act→World→Prop}
  (hn:∀v u φ' H' w',K v H'→VR φ' (Own φ' H') w' v u→Rel φ' H' w'→Step φ H w φ' H' w'→next (a.put o.dst u) w')
  (hp:∀v u φ' H' w',Kp v H'→qi φ' (Own φ' H') w' v u→Rel φ' H' w'→Step φ H w φ' H' w'→Q (.panic u) a w'):o.wp P a w next Q:=by
 unfold lG at hc
 split at hc
 ·simp at hc
 split at hc
 ·rename_i q hq
  cases hc
  obtain ⟨v,u,h1,h2,h3⟩:=D3 hq φ (Own φ H) w ts a hF (fun v=>K v H) h
  exact aG h3 (hn _ _ _ _ _ h1 h2 hR (Step.refl _ _ _))
 ·split at hc
  ·rename_i q hq
   cases hc
   exact Eg hq φ H w ts a hR hF K Kp h next Q hn hp
  ·cases hc
   exact False.elim h
theorem tq{b:Bool}{ops:Array Oper}{o:Oper}{x:bG}(hc:lG P b ops o=some x):x.dst=o.dst∧Eh ops o.guard=some x.guard:=by
 unfold lG at hc
 split at hc
 ·simp at hc
 rename_i g hg
 split at hc
 ·cases hc;exact ⟨rfl,hg⟩
 ·split at hc
  ·cases hc;exact ⟨rfl,hg⟩
  ·cases hc;exact ⟨rfl,hg⟩
theorem gh{ops:Array Oper}{o:Oper}{g:Option (Nat×Bool)}(hg:Eh ops o.guard=some g){φ:aC}{O:Nat→Prop}{w:World}{ts:List Z}{a:Act}(hF:FR φ O w ts a){yes no:Prop}(h:bT ts yes no g) :
  (Region.wanted o (yielded ops a.tmps)=true∧yes)∨(Region.wanted o (yielded ops a.tmps)=false∧no):=by
 unfold Eh at hg
 unfold Region.wanted
 split at hg
 ·rename_i e
  cases hg
  rw[e]
  exact .inl ⟨rfl,h⟩
 ·rename_i j want e
  split at hg
  case h_2=>simp at hg
  rename_i d hd
  cases hg
  rw[e]
  have hv:=hF.2 d
  have hy:yielded ops a.tmps j=match a.tmps[d]? with | some (.bool b)=>some b | _=>none:=by
   unfold yielded
   rw[hd]
   rfl
  simp only[bT] at h
  split at h
  ·rename_i b hb
   rw[hb] at hv
   have hu:=bF hv
   have hsz:d<a.tmps.size:=by
    rcases Nat.lt_or_ge d a.tmps.size with hl | hl
    ·exact hl
    ·rw[Array.getD_eq_getD_getElem?,Array.getElem?_eq_none hl] at hu
     simp[undef] at hu
   have QU:a.tmps[d]? = some (.bool b):=by
    rw[Array.getD_eq_getD_getElem?,Array.getElem?_eq_getElem hsz] at hu
    rw[Array.getElem?_eq_getElem hsz]
    exact congrArg some hu
   simp only[hy,QU]
   by_cases Wr:b=want
   ·exact .inl ⟨by simp[Wr],h.1 Wr⟩
   ·exact .inr ⟨by simp[Wr],h.2 Wr⟩
  ·rename_i vs hb
   rw[hb] at hv
   obtain ⟨us,hu,_⟩:=D2 hv
   refine .inr ⟨?_,h⟩
   simp only[hy]
   rw[Array.getD_eq_getD_getElem?] at hu
   cases QU:a.tmps[d]? with
   | none=>rfl
   | some v =>
    rw[QU] at hu
    simp at hu
    subst hu
    rfl
  ·exact h.elim
theorem Ei{P:Program}{b:Bool}{o:Oper}{f:FuncId}{dS:List X}(h:hJ P b o=some (.call f dS)):∃args ats,o.op = .call { callee:=.value (.func f),args,argTypes:=ats }∧bA P f=true∧mA args=some dS:=by
 unfold hJ at h
 split at h
 all_goals try (repeat' split at h)
 all_goals try (cases h;done)
 all_goals try (simp[Option.map_eq_some_iff] at h;done)
 all_goals try (obtain ⟨g,xs,e⟩:=ox h;cases e;done)
 all_goals try (unfold tc at h;repeat' split at h)
 all_goals try (cases h;done)
 all_goals try (unfold xK at h;repeat' split at h)
 all_goals try (cases h;done)
 rename_i ho hc
 rw[Option.map_eq_some_iff] at h
 obtain ⟨as',h1,h2⟩:=h
 cases h2
 exact ⟨_,_,ho,hc,h1⟩
theorem BW{P:Program}{b:Bool}{o:Oper}{f:X}{dS:List X}(h:hJ P b o=some (.bD f dS)):∃t args ats,f = .t t∧o.op = .call { callee:=.value (.tmp t),args,argTypes:=ats }∧mA args=some dS:=by
 unfold hJ at h
 split at h
 all_goals try (repeat' split at h)
 all_goals try (cases h;done)
 all_goals try (simp[Option.map_eq_some_iff] at h;done)
 all_goals try (obtain ⟨g,xs,e⟩:=ox h;cases e;done)
 all_goals try (unfold tc at h;repeat' split at h)
 all_goals try (cases h;done)
 all_goals try (unfold xK at h;repeat' split at h)
 all_goals try (cases h;done)
 rename_i ho
 rw[Option.map_eq_some_iff] at h
 obtain ⟨as',h1,h2⟩:=h
 cases h2
 exact ⟨_,_,_,rfl,ho,h1⟩
theorem zJ{b:Bool}{ops:Array Oper}{o:Oper}{x:bG}{q:HO}(hc:lG P b ops o=some x)(hx:x.op = .h q):lE P b o=some q:=by
 unfold lG at hc
 split at hc
 ·simp at hc
 split at hc
 ·cases hc;cases hx
 ·split at hc
  ·rename_i q' hq
   cases hc
   cases hx
   exact hq
  ·cases hc;cases hx
theorem F9{b:Bool}{o:Oper}{q:HO}(h:lE P b o=some q)(hq:∀g xs,q≠.gx g xs)(BX:∀kd x,q≠.ot kd x):hJ P b o=some q:=by
 unfold lE at h
 split at h
 ·rename_i q' h1
  rw[h1,h]
 ·rcases td h with ⟨g,xs,e⟩ | ⟨kd,x,e⟩
  ·exact absurd e (hq g xs)
  ·exact absurd e (BX kd x)
theorem Ga{P:Program}{b:Bool}{o:Oper}{kd:Jm}{x:X}(h:hJ P b o=some (.ot kd x)):False:=by
 unfold hJ at h
 split at h
 all_goals try (repeat' split at h)
 all_goals try (cases h;done)
 all_goals try (simp[Option.map_eq_some_iff] at h;done)
 all_goals try (obtain ⟨g,xs,e⟩:=ox h;cases e;done)
 all_goals try (unfold tc at h;repeat' split at h)
 all_goals try (cases h;done)
 all_goals try (unfold xK at h;repeat' split at h)
 all_goals try (cases h;done)
theorem RH{b:Bool}{o:Oper}{kd:Jm}{x:X}(h:lE P b o=some (.ot kd x)):vX P o.op=some (.ot kd x):=by
 unfold lE at h
 split at h
 ·rename_i h0;cases h;exact (Ga h0).elim
 ·unfold uy at h
  split at h
  ·rename_i h1;cases h;obtain ⟨g,xs,e⟩:=CC h1;cases e
  ·exact h
theorem Ej{b:Bool}{ops:Array Oper}{o:Oper}{x:bG}(hc:lG P b ops o=some x){φ:aC}{H:Y}{w:World}{ts:List Z}{a:Act}(hR:Rel φ H w)(hF:FR φ (Own φ H) w ts a){K Kp:Z→Y→Prop}(h:RG P (X.ev ts) H K Kp x.op)
  {next:Act→World→Prop}{Q:Exit→Act→World→Prop}
  (hn:∀v u φ' H' w',K v H'→VR φ' (Own φ' H') w' v u→Rel φ' H' w'→Step φ H w φ' H' w'→next (a.put o.dst u) w')
  (hp:∀v u φ' H' w',Kp v H'→qi φ' (Own φ' H') w' v u→Rel φ' H' w'→Step φ H w φ' H' w'→Q (.panic u) a w'):o.wp P a w next Q:=by
 cases hx:x.op with
 | p q=>exact zI hc hR hF (by rw[hx] at h ⊢;exact h) hn hp
 | h q =>
  rw[hx] at h
  cases q with
  | call f dS =>
   obtain ⟨args,ats,h1,h2,h3⟩:=Ei (F9 (zJ hc hx) (fun g xs e=>by cases e) (fun g xs e=>by cases e))
   exact NQ h1 h2 h3 hR hF h hn hp
  | bD f dS =>
   obtain ⟨t,args,ats,rfl,h1,h3⟩:=BW (F9 (zJ hc hx) (fun g xs e=>by cases e) (fun g xs e=>by cases e))
   exact Jp h1 h3 hR hF h hn hp
  | ot kd y=>exact Wc (RH (zJ hc hx)) hR hF h hn
  | _=>exact zI hc hR hF (by rw[hx];exact h) hn hp
theorem uE(ts:List Z)(d:Option Nat)(v:Z):(bJ ts d v).length=ts.length:=by
 cases d<;>simp[bJ]
def kQ(Q:Exit→Act→World→Prop)(K:List Z→Y→Prop)(φ:aC)(H:Y)(w:World)(ds:List Deferred):Prop :=
 ∀ts' a' φ' H' w',K ts' H'→FR φ' (Own φ' H') w' ts' a'→Rel φ' H' w'→Step φ H w φ' H' w'→a'.defers=ds→Q .normal a' w'
def j9(Q:Exit→Act→World→Prop)(Kp:Z→List Z→Y→Prop)(φ:aC)(H:Y)(w:World)(ds:List Deferred):Prop :=
 ∀v u ts' a' φ' H' w',Kp v ts' H'→qi φ' (Own φ' H') w' v u→FR φ' (Own φ' H') w' ts' a'→Rel φ' H' w'→Step φ H w φ' H' w'→a'.defers=ds→Q (.panic u) a' w'
theorem put_defers(a:Act)(d:Option Tmp)(v:Value):(a.put d v).defers=a.defers:=by cases d<;>rfl
theorem nR{b:Bool}{ops:Array Oper}{Q:Exit→Act→World→Prop}{K:List Z→Y→Prop}{Kp:Z→List Z→Y→Prop}:∀(n i:Nat)(l:List bG)(ts:List Z)(H:Y)(φ:aC)(w:World)(a:Act),
  i+n=ops.size→dc P b ops (ops.toList.drop i)=some l→Rel φ H w→FR φ (Own φ H) w ts a→fP P K Kp l ts H→kQ Q K φ H w a.defers→j9 Q Kp φ H w a.defers→wpOps P ops Q (List.range' i n) a w
 | 0,i,l,ts,H,φ,w,a,hi,hc,hR,hF,h,hk,hp=>by
  have:ops.toList.drop i=[]:=List.drop_of_length_le (by simp;omega)
  rw[this] at hc
  simp[dc] at hc
  subst hc
  exact hk _ _ _ _ _ h hF hR (Step.refl _ _ _) rfl
 | n+1,i,l,ts,H,φ,w,a,hi,hc,hR,hF,h,hk,hp=>by
  have hlt:i<ops.toList.length:=by simp;omega
  rw[List.drop_eq_getElem_cons hlt] at hc
  unfold dc at hc
  split at hc
  case h_2=>simp at hc
  rename_i x s hx hs
  cases hc
  have Jv:ops[i]? = some (ops.toList[i]):=by simp at hlt;simp[hlt]
  obtain ⟨hd,hg⟩:=tq hx
  simp only[fP] at h
  have zK:∀φ' H' w',Step φ H w φ' H' w'→∀a':Act,a'.defers=a.defers→kQ Q K φ' H' w' a'.defers∧j9 Q Kp φ' H' w' a'.defers:=by
   intro φ' H' w' hst a' ha
   exact ⟨fun tt a2 cT H2 w2 k1 k2 k3 k4 k5=>hk tt a2 cT H2 w2 k1 k2 k3 (hst.trans k4) (by rw[k5,ha]),fun v u tt a2 cT H2 w2 k1 k2 k3 k4 k5 k6=>hp v u tt a2 cT H2 w2 k1 k2 k3 k4 (hst.trans k5) (by rw[k6,ha])⟩
  rw[show List.range' i (n+1)=i::List.range' (i+1) n from rfl]
  simp only[wpOps,Jv]
  rcases gh hg hF h with ⟨hw,hy⟩ | ⟨hw,hno⟩
  ·rw[if_pos hw]
   left
   refine Ej hx hR hF hy (fun v u φ' H' w' k1 k2 k3 k4=>?_) (fun v u φ' H' w' k1 k2 k3 k4=>?_)
   ·have wj:=(FR.step k4 hF).put (ops.toList[i]).dst k2
    rw[hd] at k1
    have:=zK φ' H' w' k4 (a.put (ops.toList[i]).dst u) (put_defers _ _ _)
    exact nR n (i+1) s _ H' φ' w' _ (by omega) hs k3 wj k1 this.1 this.2
   ·exact hp v u ts a φ' H' w' k1 k2 (FR.step k4 hF) k3 k4 rfl
  ·rw[if_neg (by rw[hw];simp)]
   have wj:=hF.put (ops.toList[i]).dst (mq (φ:=φ) (O:=Own φ H) (w:=w))
   rw[hd] at hno
   have:=zK φ H w (Step.refl _ _ _) (a.put (ops.toList[i]).dst undef) (put_defers _ _ _)
   exact nR n (i+1) s _ H φ w _ (by omega) hs hR wj hno this.1 this.2
theorem Gb{b:Bool}{id:Nat}{ops:Array Oper}{l:List bG}(hc:dc P b ops ops.toList=some l){Q:Exit→Act→World→Prop}{K:List Z→Y→Prop}{Kp:Z→List Z→Y→Prop}{φ:aC}{H:Y}{w:World}{ts:List Z}{a:Act}
  (hR:Rel φ H w)(hF:FR φ (Own φ H) w ts a)(h:fP P K Kp l ts H)(hk:kQ Q K φ H w a.defers)(hp:j9 Q Kp φ H w a.defers):(Code.region id ops false).wp P Q a w:=by
 refine wp_region ?_
 rw[List.range_eq_range']
 exact nR ops.size 0 l ts H φ w a (by omega) (by simpa using hc) hR hF h hk hp
end
section inv
theorem qN{ops:Array Oper}{j:Nat}{listed:Array Bool}(h:j∈Region.ready .any ops listed) :
  j<ops.size∧listed.getD j true=false∧∀o,ops[j]? = some o→∀e∈o.after.toList,Region.binds .any e=true→listed.getD e.on false=true:=by
 unfold Region.ready at h
 simp only[List.mem_filter,List.mem_range,Bool.and_eq_true,Bool.not_eq_true'] at h
 obtain ⟨h1,h2,h3⟩:=h
 refine ⟨h1,h2,fun o ho e he hb=>?_⟩
 rw[ho] at h3
 simp only[Option.map_some,Option.getD_some,Array.all_eq_true_iff_forall_mem] at h3
 have:=h3 e (by simpa using he)
 simpa [hb] using this
def cnt(listed:Array Bool):Nat:=listed.toList.count true
theorem RI{listed:Array Bool}{i:Nat}(hi:i<listed.size)(h:listed.getD i true=false):cnt (listed.setIfInBounds i true)=cnt listed+1:=by
 unfold cnt
 rw[Array.toList_setIfInBounds]
 have h':listed.toList[i]'(by simpa using hi)=false:=by
  simpa [Array.getD,hi] using h
 rw[List.count_set (by simpa using hi)]
 simp[h']
theorem Gc{listed:Array Bool}(h:cnt listed=listed.size)(i:Nat)(hi:i<listed.size):listed.getD i false=true:=by
 unfold cnt at h
 rw[←Array.length_toList] at h
 have:=List.count_eq_length.1 h
 have hm:=this (listed.toList[i]'(by simpa using hi)) (List.getElem_mem _)
 simpa [Array.getD,hi] using hm.symm
theorem zL{P:Program}{ops:Array Oper}{Q:Exit→Act→World→Prop}(I:Array Bool→Act→World→Prop)
  (hsz:∀listed a w,I listed a w→listed.size=ops.size)(ke:∀listed a w,I listed a w→Region.ready .any ops listed=[]→Q .normal a w)
  (hstep:∀listed a w i,I listed a w→i∈Region.ready .any ops listed→wpOp P ops Q i (fun a' w'=>I (listed.setIfInBounds i true) a' w') a w) :
  ∀(fuel:Nat)(listed:Array Bool)(a:Act)(w:World),I listed a w→ops.size≤cnt listed+fuel→wpAny P .any ops Q fuel listed a w
 | 0,listed,a,w,hI,hf=>by
  have h0:=hsz _ _ _ hI
  have hle:cnt listed≤listed.size:=by unfold cnt;rw[←Array.length_toList];exact List.count_le_length
  have hall:=Gc (listed:=listed) (by omega)
  have hr:Region.ready .any ops listed=[]:=by
   rw[List.eq_nil_iff_forall_not_mem]
   intro i hi
   obtain ⟨h1,h2,_⟩:=qN hi
   have hY:i<listed.size:=by omega
   have:=hall i hY
   simp[Array.getD,hY] at this h2
   rw[this] at h2
   simp at h2
  exact ⟨hr,ke _ _ _ hI hr⟩
 | fuel+1,listed,a,w,hI,hf=>by
  refine ⟨ke _ _ _ hI,fun i hi=>?_⟩
  obtain ⟨h1,h2,_⟩:=qN hi
  have h0:=hsz _ _ _ hI
  refine wpOp_mono (fun a' w' RJ=>?_) (hstep listed a w i hI hi)
  refine zL I hsz ke hstep fuel _ a' w' RJ ?_
  rw[RI (by omega) h2]
  omega
end inv
def PO.xs:PO→List X
 | .mv x=>[x]
 | .pick c a b=>[c,a,b]
 | .bP _ x y=>[x,y]
 | .BO _ x y=>[x,y]
 | .Fx _ x y=>[x,y]
 | .D1 _ x=>[x]
 | .um _ x=>[x]
 | .un _ x=>[x]
 | .conv _ x=>[x]
 | .s8 x=>[x]
 | .cI x=>[x]
 | .av _ x=>[x]
 | .field _ _ _ x=>[x]
 | .gE _ x i=>[x,i]
 | .oZ _ _ x i=>[x,i]
 | .jy x i=>[x,i]
 | .xx _ _ _ x i=>[x,i]
 | .yq _ x lo hi mx=>x::(lo.toList++hi.toList++mx.toList)
 | .oh x lo hi=>x::(lo.toList++hi.toList)
 | .len x=>[x]
 | .my x=>[x]
 | .mm _ x y=>[x,y]
 | .ext x _=>[x]
 | .kZ _ a b=>a++b
 | .xy _ x=>[x]
 | .xz _ _ x=>[x]
 | .build _ ps=>ps.map fun (_,_,x)=>x
 | .qw _ x=>[x]
 | .sP _ x=>[x]
def HO.xs:HO→List X
 | .load _ _ a=>[a]
 | .alloc _ _=>[]
 | .box _ _ x=>[x]
 | .eE _ _ _ _ ps=>ps.map fun (_,x)=>x
 | .jC _ _ _ _ ps=>ps.map fun (_,x)=>x
 | .store _ a x=>[a,x]
 | .jD _ _ _ l c=>[l,c]
 | .eN _ _ s x=>[s,x]
 | .gx _ xs=>xs
 | .ot _ x=>[x]
 | .call _ dS=>dS
 | .bD f dS=>f::dS
 | .bu x=>[x]
theorem tu{ev lH:X→Z}{d:Nat}{K:Nat→Prop}{o:Option X}(h:∀x∈o.toList,ev x=lH x):jz ev d o K=jz lH d o K:=by
 cases o with
 | none=>rfl
 | some x=>simp only[jz];rw[h x (by simp)]
theorem uF{ev lH:X→Z}{K:List Z→Prop}:∀{ps:List (Nat×Nat×X)}{zs:List Z},(∀x∈ps.map (fun (_,_,x)=>x),ev x=lH x)→lB ev zs ps K=lB lH zs ps K
 | [],_,_=>rfl
 | (o,n,x)::r,zs,h=>by
  simp only[lB]
  rw[h x (by simp),uF (ps:=r) fun y hy=>h y (by simp only[List.map_cons,List.mem_cons];exact .inr hy)]
theorem qO{ev lH:X→Z}{k:Nat}{K:List Z→Prop}:∀{ps:List (Nat×X)}{es:List Z},(∀x∈ps.map (fun (_,x)=>x),ev x=lH x)→mJ ev k es ps K=mJ lH k es ps K
 | [],_,_=>rfl
 | (o,x)::r,es,h=>by
  simp only[mJ]
  rw[h x (by simp),qO (ps:=r) fun y hy=>h y (by simp only[List.map_cons,List.mem_cons];exact .inr hy)]
theorem PO.tv{ev lH:X→Z}{K:Z→Prop}:∀{q:PO},(∀x∈q.xs,ev x=lH x)→PO.aV ev K q=PO.aV lH K q:=by
 intro q h
 cases q with
 | yq k x lo hi mx =>
  have hx:=h x (by simp[PO.xs])
  have hb:∀(o:Option X),(∀y∈o.toList,y∈(PO.yq k x lo hi mx).xs)→∀d (L:Nat→Prop),jz ev d o L=jz lH d o L:=fun o ho d L=>tu fun y hy=>h y (ho y hy)
  have h1:=hb lo (fun y hy=>by simp[PO.xs] at hy ⊢;exact .inr (.inl hy))
  have h2:=hb hi (fun y hy=>by simp[PO.xs] at hy ⊢;exact .inr (.inr (.inl hy)))
  have h3:=hb mx (fun y hy=>by simp[PO.xs] at hy ⊢;exact .inr (.inr (.inr hy)))
  simp only[PO.aV,hx,h1,h2]
  cases mx with
  | none=>rfl
  | some m=>simp only[h3]
 | oh x lo hi =>
  have hx:=h x (by simp[PO.xs])
  have h1:∀d (L:Nat→Prop),jz ev d lo L=jz lH d lo L:=fun d L=>tu fun y hy=>h y (by simp[PO.xs] at hy ⊢;exact .inr (.inl hy))
  have h2:∀d (L:Nat→Prop),jz ev d hi L=jz lH d hi L:=fun d L=>tu fun y hy=>h y (by simp[PO.xs] at hy ⊢;exact .inr (.inr hy))
  simp only[PO.aV,hx,h1,h2]
 | kZ f a b =>
  have h1:a.map ev=a.map lH:=List.map_congr_left fun x hx=>h x (by simp[PO.xs,hx])
  have h2:b.map ev=b.map lH:=List.map_congr_left fun x hx=>h x (by simp[PO.xs,hx])
  simp only[PO.aV,h1,h2]
 | build zs ps=>simp only[PO.aV];exact uF h
 | _=>simp only[PO.xs,List.mem_cons,List.not_mem_nil,or_false,forall_eq_or_imp,forall_eq] at h;simp only[PO.aV,h]
theorem HO.tv{P:Program}{ev lH:X→Z}{H:Y}{K Kp:Z→Y→Prop}:∀{q:HO},(∀x∈q.xs,ev x=lH x)→HO.aV P ev H K Kp q=HO.aV P lH H K Kp q:=by
 intro q h
 cases q with
 | eE k ty z ln ps=>simp only[HO.aV];exact qO h
 | jC k ty z ln ps=>simp only[HO.aV];exact qO h
 | call f dS =>
  have h1:dS.map ev=dS.map lH:=List.map_congr_left fun x hx=>h x hx
  simp only[HO.aV,h1]
 | gx g dS =>
  have h1:dS.map ev=dS.map lH:=List.map_congr_left fun x hx=>h x hx
  simp only[HO.aV,h1]
 | bD f dS =>
  have h1:dS.map ev=dS.map lH:=List.map_congr_left fun x hx=>h x (by simp[HO.xs,hx])
  have h2:=h f (by simp[HO.xs])
  simp only[HO.aV,h1,h2]
 | _=>simp only[HO.xs,List.mem_cons,List.not_mem_nil,or_false,forall_eq_or_imp,forall_eq] at h;simp only[HO.aV,h]
theorem jF{ev:X→Z}{d:Nat}{K:Nat→Prop}{o:Option X}(h:jz ev d o K):∃n,K n∧∀L:Nat→Prop,L n→jz ev d o L:=by
 cases o with
 | none=>exact ⟨d,h,fun L h=>h⟩
 | some x =>
  simp only[jz] at h ⊢
  split at h
  ·rename_i k n he
   exact ⟨_,h.2,fun L hL=>⟨h.1,hL⟩⟩
  ·exact h.elim
theorem CN{ev:X→Z}{K:List Z→Prop}:∀{ps:List (Nat×Nat×X)}{zs:List Z},lB ev zs ps K→∃cs,K cs∧∀L:List Z→Prop,L cs→lB ev zs ps L
 | [],zs,h=>⟨zs,h,fun L h=>h⟩
 | (o,n,x)::r,zs,h=>by
  obtain ⟨h1,h2⟩:=h
  obtain ⟨cs,h3,h4⟩:=CN h2
  exact ⟨cs,h3,fun L hL=>⟨h1,h4 L hL⟩⟩
theorem qP{ev:X→Z}{k:Nat}{K:List Z→Prop}:∀{ps:List (Nat×X)}{es:List Z},mJ ev k es ps K→∃cs,K cs∧∀L:List Z→Prop,L cs→mJ ev k es ps L
 | [],zs,h=>⟨zs,h,fun L h=>h⟩
 | (o,x)::r,zs,h=>by
  obtain ⟨h1,h2⟩:=h
  obtain ⟨cs,h3,h4⟩:=qP h2
  exact ⟨cs,h3,fun L hL=>⟨h1,h4 L hL⟩⟩
theorem PO.ph{ev:X→Z}{K:Z→Prop}:∀{q:PO},PO.aV ev K q→∃v,K v∧PO.aV ev (fun u=>u=v) q:=by
 intro q h
 cases q with
 | build zs ps =>
  obtain ⟨cs,h1,h2⟩:=CN h
  exact ⟨_,h1,h2 _ rfl⟩
 | pick c a b =>
  simp only[PO.aV] at h ⊢
  split at h
  ·rename_i t _
   cases t with
   | true=>exact ⟨_,h.1 rfl,fun _=>rfl,fun h=>by simp at h⟩
   | false=>exact ⟨_,h.2 rfl,fun h=>by simp at h,fun _=>rfl⟩
  ·exact h.elim
 | xz t z x =>
  simp only[PO.aV] at h ⊢
  split at h
  ·rename_i u v _
   by_cases e:u=t
   ·exact ⟨_,h.1 e,fun _=>rfl,fun h=>absurd e h⟩
   ·exact ⟨_,h.2 e,fun h=>absurd h e,fun _=>rfl⟩
  ·exact ⟨_,h,rfl⟩
  ·exact h.elim
 | oh x lo hi =>
  simp only[PO.aV] at h ⊢
  split at h
  ·obtain ⟨n,h1,h2⟩:=jF h
   obtain ⟨m,h3,h4⟩:=jF h1
   exact ⟨_,h3.2,h2 _ (h4 _ ⟨h3.1,rfl⟩)⟩
  ·exact h.elim
 | yq k x lo hi mx =>
  simp only[PO.aV] at h ⊢
  split at h
  ·obtain ⟨h0,h⟩:=h
   split at h
   ·obtain ⟨n0,h1,h2⟩:=jF h
    obtain ⟨n1,h3,h4⟩:=jF h1
    obtain ⟨n2,h5,h6⟩:=jF h3
    exact ⟨_,h5.2,h0,h2 _ (h4 _ (h6 _ ⟨h5.1,rfl⟩))⟩
   ·split at h
    ·obtain ⟨n1,h3,h4⟩:=jF h
     obtain ⟨n2,h5,h6⟩:=jF h3
     exact ⟨_,h5.2,h0,h4 _ (h6 _ ⟨h5.1,rfl⟩)⟩
    ·obtain ⟨n1,h3,h4⟩:=jF h
     obtain ⟨n2,h5,h6⟩:=jF h3
     exact ⟨_,h5.2,h0,h4 _ (h6 _ ⟨h5.1,rfl⟩)⟩
  ·obtain ⟨g1,g2,h⟩:=h
   obtain ⟨n1,h3,h4⟩:=jF h
   obtain ⟨n2,h5,h6⟩:=jF h3
   obtain ⟨h7,h8⟩:=h5
   split at h8
   ·by_cases e:n2<n1
    ·exact ⟨_,h8.1 e,g1,g2,h4 _ (h6 _ ⟨h7,fun _=>rfl,fun h=>by omega⟩)⟩
    ·exact ⟨_,h8.2 (by omega),g1,g2,h4 _ (h6 _ ⟨h7,fun h=>absurd h e,fun _=>rfl⟩)⟩
   ·exact (Classical.em _).elim (fun e=>⟨_,h8.1 e,g1,g2,h4 _ (h6 _ ⟨h7,fun _=>rfl,fun h=>by omega⟩)⟩) (fun e=>⟨_,h8.2 (Nat.le_of_not_lt e),g1,g2,h4 _ (h6 _ ⟨h7,fun h=>absurd h e,fun _=>rfl⟩)⟩)
  ·exact h.elim
 | bP op x y =>
  simp only[PO.aV] at h ⊢
  split at h
  ·obtain ⟨r,h1,h2⟩:=h;exact ⟨_,h2,r,h1,rfl⟩
  ·exact h.elim
 | BO op x y =>
  simp only[PO.aV] at h ⊢
  split at h
  ·obtain ⟨r,h1,h2⟩:=h;exact ⟨_,h2,r,h1,rfl⟩
  ·exact h.elim
 | un op x =>
  simp only[PO.aV] at h ⊢
  split at h
  ·obtain ⟨r,h1,h2⟩:=h;exact ⟨_,h2,r,h1,rfl⟩
  ·exact h.elim
 | xx ln n ag x i =>
  simp only[PO.aV] at h ⊢
  split at h
  ·exact ⟨_,h.2.2,h.1,h.2.1,rfl⟩
  ·exact h.elim
 | _ =>
  simp only[PO.aV] at h ⊢
  first
   | exact ⟨_,h,rfl⟩
   | (split at h<;>first
     | exact h.elim
     | exact ⟨_,h,rfl⟩
     | exact ⟨_,h.2,h.1,rfl⟩)
def HO.aQ:HO→Bool
 | .store ..=>true
 | .eN ..=>true
 | .gx ..=>true
 | .call ..=>true
 | .bD ..=>true
 | .bu _=>true
 | _=>false
def HO.bf:HO→Bool
 | .alloc ..=>true
 | .box ..=>true
 | .jC ..=>true
 | .jD ..=>true
 | _=>false
def dR.aQ:dR→Bool
 | .h q=>q.aQ
 | _=>false
def dR.bf:dR→Bool
 | .h q=>q.bf
 | _=>false
def dR.xs:dR→List X
 | .p q=>q.xs
 | .h q=>q.xs
def jt(A:List (List Nat))(i j:Nat):Bool:=(A.getD i []).contains j
def kf(A:List (List Nat))(i j:Nat):Bool:=!jt A i j && !jt A j i
def nS(A:List (List Nat))(n i:Nat):Bool:=(List.range n).all fun j=>decide (j≤i) || jt A j i
def HO.Jw(i:Nat)(H:Y)(ld:List (Nat×Nat)):HO→List (Nat×Nat)
 | .alloc _ _=>(i,H.length)::ld
 | .box _ _ _=>(i,H.length)::ld
 | .jC _ _ _ _ _=>(i,H.length)::ld
 | .jD _ _ _ _ _=>(i,H.length)::ld
 | _=>ld
theorem HO.RL{i:Nat}{H:Y}{ld:List (Nat×Nat)}(q:HO):∀l∈ld,l∈HO.Jw i H ld q:=by
 intro l hl
 cases q<;>simp only[HO.Jw]<;>first | exact hl | exact List.mem_cons_of_mem _ hl
theorem HO.RM{i:Nat}{H:Y}{ld:List (Nat×Nat)}{q:HO}(h:q.bf=true):(i,H.length)∈HO.Jw i H ld q:=by
 cases q<;>simp[HO.Jw,HO.bf] at h ⊢
def Ek(P:Program)(A:List (List Nat))(n i:Nat)(ev:X→Z)(H:Y)(ld:List (Nat×Nat))(hs:List (Nat×Y×Y))(C:Z→Y→List (Nat×Nat)→List (Nat×Y×Y)→Prop)(Kp:Z→Y→Prop):dR→Prop
 | .p q=>PO.aV ev (fun v=>C v H ld hs) q
 | .h (.load m ag a)=>match ev a with
  | .ptr k id j f=>(∀c∈hs,kf A c.1 i=true→id<c.2.1.length→Y.find c.2.2 id=Y.find c.2.1 id)∧HO.aV P ev H (fun v H'=>C v H' ((i,id)::ld) hs) (fun _ _=>False) (.load m ag a)
  | _=>HO.aV P ev H (fun v H'=>C v H' ld hs) (fun _ _=>False) (.load m ag a)
 | .h q=>if q.aQ then HO.aV P ev H (fun v H'=>(∀l∈ld,kf A l.1 i=true→Y.find H' l.2=Y.find H l.2)∧C v H' ld ((i,H,H')::hs)) (fun v H'=>nS A n i=true∧Kp v H') q
  else HO.aV P ev H (fun v H'=>C v H' (HO.Jw i H ld q) hs) (fun _ _=>False) q
def mL(P:Program)(A:List (List Nat))(n:Nat)(K:List Z→Y→Prop)(Kp:Z→Y→Prop):Nat→List bG→List Z→Y→List (Nat×Nat)→List (Nat×Y×Y)→Prop
 | _,[],ts,H,_,_=>K ts H
 | i,o::r,ts,H,ld,hs=>bT ts (Ek P A n i (X.ev ts) H ld hs (fun v H' wk hs'=>mL P A n K Kp (i+1) r (bJ ts o.dst v) H' wk hs') Kp o.op) (mL P A n K Kp (i+1) r (bJ ts o.dst (.aK [])) H ld hs) o.guard
theorem Gd{H:Y}{k:Nat}{x:Z}{K:List Z→Prop}(h:FJ H k x K):∃ys,K ys∧∀L:List Z→Prop,L ys→FJ H k x L:=by
 cases x<;>try exact False.elim h
 ·exact ⟨_,h.2,fun L hL=>⟨h.1,hL⟩⟩
 ·obtain ⟨blk,h1,h2,h3⟩:=h
  exact ⟨_,h3,fun L hL=>⟨blk,h1,h2,hL⟩⟩
theorem HO.ph{P:Program}{ev:X→Z}{H:Y}{K Kp:Z→Y→Prop}:∀{q:HO},HO.aV P ev H K Kp q→
  (∃v H',K v H'∧HO.aV P ev H (fun v' nT=>v'=v∧nT=H') (fun _ _=>False) q)∨(q.aQ=true∧∃v H',Kp v H'∧HO.aV P ev H (fun _ _=>False) (fun v' nT=>v'=v∧nT=H') q):=by
 intro q h
 cases q with
 | load n ag a =>
  simp only[HO.aV] at h ⊢
  left
  split at h
  ·obtain ⟨blk,e,h1,h2,h3,h4⟩:=h;exact ⟨_,_,h4,blk,e,h1,h2,h3,rfl,rfl⟩
  ·exact ⟨_,_,h.2,h.1,rfl,rfl⟩
  ·exact h.elim
 | alloc z ty=>exact .inl ⟨_,_,h,rfl,rfl⟩
 | box k ty x=>exact .inl ⟨_,_,h.2,h.1,rfl,rfl⟩
 | eE k ty z ln ps =>
  obtain ⟨cs,h1,h2⟩:=qP h
  exact .inl ⟨_,_,h1,h2 _ ⟨rfl,rfl⟩⟩
 | jC k ty z ln ps =>
  obtain ⟨cs,h1,h2⟩:=qP h
  exact .inl ⟨_,_,h1,h2 _ ⟨rfl,rfl⟩⟩
 | store n a x =>
  simp only[HO.aV] at h ⊢
  left
  split at h
  ·obtain ⟨blk,e,h1,h2,h3,h4⟩:=h;exact ⟨_,_,h4,blk,e,h1,h2,h3,rfl,rfl⟩
  ·exact h.elim
 | jD k ty z l c =>
  simp only[HO.aV] at h ⊢
  left
  split at h
  ·exact ⟨_,_,h.2,h.1,rfl,rfl⟩
  ·exact h.elim
 | gx g xs=>exact .inl ⟨_,_,h.2,h.1,rfl,rfl⟩
 | ot kd x=>exact h.elim
 | eN k ty s x =>
  simp only[HO.aV] at h ⊢
  left
  obtain ⟨ys,h,hL⟩:=Gd h
  split at h
  ·obtain ⟨h1,h2,h3⟩:=h
   by_cases e:ys=[]
   ·exact ⟨_,_,h2 e,hL _ ⟨h1,fun _=>⟨rfl,rfl⟩,fun h=>absurd e h⟩⟩
   ·exact ⟨_,_,h3 e,hL _ ⟨h1,fun h=>absurd h e,fun _=>⟨rfl,rfl⟩⟩⟩
  ·rename_i k' id off n c _
   obtain ⟨blk,h1,h2,h3⟩:=h
   cases c with
   | none=>exact ⟨_,_,h3.2,hL _ ⟨blk,h1,h2,h3.1,rfl,rfl⟩⟩
   | some m =>
    obtain ⟨h4,h5,h6⟩:=h3
    by_cases e:n+ys.length≤m
    ·exact ⟨_,_,h5 e,hL _ ⟨blk,h1,h2,h4,fun _=>⟨rfl,rfl⟩,fun h=>by omega⟩⟩
    ·exact ⟨_,_,h6 (by omega),hL _ ⟨blk,h1,h2,h4,fun h=>absurd h e,fun _=>⟨rfl,rfl⟩⟩⟩
  ·exact h.elim
 | call f dS =>
  obtain ⟨e,H',h1,h2⟩:=h
  cases e with
  | ret v=>exact .inl ⟨v,H',h2,_,_,h1,rfl,rfl⟩
  | bu v=>exact .inr ⟨rfl,v,H',h2,_,_,h1,rfl,rfl⟩
 | bD f dS =>
  simp only[HO.aV] at h ⊢
  split at h
  ·obtain ⟨h0,e,H',h1,h2⟩:=h
   cases e with
   | ret v=>exact .inl ⟨v,H',h2,h0,_,_,h1,rfl,rfl⟩
   | bu v=>exact .inr ⟨rfl,v,H',h2,h0,_,_,h1,rfl,rfl⟩
  ·exact h.elim
 | bu x =>
  simp only[HO.aV] at h ⊢
  right
  split at h
  ·exact ⟨rfl,_,_,h,rfl,rfl⟩
  ·exact h.elim
def jG(P:Program)(o:bG)(ts:List Z)(H:Y)(v:Z)(H':Y):Prop :=
 (bT ts True False o.guard∧pg P (X.ev ts) H (fun v' nT=>v'=v∧nT=H') (fun _ _=>False) o.op)∨(bT ts False True o.guard∧v = .aK []∧H'=H)
def aaa(P:Program)(o:bG)(ts:List Z)(H:Y)(v:Z)(H':Y):Prop :=
 bT ts True False o.guard∧o.op.aQ=true∧pg P (X.ev ts) H (fun _ _=>False) (fun v' nT=>v'=v∧nT=H') o.op
def nw(o:bG)(ts:List Z)(id:Nat):Prop:=∃m ag a k j f,o.op = .h (.load m ag a)∧X.ev ts a = .ptr k id j f
structure Road(P:Program)(A:List (List Nat))(n:Nat)(K:List Z→Y→Prop)(Kp:Z→Y→Prop)(i:Nat)(r:List bG)(ld:List (Nat×Nat))(hs:List (Nat×Y×Y))(N:Nat)(vs:Nat→Z)(Hs:Nat→Y)(fs:Nat→List Z):Prop where
 lo:i≤N
 hi:N≤i+r.length
 step:∀m o,i≤m→m<N→r[m - i]? = some o→fs (m+1)=bJ (fs m) o.dst (vs m)∧jG P o (fs m) (Hs m) (vs m) (Hs (m+1))
 ldc:∀l∈ld,∀c o,i≤c→c<N→r[c - i]? = some o→o.op.aQ=true→kf A l.1 c=true→Y.find (Hs (c+1)) l.2=Y.find (Hs c) l.2
 hsc:∀c∈hs,∀m o id,i≤m→m<N→r[m - i]? = some o→nw o (fs m) id→bT (fs m) True False o.guard→kf A c.1 m=true→id<c.2.1.length→Y.find c.2.2 id=Y.find c.2.1 id
 both:∀m o id c o',i≤m→m<N→i≤c→c<N→r[m - i]? = some o→nw o (fs m) id→bT (fs m) True False o.guard→r[c - i]? = some o'→o'.op.aQ=true→kf A m c=true→kf A c m=true→id<(Hs c).length→Y.find (Hs (c+1)) id=Y.find (Hs c) id
 YL:∀m o c o',i≤m→m<c→c<N→r[m - i]? = some o→o.op.bf=true→bT (fs m) True False o.guard→r[c - i]? = some o'→o'.op.aQ=true→kf A m c=true→Y.find (Hs (c+1)) (Hs m).length=Y.find (Hs c) (Hs m).length
 fin:(N=i+r.length∧K (fs N) (Hs N))∨∃o v H',r[N - i]? = some o∧aaa P o (fs N) (Hs N) v H'∧nS A n N=true∧Kp v H'
theorem BZ{ts:List Z}{yes no:Prop}:∀{g:Option (Nat×Bool)},bT ts yes no g→(bT ts True False g∧yes)∨(bT ts False True g∧no)
 | none,h=>.inl ⟨trivial,h⟩
 | some (d,want),h=>by
  simp only[bT] at h ⊢
  split at h
  ·rename_i b _
   by_cases e:b=want
   ·exact .inl ⟨⟨fun _=>trivial,fun h=>absurd e h⟩,h.1 e⟩
   ·exact .inr ⟨⟨fun h=>absurd h e,fun _=>trivial⟩,h.2 e⟩
  ·exact .inr ⟨trivial,h⟩
  ·exact h.elim
theorem N1(A:List (List Nat))(i j:Nat):kf A i j=kf A j i:=by unfold kf;rw[Bool.and_comm]
theorem Road.cons{P:Program}{A:List (List Nat)}{n:Nat}{K:List Z→Y→Prop}{Kp:Z→Y→Prop}{i:Nat}{o:bG}{r:List bG}{ld wk:List (Nat×Nat)}{hs hs':List (Nat×Y×Y)}{ts:List Z}{H:Y}{v:Z}{H':Y}
  (hst:jG P o ts H v H'){N:Nat}{vs:Nat→Z}{Hs:Nat→Y}{fs:Nat→List Z}(hrd:Road P A n K Kp (i+1) r wk hs' N vs Hs fs)(hf:fs (i+1)=bJ ts o.dst v)(hH:Hs (i+1)=H')
  (vT:∀l∈ld,l∈wk∧(o.op.aQ=true→kf A l.1 i=true→Y.find H' l.2=Y.find H l.2))
  (hhs:∀c∈hs,c∈hs'∧∀id,nw o ts id→bT ts True False o.guard→kf A c.1 i=true→id<c.2.1.length→Y.find c.2.2 id=Y.find c.2.1 id)
  (qy:∀id,nw o ts id→bT ts True False o.guard→(i,id)∈wk)(hch:o.op.aQ=true→(i,H,H')∈hs'∨(H'=H))(aab:o.op.bf=true→bT ts True False o.guard→(i,H.length)∈wk) :
  ∃vs2 Hs2 fs2,Road P A n K Kp i (o::r) ld hs N vs2 Hs2 fs2∧Hs2 i=H∧fs2 i=ts:=by
 have hlo:=hrd.lo
 have jH:∀m,i+1≤m→(o::r)[m - i]? = r[m - (i+1)]?:=fun m hm=>by
  rw[show m - i=(m - (i+1))+1 from by omega]
  simp
 have df:∀o',(o::r)[i - i]? = some o'→o'=o:=fun o' h=>by simpa using h.symm
 refine ⟨fun m=>if m=i then v else vs m,fun m=>if m=i then H else Hs m,fun m=>if m=i then ts else fs m,?_,by simp,by simp⟩
 have e1:∀{α:Type}(x y:α) m,i+1≤m→(if m=i then x else y)=y:=fun x y m hm=>by rw[if_neg (by omega)]
 refine ⟨by omega,by have:=hrd.hi;simp;omega,?_,?_,?_,?_,?_,?_⟩
 ·intro m o' hm wl eh
  by_cases e:m=i
  ·subst e
   cases df o' eh
   simp only[if_true]
   rw[if_neg (by omega),if_neg (by omega),hf,hH]
   exact ⟨rfl,hst⟩
  ·rw[jH m (by omega)] at eh
   have:=hrd.step m o' (by omega) wl eh
   rw[if_neg e,if_neg e,if_neg e,if_neg (by omega),if_neg (by omega)]
   exact this
 ·intro l hl c o' hc yt eh qQ hu
  by_cases e:c=i
  ·subst e
   cases df o' eh
   simp only[if_true]
   rw[if_neg (by omega),hH]
   exact (vT l hl).2 qQ hu
  ·rw[jH c (by omega)] at eh
   rw[if_neg e,if_neg (by omega)]
   exact hrd.ldc l (vT l hl).1 c o' (by omega) yt eh qQ hu
 ·intro c hc m o' id hm wl eh hl hg hu hid
  by_cases e:m=i
  ·subst e
   cases df o' eh
   simp only[if_true] at hl hg
   exact (hhs c hc).2 id hl hg hu hid
  ·rw[jH m (by omega)] at eh
   simp only[if_neg e] at hl hg
   exact hrd.hsc c (hhs c hc).1 m o' id (by omega) wl eh hl hg hu hid
 ·intro m o1 id c o2 hm wl hc yt tw hl hg sF qQ hu NV hid
  by_cases e:m=i
  ·subst e
   cases df o1 tw
   simp only[if_true] at hl hg
   by_cases e2:c=m
   ·subst e2
    cases df o2 sF
    obtain ⟨_,_,_,_,_,_,hop,_⟩:=hl
    rw[hop] at qQ
    simp[dR.aQ,HO.aQ] at qQ
   ·rw[jH c (by omega)] at sF
    simp only[if_neg e2] at hid ⊢
    rw[if_neg (by omega)]
    exact hrd.ldc (m,id) (qy id hl hg) c o2 (by omega) yt sF qQ hu
  ·by_cases e2:c=i
   ·subst e2
    cases df o2 sF
    rw[jH m (by omega)] at tw
    simp only[if_neg e] at hl hg
    simp only[if_true] at hid ⊢
    rw[if_neg (by omega),hH]
    rcases hch qQ with h1 | h1
    ·exact hrd.hsc (c,H,H') h1 m o1 id (by omega) wl tw hl hg NV hid
    ·rw[h1]
   ·rw[jH m (by omega)] at tw
    rw[jH c (by omega)] at sF
    simp only[if_neg e] at hl hg
    simp only[if_neg e2] at hid ⊢
    rw[if_neg (by omega)]
    exact hrd.both m o1 id c o2 (by omega) wl (by omega) yt tw hl hg sF qQ hu NV hid
 ·intro m o1 c o2 hm hmc yt tw hal hg sF qQ hu
  rw[jH c (by omega)] at sF
  by_cases e:m=i
  ·subst e
   cases df o1 tw
   simp only[if_true] at hg
   simp only[if_true]
   rw[if_neg (by omega),if_neg (by omega)]
   exact hrd.ldc (m,H.length) (aab hal hg) c o2 (by omega) yt sF qQ hu
  ·rw[jH m (by omega)] at tw
   simp only[if_neg e] at hg
   simp only[if_neg e]
   rw[if_neg (by omega),if_neg (by omega)]
   exact hrd.YL m o1 c o2 (by omega) hmc yt tw hal hg sF qQ hu
 ·have e2:N≠i:=by omega
  simp only[if_neg e2]
  rcases hrd.fin with ⟨h1,h2⟩ | ⟨o',v',H2,h1,h2⟩
  ·exact .inl ⟨by rw[h1];simp;omega,h2⟩
  ·exact .inr ⟨o',v',H2,by rw[jH N (by omega)];exact h1,h2⟩
theorem mM{P:Program}{A:List (List Nat)}{n:Nat}{K:List Z→Y→Prop}{Kp:Z→Y→Prop}:∀(r:List bG)(i:Nat)(ts:List Z)(H:Y)(ld:List (Nat×Nat))(hs:List (Nat×Y×Y)),mL P A n K Kp i r ts H ld hs→
  ∃N vs Hs fs,Road P A n K Kp i r ld hs N vs Hs fs∧Hs i=H∧fs i=ts
 | [],i,ts,H,ld,hs,h=>by
  refine ⟨i,fun _=>.top,fun _=>H,fun _=>ts,⟨Nat.le_refl _,by simp,fun m o h1 h2=>by omega,fun l _ c o h1 h2=>by omega,fun c _ m o id h1 h2=>by omega,fun m o id c o' h1 h2=>by omega,fun m o c o' h1 h2 h3=>by omega,.inl ⟨by simp,h⟩⟩,rfl,rfl⟩
 | o::r,i,ts,H,ld,hs,h=>by
  simp only[mL] at h
  rcases BZ h with ⟨hg,hy⟩ | ⟨hg,hn⟩
  case inr =>
   obtain ⟨N,vs,Hs,fs,h1,h2,h3⟩:=mM r (i+1) _ _ _ _ hn
   have RN:¬bT ts True False o.guard:=by
    intro hc
    cases hgo:o.guard with
    | none=>rw[hgo] at hg;exact hg
    | some dw =>
     obtain ⟨d,want⟩:=dw
     rw[hgo] at hg hc
     simp only[bT] at hg hc
     split at hg
     ·rename_i b he
      rw[he] at hc
      by_cases e:b=want
      ·exact hg.1 e
      ·exact hc.2 e
     ·rename_i _ he
      rw[he] at hc
      exact hc
     ·exact hg
   have hst:jG P o ts H (.aK []) H:=.inr ⟨hg,rfl,rfl⟩
   obtain ⟨a,b,c,k⟩:=Road.cons hst h1 h3 h2 (fun l hl=>⟨hl,fun _ _=>rfl⟩) (fun c hc=>⟨hc,fun id _ RO=>absurd RO RN⟩) (fun id _ RO=>absurd RO RN) (fun _=>.inr rfl) (fun _ RO=>absurd RO RN)
   exact ⟨N,a,b,c,k⟩
  case inl =>
   have plain:∀(v:Z)(H':Y)(wk:List (Nat×Nat)),(∀l∈ld,l∈wk)→(o.op.bf=true→(i,H.length)∈wk)→pg P (X.ev ts) H (fun v' nT=>v'=v∧nT=H') (fun _ _=>False) o.op→mL P A n K Kp (i+1) r (bJ ts o.dst v) H' wk hs→(∀id,¬nw o ts id)→o.op.aQ=false→∃N vs Hs fs,Road P A n K Kp i (o::r) ld hs N vs Hs fs∧Hs i=H∧fs i=ts:=by
    intro v H' wk hsub hnA h1 h2 h3 h4
    obtain ⟨N,vs,Hs,fs,k1,k2,k3⟩:=mM r (i+1) _ _ _ _ h2
    have hst:jG P o ts H v H':=.inl ⟨hg,h1⟩
    obtain ⟨a,b,c,k⟩:=Road.cons hst k1 k3 k2 (fun l hl=>⟨hsub l hl,fun h=>by rw[h4] at h;simp at h⟩) (fun c hc=>⟨hc,fun id hl=>absurd hl (h3 id)⟩) (fun id hl=>absurd hl (h3 id)) (fun h=>by rw[h4] at h;simp at h) (fun h _=>hnA h)
    exact ⟨N,a,b,c,k⟩
   cases hop:o.op with
   | p q =>
    rw[hop] at hy
    obtain ⟨v,h1,h2⟩:=PO.ph (show PO.aV (X.ev ts) (fun v=>mL P A n K Kp (i+1) r (bJ ts o.dst v) H ld hs) q from hy)
    have wg:pg P (X.ev ts) H (fun v' nT=>v'=v∧nT=H) (fun _ _=>False) o.op:=by
     rw[hop]
     show PO.aV (X.ev ts) (fun u=>u=v∧H=H) q
     have e:(fun u=>u=v∧H=H)=fun u=>u=v:=by funext u;simp
     rw[e]
     exact h2
    exact plain v H ld (fun _ h=>h) (fun h=>by rw[hop] at h;simp[dR.bf] at h) wg h1 (fun id hl=>by obtain ⟨_,_,_,_,_,_,e,_⟩:=hl;rw[hop] at e;cases e) (by rw[hop];rfl)
   | h q =>
    rw[hop] at hy
    by_cases zM:∃m ag a,q = .load m ag a
    ·obtain ⟨m,ag,a,rfl⟩:=zM
     simp only[Ek] at hy
     split at hy
     ·rename_i k id j f he
      obtain ⟨hc,hy⟩:=hy
      rcases HO.ph hy with ⟨v,H',h1,h2⟩ | ⟨h0,_⟩
      ·obtain ⟨N,vs,Hs,fs,k1,k2,k3⟩:=mM r (i+1) _ _ _ _ h1
       have hst:jG P o ts H v H':=.inl ⟨hg,by rw[hop];exact h2⟩
       have hone:∀id',nw o ts id'→id'=id:=by
        rintro id' ⟨_,_,a',_,_,_,e1,e2⟩
        rw[hop] at e1
        cases e1
        rw[he] at e2
        cases e2
        rfl
       have hnc:o.op.aQ=false:=by rw[hop];rfl
       obtain ⟨a,b,c,k⟩:=Road.cons hst k1 k3 k2 (fun l hl=>⟨List.mem_cons_of_mem _ hl,fun h=>by rw[hnc] at h;simp at h⟩) (fun c zN=>⟨zN,fun id' hl _ hu hid=>by
        cases hone id' hl;exact hc c zN hu hid⟩) (fun id' hl _=>by cases hone id' hl;simp) (fun h=>by rw[hnc] at h;simp at h) (fun h=>by rw[hop] at h;simp[dR.bf,HO.bf] at h)
       exact ⟨N,a,b,c,k⟩
      ·simp[HO.aQ] at h0
     ·rename_i hne
      rcases HO.ph hy with ⟨v,H',h1,h2⟩ | ⟨h0,_⟩
      ·exact plain v H' ld (fun _ h=>h) (fun h=>by rw[hop] at h;simp[dR.bf,HO.bf] at h) (by rw[hop];exact h2) h1 (fun id hl=>by
        obtain ⟨_,_,a',k,j,f,e1,e2⟩:=hl
        rw[hop] at e1
        cases e1
        exact hne _ _ _ _ e2) (by rw[hop];rfl)
      ·simp[HO.aQ] at h0
    ·have hnl:∀id,¬nw o ts id:=by
      rintro id ⟨m,ag,a,_,_,_,e1,_⟩
      rw[hop] at e1
      cases e1
      exact zM ⟨_,_,_,rfl⟩
     have hy':if q.aQ then HO.aV P (X.ev ts) H (fun v H'=>(∀l∈ld,kf A l.1 i=true→Y.find H' l.2=Y.find H l.2)∧mL P A n K Kp (i+1) r (bJ ts o.dst v) H' ld ((i,H,H')::hs)) (fun v H'=>nS A n i=true∧Kp v H') q
       else HO.aV P (X.ev ts) H (fun v H'=>mL P A n K Kp (i+1) r (bJ ts o.dst v) H' (HO.Jw i H ld q) hs) (fun _ _=>False) q:=by
      cases q<;>first | exact hy | exact absurd ⟨_,_,_,rfl⟩ zM
     cases uG:q.aQ with
     | false =>
      rw[uG] at hy'
      simp only[Bool.false_eq_true,if_false] at hy'
      rcases HO.ph hy' with ⟨v,H',h1,h2⟩ | ⟨h0,_⟩
      ·exact plain v H' _ (HO.RL q) (fun h=>HO.RM (by rw[hop] at h;exact h)) (by rw[hop];exact h2) h1 hnl (by rw[hop];exact uG)
      ·rw[uG] at h0;simp at h0
     | true =>
      rw[uG] at hy'
      simp only[if_true] at hy'
      have hch:o.op.aQ=true:=by rw[hop];exact uG
      rcases HO.ph hy' with ⟨v,H',⟨h0,h1⟩,h2⟩ | ⟨_,v,H',⟨h0,h1⟩,h2⟩
      ·obtain ⟨N,vs,Hs,fs,k1,k2,k3⟩:=mM r (i+1) _ _ _ _ h1
       have hst:jG P o ts H v H':=.inl ⟨hg,by rw[hop];exact h2⟩
       obtain ⟨a,b,c,k⟩:=Road.cons hst k1 k3 k2 (fun l hl=>⟨hl,fun _ hu=>h0 l hl hu⟩) (fun c hc=>⟨List.mem_cons_of_mem _ hc,fun id hl=>absurd hl (hnl id)⟩) (fun id hl=>absurd hl (hnl id)) (fun _=>.inl (by simp)) (fun h=>by
        rw[hop] at h
        cases q<;>simp[dR.bf,HO.bf,HO.aQ] at h uG)
       exact ⟨N,a,b,c,k⟩
      ·refine ⟨i,fun _=>.top,fun _=>H,fun _=>ts,⟨Nat.le_refl _,by simp,fun m o h1 h2=>by omega,fun l _ c o h1 h2=>by omega,fun c _ m o id h1 h2=>by omega,fun m o id c o' h1 h2=>by omega,fun m o c o' h1 h2 h3=>by omega,.inr ⟨o,v,H',by simp,⟨hg,hch,by rw[hop];exact h2⟩,h0,h1⟩⟩,rfl,rfl⟩
def ab3:X→Option Nat
 | .t n=>some n
 | .k _=>none
def r8(o:bG):List Nat:=o.op.xs.filterMap ab3++(o.guard.map (·.1)).toList
def B0(l:List bG)(A:List (List Nat)):Bool:=l.zipIdx.all fun (o,i) =>
 (A.getD i []).all (fun j=>decide (j<i)) &&
 l.zipIdx.all fun (o',j) =>
  (o'.dst == none || j == i || o'.dst != o.dst) &&
  (match o'.dst with | some d=>!(r8 o).contains d || (jt A i j || jt A j i) | none=>true) &&
  (!(decide (j<i) && ((o.op.aQ && o'.op.aQ) || (o.op.bf && o'.op.aQ))) || jt A i j)
def wm(ops:Array Oper)(A:List (List Nat)):Bool:=ops.toList.zipIdx.all fun (o,i) =>
 (A.getD i []).all (fun j=>o.after.toList.any fun e=>Region.binds .any e && (e.on == j || jt A e.on j)) &&
 o.after.toList.all fun e=>decide (e.on<i) || !Region.binds .any e
def Mq(ops:Array Oper):List (List Nat):=ops.toList.foldl (fun A o=>A++[((o.after.toList.filter (Region.binds .any)).flatMap fun e=>e.on::A.getD e.on []).eraseDups]) []
def ig(l:List bG)(ts:List Z):List Z:=l.foldl (fun ts o=>bJ ts o.dst .top) ts
section
variable {P:Program}
theorem dy{l:List bG}{A:List (List Nat)}(h:B0 l A=true){i j:Nat}{o o':bG}(ho:l[i]? = some o)(eh:l[j]? = some o') :
  (∀k,jt A i k=true→k<i)∧(∀d,o'.dst=some d→o.dst=some d→j=i)∧(∀d,o'.dst=some d→d∈r8 o→jt A i j=true∨jt A j i=true)∧
  (j<i→(o.op.aQ=true∧o'.op.aQ=true∨o.op.bf=true∧o'.op.aQ=true)→jt A i j=true):=by
 unfold B0 at h
 rw[List.all_eq_true] at h
 have h1:=h (o,i) (List.mem_zipIdx_iff_getElem?.2 ho)
 simp only[Bool.and_eq_true] at h1
 have h2:=List.all_eq_true.1 h1.2 (o',j) (List.mem_zipIdx_iff_getElem?.2 eh)
 simp only[Bool.and_eq_true] at h2
 refine ⟨fun k hk=>?_,fun d e1 e2=>?_,fun d e1 e2=>?_,fun hlt hc=>?_⟩
 ·have:=List.all_eq_true.1 h1.1 k (by unfold jt at hk;simpa using hk)
  simpa using this
 ·have h3:=h2.1.1
  rw[e1,e2] at h3
  simpa using h3
 ·have h3:=h2.1.2
  rw[e1] at h3
  simp only[Bool.or_eq_true,Bool.not_eq_true'] at h3
  rcases h3 with h3 | h3
  ·have:(r8 o).contains d=true:=by simpa using e2
   rw[this] at h3
   simp at h3
  ·exact h3
 ·have h3:=h2.2
  simp only[Bool.or_eq_true,Bool.not_eq_true',Bool.and_eq_false_iff] at h3
  rcases h3 with h3 | h3
  ·rcases h3 with h3 | h3
   ·simp at h3;omega
   ·rcases hc with ⟨c1,c2⟩ | ⟨c1,c2⟩
    ·simp[c1,c2] at h3
    ·simp[c1,c2] at h3
  ·exact h3
theorem r9{ops:Array Oper}{A:List (List Nat)}(h:wm ops A=true){listed:Array Bool}(fD:∀(j:Nat)(o:Oper),ops[j]? = some o→listed.getD j false=true→∀e∈o.after.toList,Region.binds .any e=true→listed.getD e.on false=true) :
  ∀(n i:Nat)(o:Oper),i<n→ops[i]? = some o→(∀e∈o.after.toList,Region.binds .any e=true→listed.getD e.on false=true)→∀j,jt A i j=true→listed.getD j false=true:=by
 unfold wm at h
 rw[List.all_eq_true] at h
 intro n
 induction n with
 | zero=>intro i o hi;omega
 | succ n ih =>
  intro i o hi ho hr j hj
  have h1:=h (o,i) (by rw[List.mem_zipIdx_iff_getElem?];simpa using ho)
  simp only[Bool.and_eq_true] at h1
  have h2:=List.all_eq_true.1 h1.1 j (by unfold jt at hj;simpa using hj)
  rw[List.any_eq_true] at h2
  obtain ⟨e,he,h3⟩:=h2
  simp only[Bool.and_eq_true,Bool.or_eq_true,beq_iff_eq] at h3
  have hl:=hr e he h3.1
  rcases h3.2 with h4 | h4
  ·rw[←h4];exact hl
  ·have h5:=List.all_eq_true.1 h1.2 e he
   rw[h3.1] at h5
   simp at h5
   have:e.on<ops.size:=by have:=(Array.getElem?_eq_some_iff.1 ho).1;omega
   exact ih e.on ops[e.on] (by omega) (by simp[this]) (fD e.on _ (by simp[this]) hl) j h4
theorem N2{ops:Array Oper}{A:List (List Nat)}(h:wm ops A=true){i:Nat}{o:Oper}(ho:ops[i]? = some o):∀e∈o.after.toList,Region.binds .any e=true→e.on<i:=by
 unfold wm at h
 rw[List.all_eq_true] at h
 have h1:=h (o,i) (by rw[List.mem_zipIdx_iff_getElem?];simpa using ho)
 simp only[Bool.and_eq_true] at h1
 intro e he hb
 have h5:=List.all_eq_true.1 h1.2 e he
 rw[hb] at h5
 simpa using h5
theorem Ge{ops:Array Oper}{A:List (List Nat)}(h:wm ops A=true){listed:Array Bool}(hsz:listed.size=ops.size)(hr:Region.ready .any ops listed=[]):∀n i,i<n→i<ops.size→listed.getD i false=true:=by
 intro n
 induction n with
 | zero=>intro i hi;omega
 | succ n ih =>
  intro i hi lI
  by_cases hin:i<n
  ·exact ih i hin lI
  ·have ab4:i=n:=by omega
   subst ab4
   apply Classical.byContradiction
   intro hno
   have:i∈Region.ready .any ops listed:=by
    unfold Region.ready
    simp only[List.mem_filter,List.mem_range,Bool.and_eq_true,Bool.not_eq_true']
    refine ⟨lI,?_,?_⟩
    ·have h1:i<listed.size:=by omega
     simp[Array.getD,h1] at hno ⊢
     exact hno
    ·have ho:ops[i]? = some ops[i]:=by simp[lI]
     rw[ho]
     simp only[Option.map_some,Option.getD_some,Array.all_eq_true_iff_forall_mem]
     intro e he
     cases hb:Region.binds .any e with
     | false=>simp
     | true =>
      have hlt:=N2 h ho e (by simpa using he) hb
      simp[ih e.on hlt (by omega)]
   rw[hr] at this
   simp at this
def qj(H H':Y):Prop:=H.length≤H'.length∧∀id,id<H.length→Y.find H' id=Y.find H id
theorem qj.refl(H:Y):qj H H:=⟨Nat.le_refl _,fun _ _=>rfl⟩
theorem qj.trans{G H K:Y}(h:qj G H)(k:qj H K):qj G K:=⟨Nat.le_trans h.1 k.1,fun id hid=>(k.2 id (Nat.lt_of_lt_of_le hid h.1)).trans (h.2 id hid)⟩
theorem qj.cons(H:Y)(b:Option aD):qj H (b::H):=⟨by simp,fun id hid=>Y.cz hid⟩
theorem Rel.ext{φ:aC}{H H':Y}{w:World}(h:Rel φ H w)(he:qj H H'):Rel φ H' w∧Step φ H w φ H' w:=by
 have hown:∀b,Own φ H' b↔Own φ H b:=by
  intro b
  constructor
  ·rintro ⟨i,k,h1,h2⟩
   rw[he.2 i (h.dom i b h1).1] at h2
   exact ⟨i,k,h1,h2⟩
  ·rintro ⟨i,k,h1,h2⟩
   exact ⟨i,k,h1,by rw[he.2 i (h.dom i b h1).1];exact h2⟩
 have hl:Later (fun _=>True) φ φ (Own φ H) (Own φ H') w w:=⟨fun _ _ _ h=>h,Nat.le_refl _,fun b _ ho eh=>ho ((hown b).1 eh),fun _ _ _=>rfl,fun _ _=>rfl⟩
 refine ⟨⟨h.gD.later hl,fun i b hi=>⟨Nat.lt_of_lt_of_le (h.dom i b hi).1 he.1,(h.dom i b hi).2⟩,fun i j b hi hj gp jR=>?_,fun i b k h1 h2=>?_⟩,⟨hl,rfl,rfl,rfl,he.1,fun _ _=>rfl⟩⟩
 ·rw[he.2 i (h.dom i b hi).1] at gp
  rw[he.2 j (h.dom j b hj).1] at jR
  exact h.inj i j b hi hj gp jR
 ·rw[he.2 i (h.dom i b h1).1] at h2
  exact (h.blk i b k h1 h2).on hl rfl
theorem Rel.RP{φ:aC}{T:Y}{w:World}(h:Rel φ T w){id:Nat}{blk:aD}(hid:φ id=none)(hf:Y.find T id=some blk)(bV:0<blk.k)(cur:Array Value)(cap:Nat)(hsz:cur.size=cap*blk.k)
  (hcap:blk.es.length≤cap)(hex:blk.exact=true→cap=blk.es.length)(hm:cap≤maxLen)(hk:∀x∈blk.es,x.an=blk.k)(hr:Rs φ (Own φ T) w (flat blk.es) (fun i=>cur[i]?)) :
  Rel (φ.add id w.heap.size) T (w.alloc (.cells cur blk.ty))∧Later (fun _=>True) φ (φ.add id w.heap.size) (Own φ T) (Own (φ.add id w.heap.size) T) w (w.alloc (.cells cur blk.ty)):=by
 have hold:∀b,b<w.heap.size→(w.alloc (.cells cur blk.ty)).heap[b]? = w.heap[b]?:=fun b hb=>heap_alloc_old w _ hb
 have hsize:w.heap.size≤(w.alloc (.cells cur blk.ty)).heap.size:=by simp
 have ab5:∀i b,φ i=some b→i≠id:=fun i b hi e=>by rw[e,hid] at hi;simp at hi
 have dz:Later (fun _=>True) φ (φ.add id w.heap.size) (Own φ T) (Own (φ.add id w.heap.size) T) w (w.alloc (.cells cur blk.ty)):=by
  refine ⟨fun i b _ hm'=>?_,hsize,fun b hb ho eh=>?_,fun b hb _=>hold b hb,fun b hb=>by unfold World.shape?;rw[hold b hb]⟩
  ·unfold aC.add
   rw[if_neg (ab5 i b hm')]
   exact hm'
  ·obtain ⟨i,k,h1,h2⟩:=eh
   unfold aC.add at h1
   split at h1
   ·cases h1;omega
   ·exact ho ⟨i,k,h1,h2⟩
 refine ⟨⟨h.gD.later dz,fun i b' hm'=>?_,fun i j b' hi hj gp jR=>?_,fun i b' k h1 h2=>?_⟩,dz⟩
 ·unfold aC.add at hm'
  split at hm'
  ·rename_i e
   cases hm'
   exact ⟨by rw[e];exact Y.am hf,by simp⟩
  ·have:=h.dom i b' hm'
   exact ⟨this.1,by simp;omega⟩
 ·unfold aC.add at hi hj
  split at hi<;>split at hj
  ·omega
  ·cases hi;have:=(h.dom j _ hj).2;omega
  ·cases hj;have:=(h.dom i _ hi).2;omega
  ·exact h.inj i j b' hi hj gp jR
 ·unfold aC.add at h1
  split at h1
  ·rename_i e
   cases h1
   subst e
   rw[hf] at h2
   cases h2
   refine .inl ⟨bV,cur,cap,heap_alloc_new w _,hsz,hcap,hex,hm,qA hk (gf dz _ _ _ (Z.b7 _) (fun i v hv=>?_) hr)⟩
   unfold b6
   rw[Nat.zero_add,World.cell?_alloc_at _ _ _ _ rfl]
   exact hv
  ·have l2:=(h.dom i b' h1).2
   exact (h.blk i b' k h1 h2).on dz (hold b' l2)
theorem N3{b:Bool}{o:Oper}{q:HO}(hc0:lE P b o=some q)(ha:q.bf=true){φ:aC}{T:Y}{w:World}{ts:List Z}{a:Act}(hF:FR φ (Own φ T) w ts a){Hi H1:Y}{v:Z}{F:Z→Y→Prop}
    (h:HO.aV P (X.ev ts) Hi (fun v' nT=>v'=v∧nT=H1) F q) :
    ∃blk cur cap u,H1=some blk::Hi∧0<blk.k∧(execOp a.eval o).run P w = .ok (.value u) (w.alloc (.cells cur blk.ty))∧cur.size=cap*blk.k∧blk.es.length≤cap∧(blk.exact=true→cap=blk.es.length)∧cap≤maxLen∧
      (∀x∈blk.es,x.an=blk.k)∧Rs φ (Own φ T) w (flat blk.es) (fun i=>(cur:Array Value)[i]?)∧
      ∀(φ':aC)(O':Nat→Prop)(w':World),φ' Hi.length=some w.heap.size→w'.heap[w.heap.size]? = some (.cells cur blk.ty (0,0))→VR φ' O' w' v u:=by
  have hone:∀{x:Z}{u:Value}{k:Nat}{t:TypeId},VR φ (Own φ T) w x u→x.bO=false→x.an=k→0<k→(execOp a.eval o).run P w = .ok (.value (.pointer (some ⟨w.heap.size,0,none⟩))) (w.alloc (.cells u.cells t))→v = .ptr k Hi.length 0 0→H1=some ⟨k,[x],true,t⟩::Hi→
      ∃blk cur cap u,H1=some blk::Hi∧0<blk.k∧(execOp a.eval o).run P w = .ok (.value u) (w.alloc (.cells cur blk.ty))∧cur.size=cap*blk.k∧blk.es.length≤cap∧(blk.exact=true→cap=blk.es.length)∧cap≤maxLen∧
      (∀x∈blk.es,x.an=blk.k)∧Rs φ (Own φ T) w (flat blk.es) (fun i=>(cur:Array Value)[i]?)∧
      ∀(φ':aC)(O':Nat→Prop)(w':World),φ' Hi.length=some w.heap.size→w'.heap[w.heap.size]? = some (.cells cur blk.ty (0,0))→VR φ' O' w' v u:=by
    intro x u k t hv ht hk bV hrun hve RQ
    refine ⟨⟨k,[x],true,t⟩,u.cells,1,_,RQ,bV,hrun,by simp[eW hv ht,hk],by simp,by simp,by unfold maxLen;omega,by simp[hk],by simp only[flat,List.flatMap_cons,List.flatMap_nil,List.append_nil];exact qv hv ht,fun φ' O' w' h1 h2=>?_⟩
    rw[hve]
    exact ⟨rfl,_,h1,by simp[dZ,Value.cells,ed bV]⟩
  have hc:hJ P b o=some q:=by
    unfold lE at hc0
    split at hc0
    · rename_i h;cases hc0;exact h
    · rcases td hc0 with ⟨g,xs,rfl⟩ | ⟨g,xs,rfl⟩<;>simp[HO.bf] at ha
  unfold hJ at hc
  split at hc
  · split at hc<;>cases hc
    simp[HO.bf] at ha
  · rename_i t ho
    split at hc
    case h_2=>simp at hc
    rename_i z hz
    split at hc
    case h_2=>simp at hc
    rename_i z' fw
    split at hc
    case isFalse=>simp at hc
    rename_i ht
    cases hc
    rw[Option.bind_eq_some_iff] at hz
    obtain ⟨i,h1,h2⟩:=hz
    obtain ⟨e1,e2⟩:=h
    refine hone (uk fw) ht.1 rfl ht.2 ?_ e1.symm e2.symm
    simp only[execOp,ho,Instr.alloc,zeroValue,typeInfo,Sem.run_bind,run_program,h1,Result.andThen_ok,Sem.run_pure,h2,newVar,newRow,run_newObj]
    rfl
  · rename_i t x ho
    split at hc
    case h_2=>simp at hc
    rename_i x' hi hx
    split at hc
    case isFalse=>simp at hc
    rename_i bV
    cases hc
    obtain ⟨⟨g1,g2⟩,e1,e2⟩:=h
    refine hone (aq hF hx) g1 g2 bV ?_ e1.symm e2.symm
    simp only[execOp,ho,Instr.box,Sem.run_bind,newVar,newRow,run_newObj,Result.andThen_ok,Sem.run_pure]
    rfl
  · rename_i t ln parts ho
    split at hc
    case h_2=>simp at hc
    rename_i e ht
    split at hc
    case h_2=>simp at hc
    rename_i i hi
    split at hc
    case h_2=>simp at hc
    rename_i z ps hz hps
    split at hc
    case isFalse=>simp at hc
    rename_i fw
    obtain ⟨c1,c2,c3,c5⟩:=fw
    cases hc
    rw[Option.bind_eq_some_iff] at hz
    obtain ⟨zv,h1,h2⟩:=hz
    cases b with
    | false=>simp[HO.bf] at ha
    | true =>
      obtain ⟨es,cells,k1,k2,k3,k4,k5,k6⟩:=zu (H:=T) hF ht hi h1 h2 hps c1 c2 c3 c5 h
      have k7:ln≤maxLen:=by
        have:ln*1≤ln*i.size:=Nat.mul_le_mul_left _ c2
        unfold maxLen
        omega
      refine ⟨⟨i.size,es,true,e⟩,cells,ln,.slice (some ⟨w.heap.size,0,none⟩) ln ln,k1.2.symm,c2,?_,k4,by simp[k2],fun _=>by simp[k2],k7,k3,k5,fun φ' O' w' g1 g2=>?_⟩
      · simp only[execOp,ho,Sem.run_bind,k6,Result.andThen_ok,Sem.run_pure]
      · rw[←k1.1]
        exact j8 g1 (Nat.le_refl _) k7 (fun m hm=>by simpa using hm) g2 k4
  · split at hc<;>cases hc
    simp[HO.bf] at ha
  · rename_i t l c ho
    split at hc
    case h_2=>simp at hc
    rename_i e ht
    split at hc
    case h_2=>simp at hc
    rename_i i l' c' hi hl lJ
    split at hc
    case h_2=>simp at hc
    rename_i z hz
    split at hc
    case isFalse=>simp at hc
    rename_i fw
    obtain ⟨c1,c2,c3,c4⟩:=fw
    cases hc
    rw[Option.bind_eq_some_iff] at hz
    obtain ⟨zv,h1,h2⟩:=hz
    have hv:=aq hF hl
    have hw:=aq hF lJ
    simp only[HO.aV] at h
    split at h
    case h_2=>exact h.elim
    rename_i k1 n k2 m he hf
    rw[he] at hv
    rw[hf] at hw
    obtain ⟨⟨m0,m1,m2⟩,e1,e2⟩:=h
    have qg:VR φ (Own φ T) w z zv:=dn h2
    have hzs:=eW qg c4
    rw[c1] at hzs
    have hks:∀x∈List.replicate m.toNat z,x.an=i.size:=fun x hx=>by rw[List.eq_of_mem_replicate hx];exact c1
    have zw:=iV (zc:=zv.cells) (qv qg c4) c1 c2 m.toNat (fun j=>((Array.range (m.toNat*i.size)).map (zv.cells[· % zv.cells.size]!))[j]?) (fun j hj=>pb hzs c2 hj)
    have k7:m.toNat≤maxLen:=by unfold maxLen;omega
    refine ⟨⟨i.size,List.replicate m.toNat z,true,e⟩,_,m.toNat,.slice (some ⟨w.heap.size,0,none⟩) n.toNat m.toNat,e2.symm,c2,?_,by simp,by simp,fun _=>by simp,k7,hks,zw,fun φ' O' w' g1 g2=>?_⟩
    · simp only[execOp,ho,bF hv,bF hw,Sem.run_bind,qH ht hi h1 c3 m0 m1 m2,Result.andThen_ok,Sem.run_pure]
    · rw[←e1]
      exact j8 g1 (by omega) k7 (fun q hq=>by simpa using hq) g2 (by simp)
  · split at hc
    case h_2=>simp at hc
    split at hc
    case isFalse=>obtain ⟨g,xs,rfl⟩:=CL hc;simp[HO.bf] at ha
    split at hc
    case h_2=>simp at hc
    split at hc
    case h_2=>simp at hc
    split at hc
    case h_2=>simp at hc
    split at hc<;>cases hc
    simp[HO.bf] at ha
  · split at hc
    case isFalse=>obtain ⟨g,xs,rfl⟩:=FX hc;simp[HO.bf] at ha
    rw[Option.map_eq_some_iff] at hc
    obtain ⟨dS,h1,rfl⟩:=hc
    simp[HO.bf] at ha
  · rw[Option.map_eq_some_iff] at hc
    obtain ⟨dS,h1,rfl⟩:=hc
    simp[HO.bf] at ha
  · rw[Option.map_eq_some_iff] at hc
    obtain ⟨dS,h1,rfl⟩:=hc
    simp[HO.bf] at ha
  all_goals first
    | (have h9:=ox hc;obtain ⟨g,xs,rfl⟩:=h9;simp[HO.bf] at ha;done)
    | (repeat' split at hc
       all_goals first | (simp at hc;done) | (cases hc;simp[HO.bf] at ha))
end
section
variable {P:Program}
theorem uH{b:Bool}{ops:Array Oper}:∀{os:List Oper}{l:List bG},dc P b ops os=some l→l.length=os.length∧∀(i:Nat)(o:Oper),os[i]? = some o→∃x,l[i]? = some x∧lG P b ops o=some x
 | [],l,h=>by simp[dc] at h;subst h;exact ⟨rfl,fun i o h=>by simp at h⟩
 | o::r,l,h=>by
  unfold dc at h
  split at h
  case h_2=>simp at h
  rename_i x s h1 h2
  cases h
  obtain ⟨k1,k2⟩:=uH h2
  refine ⟨by simp[k1],fun i o' ho=>?_⟩
  cases i with
  | zero=>simp at ho;subst ho;exact ⟨x,rfl,h1⟩
  | succ i=>simp at ho;obtain ⟨y,h3,h4⟩:=k2 i o' ho;exact ⟨y,by simpa using h3,h4⟩
theorem wo(ts:List Z)(d:Option Nat)(v:Z)(t:Nat):(bJ ts d v).getD t .top=if d=some t∧t<ts.length then v else ts.getD t .top:=by
 cases d with
 | none=>simp[bJ]
 | some d =>
  simp only[bJ,List.getD,List.getElem?_set]
  by_cases e:d=t
  ·subst e
   by_cases hl:d<ts.length
   ·simp[hl]
   ·simp[hl]
  ·have:¬(some d=some t∧t<ts.length):=by simp[e]
   rw[if_neg e,if_neg this]
theorem nU{ts ts':List Z}{yes no:Prop}{g:Option (Nat×Bool)}(h:∀d w,g=some (d,w)→ts.getD d .top=ts'.getD d .top)(hg:bT ts yes no g):bT ts' yes no g:=by
 cases g with
 | none=>exact hg
 | some dw =>
  obtain ⟨d,w⟩:=dw
  simp only[bT] at hg ⊢
  rw[←h d w rfl]
  exact hg
theorem Gf{ts:List Z}{yes no YM no':Prop}(h1:yes→YM)(h2:no→no'){g:Option (Nat×Bool)}(hg:bT ts yes no g):bT ts YM no' g:=by
 cases g with
 | none=>exact h1 hg
 | some dw =>
  obtain ⟨d,w⟩:=dw
  simp only[bT] at hg ⊢
  split at hg
  ·exact ⟨fun e=>h1 (hg.1 e),fun e=>h2 (hg.2 e)⟩
  ·exact h2 hg
  ·exact hg.elim
theorem zO{ev lH:X→Z}{H:Y}{K Kp:Z→Y→Prop}{q:dR}(h:∀x∈q.xs,ev x=lH x):pg P ev H K Kp q=pg P lH H K Kp q:=by
 cases q with
 | p q=>exact PO.tv (K:=fun v=>K v H) h
 | h q=>exact HO.tv (K:=K) (Kp:=Kp) h
theorem wq{ev:X→Z}{H T:Y}{v:Z}{H':Y}{q:dR}(hc:q.aQ=false)(ha:q.bf=false)(h:pg P ev H (fun v' nT=>v'=v∧nT=H') (fun _ _=>False) q)
  (hl:∀m ag a k id j f,q = .h (.load m ag a)→ev a = .ptr k id j f→Y.find T id=Y.find H id):H'=H∧pg P ev T (fun v' nT=>v'=v∧nT=T) (fun _ _=>False) q:=by
 cases q with
 | p q =>
  obtain ⟨u,⟨h1,h2⟩,h3⟩:=PO.ph (show PO.aV ev (fun v'=>v'=v∧H=H') q from h)
  refine ⟨h2.symm,?_⟩
  show PO.aV ev (fun v'=>v'=v∧T=T) q
  have e:(fun v':Z=>v'=v∧T=T)=fun v'=>v'=u:=by funext v';simp[h1]
  rw[e]
  exact h3
 | h q =>
  cases q with
  | load m ag a =>
   have h':=h
   simp only[pg,HO.aV] at h' ⊢
   split at h'
   ·rename_i k id j f he
    obtain ⟨blk,e,h1,h2,h3,h4,h5⟩:=h'
    exact ⟨h5.symm,blk,e,by rw[hl m ag a k id j f rfl he];exact h1,h2,h3,h4,trivial⟩
   ·obtain ⟨h1,h2,h3⟩:=h'
    exact ⟨h3.symm,h1,h2,trivial⟩
   ·exact h'.elim
  | eE k ty z ln ps =>
   obtain ⟨cs,⟨h1,h2⟩,h3⟩:=qP (show mJ ev k (List.replicate ln z) ps (fun es=>Z.ak k es (some [])=v∧H=H') from h)
   exact ⟨h2.symm,h3 _ ⟨h1,rfl⟩⟩
  | ot kd x=>exact (show False from h).elim
  | _=>first | (simp[dR.aQ,HO.aQ] at hc;done) | (simp[dR.bf,HO.bf] at ha;done)
theorem CO{ev:X→Z}{H:Y}{v:Z}{H':Y}{q:dR}(ha:q.bf=true)(h:pg P ev H (fun v' nT=>v'=v∧nT=H') (fun _ _=>False) q):∃blk,H'=some blk::H:=by
 cases q with
 | p q=>simp[dR.bf] at ha
 | h q =>
  cases q with
  | alloc z ty=>exact ⟨_,h.2.symm⟩
  | box k ty x=>exact ⟨_,h.2.2.symm⟩
  | jC k ty z ln ps =>
   obtain ⟨cs,⟨h1,h2⟩,h3⟩:=qP (show mJ ev k (List.replicate ln z) ps (fun es=>Z.aB k H.length 0 ln (some ln)=v∧some ⟨k,es,true,ty⟩::H=H') from h)
   exact ⟨_,h2.symm⟩
  | jD k ty z l c =>
   simp only[pg,HO.aV] at h
   split at h
   ·exact ⟨_,h.2.2.symm⟩
   ·exact h.elim
  | _=>simp[dR.bf,HO.bf] at ha
theorem Jx{ev:X→Z}{H:Y}{v:Z}{H':Y}{q:dR}(h:pg P ev H (fun v' nT=>v'=v∧nT=H') (fun _ _=>False) q):H.length≤H'.length:=by
 cases hc:q.aQ with
 | false =>
  cases ha:q.bf with
  | false=>rw[(wq hc ha h (T:=H) (fun _ _ _ _ _ _ _ _ _=>rfl)).1];exact Nat.le_refl _
  | true=>obtain ⟨blk,rfl⟩:=CO ha h;simp
 | true =>
  cases q with
  | p q=>simp[dR.aQ] at hc
  | h q =>
   cases q with
   | store n a x =>
    simp only[pg,HO.aV] at h
    split at h
    ·obtain ⟨blk,e,h1,h2,h3,h4,h5⟩:=h;rw[←h5,Y.aj];exact Nat.le_refl _
    ·exact h.elim
   | gx g xs =>
    simp only[pg,HO.aV] at h
    rw[←h.2.2]
    exact GX.QZ
   | eN k ty s x =>
    simp only[pg,HO.aV] at h
    obtain ⟨ys,h,_⟩:=Gd h
    split at h
    ·obtain ⟨h1,h2,h3⟩:=h
     by_cases e:ys=[]
     ·rw[←(h2 e).2];exact Nat.le_refl _
     ·rw[←(h3 e).2];simp
    ·rename_i k' id off n c _
     obtain ⟨blk,h1,h2,h3⟩:=h
     cases c with
     | none=>rw[←h3.2.2];simp[Y.aj]
     | some m =>
      obtain ⟨h4,h5,h6⟩:=h3
      by_cases e:n+ys.length≤m
      ·rw[←(h5 e).2,Y.aj];exact Nat.le_refl _
      ·rw[←(h6 (by omega)).2];simp
    ·exact h.elim
   | call f dS =>
    obtain ⟨e,H2,h1,h2⟩:=h
    cases e with
    | ret u=>rw[←h2.2];exact h1.1
    | bu u=>exact h2.elim
   | bD f dS =>
    simp only[pg,HO.aV] at h
    split at h
    ·obtain ⟨_,e,H2,h1,h2⟩:=h
     cases e with
     | ret u=>rw[←h2.2];exact h1.1
     | bu u=>exact h2.elim
    ·exact h.elim
   | bu x =>
    simp only[pg,HO.aV] at h
    split at h<;>exact h.elim
   | _=>simp[dR.aQ,HO.aQ] at hc
theorem jG.len{o:bG}{ts:List Z}{H:Y}{v:Z}{H':Y}(h:jG P o ts H v H'):H.length≤H'.length:=by
 rcases h with ⟨_,h⟩ | ⟨_,_,rfl⟩
 ·exact Jx h
 ·exact Nat.le_refl _
theorem jG.ext{o:bG}{ts:List Z}{H:Y}{v:Z}{H':Y}(h:jG P o ts H v H')(hc:o.op.aQ=false):qj H H':=by
 rcases h with ⟨_,h⟩ | ⟨_,_,rfl⟩
 ·cases ha:o.op.bf with
  | false=>rw[(wq hc ha h (T:=H) (fun _ _ _ _ _ _ _ _ _=>rfl)).1];exact qj.refl _
  | true=>obtain ⟨blk,rfl⟩:=CO ha h;exact qj.cons _ _
 ·exact qj.refl _
theorem uI(p:Nat→Bool)(N:Nat):∀(k lo:Nat),lo+k=N→∃s,lo≤s∧s≤N∧(s=N∨p s=true)∧∀m,lo≤m→m<s→p m=false
 | 0,lo,h=>⟨lo,Nat.le_refl _,by omega,.inl (by omega),fun m h1 h2=>by omega⟩
 | k+1,lo,h=>by
  cases hp:p lo with
  | true=>exact ⟨lo,Nat.le_refl _,by omega,.inr hp,fun m h1 h2=>by omega⟩
  | false =>
   obtain ⟨s,h1,h2,h3,h4⟩:=uI p N k (lo+1) (by omega)
   refine ⟨s,by omega,h2,h3,fun m g1 g2=>?_⟩
   by_cases e:m=lo
   ·rw[e];exact hp
   ·exact h4 m (by omega) g2
theorem p7{listed:Array Bool}{i j:Nat}(h:listed.getD j false=true):(listed.setIfInBounds i true).getD j false=true:=by
 simp only[Array.getD_eq_getD_getElem?,Array.getElem?_setIfInBounds] at h ⊢
 by_cases e:i=j
 ·subst e
  by_cases hl:i<listed.size
  ·simp[hl]
  ·simp[hl] at h
 ·rw[if_neg e];exact h
theorem cN{listed:Array Bool}{i j:Nat}(h:i≠j):(listed.setIfInBounds i true).getD j false=listed.getD j false:=by
 simp only[Array.getD_eq_getD_getElem?,Array.getElem?_setIfInBounds,if_neg h]
theorem fX{listed:Array Bool}{i:Nat}(h:i<listed.size):(listed.setIfInBounds i true).getD i false=true:=by
 simp[Array.getD_eq_getD_getElem?,Array.getElem?_setIfInBounds,h]
theorem qR:∀(l:List bG)(ts:List Z),(ig l ts).length=ts.length∧∀t,(ig l ts).getD t .top = .top∨((ig l ts).getD t .top=ts.getD t .top∧∀o∈l,o.dst≠some t)
 | [],ts=>⟨rfl,fun t=>.inr ⟨rfl,by simp⟩⟩
 | o::r,ts=>by
  obtain ⟨h1,h2⟩:=qR r (bJ ts o.dst .top)
  simp only[ig,List.foldl_cons] at h1 h2 ⊢
  refine ⟨by rw[h1,uE],fun t=>?_⟩
  rcases h2 t with h3 | ⟨h3,h4⟩
  ·exact .inl h3
  ·rw[wo] at h3
   by_cases e:o.dst=some t
   ·by_cases hl:t<ts.length
    ·rw[if_pos ⟨e,hl⟩] at h3
     exact .inl h3
    ·left
     rw[h3,if_neg (by simp[hl])]
     simp[List.getD,List.getElem?_eq_none (Nat.le_of_not_lt hl)]
   ·rw[if_neg (by simp[e])] at h3
    exact .inr ⟨h3,fun o' eh=>by
     rcases List.mem_cons.1 eh with rfl | eh
     ·exact e
     ·exact h4 o' eh⟩
end
section
variable {P:Program}
structure DI(ops:Array Oper)(l:List bG)(N:Nat)(vs:Nat→Z)(Hs:Nat→Y)(ts:List Z)(H:Y)(φ:aC)(w0:World)(ds:List Deferred)(listed:Array Bool)(act:Act)(w:World):Prop where
 size:listed.size=ops.size
 lt:∀i,listed.getD i false=true→i<N
 cl:∀(j:Nat)(o:Oper),ops[j]? = some o→listed.getD j false=true→∀e∈o.after.toList,Region.binds .any e=true→listed.getD e.on false=true
 N4:act.defers=ds
 ex:∃(φ':aC)(s:Nat),s≤N∧(∀(c:Nat)(x:bG),l[c]? = some x→x.op.aQ=true→(listed.getD c false=true↔c<s))∧(s=N∨∃x:bG,l[s]? = some x∧x.op.aQ=true)∧Rel φ' (Hs s) w∧Step φ H w0 φ' (Hs s) w∧
  (∀(i:Nat)(x:bG),l[i]? = some x→x.op.bf=true→i<N→(Hs i).length<(Hs (i+1)).length→listed.getD i false=false→φ' (Hs i).length=none)∧
  act.tmps.size=ts.length∧(∀(i:Nat)(x:bG)(d:Nat),l[i]? = some x→x.dst=some d→d<ts.length→listed.getD i false=true→VR φ' (Own φ' (Hs s)) w (vs i) (act.tmps.getD d undef))∧
  (∀t:Nat,(∀(i:Nat)(x:bG),l[i]? = some x→x.dst=some t→listed.getD i false=false)→VR φ' (Own φ' (Hs s)) w (ts.getD t .top) (act.tmps.getD t undef))
theorem CQ(a:Act)(d:Option Tmp)(u:Value)(t:Nat):(a.put d u).tmps.getD t undef=if d=some t∧t<a.tmps.size then u else a.tmps.getD t undef:=by
 cases d with
 | none=>simp[Act.put]
 | some d =>
  simp only[Act.put,Array.getD_eq_getD_getElem?,Array.getElem?_setIfInBounds]
  by_cases e:d=t
  ·subst e
   by_cases hl:d<a.tmps.size
   ·simp[hl]
   ·simp[hl]
  ·have:¬(some d=some t∧t<a.tmps.size):=by simp[e]
   rw[if_neg e,if_neg this]
theorem N5(a:Act)(d:Option Tmp)(u:Value):(a.put d u).tmps.size=a.tmps.size:=by
 cases d<;>simp[Act.put]
def DQ(ops:Array Oper)(K:List Z→Y→Prop)(H:Y)(φ:aC)(w0:World)(ds:List Deferred)(listed:Array Bool)(act:Act)(w:World):Prop :=
 (listed.size=ops.size∧∀i,i<ops.size→listed.getD i false=true)∧∃ts' φ' H',K ts' H'∧FR φ' (Own φ' H') w ts' act∧Rel φ' H' w∧Step φ H w0 φ' H' w∧act.defers=ds
set_option maxHeartbeats 2000000 in
theorem uJ{b:Bool}{ops:Array Oper}{l l0:List bG}{last:Option bG}{A:List (List Nat)}(hc:dc P b ops ops.toList=some l)(hl:l=l0++last.toList)(hA:wm ops A=true)(hD:B0 l A=true)
    (RR:∀o,last=some o→(List.range l0.length).all (fun j=>jt A l0.length j)=true)
    {Q:Exit→Act→World→Prop}{K K':List Z→Y→Prop}{Kp:Z→List Z→Y→Prop}{φ:aC}{H:Y}{w:World}{ts:List Z}{a:Act}
    (hR:Rel φ H w)(hF:FR φ (Own φ H) w ts a)(h:mL P A l0.length K' (fun v H'=>Kp v (ig l0 ts) H') 0 l0 ts H [] [])
    (hK:∀fx H1,K' fx H1→(last=none→K fx H1)∧∀o,last=some o→bT fx (RG P (X.ev fx) H1 (fun v H'=>K (bJ fx o.dst v) H') (fun v H'=>Kp v fx H') o.op) (K (bJ fx o.dst (.aK [])) H1) o.guard)
    (hk:kQ Q K φ H w a.defers)(hp:j9 Q Kp φ H w a.defers):wpAny P .any ops Q ops.size (Array.replicate ops.size false) a { w with drawn:=w.drawn+1 }:=by
  obtain ⟨N,vs,Hs,fs,hrd,B2,NE⟩:=mM l0 0 ts H [] [] h
  have hN0:N≤l0.length:=by simpa using hrd.hi
  have eI:l.length=l0.length+last.toList.length:=by rw[hl,List.length_append]
  have mC:∀(m:Nat)(x:bG),m<N→l[m]? = some x→l0[m]? = some x:=fun m x hm hx=>by
    rw[hl,List.getElem?_append_left (by omega)] at hx
    exact hx
  obtain ⟨hlen,jH⟩:=uH hc
  have hls:l.length=ops.size:=by simpa using hlen
  have hNl:N≤l.length:=by omega
  have hx:∀i,i<ops.size→∃o x,ops[i]? = some o∧l[i]? = some x∧lG P b ops o=some x:=by
    intro i hi
    obtain ⟨x,h1,h2⟩:=jH i ops[i] (by simp[hi])
    exact ⟨ops[i],x,by simp[hi],h1,h2⟩
  have hst:∀(m:Nat)(x:bG),m<N→l[m]? = some x→fs (m+1)=bJ (fs m) x.dst (vs m)∧jG P x (fs m) (Hs m) (vs m) (Hs (m+1)):=fun m x wl hx=>hrd.step m x (Nat.zero_le _) wl (by simpa using mC m x wl hx)
  have wu:∀m,m<N→∃x,l[m]? = some x:=fun m wl=>⟨l[m]'(by omega),by simp[show m<l.length by omega]⟩
  have Ws:∀m,m<N→(Hs m).length≤(Hs (m+1)).length:=fun m wl=>by
    obtain ⟨x,hx⟩:=wu m wl
    exact (hst m x wl hx).2.len
  have aac:∀k m,m+k≤N→(Hs m).length≤(Hs (m+k)).length:=by
    intro k
    induction k with
    | zero=>intro m _;exact Nat.le_refl _
    | succ k ih=>intro m hmk;exact Nat.le_trans (ih m (by omega)) (Ws (m+k) (by omega))
  have l3:∀m m',m≤m'→m'≤N→(Hs m).length≤(Hs m').length:=fun m m' h1 h2=>by
    have:=aac (m' - m) m (by omega)
    rwa [show m+(m' - m)=m' from by omega] at this
  have RS:∀k lo,lo+k≤N→(∀(m:Nat)(x:bG),lo≤m→m<lo+k→l[m]? = some x→x.op.aQ=false)→qj (Hs lo) (Hs (lo+k)):=by
    intro k
    induction k with
    | zero=>intro lo _ _;exact qj.refl _
    | succ k ih =>
      intro lo h1 h2
      obtain ⟨x,hx⟩:=wu (lo+k) (by omega)
      exact (ih lo (by omega) fun m x g1 g2 g3=>h2 m x g1 (by omega) g3).trans ((hst (lo+k) x (by omega) hx).2.ext (h2 (lo+k) x (by omega) (by omega) hx))
  have N6:∀i,i≤N→(fs i).length=ts.length:=by
    intro i
    induction i with
    | zero=>intro _;rw[NE]
    | succ i ih =>
      intro hi
      obtain ⟨x,hx⟩:=wu i (by omega)
      rw[(hst i x (by omega) hx).1,uE,ih (by omega)]
  have Wt:∀i,i≤N→∀t:Nat,(∀(j:Nat)(x:bG),j<i→l[j]? = some x→x.dst≠some t)→(fs i).getD t .top=ts.getD t .top:=by
    intro i
    induction i with
    | zero=>intro _ t _;rw[NE]
    | succ i ih =>
      intro hi t ht
      obtain ⟨x,hx⟩:=wu i (by omega)
      rw[(hst i x (by omega) hx).1,wo,if_neg (fun e=>ht i x (by omega) hx e.1)]
      exact ih (by omega) t fun j y hj hy=>ht j y (by omega) hy
  have hfW:∀i,i≤N→∀(j:Nat)(x:bG)(t:Nat),j<i→l[j]? = some x→x.dst=some t→t<ts.length→(fs i).getD t .top=vs j:=by
    intro i
    induction i with
    | zero=>intro _ j x t hj;omega
    | succ i ih =>
      intro hi j x t hj hxj hd ht
      obtain ⟨y,hy⟩:=wu i (by omega)
      rw[(hst i y (by omega) hy).1,wo,N6 i (by omega)]
      by_cases e:j=i
      · subst e
        rw[hxj] at hy
        cases hy
        rw[if_pos ⟨hd,ht⟩]
      · rw[if_neg (fun e2=>e ((dy hD hy hxj).2.1 t hd e2.1))]
        exact ih (by omega) j x t (by omega) hxj hd ht
  refine zL (fun li ac ww=>DI ops l N vs Hs ts H φ w a.defers li ac ww∨DQ ops K H φ w a.defers li ac ww) (fun _ _ _ hI=>hI.elim (fun h=>h.size) fun h=>h.1.1) ?_ ?_ ops.size _ a _ ?_ (by omega)
  case refine_3 =>
    obtain ⟨s,h1,h2,h3,h4⟩:=uI (fun m=>match l[m]? with | some x=>x.op.aQ | none=>false) N N 0 (by omega)
    have o9:∀i,(Array.replicate ops.size false).getD i false=false:=fun i=>by simp[Array.getD]
    have hE:qj (Hs 0) (Hs s):=by
      have:=RS s 0 (by omega) fun m x g1 g2 g3=>by have:=h4 m g1 (by omega);rw[g3] at this;exact this
      rwa [Nat.zero_add] at this
    rw[B2] at hE
    obtain ⟨r1,r2⟩:=(mo hR).ext hE
    have r3:=(fO φ H w).trans r2
    refine .inl ⟨by simp,fun i hi=>by rw[o9] at hi;simp at hi,fun j o ho hl=>by rw[o9] at hl;simp at hl,rfl,φ,s,h2,fun c x lJ hch=>?_,?_,r1,r3,fun i x B3 hal RT _ _=>?_,hF.1,fun i x d _ _ _ hl=>by rw[o9] at hl;simp at hl,fun t _=>r3.vr (hF.2 t)⟩
    · rw[o9]
      refine ⟨fun e=>by simp at e,fun e=>?_⟩
      have:=h4 c (by omega) e
      rw[lJ] at this
      simp only at this
      rw[hch] at this
      simp at this
    · rcases h3 with h3 | h3
      · exact .inl h3
      · split at h3
        · rename_i x hx;exact .inr ⟨x,hx,h3⟩
        · simp at h3
    · cases Jy:φ (Hs i).length with
      | none=>rfl
      | some b =>
        have g1:=(hR.dom _ _ Jy).1
        have g2:=l3 0 i (by omega) (by omega)
        rw[B2] at g2
        omega
  case refine_1 =>
    intro listed act w' hI hr
    rcases hI with hI | ⟨_,ts',φ',H',q1,q2,q3,q4,q5⟩
    case inr=>exact hk ts' act φ' H' w' q1 q2 q3 q4 q5
    have hall:=Ge hA hI.size hr
    have hN:N=ops.size:=by
      rcases Nat.lt_or_ge N ops.size with h1 | h1
      · have:=hI.lt N (hall (N+1) N (by omega) h1)
        omega
      · omega
    obtain ⟨φ',s,h1,h2,h3,h4,h5,h6,h7,h8,h9⟩:=hI.ex
    have hs:s=N:=by
      rcases h3 with h3 | ⟨x,hx,hch⟩
      · exact h3
      · have yu:s<l.length:=(List.getElem?_eq_some_iff.1 hx).1
        have:=(h2 s x hx hch).1 (hall (s+1) s (by omega) (by omega))
        omega
    subst hs
    rcases hrd.fin with ⟨g1,g2⟩ | ⟨o,v,H',g1,_⟩
    · have hno:last=none:=by
        cases hlo:last with
        | none=>rfl
        | some o=>rw[hlo] at eI;simp at eI;omega
      have g2:=(hK _ _ g2).1 hno
      refine hk (fs s) act φ' (Hs s) w' g2 ⟨by rw[h7,N6 s (Nat.le_refl _)],fun t=>?_⟩ h4 h5 hI.N4
      by_cases hw:∃(j:Nat)(x:bG),l[j]? = some x∧x.dst=some t
      · obtain ⟨j,x,hj,hd⟩:=hw
        have ou:j<l.length:=(List.getElem?_eq_some_iff.1 hj).1
        by_cases ht:t<ts.length
        · rw[hfW s (Nat.le_refl _) j x t (by omega) hj hd ht]
          exact h8 j x t hj hd ht (hall (j+1) j (by omega) (by omega))
        · have:(fs s).getD t .top = .top:=by
            simp[List.getD,List.getElem?_eq_none (show (fs s).length≤t by rw[N6 s (Nat.le_refl _)];omega)]
          rw[this]
          exact kO _
      · have hno:∀(i:Nat)(x:bG),l[i]? = some x→x.dst≠some t:=fun i x hi hd=>hw ⟨i,x,hi,hd⟩
        rw[Wt s (Nat.le_refl _) t fun j x _ hj=>hno j x hj]
        exact h9 t fun i x hi hd=>absurd hd (hno i x hi)
    · have:=(List.getElem?_eq_some_iff.1 g1).1
      omega
  case refine_2 =>
    intro listed act w' i hI hi
    obtain ⟨lI,hnt,RU⟩:=qN hi
    rcases hI with hI | ⟨⟨q0,q1⟩,_⟩
    case inr =>
      have h1:=q1 i lI
      have h2:i<listed.size:=by omega
      simp[Array.getD,h2] at hnt h1
      rw[h1] at hnt
      simp at hnt
    have CR:i<listed.size:=by rw[hI.size];exact lI
    have hnl:listed.getD i false=false:=by
      simp[Array.getD,CR] at hnt ⊢
      exact hnt
    obtain ⟨o,x,ho,kg,lJ⟩:=hx i lI
    obtain ⟨uK,hgd⟩:=tq lJ
    have uL:∀j,jt A i j=true→listed.getD j false=true:=r9 hA hI.cl (i+1) i o (by omega) ho (RU o ho)
    have RT:i≤N:=by
      rcases Nat.lt_or_ge N i with h1 | h1
      · exfalso
        have ad4:last.toList.length≤1:=by cases last<;>simp
        rcases hrd.fin with ⟨g1,_⟩ | ⟨o',v',H',gg,_,g3,_⟩
        · omega
        · have ad5:N<l0.length:=by
            have:=(List.getElem?_eq_some_iff.1 gg).1
            omega
          by_cases Jd:i<l0.length
          · unfold nS at g3
            have:=List.all_eq_true.1 g3 i (by simp;omega)
            simp only[Bool.or_eq_true,decide_eq_true_eq] at this
            rcases this with h2 | h2
            · omega
            · have:=hI.lt N (uL N h2)
              omega
          · cases hlo:last with
            | none=>rw[hlo] at eI;simp at eI;omega
            | some lo =>
              rw[hlo] at eI
              simp at eI
              have hie:i=l0.length:=by omega
              have h2:=List.all_eq_true.1 (RR lo hlo) N (by simp;omega)
              rw[←hie] at h2
              have:=hI.lt N (uL N h2)
              omega
      · exact h1
    obtain ⟨φ',s,hs1,qm,Gg,El,Em,N7,RX,hs8,RY⟩:=hI.ex
    obtain ⟨N8,YN,YO,YP⟩:∃N8:Nat→Z,(∀(j:Nat)(y:bG)(t:Nat),l[j]? = some y→y.dst=some t→listed.getD j false=true→N8 t=vs j)∧
        (∀t:Nat,(∀(j:Nat)(y:bG),l[j]? = some y→y.dst≠some t)→N8 t=ts.getD t .top)∧(∀(j:Nat)(y:bG)(t:Nat),l[j]? = some y→y.dst=some t→listed.getD j false=false→N8 t=ts.getD t .top):=by
      classical
      refine ⟨fun t=>if hh:∃(j:Nat)(y:bG),l[j]? = some y∧y.dst=some t∧listed.getD j false=true then vs hh.choose else ts.getD t .top,?_,?_,?_⟩
      · intro j y t hj hd hl
        have hh:∃(j:Nat)(y:bG),l[j]? = some y∧y.dst=some t∧listed.getD j false=true:=⟨j,y,hj,hd,hl⟩
        obtain ⟨y',c1,c2,c3⟩:=hh.choose_spec
        have:hh.choose=j:=(dy hD hj c1).2.1 t c2 hd
        simp only
        rw[dif_pos hh,this]
      · intro t ht
        simp only
        rw[dif_neg (fun ⟨j,y,h1,h2,_⟩=>ht j y h1 h2)]
      · intro j y t hj hd hl
        simp only
        rw[dif_neg (fun ⟨j',y',h1,h2,h3⟩=>by
          have:=(dy hD hj h1).2.1 t h2 hd
          rw[this,hl] at h3
          simp at h3)]
    let zP:List Z:=(List.range ts.length).map N8
    have YQ:∀t,t<ts.length→zP.getD t .top=N8 t:=fun t ht=>by simp[zP,List.getD,ht]
    have YR:∀t,ts.length≤t→zP.getD t .top = .top:=fun t ht=>by simp[zP,List.getD,ht]
    have En:FR φ' (Own φ' (Hs s)) w' zP act:=by
      refine ⟨by simp[zP,RX],fun t=>?_⟩
      by_cases ht:t<ts.length
      · rw[YQ t ht]
        by_cases hw:∃(j:Nat)(y:bG),l[j]? = some y∧y.dst=some t
        · obtain ⟨j,y,hj,hd⟩:=hw
          cases hl:listed.getD j false with
          | true=>rw[YN j y t hj hd hl];exact hs8 j y t hj hd ht hl
          | false =>
            rw[YP j y t hj hd hl]
            exact RY t fun j' y' hj' hd'=>by
              have:=(dy hD hj hj').2.1 t hd' hd
              rw[this]
              exact hl
        · have hno:∀(j:Nat)(y:bG),l[j]? = some y→y.dst≠some t:=fun j y hj hd=>hw ⟨j,y,hj,hd⟩
          rw[YO t hno]
          exact RY t fun j y hj hd=>absurd hd (hno j y hj)
      · rw[YR t (by omega)]
        exact kO _
    have RZ:∀t,t∈r8 x→zP.getD t .top=(fs i).getD t .top:=by
      intro t fM
      by_cases ht:t<ts.length
      · rw[YQ t ht]
        by_cases hw:∃(j:Nat)(y:bG),l[j]? = some y∧y.dst=some t
        · obtain ⟨j,y,hj,hd⟩:=hw
          rcases (dy hD kg hj).2.2.1 t hd fM with h1 | h1
          · have h2:=(dy hD kg hj).1 j h1
            rw[YN j y t hj hd (uL j h1),hfW i RT j y t h2 hj hd ht]
          · have h2:=(dy hD hj kg).1 i h1
            have ou:j<l.length:=(List.getElem?_eq_some_iff.1 hj).1
            have hno:listed.getD j false=false:=by
              cases hq:listed.getD j false with
              | false=>rfl
              | true =>
                obtain ⟨oj,yj,m1,m2,_⟩:=hx j (by omega)
                have:=r9 hA hI.cl (j+1) j oj (by omega) m1 (hI.cl j oj m1 hq) i h1
                rw[hnl] at this
                simp at this
            rw[YP j y t hj hd hno,Wt i RT t fun j' y' ad6 hj' hd'=>by
              have:=(dy hD hj hj').2.1 t hd' hd
              omega]
        · have hno:∀(j:Nat)(y:bG),l[j]? = some y→y.dst≠some t:=fun j y hj hd=>hw ⟨j,y,hj,hd⟩
          rw[YO t hno,Wt i RT t fun j y _ hj=>hno j y hj]
      · rw[YR t (by omega)]
        simp[List.getD,List.getElem?_eq_none (show (fs i).length≤t by rw[N6 i RT];omega)]
    have hev:∀y∈x.op.xs,X.ev (fs i) y=X.ev zP y:=by
      intro y hy
      cases y with
      | k v=>rfl
      | t t =>
        simp only[X.ev]
        exact (RZ t (by unfold r8;exact List.mem_append_left _ (List.mem_filterMap.2 ⟨.t t,hy,rfl⟩))).symm
    have R1:∀d wt,x.guard=some (d,wt)→(fs i).getD d .top=zP.getD d .top:=by
      intro d wt hg
      exact (RZ d (by unfold r8;rw[hg];simp)).symm
    have R2:∀(cT:aC)(s2:Nat)(w2:World)(u:Value),i<N→s2≤N→(∀(c:Nat)(y:bG),l[c]? = some y→y.op.aQ=true→((listed.setIfInBounds i true).getD c false=true↔c<s2))→(s2=N∨∃y:bG,l[s2]? = some y∧y.op.aQ=true)→Rel cT (Hs s2) w2→
        Later (fun _=>True) φ' cT (Own φ' (Hs s)) (Own cT (Hs s2)) w' w2→(∀id,id<H.length→cT id=φ' id)→w2.os=w'.os→w2.tape=w'.tape→w2.output=w'.output→
        (∀(j:Nat)(y:bG),l[j]? = some y→y.op.bf=true→j<N→(Hs j).length<(Hs (j+1)).length→(listed.setIfInBounds i true).getD j false=false→cT (Hs j).length=none)→VR cT (Own cT (Hs s2)) w2 (vs i) u→
        DI ops l N vs Hs ts H φ w a.defers (listed.setIfInBounds i true) (act.put o.dst u) w2∨DQ ops K H φ w a.defers (listed.setIfInBounds i true) (act.put o.dst u) w2:=by
      intro cT s2 w2 u ad7 g1 g2 g3 g4 g5 g6 g7 g8 g9 g10 g11
      refine .inl ⟨by simpa using hI.size,fun j hj=>?_,fun j oj hoj hj e he hb=>?_,by rw[put_defers];exact hI.N4,cT,s2,g1,g2,g3,g4,⟨Em.toLater.trans g5,g7.trans Em.os,g8.trans Em.tape,g9.trans Em.output,?_,fun id hid=>(g6 id hid).trans (Em.old id hid)⟩,g10,by rw[N5];exact RX,fun j y d hj hd hdl hl=>?_,fun t ht=>?_⟩
      · by_cases e:i=j
        · omega
        · rw[cN e] at hj
          exact hI.lt j hj
      · by_cases e2:i=j
        · subst e2
          rw[ho] at hoj
          cases hoj
          exact p7 (RU o ho e he hb)
        · rw[cN e2] at hj
          exact p7 (hI.cl j oj hoj hj e he hb)
      · have:=l3 0 s2 (Nat.zero_le _) g1
        rwa [B2] at this
      · rw[CQ]
        by_cases e:i=j
        · subst e
          rw[kg] at hj
          cases hj
          rw[if_pos ⟨by rw[←uK];exact hd,by rw[RX];exact hdl⟩]
          exact g11
        · rw[if_neg (fun e2=>e ((dy hD hj kg).2.1 d (by rw[uK];exact e2.1) hd))]
          rw[cN e] at hl
          exact og g5 (Z.jj _) (hs8 j y d hj hd hdl hl)
      · rw[CQ,if_neg (fun e2=>by
          have:=ht i x kg (by rw[uK];exact e2.1)
          rw[fX CR] at this
          simp at this)]
        exact og g5 (Z.jj _) (RY t fun j y hj hd=>by
          have:=ht j y hj hd
          by_cases e:i=j
          · rw[←e];exact hnl
          · rw[cN e] at this;exact this)
    have zQ:x.op.aQ=false→∀(c:Nat)(y:bG),l[c]? = some y→y.op.aQ=true→((listed.setIfInBounds i true).getD c false=true↔c<s):=by
      intro hnc c y zN hch
      have e:i≠c:=fun e=>by
        subst e
        rw[kg] at zN
        cases zN
        rw[hnc] at hch
        simp at hch
      rw[cN e]
      exact qm c y zN hch
    have R3:x.op.bf=false→∀(j:Nat)(y:bG),l[j]? = some y→y.op.bf=true→j<N→(Hs j).length<(Hs (j+1)).length→(listed.setIfInBounds i true).getD j false=false→φ' (Hs j).length=none:=by
      intro hna j y hj hal zR hlt hu
      have e:i≠j:=fun e=>by
        subst e
        rw[kg] at hj
        cases hj
        rw[hna] at hal
        simp at hal
      rw[cN e] at hu
      exact N7 j y hj hal zR hlt hu
    unfold wpOp
    rw[ho]
    simp only
    rcases Nat.lt_or_ge i N with hlt | hge
    case inr =>
      have ab6:i=N:=by omega
      subst ab6
      rcases hrd.fin with ⟨g1,gk⟩ | ⟨o',v',H',g1,⟨g2,g3,g4⟩,g5,g6⟩
      ·
        cases hlo:last with
        | none=>rw[hlo] at eI;simp at eI;omega
        | some lo =>
          have hie:i=l0.length:=by omega
          have vY:x=lo:=by
            rw[hl,hlo,hie] at kg
            simp at kg
            exact kg.symm
          subst vY
          have fB:=(hK _ _ gk).2 x hlo
          have ou:∀j,j<i→listed.getD j false=true:=fun j hj=>uL j (by
            rw[hie]
            exact List.all_eq_true.1 (RR x hlo) j (by simp;omega))
          have hs:s=i:=by
            rcases Gg with h1 | ⟨y,h1,h2⟩
            · exact h1
            · rcases Nat.lt_or_ge s i with h3 | h3
              · have:=(qm s y h1 h2).1 (ou s h3)
                omega
              · omega
          subst hs
          have R4:FR φ' (Own φ' (Hs s)) w' (fs s) act:=by
            refine ⟨by rw[RX,N6 s (Nat.le_refl _)],fun t=>?_⟩
            by_cases hw:∃(j:Nat)(y:bG),j<s∧l[j]? = some y∧y.dst=some t
            · obtain ⟨j,y,Z5,hj,hd⟩:=hw
              by_cases ht:t<ts.length
              · rw[hfW s (Nat.le_refl _) j y t Z5 hj hd ht]
                exact hs8 j y t hj hd ht (ou j Z5)
              · have:(fs s).getD t .top = .top:=by
                  simp[List.getD,List.getElem?_eq_none (show (fs s).length≤t by rw[N6 s (Nat.le_refl _)];omega)]
                rw[this]
                exact kO _
            · have hno:∀(j:Nat)(y:bG),j<s→l[j]? = some y→y.dst≠some t:=fun j y h1 h2 h3=>hw ⟨j,y,h1,h2,h3⟩
              rw[Wt s (Nat.le_refl _) t hno]
              refine RY t fun j y hj hd=>?_
              cases hq:listed.getD j false with
              | false=>rfl
              | true=>exact absurd hd (hno j y (hI.lt j hq) hj)
          have ke:∀m,m<ops.size→(listed.setIfInBounds s true).getD m false=true:=fun m hm=>by
            by_cases e:s=m
            · subst e;exact fX CR
            · rw[cN e]
              refine ou m ?_
              rw[hlo] at eI
              simp at eI
              omega
          rcases gh hgd R4 fB with ⟨hw,hy⟩ | ⟨hw,hn⟩
          · rw[if_pos hw]
            left
            refine Ej lJ El R4 hy (fun v u cT H2 w2 k1 k2 k3 k4=>?_) (fun v u cT H2 w2 k1 k2 k3 k4=>?_)
            · refine .inr ⟨⟨by simpa using hI.size,ke⟩,_,cT,H2,k1,?_,k3,Em.trans k4,by rw[put_defers];exact hI.N4⟩
              rw[uK]
              exact (FR.step k4 R4).put _ k2
            · exact hp v u (fs s) act cT H2 w2 k1 k2 (FR.step k4 R4) k3 (Em.trans k4) hI.N4
          · rw[if_neg (by rw[hw];simp)]
            refine .inr ⟨⟨by simpa using hI.size,ke⟩,_,φ',_,hn,?_,El,Em,by rw[put_defers];exact hI.N4⟩
            rw[uK]
            exact R4.put _ mq
      · have g1:l0[i]? = some o':=g1
        have Jd:i<l0.length:=(List.getElem?_eq_some_iff.1 g1).1
        have YS:=kg
        rw[hl,List.getElem?_append_left Jd,g1] at YS
        cases YS
        have hs:s=i:=by
          rcases Gg with h1 | ⟨y,h1,h2⟩
          · exact h1
          · rcases Nat.lt_or_ge s i with h3 | h3
            · have h4:=(dy hD kg h1).2.2.2 h3 (.inl ⟨g3,h2⟩)
              have:=(qm s y h1 h2).1 (uL s h4)
              omega
            · omega
        subst hs
        rcases gh hgd En (nU R1 g2) with ⟨hw,_⟩ | ⟨_,hf⟩
        · rw[if_pos hw]
          left
          rw[zO hev] at g4
          refine zI lJ El En g4 (fun v u cT H2 w2 k1=>k1.elim) (fun v u cT H2 w2 k1 k2 k3 k4=>?_)
          obtain ⟨rfl,rfl⟩:=k1
          refine hp v u (ig l0 ts) act cT H2 w2 g6 k2 ⟨by rw[RX,(qR l0 ts).1],fun t=>?_⟩ k3 (Em.trans k4) hI.N4
          rcases (qR l0 ts).2 t with h1 | ⟨h1,h2⟩
          · rw[h1];exact kO _
          · rw[h1]
            exact k4.vr (RY t fun j y hj hd=>by
              cases hq:listed.getD j false with
              | false=>rfl
              | true=>exact absurd hd (h2 y (List.mem_of_getElem? (mC j y (hI.lt j hq) hj))))
        · exact hf.elim
    case inl =>
      have hsi:=(hst i x hlt kg).2
      have hno:bT zP False True x.guard→Region.wanted o (yielded ops act.tmps)=false:=fun hg=>by
        rcases gh hgd En hg with ⟨_,hf⟩ | ⟨hw,_⟩
        · exact hf.elim
        · exact hw
      rcases hsi with ⟨hg,hop⟩ | ⟨hg,hv,RQ⟩
      case inr =>
        rw[if_neg (by rw[hno (nU R1 hg)];simp)]
        have hsame:∀s2 w2,Later (fun _=>True) φ' φ' (Own φ' (Hs s2)) (Own φ' (Hs s2)) w2 w2:=fun _ _=>Later.refl
        have hvu:∀(cT:aC)(O2:Nat→Prop),VR cT O2 w' (vs i) undef:=fun _ _=>by rw[hv];exact mq
        cases hch:x.op.aQ with
        | false =>
          refine R2 φ' s w' undef hlt hs1 (zQ hch) Gg El Later.refl (fun _ _=>rfl) rfl rfl rfl (fun j y hj hal zR dz hu=>?_) (hvu _ _)
          by_cases e:i=j
          · subst e
            rw[RQ] at dz
            omega
          · rw[cN e] at hu
            exact N7 j y hj hal zR dz hu
        | true =>
          have Wu:s=i:=by
            have h1:¬i<s:=fun h1=>by
              have:=(qm i x kg hch).2 h1
              rw[hnl] at this
              simp at this
            rcases Gg with h2 | ⟨y,h2,h3⟩
            · omega
            · rcases Nat.lt_or_ge s i with h4 | h4
              · have h5:=(dy hD kg h2).2.2.2 h4 (.inl ⟨hch,h3⟩)
                have:=(qm s y h2 h3).1 (uL s h5)
                omega
              · omega
          subst Wu
          obtain ⟨s2,n1,n2,n3,n4⟩:=uI (fun m=>match l[m]? with | some y=>y.op.aQ | none=>false) N (N - (s+1)) (s+1) (by omega)
          have hE:qj (Hs (s+1)) (Hs s2):=by
            have:=RS (s2 - (s+1)) (s+1) (by omega) fun m y g1 g2 g3=>by have:=n4 m g1 (by omega);rw[g3] at this;exact this
            rwa [show s+1+(s2 - (s+1))=s2 from by omega] at this
          rw[RQ] at hE
          obtain ⟨r1,r2⟩:=El.ext hE
          refine R2 φ' s2 w' undef hlt n2 (fun c y R5 fw=>?_) ?_ r1 r2.toLater (fun _ _=>rfl) rfl rfl rfl (fun j y hj hal zR dz hu=>?_) (hvu _ _)
          · by_cases e:s=c
            · subst e
              rw[fX CR]
              simp;omega
            · rw[cN e,qm c y R5 fw]
              constructor
              · intro h;omega
              · intro h
                rcases Nat.lt_or_ge c (s+1) with h1 | h1
                · omega
                · have:=n4 c h1 h
                  rw[R5] at this
                  simp only at this
                  rw[fw] at this
                  simp at this
          · rcases n3 with h3 | h3
            · exact .inl h3
            · split at h3
              · rename_i y hy;exact .inr ⟨y,hy,h3⟩
              · simp at h3
          · by_cases e:s=j
            · subst e
              rw[RQ] at dz
              omega
            · rw[cN e] at hu
              exact N7 j y hj hal zR dz hu
      case inl =>
        rcases gh hgd En (nU R1 hg) with ⟨hw,_⟩ | ⟨_,hf⟩
        case inr=>exact hf.elim
        rw[if_pos hw]
        left
        have Mr:=hop
        rw[zO hev] at hop
        cases hch:x.op.aQ with
        | true =>
          have Wu:s=i:=by
            have h1:¬i<s:=fun h1=>by
              have:=(qm i x kg hch).2 h1
              rw[hnl] at this
              simp at this
            rcases Gg with h2 | ⟨y,h2,h3⟩
            · omega
            · rcases Nat.lt_or_ge s i with h4 | h4
              · have h5:=(dy hD kg h2).2.2.2 h4 (.inl ⟨hch,h3⟩)
                have:=(qm s y h2 h3).1 (uL s h5)
                omega
              · omega
          subst Wu
          refine zI lJ El En hop (fun v u cT H2 w2 k1 k2 k3 k4=>?_) (fun v u cT H2 w2 k1=>k1.elim)
          obtain ⟨rfl,rfl⟩:=k1
          obtain ⟨s2,n1,n2,n3,n4⟩:=uI (fun m=>match l[m]? with | some y=>y.op.aQ | none=>false) N (N - (s+1)) (s+1) (by omega)
          have hE:qj (Hs (s+1)) (Hs s2):=by
            have:=RS (s2 - (s+1)) (s+1) (by omega) fun m y g1 g2 g3=>by have:=n4 m g1 (by omega);rw[g3] at this;exact this
            rwa [show s+1+(s2 - (s+1))=s2 from by omega] at this
          obtain ⟨r1,r2⟩:=k3.ext hE
          have k5:=k4.trans r2
          have mC:H.length≤(Hs s).length:=by
            have:=l3 0 s (Nat.zero_le _) hs1
            rwa [B2] at this
          refine R2 cT s2 w2 u hlt n2 (fun c y R5 fw=>?_) ?_ r1 k5.toLater (fun id hid=>k5.old id (by omega)) k5.os k5.tape k5.output (fun j y hj hal zR dz hu=>?_) (r2.vr k2)
          · by_cases e:s=c
            · subst e
              rw[fX CR]
              simp;omega
            · rw[cN e,qm c y R5 fw]
              constructor
              · intro h;omega
              · intro h
                rcases Nat.lt_or_ge c (s+1) with h1 | h1
                · omega
                · have:=n4 c h1 h
                  rw[R5] at this
                  simp only at this
                  rw[fw] at this
                  simp at this
          · rcases n3 with h3 | h3
            · exact .inl h3
            · split at h3
              · rename_i y hy;exact .inr ⟨y,hy,h3⟩
              · simp at h3
          · have e:s≠j:=fun e=>by
              subst e
              rw[kg] at hj
              cases hj
              cases N9:x.op with
              | p q=>rw[N9] at hal;simp[dR.bf] at hal
              | h q=>rw[N9] at hal hch;cases q<;>simp[dR.bf,HO.bf,dR.aQ,HO.aQ] at hal hch
            rw[cN e] at hu
            rcases Nat.lt_or_ge j s with h1 | h1
            · have h2:=N7 j y hj hal zR dz hu
              have h3:(Hs j).length<(Hs s).length:=by
                have:=l3 (j+1) s (by omega) (by omega)
                omega
              rw[k4.old _ h3]
              exact h2
            · cases Jy:cT (Hs j).length with
              | none=>rfl
              | some bb =>
                have g1:=(k3.dom _ _ Jy).1
                have g2:=l3 (s+1) j (by omega) (by omega)
                omega
        | false =>
          cases hal:x.op.bf with
          | true =>
            obtain ⟨q,hq⟩:∃q,x.op = .h q:=by
              cases N9:x.op with
              | p q=>rw[N9] at hal;simp[dR.bf] at hal
              | h q=>exact ⟨q,rfl⟩
            have hcq:lE P b o=some q:=by
              unfold lG at lJ
              split at lJ
              · simp at lJ
              split at lJ
              · cases lJ;cases hq
              · split at lJ
                · rename_i q' fC
                  cases lJ
                  cases hq
                  exact fC
                · cases lJ;cases hq
            rw[hq] at hop
            obtain ⟨blk,cur,cap,u,a1,a1k,a2,a3,a4,a5,a6,a7,a8,a9⟩:=N3 hcq (by rw[hq] at hal;exact hal) En hop
            have Wu:i<s:=by
              rcases Nat.lt_or_ge i s with h1 | h1
              · exact h1
              · rcases Gg with h2 | ⟨y,h2,h3⟩
                · omega
                · rcases Nat.lt_or_ge s i with h4 | h4
                  · have h5:=(dy hD kg h2).2.2.2 h4 (.inr ⟨hal,h3⟩)
                    have:=(qm s y h2 h3).1 (uL s h5)
                    omega
                  · have:s=i:=by omega
                    subst this
                    rw[kg] at h2
                    cases h2
                    rw[hch] at h3
                    simp at h3
            have adZ:(Hs (i+1)).length=(Hs i).length+1:=by rw[a1];simp
            have aad:Y.find (Hs s) (Hs i).length=some blk:=by
              have key:∀k,i+1+k≤s→Y.find (Hs (i+1+k)) (Hs i).length=some blk:=by
                intro k
                induction k with
                | zero=>intro _;rw[Nat.add_zero,a1,Y.gZ]
                | succ k ih =>
                  intro hk
                  have ih:=ih (by omega)
                  obtain ⟨y,hy⟩:=wu (i+1+k) (by omega)
                  have hl:=(hst (i+1+k) y (by omega) hy).2
                  cases fw:y.op.aQ with
                  | false=>exact ((hl.ext fw).2 _ (Y.am ih)).trans ih
                  | true =>
                    refine (hrd.YL i x (i+1+k) y (Nat.zero_le _) (by omega) (by omega) (by simpa using mC _ _ (by omega) kg) hal hg (by simpa using mC _ _ (by omega) hy) fw ?_).trans ih
                    have g4:=(qm _ y hy fw).2 (by omega)
                    unfold kf
                    have n1:jt A i (i+1+k)=false:=by
                      cases hq:jt A i (i+1+k) with
                      | false=>rfl
                      | true=>have:=(dy hD kg hy).1 _ hq;omega
                    have n2:jt A (i+1+k) i=false:=by
                      cases hq:jt A (i+1+k) i with
                      | false=>rfl
                      | true =>
                        have sG:i+1+k<l.length:=(List.getElem?_eq_some_iff.1 hy).1
                        obtain ⟨om,ym,m1,m2,_⟩:=hx (i+1+k) (by omega)
                        have:=r9 hA hI.cl (i+1+k+1) (i+1+k) om (by omega) m1 (hI.cl _ om m1 g4) i hq
                        rw[hnl] at this
                        simp at this
                    rw[n1,n2];rfl
              have:=key (s - (i+1)) (by omega)
              rwa [show i+1+(s - (i+1))=s from by omega] at this
            have hun:φ' (Hs i).length=none:=N7 i x kg hal hlt (by omega) hnl
            obtain ⟨r1,r2⟩:=El.RP hun aad a1k cur cap a3 a4 a5 a6 a7 a8
            have mC:H.length≤(Hs i).length:=by
              have:=l3 0 i (Nat.zero_le _) (by omega)
              rwa [B2] at this
            refine aG a2 (R2 (φ'.add (Hs i).length w'.heap.size) s _ u hlt hs1 (zQ hch) Gg r1 r2 (fun id hid=>by unfold aC.add;rw[if_neg (by omega)]) rfl rfl rfl (fun j y hj haj zR dz hu=>?_) (a9 _ _ _ (by simp[aC.add]) (heap_alloc_new w' _)))
            have e:i≠j:=fun e=>by
              subst e
              rw[fX CR] at hu
              simp at hu
            rw[cN e] at hu
            have hne:(Hs j).length≠(Hs i).length:=by
              rcases Nat.lt_or_ge i j with h1 | h1
              · have:=l3 (i+1) j (by omega) (by omega)
                omega
              · have:=l3 (j+1) i (by omega) (by omega)
                omega
            unfold aC.add
            rw[if_neg hne]
            exact N7 j y hj haj zR dz hu
          | false =>
            have zM:∀m ag ad k id j f,x.op = .h (.load m ag ad)→X.ev zP ad = .ptr k id j f→Y.find (Hs s) id=Y.find (Hs i) id:=by
              intro m ag ad k id j f he hp'
              have hlo:nw x (fs i) id:=⟨m,ag,ad,k,j,f,he,by rw[hev ad (by rw[he];simp[dR.xs,HO.xs])];exact hp'⟩
              have Z9:∃bb,φ' id=some bb:=by
                have ad8:ad∈x.op.xs:=by rw[he];simp[dR.xs,HO.xs]
                cases ad with
                | k v =>
                  simp only[X.ev] at hp'
                  subst hp'
                  unfold lG at lJ
                  split at lJ
                  · simp at lJ
                  split at lJ
                  · cases lJ;cases he
                  · split at lJ
                    · rename_i q' fC
                      cases lJ
                      cases he
                      unfold lE at fC
                      split at fC
                      case h_2=>rcases td fC with ⟨g9,xs9,e9⟩ | ⟨g9,xs9,e9⟩<;>cases e9
                      rename_i hq1
                      cases fC
                      replace fC:=hq1
                      clear hq1
                      unfold hJ at fC
                      split at fC
                      · split at fC<;>cases fC
                        rename_i xo _ tw _ N9
                        have:=aq En N9
                        obtain ⟨bb,h1,_⟩:=ee this
                        exact ⟨bb,h1⟩
                      · split at fC<;>(try split at fC)<;>(try split at fC)<;>(try split at fC)<;>simp at fC
                      all_goals first
                        | (have h9:=ox fC;simp at h9;done)
                        | (split at fC<;>(try split at fC)<;>(try split at fC)<;>(try split at fC)<;>(try split at fC)<;>simp at fC;done)
                        | (simp at fC;done)
                        | (repeat' split at fC
                           all_goals first | (simp at fC;done) | (have:=CL fC;simp at this;done) | (have:=FX fC;simp at this;done))
                    · cases lJ;cases he
                | t t =>
                  have:=En.2 t
                  simp only[X.ev] at hp'
                  rw[hp'] at this
                  obtain ⟨bb,h1,_⟩:=ee this
                  exact ⟨bb,h1⟩
              obtain ⟨bb,Wv⟩:=Z9
              have R6:=(El.dom id bb Wv).1
              have both:=fun c y (h1:c<N)(h2:l[c]? = some y)(h3:y.op.aQ=true)(h4:kf A i c=true)(h5:id<(Hs c).length)=>hrd.both i x id c y (Nat.zero_le _) hlt (Nat.zero_le _) h1 (by simpa using mC _ _ hlt kg) hlo hg (by simpa using mC _ _ h1 h2) h3 h4 (by rw[N1];exact h4) h5
              rcases Nat.lt_or_ge s i with h1 | h1
              ·
                have key:∀k,s+k≤i→Y.find (Hs (s+k)) id=Y.find (Hs s) id∧id<(Hs (s+k)).length:=by
                  intro k
                  induction k with
                  | zero=>intro _;exact ⟨rfl,R6⟩
                  | succ k ih =>
                    intro hk
                    obtain ⟨e1,e2⟩:=ih (by omega)
                    obtain ⟨y,hy⟩:=wu (s+k) (by omega)
                    have hl:=(hst (s+k) y (by omega) hy).2
                    refine ⟨?_,Nat.lt_of_lt_of_le e2 hl.len⟩
                    rw[←e1]
                    cases fw:y.op.aQ with
                    | false=>exact (hl.ext fw).2 id e2
                    | true =>
                      refine both (s+k) y (by omega) hy fw ?_ e2
                      unfold kf
                      have n1:jt A i (s+k)=false:=by
                        cases hq:jt A i (s+k) with
                        | false=>rfl
                        | true =>
                          have:=(qm _ y hy fw).1 (uL _ hq)
                          omega
                      have n2:jt A (s+k) i=false:=by
                        cases hq:jt A (s+k) i with
                        | false=>rfl
                        | true=>have:=(dy hD hy kg).1 i hq;omega
                      rw[n1,n2];rfl
                have:=(key (i - s) (by omega)).1
                rw[show s+(i - s)=i from by omega] at this
                exact this.symm
              ·
                have ab7:id<(Hs i).length:=by
                  have h2:∃blk,Y.find (Hs i) id=some blk:=by
                    rw[he] at Mr
                    simp only[pg,HO.aV] at Mr
                    obtain ⟨_,_,_,_,_,_,e1,e2⟩:=hlo
                    rw[he] at e1
                    cases e1
                    rw[e2] at Mr
                    obtain ⟨blk,_,h3,_⟩:=Mr
                    exact ⟨blk,h3⟩
                  obtain ⟨blk,h3⟩:=h2
                  exact Y.am h3
                have key:∀k,i+k≤s→Y.find (Hs (i+k)) id=Y.find (Hs i) id∧id<(Hs (i+k)).length:=by
                  intro k
                  induction k with
                  | zero=>intro _;exact ⟨rfl,ab7⟩
                  | succ k ih =>
                    intro hk
                    obtain ⟨e1,e2⟩:=ih (by omega)
                    obtain ⟨y,hy⟩:=wu (i+k) (by omega)
                    have hl:=(hst (i+k) y (by omega) hy).2
                    refine ⟨?_,Nat.lt_of_lt_of_le e2 hl.len⟩
                    rw[←e1]
                    cases fw:y.op.aQ with
                    | false=>exact (hl.ext fw).2 id e2
                    | true =>
                      refine both (i+k) y (by omega) hy fw ?_ e2
                      unfold kf
                      have n1:jt A i (i+k)=false:=by
                        cases hq:jt A i (i+k) with
                        | false=>rfl
                        | true=>have:=(dy hD kg hy).1 _ hq;omega
                      have n2:jt A (i+k) i=false:=by
                        cases hq:jt A (i+k) i with
                        | false=>rfl
                        | true =>
                          have g4:=(qm _ y hy fw).2 (by omega)
                          have sG:i+k<l.length:=(List.getElem?_eq_some_iff.1 hy).1
                          obtain ⟨om,ym,m1,m2,_⟩:=hx (i+k) (by omega)
                          have:=r9 hA hI.cl (i+k+1) (i+k) om (by omega) m1 (hI.cl _ om m1 g4) i hq
                          rw[hnl] at this
                          simp at this
                      rw[n1,n2];rfl
                have:=(key (s - i) (by omega)).1
                rw[show i+(s - i)=s from by omega] at this
                exact this
            obtain ⟨q1,q2⟩:=wq (T:=Hs s) hch hal hop zM
            refine zI lJ El En q2 (fun v u cT H2 w2 k1 k2 k3 k4=>?_) (fun v u cT H2 w2 k1=>k1.elim)
            obtain ⟨rfl,rfl⟩:=k1
            have mC:H.length≤(Hs s).length:=by
              have:=l3 0 s (Nat.zero_le _) hs1
              rwa [B2] at this
            refine R2 cT s w2 u hlt hs1 (zQ hch) Gg k3 k4.toLater (fun id hid=>k4.old id (by omega)) k4.os k4.tape k4.output (fun j y hj haj zR dz hu=>?_) k2
            have h1:=R3 hal j y hj haj zR dz hu
            rcases Nat.lt_or_ge (Hs j).length (Hs s).length with h2 | h2
            · rw[k4.old _ h2];exact h1
            · cases Jy:cT (Hs j).length with
              | none=>rfl
              | some bb=>have:=(k3.dom _ _ Jy).1;omega
theorem xP{b:Bool}{ops:Array Oper}{l:List bG}{A:List (List Nat)}(hc:dc P b ops ops.toList=some l)(hA:wm ops A=true)(hD:B0 l A=true)
  {Q:Exit→Act→World→Prop}{K:List Z→Y→Prop}{Kp:Z→List Z→Y→Prop}{φ:aC}{H:Y}{w:World}{ts:List Z}{a:Act}
  (hR:Rel φ H w)(hF:FR φ (Own φ H) w ts a)(h:mL P A l.length K (fun v H'=>Kp v (ig l ts) H') 0 l ts H [] [])(hk:kQ Q K φ H w a.defers)(hp:j9 Q Kp φ H w a.defers):wpAny P .any ops Q ops.size (Array.replicate ops.size false) a { w with drawn:=w.drawn+1 } :=
 uJ (last:=none) hc (by simp) hA hD (fun o h=>by simp at h) hR hF h (fun _ _ h=>⟨fun _=>h,fun o h=>by simp at h⟩) hk hp
theorem B4{b:Bool}{id:Nat}{ops:Array Oper}{l:List bG}{A:List (List Nat)}(hm:P.follows .mixedOrders=true)(hc:dc P b ops ops.toList=some l)(hA:wm ops A=true)(hD:B0 l A=true)
  {Q:Exit→Act→World→Prop}{K:List Z→Y→Prop}{Kp:Z→List Z→Y→Prop}{φ:aC}{H:Y}{w:World}{ts:List Z}{a:Act}
  (hR:Rel φ H w)(hF:FR φ (Own φ H) w ts a)(h:mL P A l.length K (fun v H'=>Kp v (ig l ts) H') 0 l ts H [] [])(hk:kQ Q K φ H w a.defers)(hp:j9 Q Kp φ H w a.defers):(Code.region id ops true).wp P Q a w :=
 wp_region_any hm (xP hc hA hD hR hF h hk hp)
def wv(ρ:Nat→Nat)(o:Oper):Oper:={ o with after:=o.after.map (fun e=>{ e with on:=ρ e.on }),guard:=o.guard.map fun g=>(ρ g.1,g.2) }
def Ww(ops:Array Oper):List Nat :=
 let free:=fun i=>match ops[i]? with | some o=>(match o.op with | .alloc _=>o.after.isEmpty && o.guard.isNone | _=>false) | none=>false
 (List.range ops.size).filter free++(List.range ops.size).filter (fun i=>!free i)
def ey(σ:List Nat)(i:Nat):Nat:=if i<σ.length then σ.idxOf i else i
def eM(σ:List Nat)(ops:Array Oper):Array Oper:=(σ.map fun i=>wv (ey σ) (ops.getD i default)).toArray
def iX(σ:List Nat)(n:Nat):Bool:=σ.length == n && (List.range n).all (fun i=>σ.contains i) && σ.all (fun i=>decide (i<n)) && (List.range n).all fun p=>ey σ (σ.getD p 0) == p
section hoist
variable {ops:Array Oper}{σ:List Nat}
theorem ij(h:iX σ ops.size=true):σ.length=ops.size∧(∀p,p<ops.size→σ.getD p 0<ops.size∧ey σ (σ.getD p 0)=p)∧(∀i,i<ops.size→ey σ i<ops.size∧σ.getD (ey σ i) 0=i)∧(∀i,ops.size≤i→ey σ i=i):=by
 unfold iX at h
 simp only[Bool.and_eq_true,beq_iff_eq,List.all_eq_true,List.mem_range,decide_eq_true_eq] at h
 obtain ⟨⟨⟨h1,h2⟩,h3⟩,h4⟩:=h
 refine ⟨h1,fun p hp=>⟨h3 _ ?_,h4 p hp⟩,fun i hi=>?_,fun i hi=>?_⟩
 ·rw[List.getD_eq_getElem?_getD,List.getElem?_eq_getElem (by omega)]
  exact List.getElem_mem _
 ·have hm:i∈σ:=by simpa using h2 i hi
  have hl:=List.idxOf_lt_length_of_mem hm
  unfold ey
  rw[if_pos (by omega)]
  refine ⟨by omega,?_⟩
  rw[List.getD_eq_getElem?_getD,List.getElem?_eq_getElem hl]
  exact List.getElem_idxOf hl
 ·unfold ey
  rw[if_neg (by omega)]
theorem qS(h:iX σ ops.size=true){p:Nat}(hp:p<ops.size):∃o,ops[σ.getD p 0]? = some o∧(eM σ ops)[p]? = some (wv (ey σ) o):=by
 obtain ⟨h1,h2,_,_⟩:=ij h
 have h3:=(h2 p hp).1
 refine ⟨ops[σ.getD p 0],by simp[h3],?_⟩
 have fy:p<σ.length:=by omega
 have e:σ.getD p 0=σ[p]:=by simp[List.getD,fy]
 simp only[e] at h3 ⊢
 simp[eM,fy,Array.getD,h3]
theorem l4(h:iX σ ops.size=true):(eM σ ops).size=ops.size:=by simp[eM,(ij h).1]
theorem zS(h:iX σ ops.size=true)(ts:Array Value)(j:Nat):yielded (eM σ ops) ts (ey σ j)=yielded ops ts j:=by
 obtain ⟨h1,h2,h3,h4⟩:=ij h
 by_cases hj:j<ops.size
 ·obtain ⟨o,e1,e2⟩:=qS h (h3 j hj).1
  rw[(h3 j hj).2] at e1
  unfold yielded
  rw[e1,e2]
  rfl
 ·rw[h4 j (by omega)]
  unfold yielded
  have e1:ops[j]? = none:=by simp;omega
  have e2:(eM σ ops)[j]? = none:=by simp[l4 h];omega
  rw[e1,e2]
theorem Gh(h:iX σ ops.size=true){Q:Exit→Act→World→Prop}{K:Act→World→Prop}{a:Act}{w:World}{i:Nat}(hi:i<ops.size)(hw:wpOp P (eM σ ops) Q (ey σ i) K a w):wpOp P ops Q i K a w:=by
 obtain ⟨h1,h2,h3,h4⟩:=ij h
 obtain ⟨o,e1,e2⟩:=qS h (h3 i hi).1
 rw[(h3 i hi).2] at e1
 unfold wpOp at hw ⊢
 rw[e2] at hw
 rw[e1]
 simp only at hw ⊢
 have e3:Region.wanted (wv (ey σ) o) (yielded (eM σ ops) a.tmps)=Region.wanted o (yielded ops a.tmps):=by
  unfold Region.wanted wv
  cases o.guard with
  | none=>rfl
  | some g=>simp only[Option.map_some];rw[zS h]
 rw[e3] at hw
 exact hw
theorem Jz(h:iX σ ops.size=true){Q:Exit→Act→World→Prop}:∀(fuel:Nat)(L L':Array Bool)(a:Act)(w:World),L.size=ops.size→L'.size=ops.size→(∀i,i<ops.size→L'[ey σ i]? = L[i]?)→wpAny P .any (eM σ ops) Q fuel L' a w→wpAny P .any ops Q fuel L a w:=by
 obtain ⟨h1,h2,h3,h4⟩:=ij h
 have jH:∀(L L':Array Bool),L.size=ops.size→L'.size=ops.size→(∀i,i<ops.size→L'[ey σ i]? = L[i]?)→∀i b,L'.getD (ey σ i) b=L.getD i b:=by
  intro L L' z1 z2 hL i b
  by_cases hi:i<ops.size
  ·have:=hL i hi
   rw[Array.getD_eq_getD_getElem?,Array.getD_eq_getD_getElem?,this]
  ·rw[h4 i (by omega),Array.getD_eq_getD_getElem?,Array.getD_eq_getD_getElem?]
   have e1:L'[i]? = none:=by simp;omega
   have e2:L[i]? = none:=by simp;omega
   rw[e1,e2]
 have Eo:∀(L L':Array Bool),L.size=ops.size→L'.size=ops.size→(∀i,i<ops.size→L'[ey σ i]? = L[i]?)→∀i,i<ops.size→(ey σ i∈Region.ready .any (eM σ ops) L'↔i∈Region.ready .any ops L):=by
  intro L L' z1 z2 hL i hi
  obtain ⟨o,e1,e2⟩:=qS h (h3 i hi).1
  rw[(h3 i hi).2] at e1
  unfold Region.ready
  simp only[List.mem_filter,List.mem_range,l4 h,e1,e2,Option.map_some,Option.getD_some,jH L L' z1 z2 hL]
  have e3:((wv (ey σ) o).after.all fun e=>!Region.binds .any e || L'.getD e.on false)=(o.after.all fun e=>!Region.binds .any e || L.getD e.on false):=by
   unfold wv
   simp only[Array.all_map]
   congr 1
   funext e
   simp only[Function.comp]
   rw[jH L L' z1 z2 hL]
   rfl
  rw[e3]
  constructor
  ·intro hh;exact ⟨hi,hh.2⟩
  ·intro hh;exact ⟨(h3 i hi).1,hh.2⟩
 have hnil:∀(L L':Array Bool),L.size=ops.size→L'.size=ops.size→(∀i,i<ops.size→L'[ey σ i]? = L[i]?)→(Region.ready .any ops L=[]↔Region.ready .any (eM σ ops) L'=[]):=by
  intro L L' z1 z2 hL
  constructor
  ·intro he
   apply List.eq_nil_iff_forall_not_mem.2
   intro p hp
   have fy:p<ops.size:=by
    unfold Region.ready at hp
    simp only[List.mem_filter,List.mem_range,l4 h] at hp
    exact hp.1
   have hq:=(Eo L L' z1 z2 hL (σ.getD p 0) (h2 p fy).1).1 (by rw[(h2 p fy).2];exact hp)
   rw[he] at hq
   simp at hq
  ·intro he
   apply List.eq_nil_iff_forall_not_mem.2
   intro i hi
   have lI:i<ops.size:=by
    unfold Region.ready at hi
    simp only[List.mem_filter,List.mem_range] at hi
    exact hi.1
   have hq:=(Eo L L' z1 z2 hL i lI).2 hi
   rw[he] at hq
   simp at hq
 intro fuel
 induction fuel with
 | zero =>
  intro L L' a w z1 z2 hL hw
  exact ⟨(hnil L L' z1 z2 hL).2 hw.1,hw.2⟩
 | succ fuel ih =>
  intro L L' a w z1 z2 hL hw
  refine ⟨fun he=>hw.1 ((hnil L L' z1 z2 hL).1 he),fun i hi=>?_⟩
  have lI:i<ops.size:=by
   have:=hi
   unfold Region.ready at this
   simp only[List.mem_filter,List.mem_range] at this
   exact this.1
  have hq:=hw.2 _ ((Eo L L' z1 z2 hL i lI).2 hi)
  refine wpOp_mono (fun a' w' hh=>ih _ _ a' w' (by simpa using z1) (by simpa using z2) (fun j hj=>?_) hh) (Gh h lI hq)
  rw[Array.getElem?_setIfInBounds,Array.getElem?_setIfInBounds]
  by_cases e:i=j
  ·subst e
   rw[if_pos rfl,if_pos rfl,if_pos (by rw[z2];exact (h3 i lI).1),if_pos (by rw[z1];exact lI)]
  ·rw[if_neg e,if_neg (fun e2=>e (by
    have:=congrArg (fun p=>σ.getD p 0) e2
    simp only[(h3 i lI).2,(h3 j hj).2] at this
    exact this))]
   exact hL j hj
end hoist
theorem zT{b:Bool}{ops:Array Oper}{σ:List Nat}{l:List bG}{A:List (List Nat)}(hm:P.follows .mixedOrders=true)(R7:iX σ ops.size=true)(hc:dc P b (eM σ ops) (eM σ ops).toList=some l)(hA:wm (eM σ ops) A=true)(hD:B0 l A=true)
  {Q:Exit→Act→World→Prop}{K:List Z→Y→Prop}{Kp:Z→List Z→Y→Prop}{φ:aC}{H:Y}{w:World}{ts:List Z}{a:Act}
  (hR:Rel φ H w)(hF:FR φ (Own φ H) w ts a)(h:mL P A l.length K (fun v H'=>Kp v (ig l ts) H') 0 l ts H [] [])(hk:kQ Q K φ H w a.defers)(hp:j9 Q Kp φ H w a.defers):wpAny P .any ops Q ops.size (Array.replicate ops.size false) a { w with drawn:=w.drawn+1 }:=by
 have h1:=xP hc hA hD hR hF h hk hp
 rw[l4 R7] at h1
 obtain ⟨_,_,h3,_⟩:=ij R7
 refine Jz R7 _ _ _ a _ (by simp) (by simp) (fun i hi=>?_) h1
 rw[Array.getElem?_replicate,Array.getElem?_replicate,if_pos hi,if_pos (h3 i hi).1]
theorem B5{b:Bool}{id:Nat}{ops:Array Oper}{σ:List Nat}{l:List bG}{A:List (List Nat)}(hm:P.follows .mixedOrders=true)(R7:iX σ ops.size=true)(hc:dc P b (eM σ ops) (eM σ ops).toList=some l)(hA:wm (eM σ ops) A=true)(hD:B0 l A=true)
  {Q:Exit→Act→World→Prop}{K:List Z→Y→Prop}{Kp:Z→List Z→Y→Prop}{φ:aC}{H:Y}{w:World}{ts:List Z}{a:Act}
  (hR:Rel φ H w)(hF:FR φ (Own φ H) w ts a)(h:mL P A l.length K (fun v H'=>Kp v (ig l ts) H') 0 l ts H [] [])(hk:kQ Q K φ H w a.defers)(hp:j9 Q Kp φ H w a.defers):(Code.region id ops true).wp P Q a w :=
 wp_region_any hm (zT hm R7 hc hA hD hR hF h hk hp)
end
inductive IC where
 | skip
 | ops (l:List bG)
 | dL (l:List bG)(A:List (List Nat))
 | seq (a b:IC)
 | cond (c:X)(a b:IC)
 | block (id:Nat)(c:IC)
 | loop (c:IC)
 | exit (id:Nat)
 | ret
 | Wx (l1:List bG)(g:Option (Nat×Bool))(y:X)(args:List X)(d:Option Nat)(l2:List bG)
 | Wy (g:X)(ps:Array Tmp)(sH body:Code)
inductive AX where
 | normal
 | exit (id:Nat)
 | ret
 | bu (v:Z)
def Ep(P:Program)(b:Bool)(ops:Array Oper):Option IC :=
 let σ:=Ww ops
 let ops':=eM σ ops
 match dc P b ops' ops'.toList with
 | none=>none
 | some l=>(let A:=Mq ops';if iX σ ops.size && wm ops' A && B0 l A && P.follows .mixedOrders then some (.dL l A) else none)
def JA(l:List bG)(A:List (List Nat)):Option IC:=match l.getLast? with
 | some o=>if (List.range l.dropLast.length).all (fun j=>jt A l.dropLast.length j)=true then some (.seq (.dL l.dropLast A) (.ops [o])) else none
 | none=>none
def Er:IC:=.ops [⟨none,none,.p (.un .not (.k .top))⟩]
def c6(P:Program)(aX:List Nat):Code→Option IC
 | .skip=>some .skip
 | .label _=>some .skip
 | .region id ops draw =>
  match dc P (aX.contains id) ops ops.toList with
  | none=>none
  | some l=>if draw then (let A:=Mq ops;if wm ops A && B0 l A && P.follows .mixedOrders then (if aX.contains (id+1000) then JA l A else some (.dL l A)) else Ep P (aX.contains id) ops) else some (.ops l)
 | .seq a b=>match c6 P aX a,c6 P aX b with
  | some x,some y=>some (.seq x y)
  | _,_=>none
 | .cond c a b=>match aU c,c6 P aX a,c6 P aX b with
  | some c,some x,some y=>some (.cond c x y)
  | _,_,_=>none
 | .block id c=>(c6 P aX c).map (.block id)
 | .loop c=>(c6 P aX c).map .loop
 | .exit id=>some (.exit id)
 | .ret=>some .ret
 | .refuse _=>some Er
 | _=>none
abbrev Post:=AX→List Z→Y→Prop
def iC(next:List Z→Y→Prop)(K:Post):Post
 | .normal,ts,H=>next ts H
 | x,ts,H=>K x ts H
def jI(id:Nat)(K:Post):Post
 | .exit i,ts,H=>if i=id then K .normal ts H else K (.exit i) ts H
 | x,ts,H=>K x ts H
def DY(P:Program)(id:Nat)(args:List Z)(H:Y)(e:cm)(H':Y):Prop :=
 H.length≤H'.length∧∀(φ:aC)(w:World)(b:Nat)(vs:Array Value),Rel φ H w→φ id=some b→Rt φ (Own φ H) w args vs.toList→
  ∃f tmps sH body,(Instr.yield b vs).run P w = .ok (.round b f tmps sH body) w∧
   RoundIn Fence.wide 0 P b f tmps sH body w fun en w'=>∃φ',xE φ' (Own φ' H') w' e en∧Rel φ' H' w'∧Step φ H w φ' H' w'
def Ms(P:Program)(K Kp:Z→Y→Prop)(args:List Z)(H:Y):Z→Prop
 | .ptr k id j f=>(k=0∧f=1)∧∃e H',DY P id args H e H'∧cm.post K Kp H' e
 | _=>False
def ab8(fn db:Nat)(ps:Array Tmp)(sH body:Code):Loop:={ state:=.ready,pending:=none,fn:=fn,tmps:=#[],params:=ps,assign:=sH,body:=body,defers:=db }
def lpB(r:Loop)(ts:List Z):aD:=⟨0,.DZ r::ts,false,1⟩
def Mt(K:Post)(ts:List Z)(H:Y):Option Code→Prop
 | none=>K .normal ts H
 | some .ret=>K .ret ts H
 | some (.exit i)=>K (.exit i) ts H
 | _=>False
def Gi(P:Program)(ps:Array Tmp)(sH body:Code)(K:Post)(ts:List Z)(H:Y):Z→Prop
 | .fn (.func f) [] bW=>bA P f=true∧∀fn db,∃v H' r ts',D P f (.ptr 0 H.length 0 1::bW) (some (lpB (ab8 fn db ps sH body) ts)::H) (.ret v) H'∧
   Y.find H' H.length=some (lpB r ts')∧r.state≠.busy∧Mt K ts (Y.set H' H.length none) r.pending
 | _=>False
def E(P:Program):IC→Post→List Z→Y→Prop
 | .skip,K,ts,H=>K .normal ts H
 | .ops l,K,ts,H=>fP P (K .normal) (fun v ts' H'=>K (.bu v) ts' H') l ts H
 | .dL l A,K,ts,H=>mL P A l.length (K .normal) (fun v H'=>K (.bu v) (ig l ts) H') 0 l ts H [] []
 | .seq a b,K,ts,H=>E P a (iC (E P b K) K) ts H
 | .cond c a b,K,ts,H=>match c.ev ts with
  | .sc (.bool t)=>(t=true→E P a K ts H)∧(t=false→E P b K ts H)
  | .ub=>E P a K ts H∧E P b K ts H
  | _=>False
 | .block id c,K,ts,H=>E P c (jI id K) ts H
 | .loop c,K,ts,H=>∃(I:List Z→Y→Prop)(μ:List Z→Y→Nat),I ts H∧∀ts H,I ts H→E P c (iC (fun ts' H'=>I ts' H'∧μ ts' H'<μ ts H) K) ts H
 | .exit id,K,ts,H=>K (.exit id) ts H
 | .ret,K,ts,H=>K .ret ts H
 | .Wx l1 g y args d l2,K,ts,H=>fP P (fun fx H1=>bT fx (Ms P (fun v H2=>fP P (K .normal) (fun v ts' H'=>K (.bu v) ts' H') l2 (bJ fx d v) H2) (fun v H2=>K (.bu v) fx H2) (args.map (X.ev fx)) H1 (y.ev fx)) (fP P (K .normal) (fun v ts' H'=>K (.bu v) ts' H') l2 (bJ fx d (.aK [])) H1) g) (fun v ts' H'=>K (.bu v) ts' H') l1 ts H
 | .Wy g ps sH body,K,ts,H=>Gi P ps sH body K ts H (g.ev ts)
def XR(φ:aC)(O:Nat→Prop)(w:World):AX→Exit→Prop
 | .normal,.normal=>True
 | .exit i,.exit j=>i=j
 | .ret,.ret=>True
 | .bu x,.panic c=>qi φ O w x c
 | _,_=>False
def CK(K:Post)(φ:aC)(H:Y)(w:World)(ds:List Deferred):Exit→Act→World→Prop:=fun e a' w' =>
 ∃x ts' H' φ',XR φ' (Own φ' H') w' x e∧K x ts' H'∧FR φ' (Own φ' H') w' ts' a'∧Rel φ' H' w'∧Step φ H w φ' H' w'∧a'.defers=ds
theorem CK.step{K:Post}{φ φ':aC}{H H':Y}{w w':World}{ds:List Deferred}{e:Exit}{a:Act}{w2:World}(hs:Step φ H w φ' H' w')(h:CK K φ' H' w' ds e a w2):CK K φ H w ds e a w2:=by
 obtain ⟨x,ts,H2,cT,h1,h2,h3,h4,h5,h6⟩:=h
 exact ⟨x,ts,H2,cT,h1,h2,h3,h4,hs.trans h5,h6⟩
theorem JB{P:Program}{b:Bool}{ops:Array Oper}{l:List bG}{A:List (List Nat)}{ic:IC}(hc:JA l A=some ic)(hl:dc P b ops ops.toList=some l)(hA:wm ops A=true)(hD:B0 l A=true)
  {Q:Exit→Act→World→Prop}{K:Post}{φ:aC}{H:Y}{w:World}{ts:List Z}{a:Act}(hR:Rel φ H w)(hF:FR φ (Own φ H) w ts a)(h:E P ic K ts H)
  (hk:kQ Q (K .normal) φ H w a.defers)(hp:j9 Q (fun v ts' H'=>K (.bu v) ts' H') φ H w a.defers):wpAny P .any ops Q ops.size (Array.replicate ops.size false) a { w with drawn:=w.drawn+1 }:=by
 unfold JA at hc
 split at hc
 case h_2=>simp at hc
 rename_i o ho
 split at hc
 case isFalse=>simp at hc
 rename_i Wz
 cases hc
 have hne:l≠[]:=fun e=>by rw[e] at ho;simp at ho
 have dz:l=l.dropLast++(some o:Option bG).toList:=by
  have h1:=List.dropLast_concat_getLast hne
  rw[List.getLast?_eq_some_getLast hne] at ho
  cases ho
  exact h1.symm
 exact uJ (last:=some o) hl dz hA hD (fun o' he=>Wz) hR hF (K':=fun ts' H'=>fP P (K .normal) (fun v ts' H'=>K (.bu v) ts' H') [o] ts' H') h (fun fx H1 hh=>⟨fun e=>(by cases e),fun o' he=>(by cases he;exact hh)⟩) hk hp
theorem qT{P:Program}{aX:List Nat}:∀(c:Code)(ic:IC),c6 P aX c=some ic→∀(K:Post)(φ:aC)(H:Y)(w:World)(ts:List Z)(a:Act),Rel φ H w→FR φ (Own φ H) w ts a→E P ic K ts H→c.wp P (CK K φ H w a.defers) a w:=by
 intro c
 induction c with
 | skip =>
  intro ic hc K φ H w ts a hR hF h
  cases hc
  exact wp_skip ⟨.normal,ts,H,φ,trivial,h,hF,hR,Step.refl _ _ _,rfl⟩
 | label l =>
  intro ic hc K φ H w ts a hR hF h
  cases hc
  exact wp_label ⟨.normal,ts,H,φ,trivial,h,hF,hR,Step.refl _ _ _,rfl⟩
 | region id ops draw =>
  intro ic hc K φ H w ts a hR hF h
  simp only[c6] at hc
  split at hc
  ·simp at hc
  rename_i l hl
  have hk:kQ (CK K φ H w a.defers) (K .normal) φ H w a.defers:=fun ts' a' φ' H' w' k1 k2 k3 k4 k5=>⟨.normal,ts',H',φ',trivial,k1,k2,k3,k4,k5⟩
  have hp:j9 (CK K φ H w a.defers) (fun v ts' H'=>K (.bu v) ts' H') φ H w a.defers:=fun v u ts' a' φ' H' w' k1 k2 k3 k4 k5 k6=>⟨.bu v,ts',H',φ',k2,k1,k3,k4,k5,k6⟩
  cases draw with
  | false =>
   simp only[Bool.false_eq_true,if_false] at hc
   cases hc
   exact Gb hl hR hF h hk hp
  | true =>
   simp only[if_true] at hc
   split at hc
   case isFalse =>
    unfold Ep at hc
    simp only at hc
    split at hc
    ·simp at hc
    rename_i l2 dz
    split at hc
    case isFalse=>simp at hc
    rename_i iB
    simp only[Bool.and_eq_true] at iB
    cases hc
    exact B5 iB.2 iB.1.1.1 dz iB.1.1.2 iB.1.2 hR hF h hk hp
   rename_i iB
   simp only[Bool.and_eq_true] at iB
   split at hc
   ·exact wp_region_any iB.2 (JB hc hl iB.1.1 iB.1.2 hR hF h hk hp)
   cases hc
   exact B4 iB.2 hl iB.1.1 iB.1.2 hR hF h hk hp
 | seq x y R8 Oa =>
  intro ic hc K φ H w ts a hR hF h
  simp only[c6] at hc
  split at hc
  case h_2=>simp at hc
  rename_i ix iy h1 h2
  cases hc
  refine wp_seq (wp_mono (R8 ix h1 _ φ H w ts a hR hF h) ?_)
  rintro e a' w' ⟨x',ts',H',φ',k1,k2,k3,k4,k5,k6⟩
  cases x' with
  | normal =>
   cases e<;>try exact k1.elim
   show y.wp P _ a' w'
   have:=Oa iy h2 K φ' H' w' ts' a' k4 k3 k2
   rw[k6] at this
   exact wp_mono this fun e a2 w2 hc=>hc.step k5
  | exit i =>
   cases e<;>try exact k1.elim
   exact ⟨_,ts',H',φ',k1,k2,k3,k4,k5,k6⟩
  | ret =>
   cases e<;>try exact k1.elim
   exact ⟨.ret,ts',H',φ',k1,k2,k3,k4,k5,k6⟩
  | bu v =>
   cases e<;>try exact k1.elim
   exact ⟨_,ts',H',φ',k1,k2,k3,k4,k5,k6⟩
 | cond c x y R8 Oa =>
  intro ic hc K φ H w ts a hR hF h
  simp only[c6] at hc
  split at hc
  case h_2=>simp at hc
  rename_i c' ix iy h0 h1 h2
  cases hc
  have hv:=aq hF h0
  simp only[E] at h
  split at h
  ·rename_i t he
   rw[he] at hv
   have hu:=bF hv
   refine wp_cond hu ?_
   cases t with
   | true=>exact R8 ix h1 K φ H w ts a hR hF (h.1 rfl)
   | false=>exact Oa iy h2 K φ H w ts a hR hF (h.2 rfl)
  ·rename_i he
   rw[he] at hv
   obtain ⟨t,ht⟩:=hv.2
   have hu:a.eval c = .bool t:=by
    have h1:=hv.1
    revert ht h1
    cases a.eval c<;>intro ht h1<;>first | (simp[dZ,Value.cells] at ht;first | exact congrArg Value.bool ht | done) | (exact absurd h1 (by simp[iA,Value.oneCell']))
   refine wp_cond hu ?_
   cases t with
   | true=>exact R8 ix h1 K φ H w ts a hR hF h.1
   | false=>exact Oa iy h2 K φ H w ts a hR hF h.2
  ·exact h.elim
 | block id c ih =>
  intro ic hc K φ H w ts a hR hF h
  simp only[c6,Option.map_eq_some_iff] at hc
  obtain ⟨ix,h1,rfl⟩:=hc
  refine wp_block (wp_mono (ih ix h1 _ φ H w ts a hR hF h) ?_)
  rintro e a' w' ⟨x',ts',H',φ',k1,k2,k3,k4,k5,k6⟩
  cases x' with
  | normal =>
   cases e<;>try exact k1.elim
   exact ⟨.normal,ts',H',φ',k1,k2,k3,k4,k5,k6⟩
  | exit i =>
   cases e<;>try exact k1.elim
   rename_i j
   have:i=j:=k1
   subst this
   simp only[jI] at k2
   simp only[Exit.inBlock]
   split
   ·rename_i e2
    rw[if_pos e2] at k2
    exact ⟨.normal,ts',H',φ',trivial,k2,k3,k4,k5,k6⟩
   ·rename_i e2
    rw[if_neg e2] at k2
    exact ⟨.exit i,ts',H',φ',rfl,k2,k3,k4,k5,k6⟩
  | ret =>
   cases e<;>try exact k1.elim
   exact ⟨.ret,ts',H',φ',k1,k2,k3,k4,k5,k6⟩
  | bu v =>
   cases e<;>try exact k1.elim
   exact ⟨.bu v,ts',H',φ',k1,k2,k3,k4,k5,k6⟩
 | loop c ih =>
  intro ic hc K φ H w ts a hR hF h
  simp only[c6,Option.map_eq_some_iff] at hc
  obtain ⟨ix,h1,rfl⟩:=hc
  obtain ⟨I,μ,h2,h3⟩:=h
  intro b k cs
  have key:∀n fx H1 bq w1 a1,μ fx H1=n→I fx H1→FR bq (Own bq H1) w1 fx a1→Rel bq H1 w1→Step φ H w bq H1 w1→a1.defers=a.defers→
    ∃e a' w',CK K φ H w a.defers e a' w'∧Arrives P (lone (b.at a1 (.code c::.inLoop c::k)) cs w1) b k cs e a' w':=by
   intro n
   induction n using Nat.strongRecOn with
   | _ n ihn =>
    intro fx H1 bq w1 a1 hn hI sI wc k9 Es
    obtain ⟨e,a2,w2,⟨x',ts',H',φ',k1,k2,k3,k4,k5,k6⟩,jE⟩:=ih ix h1 _ bq H1 w1 fx a1 wc sI (h3 fx H1 hI) b (.inLoop c::k) cs
    cases x' with
    | normal =>
     cases e<;>try exact k1.elim
     obtain ⟨g1,g2⟩:=k2
     obtain ⟨e3,a3,w3,hq3,JC⟩:=ihn (μ ts' H') (hn▸g2) ts' H' φ' w2 a2 rfl g1 k3 k4 (k9.trans k5) (by rw[k6,Es])
     exact ⟨e3,a3,w3,hq3,.of_steps (Steps.trans jE (.one step_inLoop)) JC⟩
    | exit i =>
     cases e<;>try exact k1.elim
     exact ⟨_,a2,w2,⟨.exit i,ts',H',φ',k1,k2,k3,k4,k9.trans k5,by rw[k6,Es]⟩,.pass (x:=.inLoop c) rfl (fun _ _=>.inl (by simp)) jE⟩
    | ret =>
     cases e<;>try exact k1.elim
     exact ⟨_,a2,w2,⟨.ret,ts',H',φ',k1,k2,k3,k4,k9.trans k5,by rw[k6,Es]⟩,.pass (x:=.inLoop c) rfl (fun _ _=>.inl (by simp)) jE⟩
    | bu v =>
     cases e<;>try exact k1.elim
     exact ⟨_,a2,w2,⟨.bu v,ts',H',φ',k1,k2,k3,k4,k9.trans k5,by rw[k6,Es]⟩,.pass (x:=.inLoop c) rfl (fun _ _=>.inl (by simp)) jE⟩
  obtain ⟨e,a',w',hq,jE⟩:=key _ ts H φ w a rfl h2 hF hR (Step.refl _ _ _) rfl
  exact ⟨e,a',w',hq,.of_steps (.one step_loop) jE⟩
 | exit id =>
  intro ic hc K φ H w ts a hR hF h
  cases hc
  exact wp_exit ⟨.exit id,ts,H,φ,rfl,h,hF,hR,Step.refl _ _ _,rfl⟩
 | ret =>
  intro ic hc K φ H w ts a hR hF h
  cases hc
  exact wp_ret ⟨.ret,ts,H,φ,trivial,h,hF,hR,Step.refl _ _ _,rfl⟩
 | refuse s =>
  intro ic hc K φ H w ts a hR hF h
  cases hc
  exact False.elim h
 | _=>intro ic hc;simp[c6] at hc
inductive RV where
 | t (n:Nat)
 | c (a n:Nat)(ag:Bool)
def lK(P:Program):List ResultVar→Option (List RV)
 | []=>some []
 | .tmp t::r=>(lK P r).map (.t t::·)
 | .cell a t::r=>match eu P t,lK P r with
  | some (n,ag),some s=>some (.c a n ag::s)
  | _,_=>none
def qU:List RV→List Z→Y→(List Z→Prop)→Prop
 | [],ts,H,K=>K []
 | .t n::r,ts,H,K=>qU r ts H fun l=>K (ts.getD n .top::l)
 | .c a n ag::r,ts,H,K=>match ts.getD a .top with
  | .ptr k id j f=>∃blk e,Y.find H id=some blk∧blk.es[j]? = some e∧(blk.k=k∧Z.gm e f n ag∧0<k)∧qU r ts H fun l=>K (Z.sub e f n ag::l)
  | _=>False
def oneOf:List Z→Z
 | [x]=>x
 | l=>.aK l
def wy(rs:List RV)(Kr:cm→Y→Prop):Post
 | .normal,ts,H=>qU rs ts H fun l=>Kr (.ret (oneOf l)) H
 | .ret,ts,H=>qU rs ts H fun l=>Kr (.ret (oneOf l)) H
 | .bu v,ts,H=>Kr (.bu v) H
 | .exit _,_,_=>False
section
variable {P:Program}
theorem wz{φ:aC}{H:Y}{w:World}{ts:List Z}{a:Act}(hR:Rel φ H w)(hF:FR φ (Own φ H) w ts a):∀{rv:List ResultVar}{rs:List RV},lK P rv=some rs→∀{K:List Z→Prop},qU rs ts H K→
  ∃l us,K l∧Rt φ (Own φ H) w l us∧(rv.mapM fun (r:ResultVar)=>(match r with | .tmp t=>pure (a.tmps.getD t undef) | .cell ad t=>do loadVar t (←asAddr (a.tmps.getD ad undef)):Sem Value)).run P w = .ok us w
 | [],rs,h,K,hk=>by
  simp[lK] at h
  subst h
  exact ⟨[],[],hk,rfl,by simp⟩
 | .tmp t::r,rs,h,K,hk=>by
  simp only[lK,Option.map_eq_some_iff] at h
  obtain ⟨s,h1,rfl⟩:=h
  obtain ⟨l,us,h2,h3,h4⟩:=wz hR hF h1 hk
  refine ⟨_,a.tmps.getD t undef::us,h2,⟨_,_,rfl,(hF.2 t).1,(hF.2 t).2,h3⟩,?_⟩
  simp only[List.mapM_cons,Sem.run_bind,Sem.run_pure,Result.andThen_ok,h4]
 | .cell ad t::r,rs,h,K,hk=>by
  simp only[lK] at h
  split at h
  case h_2=>simp at h
  rename_i n ag s hs h1
  cases h
  simp only[qU] at hk
  split at hk
  case h_2=>exact hk.elim
  rename_i k id j f he
  obtain ⟨blk,e,g1,g2,⟨rfl,g3,bV⟩,hk⟩:=hk
  obtain ⟨l,us,h2,h3,h4⟩:=wz hR hF h1 hk
  have hv:=hF.2 ad
  rw[he] at hv
  obtain ⟨b,e1,e2⟩:=ee hv
  rw[ed bV] at e2
  obtain ⟨h7,h8⟩:=hR.elem e1 g1 g2 bV
  obtain ⟨u,h9,h10⟩:=vW hs h8 g3
  refine ⟨_,u::us,h2,⟨_,_,rfl,h10.1,h10.2,h3⟩,?_⟩
  have e3:(asAddr (a.tmps.getD ad undef)).run P w = .ok ⟨b,j*blk.k+f,none⟩ w:=by rw[e2];rfl
  simp only[List.mapM_cons,Sem.run_bind,Sem.run_pure,Result.andThen_ok,e3,h9,h4]
theorem l6{φ:aC}{H:Y}{w:World}{ts:List Z}{a:Act}(hR:Rel φ H w)(hF:FR φ (Own φ H) w ts a){fn:Func}{rs:List RV}(hc:lK P fn.results.toList=some rs){K:Z→Prop}(h:qU rs ts H fun l=>K (oneOf l)) :
  ∃x v,K x∧VR φ (Own φ H) w x v∧(results fn a.tmps).run P w = .ok v w:=by
 obtain ⟨l,us,h1,h2,h3⟩:=wz hR hF hc h
 refine ⟨_,(if us.length=1 then us.getD 0 undef else .tuple us.toArray),h1,?_,?_⟩
 ·have hl:=yN h2
  match l,h2,hl with
  | [],h2,hl =>
   simp only[Rt] at h2
   subst h2
   exact ⟨⟨_,rfl⟩,_,rfl,rfl⟩
  | [x],h2,hl =>
   obtain ⟨v,s,rfl,g1,g2,g3⟩:=h2
   simp only[Rt] at g3
   subst g3
   exact ⟨g1,g2⟩
  | x::y::r,h2,hl =>
   have:¬us.length=1:=by rw[hl];simp
   rw[if_neg this]
   exact ⟨⟨_,rfl⟩,_,rfl,h2⟩
 ·unfold results
  rw[Array.mapM_eq_mapM_toList]
  rw[Sem.run_bind,Sem.run_map]
  erw[h3]
  simp only[Result.andThen_ok,Sem.run_pure]
  congr 1
  by_cases h4:us.length=1
  ·have:us.toArray.size=1:=by simpa using h4
   rw[dif_pos this,if_pos h4]
   match us,h4 with
   | [v],_=>rfl
  ·have:¬us.toArray.size=1:=by simpa using h4
   rw[dif_neg this,if_neg h4]
theorem qV{f:FuncId}{fn:Func}{c:Code}{ic:IC}{rs:List RV}{aX:List Nat}(hf:P.funcs[f]? = some fn)(hb:fn.body=some c)(hc:c6 P aX c=some ic)(hr:lK P fn.results.toList=some rs){args:List Z}{H:Y}{Kr:cm→Y→Prop}
  (h:E P ic (wy rs Kr) (args++List.replicate (fn.ntmps - args.length) (.aK [])) H):DK P f args H Kr:=by
 intro φ w vs hR ha
 have hlen:=yN ha
 have hF:FR φ (Own φ H) w (args++List.replicate (fn.ntmps - args.length) (.aK [])) { tmps:=vs++Array.replicate (fn.ntmps - vs.size) undef,defers:=[] }:=by
  have hsz:vs.size=args.length:=by simpa using hlen
  refine ⟨by simp[hsz],fun i=>?_⟩
  by_cases h1:i<args.length
  ·obtain ⟨u,g1,g2⟩:=yM ha (i:=i) (x:=args[i]) (by simp[h1])
   have e1:(args++List.replicate (fn.ntmps - args.length) (Z.aK [])).getD i .top=args[i]:=by simp[List.getD,List.getElem?_append_left h1,h1]
   have e2:(vs++Array.replicate (fn.ntmps - vs.size) undef).getD i undef=u:=by
    rw[Array.getElem?_toList] at g1
    rw[Array.getD_eq_getD_getElem?,Array.getElem?_append_left (by omega),g1]
    rfl
   rw[e1,e2]
   exact g2
  ·by_cases h2:i<args.length+(fn.ntmps - args.length)
   ·have e1:(args++List.replicate (fn.ntmps - args.length) (Z.aK [])).getD i .top = .aK []:=by
     simp only[List.getD]
     rw[List.getElem?_append_right (by omega),List.getElem?_replicate,if_pos (by omega)]
     rfl
    have e2:(vs++Array.replicate (fn.ntmps - vs.size) undef).getD i undef=undef:=by
     rw[Array.getD_eq_getD_getElem?,Array.getElem?_append_right (by omega),Array.getElem?_replicate]
     split<;>rfl
    rw[e1,e2]
    exact mq
   ·have e1:(args++List.replicate (fn.ntmps - args.length) (Z.aK [])).getD i .top = .top:=by
     simp only[List.getD]
     rw[List.getElem?_eq_none (by simp;omega)]
     rfl
    rw[e1]
    exact kO _
 refine calls_of_wp hf hb (wp_mono (qT c ic hc _ φ H w _ _ hR hF h) ?_)
 rintro e a' w' ⟨x,ts',H',φ',k1,k2,k3,k4,k5,k6⟩
 have Gj:(qU rs ts' H' fun l=>Kr (.ret (oneOf l)) H')→a'.defers=[]∧∃v,(results fn a'.tmps).run P w' = .ok v w'∧∃e H2 cT,xE cT (Own cT H2) w' e (.returned v)∧Kr e H2∧Rel cT H2 w'∧Step φ H w cT H2 w':=by
  intro hl
  obtain ⟨y,v,g1,g2,g3⟩:=l6 k4 k3 hr (K:=fun x=>Kr (.ret x) H') hl
  exact ⟨k6,v,g3,.ret y,H',φ',g2,g1,k4,k5⟩
 cases x with
 | normal =>
  cases e<;>try exact k1.elim
  exact Gj k2
 | ret =>
  cases e<;>try exact k1.elim
  exact Gj k2
 | exit i=>exact k2.elim
 | bu v =>
  cases e<;>try exact k1.elim
  exact ⟨k6,.bu v,H',φ',k1,k2,k4,k5⟩
def eJ(H:Y)(e1:cm)(H1:Y)(e:cm)(H':Y):Prop :=
 ∀φ w bq w1 en,Rel φ H w→xE bq (Own bq H1) w1 e1 en→Rel bq H1 w1→Step φ H w bq H1 w1→∃φ',xE φ' (Own φ' H') w1 e en∧Rel φ' H' w1∧Step φ H w φ' H' w1
theorem eJ.refl(H:Y)(e:cm)(H':Y):eJ H e H' e H':=fun φ w bq w1 en _ h1 h2 h3=>⟨bq,h1,h2,h3⟩
theorem aF{f:FuncId}{args:List Z}{H:Y}{e:cm}{H':Y}(hl:H.length≤H'.length)(h:DK P f args H fun e1 H1=>eJ H e1 H1 e H'):D P f args H e H' :=
 ⟨hl,fun φ w vs hR ha=>(h φ w vs hR ha).mono fun en w' ⟨e1,H1,bq,h1,h2,h3,h4⟩=>h2 φ w bq w' en hR h1 h3 h4⟩
mutual
inductive Fz(H1:Y)(n0:Nat):Z→Z→Prop where
 | same {x:Z}:x.ids (· < n0)→Fz H1 n0 x x
 | aB {k id off n:Nat}{c:Option Nat}{blk:aD}{ys:List Z}:n0≤id→Y.find H1 id=some blk→blk.k=k→off+n≤blk.es.length→nq H1 n0 ((blk.es.drop off).take n) ys→Fz H1 n0 (.aB k id off n c) (.ak k ys none)
 | ak {k:Nat}{xs ys:List Z}{room:Option (List Z)}:nq H1 n0 xs ys→Fz H1 n0 (.ak k xs room) (.ak k ys none)
 | nil {k:Nat}{room:Option (List Z)}{k':Nat}:Fz H1 n0 (.ak k' [] room) (.ak k [] none)
 | agg {xs ys:List Z}:nq H1 n0 xs ys→Fz H1 n0 (.agg xs) (.agg ys)
 | aK {xs ys:List Z}:nq H1 n0 xs ys→Fz H1 n0 (.aK xs) (.aK ys)
 | dK {t:TypeId}{x y:Z}:Fz H1 n0 x y→Fz H1 n0 (.dK t x) (.dK t y)
inductive nq(H1:Y)(n0:Nat):List Z→List Z→Prop where
 | nil:nq H1 n0 [] []
 | cons {x y:Z}{r s:List Z}:Fz H1 n0 x y→nq H1 n0 r s→nq H1 n0 (x::r) (y::s)
end
theorem nq.len{H1:Y}{n0:Nat}:∀{xs ys:List Z},nq H1 n0 xs ys→ys.length=xs.length
 | _,_,.nil=>rfl
 | _,_,.cons _ h=>by simp[h.len]
theorem Fz.isAgg{H1:Y}{n0:Nat}{x y:Z}(h:Fz H1 n0 x y):y.isAgg=x.isAgg∧y.an=x.an:=by
 cases h with
 | agg h=>exact ⟨rfl,h.len⟩
 | _=>exact ⟨rfl,rfl⟩
theorem Fz.iA{H1:Y}{n0:Nat}{x y:Z}(h:Fz H1 n0 x y){u:Value}(hk:iA x u):iA y u:=by
 cases h with
 | agg h=>obtain ⟨us,h1,h2⟩:=hk;exact ⟨us,h1,by rw[h2,h.len]⟩
 | _=>exact hk
def aC.below(φ:aC)(n:Nat):aC:=fun i=>if i<n then φ i else none
theorem pn{bq:aC}{G H2:Y}{b:Nat}(h:Own (bq.below H2.length) H2 b):∃id blk,id<H2.length∧bq id=some b∧Y.find H2 id=some blk∧Y.find (G++H2) id=some blk:=by
 obtain ⟨id,blk,h1,h2⟩:=h
 have hl:=Y.am h2
 unfold aC.below at h1
 rw[if_pos hl] at h1
 exact ⟨id,blk,hl,h1,h2,by rw[Y.bx hl];exact h2⟩
theorem uM{bq:aC}{G H2:Y}{w1:World}:Later (· < H2.length) bq (bq.below H2.length) (Own bq (G++H2)) (Own (bq.below H2.length) H2) w1 w1:=by
 refine ⟨fun id b hid hm=>?_,Nat.le_refl _,fun b hb ho eh=>?_,fun _ _ _=>rfl,fun _ _=>rfl⟩
 ·unfold aC.below;rw[if_pos hid];exact hm
 ·obtain ⟨id,blk,h1,h2,h3,h4⟩:=pn (G:=G) eh
  exact ho ⟨id,blk,h2,h4⟩
mutual
theorem Fz.R{bq:aC}{G H2:Y}{w1:World}(hR:Rel bq (G++H2) w1):∀{x y:Z},Fz (G++H2) H2.length x y→∀{g:Nat→Option Value},R bq (Own bq (G++H2)) w1 x g→R (bq.below H2.length) (Own (bq.below H2.length) H2) w1 y g
 | _,_,.same hi,g,h=>iO uM _ _ _ hi (fun _ _ h=>h) h
 | _,_,.aB (k:=k) (id:=id) (off:=off) (n:=n) (c:=c) (blk:=blk) (ys:=ys) h1 h2 h3 h4 h5,g,h=>by
  obtain ⟨b,c',cur,e,fr,v1,v2,v3,v4,v5,v6,v7⟩:=h
  have sD:((blk.es.drop off).take n).length=n:=by simp;omega
  have mK:ys.length=n:=by rw[h5.len,sD]
  refine ⟨_,c',by rw[mK];exact v2,by omega,v4,fun h=>by simp at h,fun hp=>⟨b,off*k,rfl,?_,fG v6,?_⟩,trivial⟩
  ·intro ho
   obtain ⟨id',YT,g1,g2,g3,g4⟩:=pn (G:=G) ho
   have:=hR.inj id' id b g2 v1 (by rw[g4];rfl) (by rw[h2];rfl)
   omega
  ·obtain ⟨_,ow,cap,a1,a2,a3,a4,a5,a6⟩:=(hR.blk id b blk v1 h2).gC v6
   have h7:=gG (n:=n) (iU (f:=off) a6)
   rw[h3,Nat.zero_add] at h7
   exact nq.Rl hR h5 h7
 | _,_,.ak (k:=k) (xs:=xs) (ys:=ys) hl,g,h=>by
  obtain ⟨a,c,h1,h2,h3,h4,h5,h6⟩:=h
  have mK:=hl.len
  refine ⟨a,c,by rw[mK];exact h1,by omega,h3,h4,fun hp=>?_,trivial⟩
  obtain ⟨b,off,e1,e2,e3,e4⟩:=h5 (by omega)
  refine ⟨b,off,e1,fun ho=>?_,e3,nq.Rl hR hl e4⟩
  obtain ⟨id',YT,g1,g2,g3,g4⟩:=pn (G:=G) ho
  exact e2 ⟨id',YT,g2,g4⟩
 | _,_,.nil,g,h=>by
  obtain ⟨a,c,h1,h2,h3,h4,h5,h6⟩:=h
  exact ⟨a,c,h1,h2,h3,h4,fun hp=>by simp at hp,trivial⟩
 | _,_,.agg hl,g,h=>nq.Rs hR hl h
 | _,_,.aK hl,g,h=>by
  obtain ⟨us,h1,h2⟩:=h
  exact ⟨us,h1,nq.Rt hR hl h2⟩
 | _,_,.dK hx,g,h=>by
  obtain ⟨u,h1,h2,h3⟩:=h
  exact ⟨u,h1,hx.iA h2,Fz.R hR hx h3⟩
theorem nq.Rl{bq:aC}{G H2:Y}{w1:World}(hR:Rel bq (G++H2) w1):∀{xs ys:List Z},nq (G++H2) H2.length xs ys→∀{b k off:Nat},Rl bq (Own bq (G++H2)) w1 b k xs off→Rl (bq.below H2.length) (Own (bq.below H2.length) H2) w1 b k ys off
 | _,_,.nil,b,k,off,_=>trivial
 | _,_,.cons hx hr,b,k,off,h=>⟨by rw[hx.isAgg.2];exact h.1,by rw[hx.isAgg.1];exact h.2.1,Fz.R hR hx h.2.2.1,nq.Rl hR hr h.2.2.2⟩
theorem nq.Rs{bq:aC}{G H2:Y}{w1:World}(hR:Rel bq (G++H2) w1):∀{xs ys:List Z},nq (G++H2) H2.length xs ys→∀{g:Nat→Option Value},Rs bq (Own bq (G++H2)) w1 xs g→Rs (bq.below H2.length) (Own (bq.below H2.length) H2) w1 ys g
 | _,_,.nil,g,_=>trivial
 | _,_,.cons hx hr,g,h=>⟨by rw[hx.isAgg.1];exact h.1,Fz.R hR hx h.2.1,h.2.2.1,nq.Rs hR hr h.2.2.2⟩
theorem nq.Rt{bq:aC}{G H2:Y}{w1:World}(hR:Rel bq (G++H2) w1):∀{xs ys:List Z},nq (G++H2) H2.length xs ys→∀{us:List Value},Rt bq (Own bq (G++H2)) w1 xs us→Rt (bq.below H2.length) (Own (bq.below H2.length) H2) w1 ys us
 | _,_,.nil,us,h=>h
 | _,_,.cons hx hr,us,h=>by
  obtain ⟨v,s,h1,h2,h3,h4⟩:=h
  exact ⟨v,s,h1,hx.iA h2,Fz.R hR hx h3,nq.Rt hR hr h4⟩
end
mutual
theorem tz{φ:aC}{O:Nat→Prop}{w:World}:∀(x:Z)(g:Nat→Option Value),R φ O w x g→x.ids (fun id=>∃b,φ id=some b)
 | .sc v,g,_=>trivial
 | .ak k xs room,g,h=>by
  obtain ⟨a,c,h1,h2,h3,h4,h5,h6⟩:=h
  refine ⟨?_,?_⟩
  ·cases xs with
   | nil=>trivial
   | cons x r=>obtain ⟨b,off,_,_,_,h7⟩:=h5 (by simp);exact yQ _ _ _ _ h7
  ·cases room with
   | none=>trivial
   | some ys =>
    cases ys with
    | nil=>trivial
    | cons y s=>obtain ⟨b,off,_,_,_,h7⟩:=h6.2 (by simp);exact yQ _ _ _ _ h7
 | .aB k id off n c,g,h=>by obtain ⟨b,_,_,_,_,h1,_⟩:=h;exact ⟨b,h1⟩
 | .ptr k id j f,g,h=>by obtain ⟨b,h1,_⟩:=h;exact ⟨b,h1⟩
 | .lp x f,g,h=>by obtain ⟨b,off,_,_,_,_,h1⟩:=h;exact tz x _ h1
 | .agg cs,g,h=>Mu cs g h
 | .aK vs,g,h=>by obtain ⟨us,_,h1⟩:=h;exact sg vs _ h1
 | .fn f a b,g,h=>by obtain ⟨us,ws,_,h1,h2⟩:=h;exact ⟨sg a _ h1,sg b _ h2⟩
 | .dK t x,g,h=>by obtain ⟨u,_,_,h1⟩:=h;exact tz x _ h1
 | .ub,g,_=>trivial
 | .top,g,_=>trivial
 | .DZ _,g,_=>trivial
theorem yQ{φ:aC}{O:Nat→Prop}{w:World}:∀(l:List Z)(b k off:Nat),Rl φ O w b k l off→Z.cW (fun id=>∃b,φ id=some b) l
 | [],_,_,_,_=>trivial
 | x::r,b,k,off,h=>⟨tz x _ h.2.2.1,yQ r _ _ _ h.2.2.2⟩
theorem Mu{φ:aC}{O:Nat→Prop}{w:World}:∀(l:List Z)(g:Nat→Option Value),Rs φ O w l g→Z.cW (fun id=>∃b,φ id=some b) l
 | [],_,_=>trivial
 | x::r,g,h=>⟨tz x _ h.2.1,Mu r _ h.2.2.2⟩
theorem sg{φ:aC}{O:Nat→Prop}{w:World}:∀(l:List Z)(us:List Value),Rt φ O w l us→Z.cW (fun id=>∃b,φ id=some b) l
 | [],_,_=>trivial
 | x::r,us,h=>by obtain ⟨v,s,_,_,h1,h2⟩:=h;exact ⟨tz x _ h1,sg r _ h2⟩
end
theorem Et{φ:aC}{O:Nat→Prop}{w:World}:∀(l:List Z)(es:List MapEntry),RE φ O w l es→Z.cW (fun id=>∃b,φ id=some b) l
 | [],_,_=>trivial
 | x::r,es,h=>by
  obtain ⟨e,s,_,h1,h2⟩:=h
  exact ⟨tz x _ h1.2,Et r _ h2⟩
theorem gB.ids{φ:aC}{O:Nat→Prop}{w:World}{k:aD}{b:Nat}(h:gB φ O w k b):Z.cW (fun id=>∃b,φ id=some b) k.es:=by
 rcases h with ⟨_,_,_,_,_,_,_,_,h⟩ | ⟨_,_,_,_,_,_,_,h⟩ | ⟨_,_,r,ts,tm,e,_,h⟩ | ⟨_,_,_,_,x,r,e,_,_,_,h1,h2⟩ | ⟨_,_,_,_,_,_,h⟩
 ·exact yQ _ _ _ _ h
 ·exact Et _ _ h
 ·rw[e];exact ⟨trivial,sg _ _ h⟩
 ·rw[e];exact ⟨tz x _ h1.2,Et _ _ h2⟩
 ·exact sg _ _ h
theorem Ob{H G H2:Y}(hl:H.length≤H2.length)(hold:∀id k,Y.find H2 id=some k→(id<H.length∧Y.find H id=some k)∨Z.cW (· < H2.length) k.es){φ bq:aC}{w w1:World}(Eu:Rel φ H w)(hR:Rel bq (G++H2) w1)(hS:Step φ H w bq (G++H2) w1) :
  Rel (bq.below H2.length) H2 w1∧Step φ H w (bq.below H2.length) H2 w1:=by
 have hlb:Later (· < H2.length) bq (bq.below H2.length) (Own bq (G++H2)) (Own (bq.below H2.length) H2) w1 w1:=uM
 have yw:∀id b,bq.below H2.length id=some b→id<H2.length∧bq id=some b:=fun id b h=>by
  unfold aC.below at h
  split at h
  ·rename_i hlt;exact ⟨hlt,h⟩
  ·simp at h
 refine ⟨⟨hR.gD.later hlb,fun id b h=>⟨(yw id b h).1,(hR.dom id b (yw id b h).2).2⟩,fun i j b hi hj gp jR=>?_,fun id b k h1 h2=>?_⟩,⟨⟨fun id b _ h=>?_,hS.size,fun b hb ho eh=>?_,hS.same,hS.shape⟩,hS.os,hS.tape,hS.output,hl,fun id hid=>?_⟩⟩
 ·have l1:=(yw i b hi).1
  have l2:=(yw j b hj).1
  exact hR.inj i j b (yw i b hi).2 (yw j b hj).2 (by rw[Y.bx l1];exact gp) (by rw[Y.bx l2];exact jR)
 ·obtain ⟨hlt,h3⟩:=yw id b h1
  refine (hR.blk id b k h3 (by rw[Y.bx hlt];exact h2)).later hlb rfl ?_
  rcases hold id k h2 with ⟨g1,g2⟩ | g
  ·have h4:φ id=some b:=by rw[←hS.old id g1];exact h3
   exact Z.eH (fun i ⟨b',hb'⟩=>Nat.lt_of_lt_of_le (Eu.dom i b' hb').1 hl) _ (Eu.blk id b k h4 g2).ids
  ·exact g
 ·have h4:=(Eu.dom id b h).1
  unfold aC.below
  rw[if_pos (by omega),hS.old id h4]
  exact h
 ·obtain ⟨id,blk,g1,g2,g3,g4⟩:=pn (G:=G) eh
  exact hS.own b hb ho ⟨id,blk,g2,g4⟩
 ·unfold aC.below
  rw[if_pos (by omega)]
  exact hS.old id hid
theorem CS{H G H2:Y}{x y:Z}(hl:H.length≤H2.length)(hold:∀id k,Y.find H2 id=some k→(id<H.length∧Y.find H id=some k)∨Z.cW (· < H2.length) k.es)(hz:Fz (G++H2) H2.length x y):eJ H (.ret x) (G++H2) (.ret y) H2:=by
 intro φ w bq w1 en Eu he hR hS
 obtain ⟨h1,h2⟩:=Ob hl hold Eu hR hS
 refine ⟨bq.below H2.length,?_,h1,h2⟩
 cases en with
 | returned v=>exact ⟨hz.iA he.1,Fz.R hR hz he.2⟩
 | _=>exact he.elim
theorem JD{H G:Y}{x y:Z}(hz:Fz (G++H) H.length x y):eJ H (.ret x) (G++H) (.ret y) H :=
 CS (Nat.le_refl _) (fun id k h=>.inl ⟨Y.am h,h⟩) hz
end
end Go.Proofs.YtnoplgongieehaaGreatDoor
