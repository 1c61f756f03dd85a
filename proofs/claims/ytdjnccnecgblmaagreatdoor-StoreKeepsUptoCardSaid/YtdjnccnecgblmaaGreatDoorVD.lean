import Derived.Test.YtdjnccnecgblmaaGreatDoorVA
import Derived.Laws.IdiomStrings
import Derived.Laws.StructEq
import Derived.ChangeKeysEq
import Derived.Laws.Externs
import Derived.KernelRfl
import Derived.Lib.AppendZerosOnto
import Derived.Lib.UnsafeStr
import Derived.Lib.BufferWrite
import Derived.Lib.Builder
namespace Go.Proofs.YtdjnccnecgblmaaGreatDoor
open Go.RowKit
set_option linter.unusedVariables false
set_option linter.unusedSimpArgs false
section
variable {P : Program}
theorem lsOf_src {φ : Phi} {H : AHeap} {w : World} (hR : Rel φ H w) {k : Nat} {x : AV} {v : Value} (hv : VR φ (Own φ H) w x v) {K : List AV→Prop} (h : lsOf H k x K) : ∃ ys,K ys ∧ Src φ (Own φ H) w k ys v:=by
 cases x <;> try exact False.elim h
 ·exact ⟨_,h.2,Src.of_lst hv h.1⟩
 ·obtain ⟨blk,h1,⟨rfl,h2,h3⟩,h4⟩:=h
  exact ⟨_,h4,Src.of_vec hR hv h1 h2 h3⟩
theorem set_self {H : AHeap} {id : Nat} {b : Option ABlk} (h : AHeap.find H id=b) (hl : id < H.length) : AHeap.set H id b=H:=by
 induction H with
 | nil=>rfl
 | cons x r ih =>
  simp only[AHeap.set]
  simp only[AHeap.find] at h
  split
  ·rename_i e;rw[if_pos e] at h;rw[h]
  ·rename_i e
   rw[if_neg e] at h
   rw[ih h (by simp at hl;omega)]
theorem set_set {id : Nat} (b c : Option ABlk) : ∀ (H : AHeap),AHeap.set (AHeap.set H id b) id c=AHeap.set H id c
 | []=>rfl
 | x :: r=>by
  simp only[AHeap.set]
  split
  ·rename_i e;simp only[AHeap.set];rw[if_pos e]
  ·rename_i e;simp only[AHeap.set,AHeap.set_length];rw[if_neg e,set_set b c r]
theorem set_cons {H : AHeap} {id : Nat} {b x : Option ABlk} (hl : id < H.length) : AHeap.set (b :: H) id x=b :: AHeap.set H id x:=by
 simp only[AHeap.set]
 rw[if_neg (by omega)]
theorem memAt_cells {w : World} {b off : Nat} {cur : Array Value} {t : TypeId} {fr : Nat × Nat} (h : w.heap[b]? = some (.cells cur t fr)) (i : Nat) : memAt w b off i=cur[off+i]?:=by
 simp[memAt,World.cell?,h]
theorem append_in {φ : Phi} {H : AHeap} {w : World} (hR : Rel φ H w) {t ty e : TypeId} {inf : TypeInfo} (ht : P.underlying t=some (.slice e)) (hi : P.info? e=some inf) (hk0 : 0 < inf.size)
  {id b n c' cap : Nat} {blk : ABlk} {cur : Array Value} {ys : List AV} {v : Value} (hm : φ id=some b) (hf : AHeap.find H id=some blk) (hb : w.heap[b]? = some (.cells cur blk.ty (0,0))) (hsz : cur.size=cap * blk.k) (hk : blk.k=inf.size) (hty : blk.ty=e)
  (hel : blk.es.length ≤ cap) (hex : blk.exact=true→cap=blk.es.length) (hmx : cap ≤ maxLen) (hrl : Rl φ (Own φ H) w b blk.k blk.es 0) (hv : Src φ (Own φ H) w inf.size ys v) (hn : n ≤ blk.es.length) (hroom : n+ys.length ≤ c') (hc : c' ≤ cap)
  (es' : List AV) (hes : es'=blk.es.take n ++ ys ++ blk.es.drop (n+ys.length)) (hex' : blk.exact=true→cap=es'.length) :
  ∃ w',(Builtin.append_ #[t,t] ty #[.slice (some ⟨b,0,none⟩) n c',v]).run P w = .ok (.slice (some ⟨b,0,none⟩) (n+ys.length) c') w' ∧
   Rel φ (AHeap.set H id (some { blk with es:=es' })) w' ∧ Step φ H w φ (AHeap.set H id (some { blk with es:=es' })) w':=by
 obtain ⟨a2,c2,news,rfl,n2,n3,n4,n5,n6⟩:=hv.ex
 obtain ⟨f1,f2⟩:=Rl_flat hrl
 have hfl : (flat blk.es).length=blk.es.length * blk.k:=flat_length f1
 have hyl : (flat ys).length=ys.length * inf.size:=flat_length n3
 have hcm : blk.es.length * blk.k ≤ cap * blk.k:=Nat.mul_le_mul_right _ hel
 have hnm : n * blk.k ≤ blk.es.length * blk.k:=Nat.mul_le_mul_right _ hn
 have hnc : (n+ys.length) * blk.k ≤ cap * blk.k:=Nat.mul_le_mul_right _ (by omega)
 have hadd : (n+ys.length) * blk.k=n * blk.k+ys.length * blk.k:=Nat.add_mul _ _ _
 rw[← hk] at n2 n3 hyl
 by_cases hy : 0 < ys.length
 ·obtain ⟨ad,rfl,hnews⟩:=n6 hy
  have hrun:=run_append_room (P:=P) w t ty e inf ht hi b n c' cur (by rw[← hty];exact hb) ad ys.length c2 news (by rw[n2,hk]) hnews n5 hroom (by rw[n2,hsz,← hk];omega)
  have hkes : ∀ x ∈ es',x.ncells=blk.k:=by
   intro x hx
   rw[hes] at hx
   rcases List.mem_append.1 hx with hx | hx
   ·rcases List.mem_append.1 hx with hx | hx
    ·exact f1 x (List.mem_of_mem_take hx)
    ·exact n3 x hx
   ·exact f1 x (List.mem_of_mem_drop hx)
  have hflat : flat es'=(flat blk.es).take (n * blk.k) ++ flat ys ++ (flat blk.es).drop (n * blk.k+ys.length * blk.k):=by
   rw[hes,flat_append,flat_append,flat_take f1,flat_drop f1,hadd]
  have hlen' : es'.length ≤ cap:=by rw[hes];simp;omega
  have hcl : (cur.toList.take (n * blk.k)).length=n * blk.k:=by simp;omega
  have hl0 : ((flat blk.es).take (n * blk.k)).length=n * blk.k:=by rw[List.length_take,hfl];exact Nat.min_eq_left hnm
  have hw:=hR.write (by rw[hk];exact hk0) hm hf hb hsz es' (cur':=(cur.toList.take (n * inf.size) ++ news ++ cur.toList.drop (n * inf.size+news.length)).toArray) (by simp[n2,← hk];omega) hlen' hmx hex' hkes (by
   rw[hflat,← hk]
   refine Rs_append (Rs_append (Rs_congr (fun q hq=>?_) (Rs_take (n:=n * blk.k) f2)) (Rs_congr (fun q hq=>?_) n4)) (Rs_congr (fun q hq=>?_) (Rs_drop (f:=n * blk.k+ys.length * blk.k) f2))
   ·have hq' : q < n * blk.k:=by rw[hl0] at hq;exact hq
    simp only[List.getElem?_toArray]
    rw[List.append_assoc,List.getElem?_append_left (by omega),List.getElem?_take_of_lt hq',memAt_cells hb]
    simp
   ·have hq' : q < ys.length * blk.k:=by rw[hyl] at hq;exact hq
    rw[hl0]
    simp only[List.getElem?_toArray]
    rw[List.getElem?_append_left (by rw[List.length_append,hcl,n2];omega),List.getElem?_append_right (by omega),hcl]
    congr 1
    omega
   ·have hl : ((flat blk.es).take (n * blk.k) ++ flat ys).length=n * blk.k+ys.length * blk.k:=by rw[List.length_append,hl0,hyl]
    rw[hl]
    simp only[List.getElem?_toArray]
    have hl2 : (cur.toList.take (n * blk.k) ++ news).length=n * blk.k+ys.length * blk.k:=by rw[List.length_append,hcl,n2]
    rw[List.getElem?_append_right (by omega),hl2,memAt_cells hb,n2]
    simp)
  exact ⟨_,hrun,hw.1,hw.2⟩
 ·have hy0 : ys=[]:=List.length_eq_zero_iff.1 (by omega)
  subst hy0
  have he : es'=blk.es:=by rw[hes];simp
  have hz:=append_zero (P:=P) (w:=w) (ty:=ty) ht hi (base:=some ⟨b,0,none⟩) (a:=a2) (c':=c2) (show n ≤ c' by simpa using hroom)
  have hset : AHeap.set H id (some { blk with es:=es' })=H:=by
   rw[he]
   exact set_self hf (AHeap.find_lt hf)
  rw[hset]
  exact ⟨w,by simpa using hz,hR,Step.refl _ _ _⟩
theorem vr_vec_of {φ : Phi} {O : Nat→Prop} {w : World} {k id n c' b : Nat} {c : Option Nat} {cur : Array Value} {e : TypeId} {fr : Nat × Nat} (h1 : φ id=some b) (h2 : n ≤ c') (h3 : c' ≤ maxLen) (h4 : ∀ m,c=some m→c'=m) (h5 : w.heap[b]? = some (.cells cur e fr)) (h6 : cur.size=c' * k) :
  VR φ O w (.vec k id 0 n c) (.slice (some ⟨b,0,none⟩) n c') :=
 ⟨rfl,b,c',cur,e,fr,h1,by simp[cget,Value.cells],h2,h3,h4,h5,by rw[h6];congr 1;omega⟩
theorem hs_app {o : Oper} {t e : TypeId} {inf : TypeInfo} {z : Value} {s x : Operand} {s' x' : X} {args : Array Operand} {ats : Array TypeId} (ho : o.op = .call { callee:=.builtin .append,args,argTypes:=ats }) (ha : args.toList=[s,x]) (hat : ats.toList=[t,t])
  (ht : P.underlying t=some (.slice e)) (hi : P.info? e=some inf) (hz : inf.zero=some z) (hzs : z.cells.size=inf.size) (hk0 : 0 < inf.size) (hby : inf.bytes ≤ 1000) (hs : ofX s=some s') (hx : ofX x=some x') : HSound P o (.app inf.size e s' x'):=by
 intro φ H w ts a hR hr K Kp h next Q hn hpp
 obtain rfl : args=#[s,x]:=by apply Array.toList_inj.1;simpa using ha
 obtain rfl : ats=#[t,t]:=by apply Array.toList_inj.1;simpa using hat
 have hv:=ofX_spec hr hs
 have hw:=ofX_spec hr hx
 have hex : ∀ {r : Value} {w' : World},(Builtin.append_ #[t,t] o.type #[a.eval s,a.eval x]).run P w = .ok r w'→(execOp a.eval o).run P w = .ok (.value r) w':=by
  intro r w' h1
  simp only[execOp,ho,resolve,invoke,builtin,Sem.run_bind,Sem.run_pure,Result.andThen_ok,List.map_toArray,List.map_cons,List.map_nil,h1]
 simp only[HO.sem] at h
 obtain ⟨ys,h,hsrc⟩:=lsOf_src hR hw h
 split at h
 ·rename_i k' xs he
  rw[he] at hv
  obtain ⟨⟨g1,g2⟩,g3,g4⟩:=h
  obtain ⟨ad,c,hva,c1,c2,c3,c4,c5⟩:=VR_lst hv
  by_cases hy : ys=[]
  ·subst hy
   obtain ⟨a2,cc,news,e2,_⟩:=hsrc.ex
   refine wp_value (hex ?_) (hn _ _ _ _ _ (g3 rfl) hv hR (Step.refl _ _ _))
   rw[hva,e2]
   exact append_zero ht hi c1
  ·have hpos : 0 < ys.length:=List.length_pos_iff.2 hy
   have hcap : c=xs.length:=by have:=c5.1;simpa using this
   obtain ⟨c',w',r1,r2,r3,r4⟩:=append_new (P:=P) hR (ty:=o.type) ht hi hz hzs hby hk0 (Src.of_lst hv g1) hsrc hpos g2 ⟨ad,c,hva,by omega,c3⟩
   exact wp_value (hex r1) (hn _ _ _ _ _ (g4 hy) r4 r2 r3)
 ·rename_i k' id off n c he
  rw[he] at hv
  obtain ⟨blk,h1,⟨rfl,hk,hty,rfl,hb8⟩,h⟩:=h
  obtain ⟨b,c',cur,e',fr,v1,v2,v3,v4,v5,v6,v7⟩:=VR_vec hv
  obtain ⟨_,cur2,cap,a1,a2,a3,a4,a5,a6⟩:=(hR.blk id b blk v1 h1).atCells v6
  rw[v6] at a1
  cases a1
  have hcc : c'=cap:=by
   rw[v7,hk] at a2
   have : (0+c')=cap:=Nat.eq_of_mul_eq_mul_right hk0 a2
   omega
  subst hcc
  rw[Nat.zero_mul] at v2
  have hidl : id < H.length:=AHeap.find_lt h1
  cases c with
  | none =>
   obtain ⟨⟨g1,g2⟩,g3⟩:=h
   by_cases hroom : n+ys.length ≤ c'
   ·obtain ⟨w',r1,r2,r3⟩:=append_in (P:=P) hR (ty:=o.type) ht hi hk0 v1 h1 v6 a2 hk hty a3 a4 a5 a6 hsrc (Nat.le_of_eq g2) hroom (Nat.le_refl _) (blk.es ++ ys) (by
     rw[g2,List.take_length,List.drop_of_length_le (by omega),List.append_nil]) (fun h=>by rw[g1] at h;simp at h)
    have hf2 : AHeap.find (AHeap.set H id (some { blk with es:=blk.es ++ ys })) id=some { blk with es:=blk.es ++ ys }:=AHeap.find_set_same hidl
    obtain ⟨m1,m2⟩:=r2.move v1 hf2
    have hset : AHeap.set (AHeap.set H id (some { blk with es:=blk.es ++ ys })) id none=AHeap.set H id none:=set_set _ _ _
    rw[AHeap.set_length,hset] at m1 m2
    have hbe : ({ blk with es:=blk.es ++ ys } : ABlk)=⟨inf.size,blk.es ++ ys,false,e⟩:=by
     cases blk
     simp only at hk hty g1
     subst hk
     subst hty
     subst g1
     rfl
    rw[hbe] at m1 m2 r3
    have hcell:=r3.toLater.cells v6
    obtain ⟨cur',fr',q1,q2⟩:=hcell
    refine wp_value (hex (by rw[v2];exact r1)) (hn _ _ _ _ _ g3 (vr_vec_of (by simp[Phi.add]) hroom v4 (fun m hm=>by simp at hm) q1 (by rw[q2,v7];congr 1;omega)) m1 (r3.trans m2))
   ·have hpos : 0 < ys.length:=by omega
    obtain ⟨c2,w',r1,r2,r3,r4⟩:=append_new (P:=P) hR (ty:=o.type) ht hi hz hzs hby hk0 (xs:=blk.es) (s:=a.eval s) (by
     have:=Src.of_vec hR hv h1 hk (by omega)
     rwa [List.drop_zero,g2,List.take_length] at this) hsrc hpos (by omega) ⟨_,c',by rw[v2,g2],by omega,fun h=>by simp at h⟩
    obtain ⟨k1,k2⟩:=r2.kill id
    rw[set_cons hidl] at k1 k2
    refine wp_value (hex r1) (hn _ _ _ _ _ ?_ (k2.vr r4) k1 (r3.trans k2))
    rw[← g2]
    exact g3
  | some m =>
   obtain ⟨g1,g4,g5⟩:=h
   have hcm:=v5 m rfl
   subst hcm
   have g3 : n ≤ blk.es.length:=by
    rcases g1 with ⟨_,h2,h3⟩ | ⟨_,h2⟩
    ·omega
    ·exact h2
   by_cases hroom : n+ys.length ≤ c'
   ·obtain ⟨w',r1,r2,r3⟩:=append_in (P:=P) hR (ty:=o.type) ht hi hk0 v1 h1 v6 a2 hk hty a3 a4 a5 a6 hsrc g3 hroom (Nat.le_refl _) _ rfl (fun hx=>by
     rcases g1 with ⟨_,h2,h3⟩ | ⟨h2,_⟩
     ·have hes : (blk.es.take n ++ ys ++ blk.es.drop (n+ys.length)).length=blk.es.length:=by simp;omega
      rw[hes];exact h2
     ·rw[h2] at hx;simp at hx)
    obtain ⟨cur',fr',q1,q2⟩:=r3.toLater.cells v6
    exact wp_value (hex (by rw[v2];exact r1)) (hn _ _ _ _ _ (g4 hroom) (vr_vec_of v1 hroom v4 (fun m hm=>by simpa using hm) q1 (by rw[q2,v7];congr 1;omega)) r2 r3)
   ·have hpos : 0 < ys.length:=by omega
    have hl : (blk.es.take n).length=n:=by simp;omega
    obtain ⟨c2,w',r1,r2,r3,r4⟩:=append_new (P:=P) hR (ty:=o.type) ht hi hz hzs hby hk0 (xs:=blk.es.take n) (s:=a.eval s) (by
     have:=Src.of_vec hR hv h1 hk (by omega)
     rwa [List.drop_zero] at this) hsrc hpos (by rw[hl];omega) ⟨_,c',by rw[v2,hl],by rw[hl];omega,fun h=>by simp at h⟩
    rw[hl] at r1 r4
    exact wp_value (hex r1) (hn _ _ _ _ _ (g5 (by omega)) r4 r2 r3)
 ·exact h.elim
theorem callFunc_run {f : FuncId} {fn : Func} (h1 : P.funcs[f]? = some fn) (h2 : fn.body.isSome) (h3 : fn.name ≠ "runtime.NumGoroutine") (args : Array Value) (w : World) : (callFunc f args).run P w = .ok (.enter f args) w := by
 have h4 : (fn.name == "runtime.NumGoroutine") = false := by simpa using h3
 have h5 : fn.body.isNone=false:=by
  cases hb : fn.body with
  | none=>rw[hb] at h2;simp at h2
  | some c=>rfl
 simp only[callFunc,Sem.run_bind,run_program,Result.andThen_ok,h1,h4,h5,Bool.false_eq_true,if_false,Sem.run_pure]
theorem wp_enter {o : Oper} {a : Act} {φ : Phi} {H : AHeap} {w : World} {f : FuncId} {vs : Array Value} {as : List AV} {e : AEnd} {H' : AHeap} {K Kp : AV→AHeap→Prop} {next : Act→World→Prop} {Q : Exit→Act→World→Prop}
  (hrun : (execOp a.eval o).run P w = .ok (.enter f vs) w) (hR : Rel φ H w) (ha : Rt φ (Own φ H) w as vs.toList) (hD : D P f as H e H') (hK : AEnd.post K Kp H' e)
  (hn : ∀ v u φ' H' w',K v H'→VR φ' (Own φ' H') w' v u→Rel φ' H' w'→Step φ H w φ' H' w'→next (a.put o.dst u) w')
  (hp : ∀ v u φ' H' w',Kp v H'→ChR φ' (Own φ' H') w' v u→Rel φ' H' w'→Step φ H w φ' H' w'→Q (.panic u) a w') : o.wp P a w next Q:=by
 unfold Oper.wp
 rw[hrun,Oper.upon_enter]
 refine (hD.2 φ w vs hR ha).mono ?_
 rintro en w' ⟨φ',h1,h2,h3⟩
 cases e with
 | ret v =>
  cases en with
  | returned u=>exact hn _ _ _ _ _ hK h1 h2 h3
  | panicked c=>exact h1.elim
  | outgrown=>exact h1.elim
 | pan v =>
  cases en with
  | returned u=>exact h1.elim
  | panicked c =>
   exact hp _ _ _ _ _ hK h1 h2 h3
  | outgrown=>exact h1.elim
theorem wp_enterK {o : Oper} {a : Act} {φ : Phi} {H : AHeap} {w : World} {f : FuncId} {vs : Array Value} {as : List AV} {K Kp : AV→AHeap→Prop} {next : Act→World→Prop} {Q : Exit→Act→World→Prop}
  (hrun : (execOp a.eval o).run P w = .ok (.enter f vs) w) (hR : Rel φ H w) (ha : Rt φ (Own φ H) w as vs.toList) (hD : DK P f as H (fun e H'=>AEnd.post K Kp H' e))
  (hn : ∀ v u φ' H' w',K v H'→VR φ' (Own φ' H') w' v u→Rel φ' H' w'→Step φ H w φ' H' w'→next (a.put o.dst u) w')
  (hp : ∀ v u φ' H' w',Kp v H'→ChR φ' (Own φ' H') w' v u→Rel φ' H' w'→Step φ H w φ' H' w'→Q (.panic u) a w') : o.wp P a w next Q:=by
 unfold Oper.wp
 rw[hrun,Oper.upon_enter]
 refine (hD φ w vs hR ha).mono ?_
 rintro en w' ⟨e,H',φ',h1,hK,h2,h3⟩
 cases e with
 | ret v =>
  cases en with
  | returned u=>exact hn _ _ _ _ _ hK h1 h2 h3
  | panicked c=>exact h1.elim
  | outgrown=>exact h1.elim
 | pan v =>
  cases en with
  | returned u=>exact h1.elim
  | panicked c =>
   exact hp _ _ _ _ _ hK h1 h2 h3
  | outgrown=>exact h1.elim
def HO.semR (P : Program) (ev : X→AV) (H : AHeap) (K Kp : AV→AHeap→Prop) : HO→Prop
 | .call f args=>DK P f (args.map ev) H (fun e H'=>AEnd.post K Kp H' e)
 | .callv f args=>match ev f with
  | .fn (.func g) a b => (∃ fn, P.funcs[g]? = some fn ∧ fn.body.isSome ∧ fn.name ≠ "runtime.NumGoroutine") ∧ DK P g (a ++ args.map ev ++ b) H (fun e H' => AEnd.post K Kp H' e)
  | _=>False
 | .itr kd x=>itK K H kd (ev x)
 | q=>HO.sem P ev H K Kp q
theorem hs_callR {o : Oper} {f : FuncId} {args : Array Operand} {ats : Array TypeId} {as : List X} (ho : o.op = .call { callee:=.value (.func f),args,argTypes:=ats }) (hc : callable P f=true) (has : ofXs args=some as) {φ : Phi} {H : AHeap} {w : World} {ts : List AV} {a : Act} (hR : Rel φ H w) (hr : FR φ (Own φ H) w ts a) {K Kp : AV→AHeap→Prop} (h : HO.semR P (X.ev ts) H K Kp (.call f as)) {next : Act→World→Prop} {Q : Exit→Act→World→Prop}
  (hn : ∀ v u φ' H' w',K v H'→VR φ' (Own φ' H') w' v u→Rel φ' H' w'→Step φ H w φ' H' w'→next (a.put o.dst u) w')
  (hp : ∀ v u φ' H' w',Kp v H'→ChR φ' (Own φ' H') w' v u→Rel φ' H' w'→Step φ H w φ' H' w'→Q (.panic u) a w') : o.wp P a w next Q:=by
 unfold callable at hc
 split at hc
 case h_2=>simp at hc
 rename_i fn hf
 simp only[Bool.and_eq_true,Bool.not_eq_true',beq_eq_false_iff_ne] at hc
 refine wp_enterK (vs:=args.map a.eval) ?_ hR (by simpa using Rt_map hr has) h hn hp
 simp only[execOp,ho,resolve,Deferred.ofValue,Act.eval,invoke,Sem.run_bind,Sem.run_pure,Result.andThen_ok]
 rw[callFunc_run hf hc.1 hc.2]
 simp
theorem hs_callvR {o : Oper} {t : Tmp} {args : Array Operand} {ats : Array TypeId} {as : List X} (ho : o.op = .call { callee:=.value (.tmp t),args,argTypes:=ats }) (has : ofXs args=some as) {φ : Phi} {H : AHeap} {w : World} {ts : List AV} {a : Act} (hR : Rel φ H w) (hr : FR φ (Own φ H) w ts a) {K Kp : AV→AHeap→Prop} (h : HO.semR P (X.ev ts) H K Kp (.callv (.t t) as)) {next : Act→World→Prop} {Q : Exit→Act→World→Prop}
  (hn : ∀ v u φ' H' w',K v H'→VR φ' (Own φ' H') w' v u→Rel φ' H' w'→Step φ H w φ' H' w'→next (a.put o.dst u) w')
  (hp : ∀ v u φ' H' w',Kp v H'→ChR φ' (Own φ' H') w' v u→Rel φ' H' w'→Step φ H w φ' H' w'→Q (.panic u) a w') : o.wp P a w next Q:=by
 have hv : VR φ (Own φ H) w (X.ev ts (.t t)) (a.eval (.tmp t)):=ofX_spec hr rfl
 simp only[HO.semR] at h
 split at h
 case h_2=>exact h.elim
 rename_i g A B he
 rw[he] at hv
 obtain ⟨⟨fn,c1,c2,c3⟩,h1⟩:=h
 obtain ⟨us,ws,e1,e2,e3⟩:=VR_fn hv
 refine wp_enterK (vs:=us ++ args.map a.eval ++ ws) ?_ hR ?_ h1 hn hp
 ·simp only[execOp,ho,resolve,e1,Deferred.ofValue,invoke,Sem.run_bind,Sem.run_pure,Result.andThen_ok]
  rw[callFunc_run c1 c2 c3]
 ·have ha:=Rt_map hr has
  have happ : ∀ {l m : List AV} {x y : List Value},Rt φ (Own φ H) w l x→Rt φ (Own φ H) w m y→Rt φ (Own φ H) w (l ++ m) (x ++ y):=by
   intro l
   induction l with
   | nil=>intro m x y h1 h2;simp only[Rt] at h1;subst h1;simpa using h2
   | cons q r ih =>
    intro m x y h1 h2
    obtain ⟨v,s,rfl,k1,k2,k3⟩:=h1
    exact ⟨v,s ++ y,rfl,k1,k2,ih k3 h2⟩
  simp only[Array.toList_append,Array.toList_map]
  exact happ (happ e2 ha) e3
theorem hs_call {o : Oper} {f : FuncId} {args : Array Operand} {ats : Array TypeId} {as : List X} (ho : o.op = .call { callee:=.value (.func f),args,argTypes:=ats }) (hc : callable P f=true) (has : ofXs args=some as) : HSound P o (.call f as):=by
 intro φ H w ts a hR hr K Kp h next Q hn hp
 obtain ⟨e,H',h1,h2⟩:=h
 unfold callable at hc
 split at hc
 case h_2=>simp at hc
 rename_i fn hf
 simp only[Bool.and_eq_true,Bool.not_eq_true',beq_eq_false_iff_ne] at hc
 refine wp_enter (vs:=args.map a.eval) ?_ hR (by simpa using Rt_map hr has) h1 h2 hn hp
 simp only[execOp,ho,resolve,Deferred.ofValue,Act.eval,invoke,Sem.run_bind,Sem.run_pure,Result.andThen_ok]
 rw[callFunc_run hf hc.1 hc.2]
 simp
theorem hs_callv {o : Oper} {t : Tmp} {args : Array Operand} {ats : Array TypeId} {as : List X} (ho : o.op = .call { callee:=.value (.tmp t),args,argTypes:=ats }) (has : ofXs args=some as) : HSound P o (.callv (.t t) as):=by
 intro φ H w ts a hR hr K Kp h next Q hn hp
 have hv : VR φ (Own φ H) w (X.ev ts (.t t)) (a.eval (.tmp t)):=ofX_spec hr rfl
 simp only[HO.sem] at h
 split at h
 case h_2=>exact h.elim
 rename_i g A B he
 rw[he] at hv
 obtain ⟨⟨fn,c1,c2,c3⟩,e,H',h1,h2⟩:=h
 obtain ⟨us,ws,e1,e2,e3⟩:=VR_fn hv
 refine wp_enter (vs:=us ++ args.map a.eval ++ ws) ?_ hR ?_ h1 h2 hn hp
 ·simp only[execOp,ho,resolve,e1,Deferred.ofValue,invoke,Sem.run_bind,Sem.run_pure,Result.andThen_ok]
  rw[callFunc_run c1 c2 c3]
 ·have ha:=Rt_map hr has
  have happ : ∀ {l m : List AV} {x y : List Value},Rt φ (Own φ H) w l x→Rt φ (Own φ H) w m y→Rt φ (Own φ H) w (l ++ m) (x ++ y):=by
   intro l
   induction l with
   | nil=>intro m x y h1 h2;simp only[Rt] at h1;subst h1;simpa using h2
   | cons q r ih =>
    intro m x y h1 h2
    obtain ⟨v,s,rfl,k1,k2,k3⟩:=h1
    exact ⟨v,s ++ y,rfl,k1,k2,ih k3 h2⟩
  simp only[Array.toList_append,Array.toList_map]
  exact happ (happ e2 ha) e3
theorem hs_pan {o : Oper} {x : Operand} {x' : X} (ho : o.op = .panic x) (hx : ofX x=some x') : HSound P o (.pan x'):=by
 intro φ H w ts a hR hr K Kp h next Q hn hp
 have hv:=ofX_spec hr hx
 simp only[HO.sem] at h
 split at h
 case h_2=>exact h.elim
 rename_i t v he
 rw[he] at hv
 obtain ⟨u,h1,_⟩:=VR_ifc hv
 have hrun : (execOp a.eval o).run P w = .halt (.panic (a.eval x)) w:=by
  simp only[execOp,ho,h1,Instr.panic,Sem.run_bind,run_goPanic,Result.andThen_halt]
 unfold Oper.wp
 rw[hrun,Oper.upon_panic]
 exact hp _ _ _ _ _ h (ChR.one hv) hR (Step.refl _ _ _)
theorem Rl_bytes {φ : Phi} {O : Nat→Prop} {w : World} {b : Nat} : ∀ (l : List UInt8) (off : Nat),(∀ j (h : j < l.length),memAt w b (off+j) 0=some (.int .u8 (l[j].toNat : Int)))→Rl φ O w b 1 (l.map fun b=>.sc (.int .u8 b.toNat)) off
 | [],_,_=>trivial
 | x :: r,off,h=>by
  have h0:=h 0 (by simp)
  simp only[Nat.add_zero,List.getElem_cons_zero] at h0
  refine ⟨rfl,fun _=>⟨_,h0,rfl⟩,h0,Rl_bytes r (off+1) fun j hj=>?_⟩
  have:=h (j+1) (by simpa using hj)
  rw[show off+1+j=off+(j+1) from by omega]
  simpa using this
theorem hs_s2b {o : Oper} {s d e : TypeId} {x : Operand} {x' : X} (ho : o.op = .convert s d x) (hs : P.underlying s=some .string) (hd : P.underlying d=some (.slice e)) (he : P.underlying e=some (.int .u8)) (hx : ofX x=some x') : HSound P o (.gx .s2b [x']):=by
 intro φ H w ts a hR hr K Kp h next Q hn hpp
 have hv:=ofX_spec hr hx
 simp only[HO.sem,List.map_cons,List.map_nil] at h
 obtain ⟨h1,h2⟩:=h
 cases hxe : X.ev ts x' <;> rw[hxe] at h1 h2 hv <;> try exact False.elim h1
 rename_i v
 cases v <;> try exact False.elim h1
 rename_i str
 have h1 : str.size ≤ 100000000:=h1
 have hu:=VR_sc hv
 have gen : ∀ (v : Value) (W1 : World),(convert s d (.string str)).run P w = .ok v W1→(execOp a.eval o).run P w = .ok (.value v) W1:=fun v W1 h=>by
  unfold execOp
  simp only[ho,hu,Sem.run_bind,h,Result.andThen_ok,Sem.run_pure]
 have hrun:=gen _ _ (run_bytes_of_string w s d e str hs hd he)
 have hsz : (byteL str).length=str.size:=by
  unfold byteL
  rw[List.length_map,Array.length_toList]
  rfl
 have hge:=grownCap_ge w str.size 0 e
 have hle:=grownCap_le_maxLen w str.size 0 e (by unfold maxLen;omega)
 generalize hrow : bytesRow str (grownCap w str.size 0 e)=row at hrun
 have hheap : (w.drew.alloc (.cells row e (row.size,row.size+1))).heap[w.heap.size]? = some (.cells row e (row.size,row.size+1)):=heap_alloc_new w.drew _
 have hold : ∀ b,b < w.heap.size→(w.drew.alloc (.cells row e (row.size,row.size+1))).heap[b]? = w.heap[b]?:=fun b hb=>Below.heap_alloc w.drew _ b hb
 have hsize : (w.drew.alloc (.cells row e (row.size,row.size+1))).heap.size=w.heap.size+1:=World.size_alloc w.drew _
 refine wp_value hrun (hn _ _ φ H _ h2 ?_ (hR.grow (by omega) hold) (grow_step rfl rfl rfl (by omega) hold))
 have hno : ¬ Own φ H w.heap.size:=fun ⟨id,blk,g1,_⟩=>by have:=(hR.dom id _ g1).2;omega
 refine ⟨rfl,some ⟨w.heap.size,0,none⟩,grownCap w str.size 0 e,by rw[hsz];rfl,by rw[hsz];exact hge,hle,fun h=>by simp at h,fun _=>⟨w.heap.size,0,rfl,hno,by omega,?_⟩,trivial⟩
 refine Rl_bytes str.data.toList 0 fun j hj=>?_
 have hj' : j < str.data.size:=by simpa using hj
 rw[memAt_cells hheap,← hrow]
 have:=bytesRow_at str (grownCap w str.size 0 e) j hj'
 simpa using this
theorem hs_cap {o : Oper} {t e : TypeId} {x : Operand} {x' : X} {args : Array Operand} {ats : Array TypeId} (ho : o.op = .call { callee:=.builtin .cap,args,argTypes:=ats }) (ha : args.toList=[x]) (hat : ats.toList=[t]) (ht : P.underlying t=some (.slice e)) (hx : ofX x=some x') : HSound P o (.gx .cap [x']):=by
 intro φ H w ts a hR hr K Kp h next Q hn hpp
 obtain rfl : args=#[x]:=by apply Array.toList_inj.1;simpa using ha
 obtain rfl : ats=#[t]:=by apply Array.toList_inj.1;simpa using hat
 have hv:=ofX_spec hr hx
 have hex : ∀ {r : Value} {w' : World},(Builtin.cap_ #[t] o.type #[a.eval x]).run P w = .ok r w'→(execOp a.eval o).run P w = .ok (.value r) w':=by
  intro r w' h1
  simp only[execOp,ho,resolve,invoke,builtin,Sem.run_bind,Sem.run_pure,Result.andThen_ok,List.map_toArray,List.map_cons,List.map_nil,h1]
 have hcap : ∀ (ad : Option Addr) (n c : Nat),a.eval x = .slice ad n c→(Builtin.cap_ #[t] o.type #[a.eval x]).run P w = .ok (.int .i64 c) w:=fun ad n c e=>by
  rw[e]
  simp[Builtin.cap_,run_underlying ht,goInt]
 simp only[HO.sem,List.map_cons,List.map_nil] at h
 obtain ⟨h1,h2⟩:=h
 cases hxe : X.ev ts x' <;> rw[hxe] at h1 h2 hv <;> try exact False.elim h1
 ·rename_i k xs room
  cases room with
  | none=>exact h1.elim
  | some ys =>
   obtain ⟨ad,e1,_⟩:=lst_full hv
   exact wp_value (hex (hcap _ _ _ e1)) (hn _ _ φ H w h2 (sc_VR rfl) hR (Step.refl _ _ _))
 ·rename_i k id off n c
  cases c with
  | none=>exact h1.elim
  | some c =>
   obtain ⟨b,c',cur,e0,fr,_,e1,_,_,e2,_⟩:=VR_vec hv
   have:=e2 c rfl
   subst this
   exact wp_value (hex (hcap _ _ _ e1)) (hn _ _ φ H w h2 (sc_VR rfl) hR (Step.refl _ _ _))
theorem find_idxb {fn : Func} (hn : fn.name = "internal/bytealg.IndexByteString") : Extern.find fn = some Extern.BytealgIndexByte.indexByte := by
 unfold Extern.find
 rw[hn]
 have h1 : Extern.allGenericRows.lookup "internal/bytealg.IndexByteString" = none := by kernel_rfl
 have h2 : Extern.allTypedRows.lookup "internal/bytealg.IndexByteString" = none := by kernel_rfl
 have h3 : Extern.allRows.lookup "internal/bytealg.IndexByteString" = some Extern.BytealgIndexByte.indexByte := by kernel_rfl
 simp only[h1,h2,h3]
 rfl
theorem find_ovl {fn : Func} (hn : fn.origin = "slices.overlaps") (g1 : Extern.allGenericRows.lookup fn.name = none) (g2 : Extern.allTypedRows.lookup fn.name = none) (g3 : Extern.allRows.lookup fn.name = none) : Extern.find fn = some (Extern.SlicesOverlaps.overlaps fn.params fn.resultTypes) := by
 unfold Extern.find
 have h1 : Extern.allGenericRows.lookup "slices.overlaps" = none := by kernel_rfl
 have h2 : Extern.allTypedRows.lookup "slices.overlaps" = some Extern.SlicesOverlaps.overlaps := by kernel_rfl
 simp only[g1,g2,g3,hn,h1,h2]
 rfl
theorem ext_run {o : Oper} {f : FuncId} {args : Array Operand} {ats : Array TypeId} {fn : Func} {e : Array Value→Sem Value} {a : Act} {w w' : World} {v : Value} (ho : o.op = .call { callee:=.value (.func f),args,argTypes:=ats }) (hf : P.funcs[f]? = some fn) (hx : xfnOk fn=true) (he : Extern.find fn=some e)
  (hv : (e (args.map a.eval)).run P w = .ok v w') : (execOp a.eval o).run P w = .ok (.value v) w':=by
 simp only[xfnOk,Bool.and_eq_true,Bool.not_eq_true',Option.isNone_iff_eq_none] at hx
 have:=run_callFunc_extern (P:=P) hf hx.1.2 (by simp[hx.1.1]) hx.2 he (args.map a.eval) w
 rw[hv] at this
 simp only[Result.andThen_ok] at this
 simp only[execOp,ho,resolve,Deferred.ofValue,Act.eval,invoke,Sem.run_bind,Sem.run_pure,Result.andThen_ok,Array.append_empty,Array.empty_append]
 simpa using this
theorem find_mclone {fn : Func} (hn : fn.name = "maps.clone") : Extern.find fn = some Extern.MapsClone.clone := by
 unfold Extern.find
 rw[hn]
 have h1 : Extern.allGenericRows.lookup "maps.clone" = none := by kernel_rfl
 have h2 : Extern.allTypedRows.lookup "maps.clone" = none := by kernel_rfl
 have h3 : Extern.allRows.lookup "maps.clone" = some Extern.MapsClone.clone := by kernel_rfl
 simp only[h1,h2,h3]
 rfl
theorem mclone_ok {H : AHeap} {l : List AV} (h : GX.ok H .mclone l) : ∃ t id j,l=[.ifc t (.ptr 0 id j 0)] ∧ mOk H id fun _=>True:=by
 match l,h with
 | [.ifc t (.ptr 0 id j 0)],h=>exact ⟨t,id,j,rfl,h⟩
theorem idxb_ok {H : AHeap} {l : List AV} (h : GX.ok H .idxb l) : ∃ s c,l=[.sc (.string s),.sc (.int .u8 c)]:=by
 unfold GX.ok at h
 split at h <;> simp_all
theorem ovl_ok {H : AHeap} {l : List AV} (h : GX.ok H .ovl l) : ∃ k x xs r k2 id off n c blk,l=[.lst k (x :: xs) r,.vec k2 id off n c] ∧ AHeap.find H id=some blk ∧ 0 < k:=by
 match l,h with
 | [.lst k (x :: xs) r,.vec k2 id off n c],h =>
  simp only[GX.ok] at h
  split at h
  ·rename_i blk hf;exact ⟨_,_,_,_,_,_,_,_,_,blk,rfl,hf,h⟩
  ·exact h.elim
theorem ovl_run {φ : Phi} {H : AHeap} {w : World} (hR : Rel φ H w) {k : Nat} {x : AV} {xs : List AV} {r : Option (List AV)} {k2 id off n : Nat} {c : Option Nat} {blk : ABlk} {u v : Value} (hu : VR φ (Own φ H) w (.lst k (x :: xs) r) u) (hv : VR φ (Own φ H) w (.vec k2 id off n c) v) (hf : AHeap.find H id=some blk) (hk : 0 < k)
  {t e : TypeId} {inf : TypeInfo} {ps rs : Array TypeId} (hp : ps[0]? = some t) (ht : P.underlying t=some (.slice e)) (hi : P.info? e=some inf) : (Extern.SlicesOverlaps.overlaps ps rs #[u,v]).run P w = .ok (.bool false) w:=by
 obtain ⟨ad,cu,rfl,c1,c2,c3,c4,c5⟩:=VR_lst hu
 obtain ⟨b,off',rfl,ho,hb,h1,h2,h3,h4⟩:=c4 (by simp)
 obtain ⟨b2,c',cur,e',fr,v1,rfl,v3,v4,v5,v6,v7⟩:=VR_vec hv
 obtain ⟨_,cur2,cap,a1,a2,a3,a4,a5,a6⟩:=(hR.blk id b2 blk v1 hf).atCells v6
 have hne : b ≠ b2:=fun e=>ho (e ▸ ⟨id,blk,v1,hf⟩)
 have hcell : ∃ q,w.cell? ⟨b,off',none⟩=some q:=by
  cases hx : x.isAgg with
  | false=>obtain ⟨q,hq,_⟩:=h2 hx;exact ⟨q,by simpa [memAt] using hq⟩
  | true =>
   cases x <;> simp[AV.isAgg] at hx
   rename_i cs
   cases cs with
   | nil=>simp[AV.ncells] at h1;omega
   | cons y ys =>
    obtain ⟨_,_,⟨q,hq,_⟩,_⟩:=h3
    exact ⟨q,by simpa [memAt] using hq⟩
 obtain ⟨q,hq⟩:=hcell
 unfold World.cell? at hq
 split at hq
 case h_2=>simp at hq
 rename_i cc ec frc hbc
 have hsz : cc.size ≠ 0:=by
  intro h0
  have : cc=#[]:=Array.eq_empty_of_size_eq_zero h0
  subst this
  simp at hq
 have hsa : w.shape? b=some (ec,cc.size):=by simp[World.shape?,hbc]
 have hsb : w.shape? b2=some (blk.ty,cur2.size):=by simp[World.shape?,a1]
 have hfb : ∀ o,w.frozen? ⟨b2,o,none⟩=false:=fun o=>by simp[World.frozen?,a1]
 obtain ⟨kA,hkA⟩ : ∃ kA,cc.size=kA+1:=⟨cc.size - 1,by omega⟩
 rw[hkA] at hsa
 have hnb : (b != b2)=true:=by simpa using hne
 have hnb' : (b == b2)=false:=by simpa using hne
 change Sem.run P (α:=Value) (do
  let some t := ps[0]? | stuck "slices.overlaps: no parameter types"
  let .slice elem ← underlying t | stuck "slices.overlaps: slice type expected"
  let size ← sizeOf elem
  match (some ⟨b,off',none⟩ : Option Addr),(some ⟨b2,off * k2,none⟩ : Option Addr) with
  | some a,some b =>
   if xs.length+1=0 ∨ n=0 ∨ size=0 then pure (Value.bool false)
   else if a.block != b.block && (← frozen a) && (← frozen b) then unsupported .addressObserved
   else do
    if a.block != b.block then do
     noView a;noView b
     if ← mayBeOne a b then return Value.bool ((← choose (.extern "sameAddr.stringBytes" 2)) == 1)
    pure (Value.bool (a.block == b.block && a.off < b.off+n * size && b.off < a.off+(xs.length+1) * size))
  | _,_=>pure (Value.bool false)) w=_
 simp only[hp]
 by_cases hn0 : n=0
 ·simp[run_underlying ht,sizeOf,typeInfo,hi,hn0]
 by_cases hs0 : inf.size=0
 ·simp[run_underlying ht,sizeOf,typeInfo,hi,hs0]
 cases hfa : w.frozen? ⟨b,off',none⟩ <;> cases hfa2 : w.frozen? ⟨b,kA+1,none⟩ <;>
  simp[run_underlying ht,sizeOf,typeInfo,hi,hn0,hs0,hnb,hnb',hne,frozen,noView,viewAt,mayBeOne,stringish,shape,Sem.run,hsa,hsb,hfa,hfa2,hfb]
theorem hs_ext {o : Oper} {f : FuncId} {args : Array Operand} {ats : Array TypeId} {q : HO} (ho : o.op = .call { callee:=.value (.func f),args,argTypes:=ats }) (hq : extH P f args=some q) : HSound P o q:=by
 unfold extH at hq
 split at hq
 case h_2=>simp at hq
 rename_i fn xs hf hxs
 split at hq
 case isFalse=>simp at hq
 rename_i hx
 intro φ H w ts a hR hr K Kp h next Q hn hpp
 have hrt:=Rt_map hr (l:=args.toList) hxs
 have hvs : args.map a.eval=(args.toList.map a.eval).toArray:=by rw[← Array.toList_map]
 split at hq
 ·rename_i hnm
  cases hq
  simp only[HO.sem] at h
  obtain ⟨h1,h2⟩:=h
  obtain ⟨s,c,hl⟩:=idxb_ok h1
  rw[hl] at hrt h2
  obtain ⟨u1,r1,e1,o1,p1,u2,r2,e2,o2,p2,e3⟩:=hrt
  simp only[Rt] at e3
  subst e3
  have q1:=VR_sc (⟨o1,p1⟩ : VR φ (Own φ H) w _ u1)
  have q2:=VR_sc (⟨o2,p2⟩ : VR φ (Own φ H) w _ u2)
  refine wp_value (ext_run ho hf hx (find_idxb hnm) ?_) (hn _ _ φ H w h2 (sc_VR rfl) hR (Step.refl _ _ _))
  rw[hvs,e1,e2,q1,q2]
  exact run_indexByte_string s c w
 split at hq
 case isFalse =>
  split at hq
  case isFalse=>simp at hq
  rename_i hnm
  cases hq
  simp only[HO.sem] at h
  obtain ⟨h1,h2⟩:=h
  obtain ⟨t,id,j,hl,hm⟩:=mclone_ok h1
  rw[hl] at hrt h2
  obtain ⟨u1,r1,e1,o1,p1,e3⟩:=hrt
  simp only[Rt] at e3
  subst e3
  obtain ⟨y,q1,q2⟩:=VR_ifc (⟨o1,p1⟩ : VR φ (Own φ H) w _ u1)
  obtain ⟨b,blk,ents,clock,hvb,m1,m2,m3,m4,m5,m6,m7,m8,m9⟩:=own_map hR q2 rfl hm
  obtain ⟨hR1,hS1⟩:=hR.allocO ⟨0,blk.es,true,0⟩ (.map ents clock) (fun hl=>.inr (.inl ⟨rfl,rfl,ents,clock,(MapKept.heap_alloc w _).1,m7,m8,RE_later hl (AV.idsL_true _) m9⟩))
  have h2 : K (.ifc t (.ptr 0 H.length 0 0)) (some ⟨0,blk.es,true,0⟩ :: H):=by
   have h2' : K (.ifc t (.ptr 0 H.length 0 0)) (some ⟨0,mEs H id,true,0⟩ :: H):=h2
   rwa [m5] at h2'
  refine wp_value (ext_run (v:=.iface t (.map (some w.heap.size))) ho hf hx (find_mclone hnm) ?_) (hn _ _ _ _ _ h2 ⟨rfl,_,rfl,rfl,w.heap.size,by simp[Phi.add],rfl⟩ hR1 hS1)
  rw[hvs,e1,q1,hvb]
  refine Eq.trans (b:=((do
   let o ← getObj b
   match o with
   | .map entries clock=>pure (.iface t (.map (some (← newObj (.map entries clock)))))
   | _ => stuck "maps.clone: a map expected") : Sem Value).run P w) rfl ?_
  simp only[Sem.run_bind,MapKept.run_getObj_map m6,Result.andThen_ok,run_newObj,Sem.run_pure]
  rfl
 rename_i hov
 cases hq
 simp only[ovlIs,Bool.and_eq_true,beq_iff_eq,Option.isNone_iff_eq_none] at hov
 obtain ⟨⟨⟨⟨g0,g1⟩,g2⟩,g3⟩,g4⟩:=hov
 split at g4
 case h_2=>simp at g4
 rename_i t tr htl
 split at g4
 case h_2=>simp at g4
 rename_i e ht
 obtain ⟨inf,hi⟩:=Option.isSome_iff_exists.1 g4
 simp only[HO.sem] at h
 obtain ⟨h1,h2⟩:=h
 obtain ⟨k,x,ys,r,k2,id,off,n,c,blk,hl,hfd,hk⟩:=ovl_ok h1
 rw[hl] at hrt h2
 obtain ⟨u1,r1,e1,o1,p1,u2,r2,e2,o2,p2,e3⟩:=hrt
 simp only[Rt] at e3
 subst e3
 have hp0 : fn.params[0]? = some t:=by rw[← Array.getElem?_toList,htl];rfl
 refine wp_value (ext_run ho hf hx (find_ovl g0 g1 g2 g3) ?_) (hn _ _ φ H w h2 (sc_VR rfl) hR (Step.refl _ _ _))
 rw[hvs,e1,e2]
 exact ovl_run hR ⟨o1,p1⟩ ⟨o2,p2⟩ hfd hk hp0 ht hi
theorem compZ_gx {s x : Operand} {t t' : TypeId} {q : HO} (h : compZ P s x t t'=some q) : ∃ g xs,q = .gx g xs:=by
 unfold compZ at h
 repeat' split at h
 all_goals first | (simp at h;done) | (cases h;exact ⟨_,_,rfl⟩)
theorem compM_gx {p : Op} {q : HO} (h : compM P p=some q) : ∃ g xs,q = .gx g xs:=by
 unfold compM at h
 repeat' split at h
 all_goals first | (simp at h;done) | (cases h;exact ⟨_,_,rfl⟩) | (rw[Option.map_eq_some_iff] at h;obtain ⟨_,_,rfl⟩:=h;exact ⟨_,_,rfl⟩)
theorem extH_gx {f : FuncId} {args : Array Operand} {q : HO} (h : extH P f args=some q) : ∃ g xs,q = .gx g xs:=by
 unfold extH at h
 repeat' split at h
 all_goals first | (simp at h;done) | (cases h;exact ⟨_,_,rfl⟩)
theorem eqOk_s {r : List (Option IntKind)} : ∀ {xs ys : List AV},eqOk (none :: r) xs ys→∃ a xs' b ys',xs = .sc (.string a) :: xs' ∧ ys = .sc (.string b) :: ys' ∧ eqOk r xs' ys':=by
 intro xs ys h
 unfold eqOk at h
 split at h <;> first | exact h.elim | skip
 ·rename_i e;cases e
 ·rename_i e;cases e;exact ⟨_,_,_,_,rfl,rfl,h⟩
 ·rename_i e;cases e
theorem eqOk_i {r : List (Option IntKind)} {k : IntKind} : ∀ {xs ys : List AV},eqOk (some k :: r) xs ys→∃ a xs' b ys',xs = .sc (.int k a) :: xs' ∧ ys = .sc (.int k b) :: ys' ∧ eqOk r xs' ys':=by
 intro xs ys h
 unfold eqOk at h
 split at h <;> first | exact h.elim | skip
 ·rename_i e;cases e
 ·rename_i e;cases e
 ·rename_i e;cases e;obtain ⟨⟨rfl,rfl⟩,h⟩:=h;exact ⟨_,_,_,_,rfl,rfl,h⟩
theorem eqOk_n : ∀ {xs ys : List AV},eqOk [] xs ys→xs=[] ∧ ys=[]:=by
 intro xs ys h
 unfold eqOk at h
 split at h <;> first | exact h.elim | skip
 ·exact ⟨rfl,rfl⟩
 ·rename_i e;cases e
 ·rename_i e;cases e
theorem eqF_run {w : World} {d : Nat} : ∀ {fs : List Field} {ks : List (Option IntKind)} {xs ys : List AV} {i : Nat} {us vs : Array Value},fldK P i fs=some ks→eqOk ks xs ys→(∀ j,j < xs.length→∃ u,xs[j]? = some (.sc u) ∧ us[i+j]? = some u)→(∀ j,j < ys.length→∃ u,ys[j]? = some (.sc u) ∧ vs[i+j]? = some u) →
  (Op.eqFields (d+1) us vs fs).run P w = .ok (eqV xs ys) w
 | [],ks,xs,ys,i,us,vs,hf,hk,hx,hy=>by
  simp only[fldK,Option.some.injEq] at hf
  subst hf
  obtain ⟨rfl,rfl⟩:=eqOk_n hk
  simp[Op.eqFields,eqV]
 | f :: r,ks,xs,ys,i,us,vs,hf,hk,hx,hy=>by
  unfold fldK at hf
  split at hf
  case isFalse=>simp at hf
  rename_i hc
  obtain ⟨c1,c2,c3⟩:=hc
  have c1 : f.name ≠ "_" := by simpa using c1
  have hp : ∀ {cs : Array Value} {u : Value},cs[i]? = some u→(part f.type cs f.offset).run P w = .ok u w:=by
   intro cs u hu
   unfold sizeAgg at c3
   split at c3
   case h_2=>simp at c3
   rename_i dd ii h1 h2
   simp only[Option.some.injEq,Prod.mk.injEq] at c3
   unfold part
   simp[rn_isAgg h1,c3.2,c2,hu]
  have go : ∀ {xs ys : List AV} {p q : Value} {ks' : List (Option IntKind)} {b : Bool},fldK P (i+1) r=some ks'→eqOk ks' xs ys→(∀ j,j < (AV.sc p :: xs).length→∃ u,(AV.sc p :: xs)[j]? = some (.sc u) ∧ us[i+j]? = some u)→(∀ j,j < (AV.sc q :: ys).length→∃ u,(AV.sc q :: ys)[j]? = some (.sc u) ∧ vs[i+j]? = some u) →
    (Op.equalIn (d+1) f.type p q).run P w = .ok b w→(Op.eqFields (d+1) us vs (f :: r)).run P w = .ok (b && eqV xs ys) w:=by
   intro xs ys p q ks' b h2 hk hx hy hb
   obtain ⟨u,e1,e2⟩:=hx 0 (by simp)
   obtain ⟨v,e3,e4⟩:=hy 0 (by simp)
   simp at e1 e3
   subst e1
   subst e3
   have ih:=eqF_run (w:=w) (d:=d) (us:=us) (vs:=vs) h2 hk (fun j hj=>by
    obtain ⟨u,g1,g2⟩:=hx (j+1) (by simpa using hj)
    exact ⟨u,by simpa using g1,by rw[← g2];congr 1;omega⟩) (fun j hj=>by
    obtain ⟨u,g1,g2⟩:=hy (j+1) (by simpa using hj)
    exact ⟨u,by simpa using g1,by rw[← g2];congr 1;omega⟩)
   have c1' : (f.name ≠ "_") = True := eq_true c1
   simp only[Op.eqFields,c1',if_true,Sem.run_bind,hp (by simpa using e2),hp (by simpa using e4),Result.andThen_ok,hb]
   cases b <;> simp[ih]
  split at hf
  ·rename_i ks' h1 h2
   cases hf
   obtain ⟨a,xs',b,ys',rfl,rfl,hk⟩:=eqOk_s hk
   simp only[eqV]
   exact go h2 hk hx hy (by rw[run_equalIn_string w d _ _ _ h1,beq_toListBytes])
  ·rename_i k ks' h1 h2
   cases hf
   obtain ⟨a,xs',b,ys',rfl,rfl,hk2⟩:=eqOk_i hk
   simp only[eqV]
   exact go h2 hk2 hx hy (run_equalIn_int w d _ _ _ _ _ h1)
  ·simp at hf
theorem eqOk_sc : ∀ {ks : List (Option IntKind)} {xs ys : List AV},eqOk ks xs ys→(∀ x ∈ xs,∃ u,x = .sc u) ∧ (∀ x ∈ ys,∃ u,x = .sc u)
 | [],_,_,h=>by obtain ⟨rfl,rfl⟩:=eqOk_n h;simp
 | none :: r,_,_,h=>by
  obtain ⟨a,xs',b,ys',rfl,rfl,hk⟩:=eqOk_s h
  have ih:=eqOk_sc hk
  exact ⟨fun x hx=>by rcases List.mem_cons.1 hx with rfl | hx;exact ⟨_,rfl⟩;exact ih.1 x hx,fun x hx=>by rcases List.mem_cons.1 hx with rfl | hx;exact ⟨_,rfl⟩;exact ih.2 x hx⟩
 | some k :: r,_,_,h=>by
  obtain ⟨a,xs',b,ys',rfl,rfl,hk⟩:=eqOk_i h
  have ih:=eqOk_sc hk
  exact ⟨fun x hx=>by rcases List.mem_cons.1 hx with rfl | hx;exact ⟨_,rfl⟩;exact ih.1 x hx,fun x hx=>by rcases List.mem_cons.1 hx with rfl | hx;exact ⟨_,rfl⟩;exact ih.2 x hx⟩
theorem agg_scs {φ : Phi} {O : Nat→Prop} {w : World} {xs : List AV} {v : Value} (h : VR φ O w (.agg xs) v) (hs : ∀ x ∈ xs,∃ u,x = .sc u) : ∃ us,v = .agg us ∧ ∀ j,j < xs.length→∃ u,xs[j]? = some (.sc u) ∧ us[0+j]? = some u:=by
 obtain ⟨us,rfl,h1,h2⟩:=VR_aggI h
 refine ⟨us,rfl,fun j hj=>?_⟩
 obtain ⟨u,hu⟩:=hs _ (List.getElem_mem hj)
 have hx : xs[j]? = some (.sc u):=by rw[← hu];simp[hj]
 obtain ⟨a1,a2,_⟩:=Rs_nth h2 hx
 exact ⟨u,hx,by simpa [R] using a2⟩
theorem eqI_items {w : World} {d : Nat} {e : TypeId} {k : IntKind} {us vs : Array Value} (he : P.underlying e=some (.int k)) (hp : ∀ {cs : Array Value} {i : Nat} {u : Value},cs[i]? = some u→(part e cs i).run P w = .ok u w) : ∀ (m i : Nat) {xs ys : List AV},eqOk (List.replicate m (some k)) xs ys →
  (∀ j,j < xs.length→∃ u,xs[j]? = some (.sc u) ∧ us[i+j]? = some u)→(∀ j,j < ys.length→∃ u,ys[j]? = some (.sc u) ∧ vs[i+j]? = some u)→(Op.eqItems (d+1) e 1 us vs (List.range' i m)).run P w = .ok (eqV xs ys) w
 | 0,i,xs,ys,hk,hx,hy=>by
  obtain ⟨rfl,rfl⟩:=eqOk_n hk
  simp[Op.eqItems,eqV]
 | m+1,i,xs,ys,hk,hx,hy=>by
  obtain ⟨a,xs',b,ys',rfl,rfl,hk'⟩:=eqOk_i (r:=List.replicate m (some k)) hk
  obtain ⟨u,e1,e2⟩:=hx 0 (by simp)
  obtain ⟨v,e3,e4⟩:=hy 0 (by simp)
  simp at e1 e3
  subst e1
  subst e3
  rw[Nat.add_zero] at e2 e4
  have ih:=eqI_items (d:=d) he hp m (i+1) hk' (fun j hj=>by
   obtain ⟨u,f1,f2⟩:=hx (j+1) (by simp;omega)
   exact ⟨u,by simpa using f1,by rw[show i+1+j=i+(j+1) by omega];exact f2⟩) (fun j hj=>by
   obtain ⟨u,f1,f2⟩:=hy (j+1) (by simp;omega)
   exact ⟨u,by simpa using f1,by rw[show i+1+j=i+(j+1) by omega];exact f2⟩)
  have hq : (Op.equalIn (d+1) e (.int k a) (.int k b)).run P w = .ok (a == b) w:=by
   simp[Op.equalIn,run_underlying he]
  simp only[List.range'_succ,Op.eqItems,Nat.mul_one,Sem.run_bind,hp e2,hp e4,hq,Result.andThen_ok]
  cases hab : (a == b)
  ·simp[eqV,hab]
  ·simp[eqV,hab,ih]
theorem hs_eqA {o : Oper} {op : BinOp} {t ty : TypeId} {x y : Operand} {x' y' : X} {pos : Bool} {ks : List (Option IntKind)} (ho : o.op = .binOp op t x y ty) (ht : eqTys P t=some ks) (hop : op=if pos then .eql else .neq) (hx : ofX x=some x') (hy : ofX y=some y') : HSound P o (.gx (.eqA pos ks) [x',y']):=by
 intro φ H w ts a hR hr K Kp h next Q hn hpp
 have hv:=ofX_spec hr hx
 have hw:=ofX_spec hr hy
 simp only[HO.sem,List.map_cons,List.map_nil] at h
 obtain ⟨h1,h2⟩:=h
 cases hxe : X.ev ts x' <;> rw[hxe] at h1 h2 hv <;> try exact False.elim h1
 cases hye : X.ev ts y' <;> rw[hye] at h1 h2 hw <;> try exact False.elim h1
 rename_i xs ys
 have h1 : eqOk ks xs ys:=h1
 unfold eqTys at ht
 split at ht
 case h_3=>simp at ht
 case h_1 =>
  rename_i fs hs
  split at ht
  case isFalse=>simp at ht
  rename_i hc
  obtain ⟨hsi,hg⟩:=hc
  obtain ⟨us,e1,g1⟩:=agg_scs hv (eqOk_sc h1).1
  obtain ⟨vs,e2,g2⟩:=agg_scs hw (eqOk_sc h1).2
  have hfo : P.fieldsOf t=fs:=by simp[Program.fieldsOf,hs]
  have hrun : (Op.equalIn (9999+1) t (.agg us) (.agg vs)).run P w = .ok (eqV xs ys) w:=by
   rw[run_equalIn_struct w 9999 t us vs (by rw[hfo];exact hs) hsi,hfo]
   exact eqF_run (d:=9998) ht h1 g1 g2
  refine wp_value ?_ (hn _ _ φ H w h2 (sc_VR rfl) hR (Step.refl _ _ _))
  cases pos <;> simp at hop <;> subst hop
  ·simp only[execOp,ho,e1,e2,Sem.run_bind,run_eqGuard_agg w _ _ _ _ _ _ hg,Result.andThen_ok,run_neq_struct,hrun,Bool.false_eq_true,if_false,Sem.run_pure]
  ·simp only[execOp,ho,e1,e2,Sem.run_bind,run_eqGuard_agg w _ _ _ _ _ _ hg,Result.andThen_ok,run_eql_struct,hrun,if_true,Sem.run_pure]
 case h_2 =>
  rename_i n e hs
  split at ht
  case isFalse=>simp at ht
  rename_i hc
  obtain ⟨hg,hz⟩:=hc
  split at ht
  case h_2=>simp at ht
  rename_i k he
  simp only[Option.some.injEq] at ht
  subst ht
  obtain ⟨us,e1,g1⟩:=agg_scs hv (eqOk_sc h1).1
  obtain ⟨vs,e2,g2⟩:=agg_scs hw (eqOk_sc h1).2
  unfold sizeAgg at hz
  split at hz
  case h_2=>simp at hz
  rename_i dd ii hu hi
  simp only[Option.some.injEq,Prod.mk.injEq] at hz
  have hc1 : P.cellsOf e=1:=by simp[Program.cellsOf,hi,hz.1]
  have hrun : (Op.equalIn (9999+1) t (.agg us) (.agg vs)).run P w = .ok (eqV xs ys) w:=by
   rw[Go.run_equalIn_array w 9999 us vs hs hi,hc1,List.range_eq_range']
   refine eqI_items (d:=9998) he (fun {cs i u} hu'=>?_) n 0 h1 g1 g2
   unfold part
   simp[rn_isAgg hu,hz.2,hu']
  refine wp_value ?_ (hn _ _ φ H w h2 (sc_VR rfl) hR (Step.refl _ _ _))
  cases pos <;> simp at hop <;> subst hop
  ·simp only[execOp,ho,e1,e2,Sem.run_bind,run_eqGuard_agg w _ _ _ _ _ _ hg,Result.andThen_ok,run_neq_struct,hrun,Bool.false_eq_true,if_false,Sem.run_pure]
  ·simp only[execOp,ho,e1,e2,Sem.run_bind,run_eqGuard_agg w _ _ _ _ _ _ hg,Result.andThen_ok,run_eql_struct,hrun,if_true,Sem.run_pure]
theorem hs_appz {o : Oper} {t tn e : TypeId} {kn : IntKind} {inf : TypeInfo} {z : Value} {za : AV} {s x : Operand} {s' x' : X} {args : Array Operand} {ats : Array TypeId} (ho : o.op = .call { callee:=.builtin .append,args,argTypes:=ats }) (ha : args.toList=[s,x]) (hat : ats.toList=[t,tn])
  (ht : P.underlying t=some (.slice e)) (htn : P.underlying tn=some (.int kn)) (hi : P.info? e=some inf) (hz : inf.zero=some z) (hc : ofConst z=some za) (hk : za.ncells=inf.size) (hk0 : 0 < inf.size) (hby : inf.bytes ≤ 1000) (ht0 : za.isTop=false) (hs : ofX s=some s') (hx : ofX x=some x') : HSound P o (.gx (.appz inf.size e za) [s',x']):=by
 intro φ H w ts a hR hr K Kp h next Q hn hpp
 obtain rfl : args=#[s,x]:=by apply Array.toList_inj.1;simpa using ha
 obtain rfl : ats=#[t,tn]:=by apply Array.toList_inj.1;simpa using hat
 have hv:=ofX_spec hr hs
 have hw:=ofX_spec hr hx
 have hex : ∀ {r : Value} {w' : World},(Builtin.append_ #[t,tn] o.type #[a.eval s,a.eval x]).run P w = .ok r w'→(execOp a.eval o).run P w = .ok (.value r) w':=by
  intro r w' h1
  simp only[execOp,ho,resolve,invoke,builtin,Sem.run_bind,Sem.run_pure,Result.andThen_ok,List.map_toArray,List.map_cons,List.map_nil,h1]
 simp only[HO.sem,List.map_cons,List.map_nil] at h
 obtain ⟨h1,h2⟩:=h
 cases hxe : X.ev ts s' <;> rw[hxe] at h1 h2 hv <;> try exact False.elim h1
 ·rename_i k xs room
  cases xs with
  | cons x r=>exact False.elim h1
  | nil =>
  cases room with
  | none=>exact False.elim h1
  | some ys =>
  cases ys with
  | cons y s=>exact False.elim h1
  | nil =>
  cases hye : X.ev ts x' <;> rw[hye] at h1 h2 hw <;> try exact False.elim h1
  rename_i u
  cases u <;> try exact False.elim h1
  rename_i kq m
  obtain ⟨hm0,hlm⟩:=h1
  obtain ⟨m',rfl⟩ : ∃ m' : Nat,m=m':=⟨m.toNat,by omega⟩
  obtain ⟨ad,c,hva,_,_,_,_,c5⟩:=VR_lst hv
  have hc0 : c=0:=by have:=c5.1;simpa using this
  subst hc0
  have hzv : VR φ (Own φ H) w za z:=ofConst_spec hc
  have hzs:=cells_size hzv ht0
  rw[hk] at hzs
  have hold : (Builtin.firstCells inf.size 0 (.slice ad 0 0)).run P w.drew = .ok ([] : List Value).toArray w.drew:=by
   cases ad with
   | none=>rfl
   | some ad=>exact run_firstCells_some w.drew inf.size 0 ad 0 0 [] (by simp) fun j u hj=>by simp at hj
  have hmb : m' * inf.bytes ≤ 100000000 * 1000:=Nat.mul_le_mul (by omega) hby
  have hr2:=Go.Lib.run_append_grow_zeros (P:=P) w t tn o.type e inf z kq kn ht htn hi hz ad 0 0 [] hold m' (by omega) hk0 (by omega) (by omega) (by omega) (growslice_fits (by omega) (by simpa using (show m' * inf.bytes ≤ _ from by omega)))
  rw[Nat.zero_add] at hr2
  have hge:=grownCap_ge w m' 0 e
  have hle:=grownCap_le_maxLen w m' 0 e (by unfold maxLen;omega)
  generalize hcap : grownCap w m' 0 e=cap at hr2 hge hle
  generalize harr : ([] : List Value).toArray ++ Builtin.zeroCells z.cells m' ++ Builtin.zeroCells z.cells (cap - m')=arr at hr2
  have hsz : arr.size=cap * inf.size:=by
   rw[← harr]
   simp only[Array.size_append,List.size_toArray,List.length_nil,Nat.zero_add,size_zeroCells,hzs,← Nat.add_mul]
   congr 1;omega
  have hal:=(drew_rel hR).alloc ⟨inf.size,[],false,e⟩ hk0 arr cap hsz (Nat.zero_le _) (fun h=>by simp at h) hle (fun x hx=>by simp at hx) trivial
  have hk2 : K (.vec inf.size H.length 0 m' none) (some ⟨inf.size,[],false,e⟩ :: H):=by
   simpa [GX.val,GX.heap] using h2
  refine wp_value (hex (by rw[hva,VR_sc hw];exact hr2)) (hn _ _ _ _ _ hk2 ?_ hal.1 ((drew_step φ H w).trans hal.2))
  exact ⟨rfl,w.heap.size,cap,arr,e,(0,0),by simp[Phi.add],by simp[cget,Value.cells],hge,hle,fun m hm=>by simp at hm,heap_alloc_new w.drew _,by simpa using hsz⟩
 rename_i k' id off n c
 cases c with
 | none=>exact h1.elim
 | some c =>
 cases hye : X.ev ts x' <;> rw[hye] at h1 h2 hw <;> try exact False.elim h1
 rename_i u
 cases u <;> try exact False.elim h1
 rename_i kq m
 simp only[GX.ok] at h1
 split at h1
 case h_2=>exact h1.elim
 rename_i blk hf
 obtain ⟨⟨rfl,hbk,rfl,hn0⟩,hm0,hcm,hlm⟩:=h1
 obtain ⟨b,c',cur,e',fr,v1,v2,v3,v4,v5,v6,v7⟩:=VR_vec hv
 have hcc:=v5 c rfl
 subst hcc
 have hsrc : Src φ (Own φ H) w inf.size (blk.es.take n) (a.eval s):=by
  have:=Src.of_vec hR hv hf hbk (by omega)
  rwa [List.drop_zero] at this
 obtain ⟨a2,c2,olds,e1,o2,o3,o4,o5,o6⟩:=hsrc.ex
 have hl : (blk.es.take n).length=n:=by simp;omega
 rw[hl] at e1 o2
 rw[v2] at e1
 cases e1
 obtain ⟨m',rfl⟩ : ∃ m' : Nat,m=m':=⟨m.toNat,by omega⟩
 have hzv : VR φ (Own φ H) w za z:=ofConst_spec hc
 have hzs:=cells_size hzv ht0
 rw[hk] at hzs
 have hol : olds.length=n * inf.size:=o2
 have hold : (Builtin.firstCells inf.size n (.slice (some ⟨b,0 * inf.size,none⟩) n c')).run P w.drew = .ok olds.toArray w.drew:=by
  refine run_firstCells_some w.drew inf.size n ⟨b,0 * inf.size,none⟩ n c' olds hol fun j u hj=>?_
  have hp : 0 < (blk.es.take n).length:=by
   rcases Nat.eq_zero_or_pos (blk.es.take n).length with h | h
   ·rw[hl] at h
    rw[h,Nat.zero_mul] at hol
    have : olds=[]:=List.length_eq_zero_iff.1 hol
    subst this
    simp at hj
   ·exact h
  obtain ⟨ad',h,h'⟩:=o6 hp
  cases h
  exact h' j u hj
 have hbytes : (n+m') * inf.bytes ≤ 100000000 * 1000:=Nat.mul_le_mul (by omega) hby
 have hmb : m' * inf.bytes ≤ (n+m') * inf.bytes:=Nat.mul_le_mul_right _ (by omega)
 have hr2:=Go.Lib.run_append_grow_zeros (P:=P) w t tn o.type e inf z kq kn ht htn hi hz (some ⟨b,0 * inf.size,none⟩) n c' olds hold m' (by omega) hk0 (by omega) (by omega) (by omega) (growslice_fits (by omega) (by omega))
 have hge:=grownCap_ge w (n+m') c' e
 have hle:=grownCap_le_maxLen w (n+m') c' e (by unfold maxLen;omega)
 generalize hcap : grownCap w (n+m') c' e=cap at hr2 hge hle
 generalize harr : olds.toArray ++ Builtin.zeroCells z.cells m' ++ Builtin.zeroCells z.cells (cap - (n+m'))=arr at hr2
 have hsz : arr.size=cap * inf.size:=by
  rw[← harr]
  simp only[Array.size_append,List.size_toArray,size_zeroCells,hzs,hol,← Nat.add_mul]
  congr 1;omega
 have hdr:=drew_rel hR
 have hnc : ∀ x ∈ blk.es.take n ++ List.replicate m' za,x.ncells=inf.size:=fun x hx=>by
  rcases List.mem_append.1 hx with h | h
  ·exact o3 x h
  ·rw[List.eq_of_mem_replicate h];exact hk
 have hrs : Rs φ (Own φ H) w.drew (flat (blk.es.take n ++ List.replicate m' za)) (fun i=>arr[i]?):=by
  have hlt : Later (fun _=>True) φ φ (Own φ H) (Own φ H) w w.drew:=(drew_step φ H w).toLater
  refine Rs_later hlt _ _ _ (AV.idsL_true _) (fun i v hv=>hv) ?_
  rw[flat_append]
  have hfl : (flat (blk.es.take n)).length=n * inf.size:=by rw[flat_length o3,hl]
  refine Rs_append (Rs_congr (fun i hi=>?_) o4) (Rs_replicate (zc:=z.cells) (VR_Rs hzv ht0) hk hk0 m' _ (fun j hj=>?_))
  ·rw[← harr,Array.getElem?_append_left (by simp;omega),Array.getElem?_append_left (by simp;omega)]
   simp
  ·rw[← harr,hfl,Array.getElem?_append_left (by simp only[Array.size_append,List.size_toArray,size_zeroCells,hzs,hol];omega),Array.getElem?_append_right (by simp only[List.size_toArray,hol];omega)]
   simp only[List.size_toArray,hol,Nat.add_sub_cancel_left,Builtin.zeroCells]
   rw[hzs]
   have:=zeros_get hzs hk0 hj
   rwa [hzs] at this
 have hal:=hdr.alloc ⟨inf.size,blk.es.take n ++ List.replicate m' za,false,e⟩ (by assumption) arr cap hsz (by simp;omega) (fun h=>by simp at h) hle hnc hrs
 have hk2 : K (.vec inf.size H.length 0 (n+m') none) (some ⟨inf.size,blk.es.take n ++ List.replicate m' za,false,e⟩ :: H):=by
  simpa [GX.val,GX.heap,hf] using h2
 refine wp_value (hex (by rw[v2,VR_sc hw];exact hr2)) (hn _ _ _ _ _ hk2 ?_ hal.1 ((drew_step φ H w).trans hal.2))
 exact ⟨rfl,w.heap.size,cap,arr,e,(0,0),by simp[Phi.add],by simp[cget,Value.cells],hge,hle,fun m hm=>by simp at hm,heap_alloc_new w.drew _,by simpa using hsz⟩
theorem hs_copy {o : Oper} {t e : TypeId} {inf : TypeInfo} {d s : Operand} {d' s' : X} {args : Array Operand} {ats : Array TypeId} (ho : o.op = .call { callee:=.builtin .copy,args,argTypes:=ats }) (ha : args.toList=[d,s]) (hat : ats.toList=[t,t])
  (ht : P.underlying t=some (.slice e)) (hi : P.info? e=some inf) (hz : 0 < inf.size) (hd : ofX d=some d') (hs : ofX s=some s') : HSound P o (.gx (.copy inf.size) [d',s']):=by
 intro φ H w ts a hR hr K Kp h next Q hn hpp
 obtain rfl : args=#[d,s]:=by apply Array.toList_inj.1;simpa using ha
 obtain rfl : ats=#[t,t]:=by apply Array.toList_inj.1;simpa using hat
 have hv:=ofX_spec hr hd
 have hw:=ofX_spec hr hs
 have hex : ∀ {r : Value} {w' : World},(Builtin.copy_ #[t,t] o.type #[a.eval d,a.eval s]).run P w = .ok r w'→(execOp a.eval o).run P w = .ok (.value r) w':=by
  intro r w' h1
  simp only[execOp,ho,resolve,invoke,builtin,Sem.run_bind,Sem.run_pure,Result.andThen_ok,List.map_toArray,List.map_cons,List.map_nil,h1]
 simp only[HO.sem,List.map_cons,List.map_nil] at h
 obtain ⟨h1,h2⟩:=h
 have src : ∀ m,gsOk H inf.size m (X.ev ts s')→m ≤ gLen (X.ev ts s') ∧ ∃ ad c,a.eval s = .slice ad (gLen (X.ev ts s')) c ∧ ∃ ys,ys=gsV H m (X.ev ts s') ∧ ys.length=m ∧ ∃ news : List Value,news.length=m * inf.size ∧ (∀ x ∈ ys,x.ncells=inf.size) ∧ Rs φ (Own φ H) w (flat ys) (fun i=>news[i]?) ∧ (∀ u ∈ news,u.oneCell'=true) ∧
   (0 < m→∃ aa,ad=some aa ∧ ∀ j u,news[j]? = some u→w.cell? (aa.add j)=some u):=by
  intro m hm
  have fin : ∀ {b off c : Nat} {ys : List AV},Rl φ (Own φ H) w b inf.size ys off→∃ news : List Value,news.length=ys.length * inf.size ∧ (∀ x ∈ ys,x.ncells=inf.size) ∧ Rs φ (Own φ H) w (flat ys) (fun i=>news[i]?) ∧ (∀ u ∈ news,u.oneCell'=true) ∧ (0 < ys.length→∀ j u,news[j]? = some u→w.cell? ((⟨b,off,none⟩ : Addr).add j)=some u):=by
   intro b off c ys hl
   obtain ⟨a2,c2,news,e1,n2,n3,n4,n5,n6⟩:=(Src.of_mem (c:=c) hl).ex
   refine ⟨news,n2,n3,n4,n5,fun h0=>?_⟩
   obtain ⟨ad,e2,n7⟩:=n6 h0
   simp only[Value.slice.injEq] at e1
   rw[← e1.1] at e2
   cases e2
   exact n7
  cases hse : X.ev ts s' <;> rw[hse] at hm hw <;> try exact False.elim hm
  ·rename_i k xs room
   obtain ⟨hk,hl⟩:=hm
   obtain ⟨ad,c,g1,g2,g3,g4,g5,_⟩:=VR_lst hw
   refine ⟨hl,ad,c,g1,xs.take m,rfl,by simp;omega,?_⟩
   by_cases h0 : m=0
   ·subst h0
    exact ⟨[],by simp,by simp,trivial,by simp,fun h=>by omega⟩
   ·obtain ⟨b,off,rfl,g6,g7,g8⟩:=g5 (by omega)
    have hke : k=inf.size:=hk.resolve_right h0
    subst hke
    obtain ⟨news,n2,n3,n4,n5,n6⟩:=fin (c:=c) (Rl_take (n:=m) g8)
    have hlm : (xs.take m).length=m:=by simp;omega
    rw[hlm] at n2 n6
    exact ⟨news,n2,n3,n4,n5,fun h=>⟨_,rfl,n6 h⟩⟩
  ·rename_i k id off n c
   simp only[gsOk] at hm
   split at hm
   case h_2=>exact hm.elim
   rename_i blk hf
   obtain ⟨rfl,hbk,hmn,hmo⟩:=hm
   obtain ⟨b,c',cur,e0,fr,g1,g2,g3,g4,g5,g6,g7⟩:=VR_vec hw
   refine ⟨hmn,_,_,g2,(blk.es.drop off).take m,by simp only[gsV,hf],by simp;omega,?_⟩
   obtain ⟨_,cur2,cap,k1,k2,k3,k4,k5,k6⟩:=(hR.blk id b blk g1 hf).atCells g6
   have hl:=Rl_take (n:=m) (Rl_drop (f:=off) k6)
   rw[hbk,Nat.zero_add] at hl
   obtain ⟨news,n2,n3,n4,n5,n6⟩:=fin (c:=0) hl
   have hlm : ((blk.es.drop off).take m).length=m:=by simp;omega
   rw[hlm] at n2 n6
   exact ⟨news,n2,n3,n4,n5,fun h=>⟨_,rfl,n6 h⟩⟩
 have hl0 : ∀ (ad : Addr),(loadCells ad 0).run P w = .ok #[] w:=fun ad=>by simpa using run_loadCells_list (P:=P) w ad [] (fun j v h=>by simp at h)
 cases hde : X.ev ts d' <;> rw[hde] at h1 h2 hv <;> try exact False.elim h1
 ·rename_i k xs room
  cases xs with
  | cons x r=>exact h1.elim
  | nil =>
   obtain ⟨_,ad,c,e1,_⟩:=src 0 h1
   obtain ⟨bd,cd,e2,_⟩:=VR_lst hv
   have hrun : (Builtin.copy_ #[t,t] o.type #[a.eval d,a.eval s]).run P w = .ok (.int .i64 0) w:=by
    rw[e1,e2]
    cases ad <;> cases bd <;> simp[Builtin.copy_,run_underlying ht,Builtin.lenOf,Builtin.firstCells,sizeOf,typeInfo,hi,storeCells,hl0,goInt]
   have hval : GX.val H (.copy inf.size) [.lst k [] room,X.ev ts s'] = .sc (.int .i64 0):=by simp[GX.val,gLen]
   rw[hval] at h2
   exact wp_value (hex hrun) (hn _ _ φ H w h2 (sc_VR rfl) hR (Step.refl _ _ _))
 ·rename_i k id off n c
  have h1' : gcOk H inf.size (X.ev ts s') (.vec k id off n c):=h1
  simp only[gcOk] at h1'
  split at h1'
  case h_2=>exact h1'.elim
  rename_i blk hf
  obtain ⟨rfl,hbk,hoff,hex2,hsrc⟩:=h1'
  obtain ⟨hmle,ad,cs,e1,ys,hys,hyl,news,n2,n3,n4,n5,n6⟩:=src _ hsrc
  obtain ⟨b,c',cur0,e0,fr0,g1,e2,g3,g4,g5,g6,g7⟩:=VR_vec hv
  obtain ⟨hk0,cur,cap,k1,k2,k3,k4,k5,k6⟩:=(hR.blk id b blk g1 hf).atCells g6
  rw[k1] at g6
  simp only[Option.some.injEq,Obj.cells.injEq] at g6
  rw[← g6.1] at g7
  generalize hm : min (gLen (X.ev ts s')) n=m at *
  have hmn : m ≤ n:=by omega
  have hcapn : off+c'=cap:=by
   have : (off+c') * blk.k=cap * blk.k:=by rw[← k2,g7,hbk]
   exact Nat.eq_of_mul_eq_mul_right (by omega) this
  have hroom : off+m ≤ cap:=by omega
  have hsz : inf.size=blk.k:=hbk.symm
  rw[hsz] at h2 n2 n3 e2 g7
  have hval : GX.val H (.copy blk.k) [.vec blk.k id off n c,X.ev ts s'] = .sc (.int .i64 (m : Nat)):=by
   show AV.sc (.int .i64 ((min (gLen (X.ev ts s')) n : Nat) : Int))=_
   rw[hm]
  rw[hval] at h2
  have hheap : GX.heap H (.copy blk.k) [.vec blk.k id off n c,X.ev ts s']=AHeap.set H id (some { blk with es:=blk.es.take off ++ ys ++ blk.es.drop (off+m) }):=by
   show gcH H (X.ev ts s') (.vec blk.k id off n c)=_
   simp only[gcH,hf,hm,hys]
  rw[hheap] at h2
  obtain ⟨f1,f2⟩:=Rl_flat k6
  have hfl : (flat blk.es).length=blk.es.length * blk.k:=flat_length f1
  have hyk : ∀ x ∈ ys,x.ncells=blk.k:=n3
  have hyf : (flat ys).length=m * blk.k:=by rw[flat_length hyk,hyl]
  have hnm : off * blk.k ≤ blk.es.length * blk.k:=Nat.mul_le_mul_right _ hoff
  have hcm : blk.es.length * blk.k ≤ cap * blk.k:=Nat.mul_le_mul_right _ k3
  have hnc : (off+m) * blk.k ≤ cap * blk.k:=Nat.mul_le_mul_right _ hroom
  have hadd : (off+m) * blk.k=off * blk.k+m * blk.k:=Nat.add_mul _ _ _
  have hst:=run_storeCells_at (P:=P) b (off * blk.k) blk.ty news 0 cur w k1 (by rw[n2,k2];omega) n5
  have hrun : (Builtin.copy_ #[t,t] o.type #[a.eval d,a.eval s]).run P w = .ok (.int .i64 (m : Nat)) (w.setRow b (cur.toList.take (off * blk.k+0) ++ news ++ cur.toList.drop (off * blk.k+0+news.length)).toArray):=by
   rw[e1,e2]
   have hmin : Nat.min (gLen (X.ev ts s')) n=m:=hm
   by_cases h0 : 0 < m
   ·obtain ⟨aa,rfl,hnews⟩:=n6 h0
    have hld:=run_loadCells_list (P:=P) w aa news hnews
    rw[n2] at hld
    simp[Builtin.copy_,run_underlying ht,Builtin.lenOf,Builtin.firstCells,sizeOf,typeInfo,hi,hsz,hmin,hld,hst,goInt]
   ·have h00 : m=0:=by omega
    have hnil : news=[]:=List.length_eq_zero_iff.1 (by rw[n2,h00,Nat.zero_mul])
    subst hnil
    cases ad with
    | none=>simp[Builtin.copy_,run_underlying ht,Builtin.lenOf,Builtin.firstCells,sizeOf,typeInfo,hi,hsz,hmin,h00,hst,goInt]
    | some ad=>simp[Builtin.copy_,run_underlying ht,Builtin.lenOf,Builtin.firstCells,sizeOf,typeInfo,hi,hsz,hmin,h00,hl0,hst,goInt]
  have hkes : ∀ x ∈ blk.es.take off ++ ys ++ blk.es.drop (off+m),x.ncells=blk.k:=by
   intro x hx
   rcases List.mem_append.1 hx with hx | hx
   ·rcases List.mem_append.1 hx with hx | hx
    ·exact f1 x (List.mem_of_mem_take hx)
    ·exact hyk x hx
   ·exact f1 x (List.mem_of_mem_drop hx)
  have hflat : flat (blk.es.take off ++ ys ++ blk.es.drop (off+m))=(flat blk.es).take (off * blk.k) ++ flat ys ++ (flat blk.es).drop (off * blk.k+m * blk.k):=by
   rw[flat_append,flat_append,flat_take f1,flat_drop f1,hadd]
  have hlen' : (blk.es.take off ++ ys ++ blk.es.drop (off+m)).length ≤ cap:=by simp;omega
  have hcl : (cur.toList.take (off * blk.k)).length=off * blk.k:=by simp;omega
  have hl1 : ((flat blk.es).take (off * blk.k)).length=off * blk.k:=by rw[List.length_take,hfl];exact Nat.min_eq_left hnm
  have hwr:=hR.write hk0 g1 hf k1 k2 (blk.es.take off ++ ys ++ blk.es.drop (off+m)) (cur':=(cur.toList.take (off * blk.k+0) ++ news ++ cur.toList.drop (off * blk.k+0+news.length)).toArray) (by simp[n2];omega) hlen' k5 (fun hx=>by
    have h3:=k4 hx
    rcases hex2 with h4 | h4
    ·rw[hx] at h4;simp at h4
    ·simp;omega) hkes (by
   rw[hflat,Nat.add_zero]
   refine Rs_append (Rs_append (Rs_congr (fun q hq=>?_) (Rs_take (n:=off * blk.k) f2)) (Rs_congr (fun q hq=>?_) n4)) (Rs_congr (fun q hq=>?_) (Rs_drop (f:=off * blk.k+m * blk.k) f2))
   ·have hq' : q < off * blk.k:=by rw[hl1] at hq;exact hq
    simp only[List.getElem?_toArray]
    rw[List.append_assoc,List.getElem?_append_left (by omega),List.getElem?_take_of_lt hq',memAt_cells k1]
    simp
   ·have hq' : q < m * blk.k:=by rw[hyf] at hq;exact hq
    rw[hl1]
    simp only[List.getElem?_toArray]
    rw[List.getElem?_append_left (by rw[List.length_append,hcl,n2];omega),List.getElem?_append_right (by omega),hcl]
    congr 1
    omega
   ·have hl : ((flat blk.es).take (off * blk.k) ++ flat ys).length=off * blk.k+m * blk.k:=by rw[List.length_append,hl1,hyf]
    rw[hl]
    simp only[List.getElem?_toArray]
    have hl2 : (cur.toList.take (off * blk.k) ++ news).length=off * blk.k+m * blk.k:=by rw[List.length_append,hcl,n2]
    rw[List.getElem?_append_right (by omega),hl2,memAt_cells k1,n2]
    simp)
  exact wp_value (hex hrun) (hn _ _ φ _ _ h2 (sc_VR rfl) hwr.1 hwr.2)
theorem compH0_sound {b : Bool} {o : Oper} {op : HO} (h : compH0 P b o=some op) : HSound P o op:=by
 unfold compH0 at h
 split at h
 ·rename_i t x ho
  split at h <;> cases h
  exact hs_load ho (by assumption) (by assumption)
 ·rename_i t ho
  split at h
  case h_2=>simp at h
  rename_i z hz
  split at h
  case h_2=>simp at h
  rename_i z' hc
  split at h
  case isFalse=>simp at h
  rename_i ht
  cases h
  rw[Option.bind_eq_some_iff] at hz
  obtain ⟨i,h1,h2⟩:=hz
  exact hs_alloc ho h1 h2 hc ht.1 ht.2
 ·rename_i t x ho
  split at h
  case h_2=>simp at h
  split at h
  case isFalse=>simp at h
  cases h
  exact hs_box (by assumption) ho (by assumption)
 ·rename_i t ln parts ho
  split at h
  case h_2=>simp at h
  rename_i e ht
  split at h
  case h_2=>simp at h
  rename_i i hi
  split at h
  case h_2=>simp at h
  rename_i z ps hz hps
  split at h
  case isFalse=>simp at h
  rename_i hc
  obtain ⟨c1,c2,c3,c4⟩:=hc
  cases h
  rw[Option.bind_eq_some_iff] at hz
  obtain ⟨zv,h1,h2⟩:=hz
  cases b with
  | true=>exact hs_bslV ho ht hi h1 h2 hps c1 c2 c3 c4
  | false=>exact hs_bsl ho ht hi h1 h2 hps c1 c2 c3 c4
 ·rename_i t x y ho
  split at h <;> cases h
  exact hs_store ho (by assumption) (by assumption) (by assumption)
 ·rename_i t l c ho
  split at h
  case h_2=>simp at h
  rename_i e ht
  split at h
  case h_2=>simp at h
  rename_i i l' c' hi hl hc
  split at h
  case h_2=>simp at h
  rename_i z hz
  split at h
  case isFalse=>simp at h
  rename_i hcc
  obtain ⟨c1,c2,c3,c4⟩:=hcc
  cases h
  rw[Option.bind_eq_some_iff] at hz
  obtain ⟨zv,h1,h2⟩:=hz
  exact hs_mksl ho ht hi h1 h2 hl hc c1 c2 c3 c4
 ·rename_i args ats ho
  split at h
  case h_2=>simp at h
  rename_i s x t t' ha hat
  split at h
  case isFalse =>
   unfold compZ at h
   split at h
   case h_2=>simp at h
   rename_i e kn h1 h2
   split at h
   case h_2=>simp at h
   rename_i i s' x' h3 h4 h5
   split at h
   case h_2=>simp at h
   rename_i z h6
   split at h
   case isFalse=>simp at h
   rename_i hcc
   obtain ⟨d1,d2,d3,d4⟩:=hcc
   cases h
   rw[Option.bind_eq_some_iff] at h6
   obtain ⟨zv,f1,f2⟩:=h6
   exact hs_appz ho ha hat h1 h2 h3 f1 f2 d1 d2 d3 d4 h4 h5
  rename_i hte
  subst hte
  split at h
  case h_2=>simp at h
  rename_i e ht
  split at h
  case h_2=>simp at h
  rename_i i s' x' hi hs hx
  split at h
  case h_2=>simp at h
  rename_i z hz
  split at h
  case isFalse=>simp at h
  rename_i hcc
  cases h
  exact hs_app ho ha hat ht hi hz hcc.1 hcc.2.1 hcc.2.2 hs hx
 ·rename_i f args ats ho
  split at h
  case isFalse=>exact hs_ext ho h
  rename_i hc
  rw[Option.map_eq_some_iff] at h
  obtain ⟨as,h1,rfl⟩:=h
  exact hs_call ho hc h1
 ·rename_i t args ats ho
  rw[Option.map_eq_some_iff] at h
  obtain ⟨as,h1,rfl⟩:=h
  exact hs_callv ho h1
 ·rename_i x ho
  rw[Option.map_eq_some_iff] at h
  obtain ⟨x',h1,rfl⟩:=h
  exact hs_pan ho h1
 ·rename_i s d x ho
  split at h
  case h_2=>simp at h
  rename_i e x' h1 h2 h3
  split at h
  case isFalse=>simp at h
  rename_i h4
  cases h
  exact hs_s2b ho h1 h2 (isU8_spec h4) h3
 ·rename_i args ats ho
  split at h
  case h_2=>simp at h
  rename_i x t ha hat
  split at h
  case h_2=>simp at h
  rename_i e x' h1 h2
  cases h
  exact hs_cap ho ha hat h1 h2
 ·rename_i args ats ho
  split at h
  case h_2=>simp at h
  rename_i d s t t' ha hat
  split at h
  case isFalse=>simp at h
  rename_i hte
  subst hte
  split at h
  case h_2=>simp at h
  rename_i e ht
  split at h
  case h_2=>simp at h
  rename_i i d' s' hi hd hs
  split at h
  case isFalse=>simp at h
  rename_i hz
  cases h
  exact hs_copy ho ha hat ht hi hz hd hs
 ·rename_i op t x y ty ho
  split at h
  case h_2=>simp at h
  rename_i ks x' y' h1 h2 h3
  split at h
  ·cases h
   exact hs_eqA ho h1 rfl h2 h3
  ·cases h
   exact hs_eqA ho h1 rfl h2 h3
  ·simp at h
 ·exact hs_map rfl h
end
end Go.Proofs.YtdjnccnecgblmaaGreatDoor
namespace Go.Proofs.YtdjnccnecgblmaaGreatDoor
open Go.RowKit
set_option linter.unusedVariables false
set_option linter.unusedSimpArgs false
section
variable {P : Program}
theorem byteL_size (s : ByteArray) : (byteL s).length=s.size:=by simp[byteL]
theorem byteL_ncells {s : ByteArray} : ∀ x ∈ byteL s,x.ncells=1:=by
 intro x hx
 simp only[byteL,List.mem_map] at hx
 obtain ⟨b,_,rfl⟩:=hx
 rfl
theorem flat_byteL (s : ByteArray) : flat (byteL s)=byteL s:=by
 unfold byteL
 generalize s.data.toList=l
 induction l with
 | nil=>rfl
 | cons b r ih=>rw[List.map_cons,flat_cons,ih];rfl
theorem Rs_byteL {φ : Phi} {O : Nat→Prop} {w : World} (s : ByteArray) : Rs φ O w (byteL s) (fun i=>(Lib.strCells s)[i]?):=by
 rw[Lib.strCells_eq]
 unfold byteL Lib.byteCells
 generalize s.data.toList=l
 induction l with
 | nil=>trivial
 | cons b r ih=>exact ⟨rfl,rfl,⟨_,rfl,rfl⟩,ih⟩
theorem exB {o : Oper} {b : Builtin} {args : Array Operand} {ats : Array TypeId} {a : Act} {w w' : World} {r : Value} (ho : o.op = .call { callee:=.builtin b,args,argTypes:=ats }) (hb : ∀ c,(builtin b ats o.type c (args.map a.eval)).run P w = .ok (.value r) w') : (execOp a.eval o).run P w = .ok (.value r) w':=by
 simp only[execOp,ho,resolve,invoke,Sem.run_bind,Sem.run_pure,Result.andThen_ok]
 exact hb _
theorem hs_copyS {o : Oper} {t t' e : TypeId} {d s : Operand} {d' s' : X} {args : Array Operand} {ats : Array TypeId} (ho : o.op = .call { callee:=.builtin .copy,args,argTypes:=ats }) (ha : args.toList=[d,s]) (hat : ats.toList=[t,t'])
  (ht : P.underlying t=some (.slice e)) (hi : (P.info? e).map (·.size)=some 1) (hd : ofX d=some d') (hs : ofX s=some s') : HSound P o (.gx .copyS [d',s']):=by
 intro φ H w ts a hR hr K Kp h next Q hn hpp
 obtain rfl : args=#[d,s]:=by apply Array.toList_inj.1;simpa using ha
 obtain rfl : ats=#[t,t']:=by apply Array.toList_inj.1;simpa using hat
 have hv:=ofX_spec hr hd
 have hw:=ofX_spec hr hs
 simp only[HO.sem,List.map_cons,List.map_nil] at h
 obtain ⟨h1,h2⟩:=h
 generalize X.ev ts d'=x1 at h1 h2 hv
 generalize X.ev ts s'=x2 at h1 h2 hw
 match x1,x2,h1 with
 | .vec k id off n c,.sc (.string x),h1 =>
  have h1':=h1
  simp only[GX.ok] at h1'
  split at h1'
  case h_2=>exact h1'.elim
  rename_i blk hf
  obtain ⟨rfl,hbk,hle,hxn⟩:=h1'
  have hsx:=VR_sc hw
  obtain ⟨b,c',cur0,e0,fr0,g1,e2,g3,g4,g5,g6,g7⟩:=VR_vec hv
  obtain ⟨hk0,cur,cap,k1,k2,k3,k4,k5,k6⟩:=(hR.blk id b blk g1 hf).atCells g6
  rw[hbk,Nat.mul_one] at k2
  rw[Nat.mul_one] at e2
  have hrun:=Lib.run_copy_row_string (P:=P) w t t' o.type e b off n c' x cur blk.ty ht hi k1 hxn (by omega)
  have hheap : GX.heap H .copyS [.vec 1 id off n c,.sc (.string x)]=AHeap.set H id (some { blk with es:=blk.es.take off ++ byteL x ++ blk.es.drop (off+x.size) }):=by
   simp only[GX.heap,hf]
  rw[hheap] at h2
  obtain ⟨f1,f2⟩:=Rl_flat k6
  have hfl : (flat blk.es).length=blk.es.length:=by rw[flat_length f1,hbk,Nat.mul_one]
  have hbl : (Lib.byteCells x.data.toList).length=x.size:=by rw[Lib.byteCells_length];exact (Lib.size_eq x).symm
  have hkes : ∀ y ∈ blk.es.take off ++ byteL x ++ blk.es.drop (off+x.size),y.ncells=blk.k:=by
   intro y hy
   rcases List.mem_append.1 hy with hy | hy
   ·rcases List.mem_append.1 hy with hy | hy
    ·exact f1 y (List.mem_of_mem_take hy)
    ·rw[hbk];exact byteL_ncells y hy
   ·exact f1 y (List.mem_of_mem_drop hy)
  have ft : ∀ j,flat (blk.es.take j)=(flat blk.es).take j:=fun j=>by have:=flat_take f1 j;rwa [hbk,Nat.mul_one] at this
  have fd : ∀ j,flat (blk.es.drop j)=(flat blk.es).drop j:=fun j=>by have:=flat_drop f1 j;rwa [hbk,Nat.mul_one] at this
  have hbl2 : (byteL x).length=x.size:=byteL_size x
  have hwr:=hR.write hk0 g1 hf k1 (by rw[hbk,Nat.mul_one];exact k2) (blk.es.take off ++ byteL x ++ blk.es.drop (off+x.size)) (cur':=(cur.toList.take off ++ Lib.byteCells x.data.toList ++ cur.toList.drop (off+x.size)).toArray) (by simp[hbl];omega) (by simp[hbl2];omega) k5 (fun hx=>by
    have h3:=k4 hx
    simp[hbl2];omega) hkes (by
   rw[flat_append,flat_append,ft,fd,flat_byteL]
   have hl1 : ((flat blk.es).take off).length=off:=by rw[List.length_take,hfl];omega
   have hcl : (cur.toList.take off).length=off:=by simp;omega
   refine Rs_append (Rs_append (Rs_congr (fun q hq=>?_) (Rs_take (n:=off) f2)) (Rs_congr (fun q hq=>?_) (Rs_byteL x))) (Rs_congr (fun q hq=>?_) (Rs_drop (f:=off+x.size) f2))
   ·have hq' : q < off:=by rw[hl1] at hq;exact hq
    simp only[List.getElem?_toArray]
    rw[List.append_assoc,List.getElem?_append_left (by omega),List.getElem?_take_of_lt hq',memAt_cells k1]
    simp
   ·rw[hbl2] at hq
    rw[hl1]
    simp only[List.getElem?_toArray]
    rw[List.getElem?_append_left (by rw[List.length_append,hcl,hbl];omega),List.getElem?_append_right (by omega),hcl,Lib.strCells_eq]
    congr 1
    omega
   ·have hl : ((flat blk.es).take off ++ byteL x).length=off+x.size:=by rw[List.length_append,hl1,hbl2]
    rw[hl]
    simp only[List.getElem?_toArray]
    have hl2 : (cur.toList.take off ++ Lib.byteCells x.data.toList).length=off+x.size:=by rw[List.length_append,hcl,hbl]
    rw[List.getElem?_append_right (by omega),hl2,memAt_cells k1]
    simp)
  refine wp_value (exB ho fun c=>?_) (hn _ _ φ _ _ h2 (sc_VR rfl) hwr.1 hwr.2)
  simp only[builtin,Sem.run_bind,Sem.run_pure,List.map_toArray,List.map_cons,List.map_nil,e2,hsx,hrun,Result.andThen_ok]
  rfl
theorem append_newS {φ : Phi} {w : World} {H : AHeap} (hR : Rel φ H w) {t t' ty e : TypeId} {inf : TypeInfo} {z : Value} (ht : P.underlying t=some (.slice e)) (ht' : P.underlying t'=some .string) (hi : P.info? e=some inf) (hz : inf.zero=some z) (hzs : z.cells.size=1) (hs1 : inf.size=1) (hby : inf.bytes=1)
  {xs : List AV} {s : Value} {x : ByteArray} (hs : Src φ (Own φ H) w 1 xs s) (hy : 0 < x.size) (hb : xs.length+x.size ≤ 100000000) (hc : ∃ a c,s = .slice a xs.length c ∧ c < xs.length+x.size ∧ (a=none→c=0)) :
  ∃ c' w',(Builtin.append_ #[t,t'] ty #[s,.string x]).run P w = .ok (.slice (some ⟨w.heap.size,0,none⟩) (xs.length+x.size) c') w' ∧
   Rel (φ.add H.length w.heap.size) (some ⟨1,xs ++ byteL x,false,e⟩ :: H) w' ∧ Step φ H w (φ.add H.length w.heap.size) (some ⟨1,xs ++ byteL x,false,e⟩ :: H) w' ∧
   VR (φ.add H.length w.heap.size) (Own (φ.add H.length w.heap.size) (some ⟨1,xs ++ byteL x,false,e⟩ :: H)) w' (.vec 1 H.length 0 (xs.length+x.size) none) (.slice (some ⟨w.heap.size,0,none⟩) (xs.length+x.size) c'):=by
 obtain ⟨a,c,olds,e1,o2,o3,o4,o5,o6⟩:=hs.ex
 obtain ⟨a',c',e3,hlt,hn0⟩:=hc
 rw[e1] at e3
 cases e3
 subst e1
 rw[Nat.mul_one] at o2
 have hbl2 : (byteL x).length=x.size:=byteL_size x
 have n2 : (Lib.strCells x).length=x.size:=by rw[Lib.strCells_eq,Lib.byteCells_length];exact (Lib.size_eq x).symm
 have hdr:=drew_rel hR
 have hfin : ∀ (cap : Nat) (arr : Array Value),xs.length+x.size ≤ cap→cap ≤ maxLen→arr.size=cap→(∀ i,i < (olds ++ Lib.strCells x).length→arr[i]? = (olds ++ Lib.strCells x)[i]?) →
   Rel (φ.add H.length w.heap.size) (some ⟨1,xs ++ byteL x,false,e⟩ :: H) (w.drew.alloc (.cells arr e)) ∧ Step φ H w (φ.add H.length w.heap.size) (some ⟨1,xs ++ byteL x,false,e⟩ :: H) (w.drew.alloc (.cells arr e)) ∧
   VR (φ.add H.length w.heap.size) (Own (φ.add H.length w.heap.size) (some ⟨1,xs ++ byteL x,false,e⟩ :: H)) (w.drew.alloc (.cells arr e)) (.vec 1 H.length 0 (xs.length+x.size) none) (.slice (some ⟨w.heap.size,0,none⟩) (xs.length+x.size) cap):=by
  intro cap arr h1 h2 h3 h4
  have hk : ∀ y ∈ xs ++ byteL x,y.ncells=1:=fun y hy=>by
   rcases List.mem_append.1 hy with h | h
   ·exact o3 y h
   ·exact byteL_ncells y h
  have hrs : Rs φ (Own φ H) w.drew (flat (xs ++ byteL x)) (fun i=>arr[i]?):=by
   have hl : Later (fun _=>True) φ φ (Own φ H) (Own φ H) w w.drew:=(drew_step φ H w).toLater
   refine Rs_later hl _ _ _ (AV.idsL_true _) (fun i v hv=>hv) ?_
   rw[flat_append,flat_byteL]
   have hol : (flat xs).length=olds.length:=by rw[flat_length o3,o2,Nat.mul_one]
   refine Rs_append (Rs_congr (fun i hi=>?_) o4) (Rs_congr (fun i hi=>?_) (Rs_byteL x))
   ·rw[h4 i (by simp;omega),List.getElem?_append_left (by omega)]
   ·rw[h4 _ (by simp;omega),List.getElem?_append_right (by omega)]
    congr 1
    omega
  have:=hdr.alloc ⟨1,xs ++ byteL x,false,e⟩ (Nat.zero_lt_one) arr cap (by rw[h3,Nat.mul_one]) (by simp[hbl2];omega) (fun h=>by simp at h) h2 hk hrs
  refine ⟨this.1,(drew_step φ H w).trans this.2,rfl,?_⟩
  refine ⟨w.heap.size,cap,arr,e,(0,0),by simp[Phi.add],by simp[cget,Value.cells],h1,h2,fun m hm=>by simp at hm,heap_alloc_new w.drew _,by simpa using h3⟩
 cases a with
 | none =>
  have hc0:=hn0 rfl
  have hx : xs=[]:=by
   cases xs with
   | nil=>rfl
   | cons y r=>obtain ⟨_,h,_⟩:=o6 (by simp);simp at h
  subst hc0
  subst hx
  have ho : olds=[]:=List.length_eq_zero_iff.1 (by simpa using o2)
  subst ho
  have hr:=run_append_nil_string (P:=P) w t t' ty e inf z ht ht' hi hz x hy (by simp at hb;omega) (by simp at hb;rw[hby];omega)
  simp only[List.length_nil,Nat.zero_add,List.nil_append] at hfin hb ⊢
  have hge:=grownCap_ge w x.size 0 e
  have hxa : x.data.map (fun b=>Value.int .u8 b.toNat)=(Lib.strCells x).toArray:=by
   apply Array.ext'
   simp[Lib.strCells]
  rw[hxa] at hr
  obtain ⟨f1,f2,f3⟩:=hfin (grownCap w x.size 0 e) ((Lib.strCells x).toArray ++ Builtin.zeroCells z.cells (grownCap w x.size 0 e - x.size)) hge (grownCap_le_maxLen w _ _ _ (by unfold maxLen;omega))
   (by simp only[Array.size_append,List.size_toArray,size_zeroCells,hzs,n2,Nat.mul_one];omega) (fun i hi=>by rw[Array.getElem?_append_left (by simpa using hi)];simp)
  exact ⟨_,_,hr,f1,f2,f3⟩
 | some b =>
  have holds : ∀ j u,olds[j]? = some u→w.cell? (b.add j)=some u:=fun j u hj=>by
   have hp : 0 < xs.length:=by
    rcases Nat.eq_zero_or_pos xs.length with h | h
    ·rw[h] at o2
     have : olds=[]:=List.length_eq_zero_iff.1 (by simpa using o2)
     subst this
     simp at hj
    ·exact h
   obtain ⟨ad',h,h'⟩:=o6 hp
   cases h
   exact h' j u hj
  have hr:=Lib.run_append_grow_string (P:=P) w t t' ty e inf z ht ht' hi hz b xs.length c olds (by rw[hs1,Nat.mul_one];exact o2) holds x hlt (by omega) (growslice_fits (by omega) (by rw[hby];omega))
  have hge:=grownCap_ge w (xs.length+x.size) c e
  obtain ⟨f1,f2,f3⟩:=hfin (grownCap w (xs.length+x.size) c e) (olds.toArray ++ (Lib.strCells x).toArray ++ Builtin.zeroCells z.cells (grownCap w (xs.length+x.size) c e - (xs.length+x.size))) hge (grownCap_le_maxLen w _ _ _ (by unfold maxLen;omega))
   (by simp only[Array.size_append,List.size_toArray,size_zeroCells,hzs,n2,o2,Nat.mul_one];omega) (fun i hi=>by rw[Array.getElem?_append_left (by simpa using hi)];simp[List.getElem?_append])
  exact ⟨_,_,hr,f1,f2,f3⟩
theorem append_inS {φ : Phi} {H : AHeap} {w : World} (hR : Rel φ H w) {t t' ty e : TypeId} {inf : TypeInfo} (ht : P.underlying t=some (.slice e)) (ht' : P.underlying t'=some .string) (hi : P.info? e=some inf) (hs1 : inf.size=1)
  {id b n c' cap : Nat} {blk : ABlk} {cur : Array Value} {x : ByteArray} (hm : φ id=some b) (hf : AHeap.find H id=some blk) (hb : w.heap[b]? = some (.cells cur blk.ty (0,0))) (hsz : cur.size=cap) (hk : blk.k=1) (hty : blk.ty=e)
  (hel : blk.es.length ≤ cap) (hmx : cap ≤ maxLen) (hrl : Rl φ (Own φ H) w b blk.k blk.es 0) (hn : n ≤ blk.es.length) (hroom : n+x.size ≤ c') (hc : c' ≤ cap)
  (es' : List AV) (hes : es'=blk.es.take n ++ byteL x ++ blk.es.drop (n+x.size)) (hex' : blk.exact=true→cap=es'.length) :
  ∃ w',(Builtin.append_ #[t,t'] ty #[.slice (some ⟨b,0,none⟩) n c',.string x]).run P w = .ok (.slice (some ⟨b,0,none⟩) (n+x.size) c') w' ∧
   Rel φ (AHeap.set H id (some { blk with es:=es' })) w' ∧ Step φ H w φ (AHeap.set H id (some { blk with es:=es' })) w':=by
 have hrun:=Lib.run_append_room_string (P:=P) w t t' ty e inf ht ht' hi hs1 b n c' cur (by rw[← hty];exact hb) x hroom (by omega)
 obtain ⟨f1,f2⟩:=Rl_flat hrl
 have hfl : (flat blk.es).length=blk.es.length:=by rw[flat_length f1,hk,Nat.mul_one]
 have hbl : (Lib.strCells x).length=x.size:=by rw[Lib.strCells_eq,Lib.byteCells_length];exact (Lib.size_eq x).symm
 have hbl2 : (byteL x).length=x.size:=byteL_size x
 have hkes : ∀ y ∈ es',y.ncells=blk.k:=by
  intro y hy
  rw[hes] at hy
  rcases List.mem_append.1 hy with hy | hy
  ·rcases List.mem_append.1 hy with hy | hy
   ·exact f1 y (List.mem_of_mem_take hy)
   ·rw[hk];exact byteL_ncells y hy
  ·exact f1 y (List.mem_of_mem_drop hy)
 have ft : ∀ j,flat (blk.es.take j)=(flat blk.es).take j:=fun j=>by have:=flat_take f1 j;rwa [hk,Nat.mul_one] at this
 have fd : ∀ j,flat (blk.es.drop j)=(flat blk.es).drop j:=fun j=>by have:=flat_drop f1 j;rwa [hk,Nat.mul_one] at this
 have hlen' : es'.length ≤ cap:=by rw[hes];simp[hbl2];omega
 have hw:=hR.write (by rw[hk];exact Nat.zero_lt_one) hm hf hb (by rw[hk,Nat.mul_one];exact hsz) es' (cur':=(cur.toList.take n ++ Lib.strCells x ++ cur.toList.drop (n+x.size)).toArray) (by simp[hbl];omega) hlen' hmx hex' hkes (by
  rw[hes,flat_append,flat_append,ft,fd,flat_byteL]
  have hl1 : ((flat blk.es).take n).length=n:=by rw[List.length_take,hfl];omega
  have hcl : (cur.toList.take n).length=n:=by simp;omega
  refine Rs_append (Rs_append (Rs_congr (fun q hq=>?_) (Rs_take (n:=n) f2)) (Rs_congr (fun q hq=>?_) (Rs_byteL x))) (Rs_congr (fun q hq=>?_) (Rs_drop (f:=n+x.size) f2))
  ·have hq' : q < n:=by rw[hl1] at hq;exact hq
   simp only[List.getElem?_toArray]
   rw[List.append_assoc,List.getElem?_append_left (by omega),List.getElem?_take_of_lt hq',memAt_cells hb]
   simp
  ·rw[hbl2] at hq
   rw[hl1]
   simp only[List.getElem?_toArray]
   rw[List.getElem?_append_left (by rw[List.length_append,hcl,hbl];omega),List.getElem?_append_right (by omega),hcl]
   congr 1
   omega
  ·have hl : ((flat blk.es).take n ++ byteL x).length=n+x.size:=by rw[List.length_append,hl1,hbl2]
   rw[hl]
   simp only[List.getElem?_toArray]
   have hl2 : (cur.toList.take n ++ Lib.strCells x).length=n+x.size:=by rw[List.length_append,hcl,hbl]
   rw[List.getElem?_append_right (by omega),hl2,memAt_cells hb]
   simp)
 exact ⟨_,hrun,hw.1,hw.2⟩
theorem hs_appS {o : Oper} {t t' e : TypeId} {inf : TypeInfo} {z : Value} {d s : Operand} {d' s' : X} {args : Array Operand} {ats : Array TypeId} (ho : o.op = .call { callee:=.builtin .append,args,argTypes:=ats }) (ha : args.toList=[d,s]) (hat : ats.toList=[t,t'])
  (ht : P.underlying t=some (.slice e)) (ht' : P.underlying t'=some .string) (hi : P.info? e=some inf) (hz : inf.zero=some z) (hzs : z.cells.size=1) (hs1 : inf.size=1) (hby : inf.bytes=1) (hd : ofX d=some d') (hs : ofX s=some s') : HSound P o (.gx (.appS e) [d',s']):=by
 intro φ H w ts a hR hr K Kp h next Q hn hpp
 obtain rfl : args=#[d,s]:=by apply Array.toList_inj.1;simpa using ha
 obtain rfl : ats=#[t,t']:=by apply Array.toList_inj.1;simpa using hat
 have hv:=ofX_spec hr hd
 have hw:=ofX_spec hr hs
 simp only[HO.sem,List.map_cons,List.map_nil] at h
 obtain ⟨h1,h2⟩:=h
 generalize X.ev ts d'=x1 at h1 h2 hv
 generalize X.ev ts s'=x2 at h1 h2 hw
 obtain ⟨x,rfl⟩ : ∃ x,x2 = .sc (.string x):=by
  match x1,x2,h1 with
  | _,.sc (.string x),_=>exact ⟨x,rfl⟩
 have hsx:=VR_sc hw
 have hok : asOk H e x x1:=h1
 have hex : ∀ {r : Value} {w' : World},(Builtin.append_ #[t,t'] o.type #[a.eval d,.string x]).run P w = .ok r w'→(execOp a.eval o).run P w = .ok (.value r) w':=fun {r w'} h1=>exB ho fun c=>by
  simp only[builtin,Sem.run_bind,Sem.run_pure,List.map_toArray,List.map_cons,List.map_nil,hsx,h1,Result.andThen_ok]
 have hnilcase : ∀ {ad : Option Addr} {x1 : AV},(∀ id,x1 ≠ id→True)→K (if x.size=0 then x1 else .vec 1 H.length 0 x.size none) (if x.size=0 then H else some ⟨1,byteL x,false,e⟩ :: H)→VR φ (Own φ H) w x1 (a.eval d)→a.eval d = .slice ad 0 0→x.size ≤ 100000000→o.wp P a w next Q:=by
  intro ad x1 _ hK hv he hx
  by_cases h0 : x.size=0
  ·rw[if_pos h0,if_pos h0] at hK
   refine wp_value (hex ?_) (hn _ _ _ _ _ hK hv hR (Step.refl _ _ _))
   have hfc:=Lib.run_firstCells_string (P:=P) w inf.size x
   have hsc : Lib.strCells x=[]:=List.length_eq_zero_iff.1 (by rw[Lib.strCells_length];exact h0)
   rw[h0,hsc] at hfc
   rw[he]
   cases ad <;> simp[Builtin.append_,run_underlying ht,run_underlying ht',sizeOf,typeInfo,hi,Builtin.lenOf,h0,hfc,storeCells]
  ·rw[if_neg h0,if_neg h0] at hK
   obtain ⟨c',w',r1,r2,r3,r4⟩:=append_newS (P:=P) hR (ty:=o.type) ht ht' hi hz hzs hs1 hby (xs:=[]) (s:=a.eval d) (x:=x) ⟨ad,0,[],he,rfl,by simp,trivial,by simp,fun h=>by simp at h⟩ (by omega) (by simpa using hx) ⟨ad,0,he,by simp;omega,fun _=>rfl⟩
   simp only[List.length_nil,Nat.zero_add,List.nil_append] at r1 r2 r3 r4
   exact wp_value (hex r1) (hn _ _ _ _ _ hK r4 r2 r3)
 unfold asOk at hok
 split at hok
 ·exact hnilcase (ad:=none) (fun _ _=>trivial) h2 hv (VR_sc hv) hok
 ·rename_i k
  obtain ⟨ad,c,hva,c1,c2,c3,c4,c5⟩:=VR_lst hv
  have hc0 : c=0:=by have:=c5.1;simpa using this
  rw[hc0] at hva
  exact hnilcase (fun _ _=>trivial) h2 hv hva hok
 ·rename_i k id off n c
  split at hok
  case h_2=>exact hok.elim
  rename_i blk hf
  obtain ⟨⟨rfl,hk,hty,rfl,hb8⟩,hcc⟩:=hok
  obtain ⟨b,c',cur,e',fr,v1,v2,v3,v4,v5,v6,v7⟩:=VR_vec hv
  obtain ⟨_,cur2,cap,a1,a2,a3,a4,a5,a6⟩:=(hR.blk id b blk v1 hf).atCells v6
  rw[v6] at a1
  cases a1
  rw[hk,Nat.mul_one] at a2
  have hcc2 : c'=cap:=by rw[Nat.zero_add,Nat.mul_one] at v7;omega
  subst hcc2
  rw[Nat.zero_mul] at v2
  have hidl : id < H.length:=AHeap.find_lt hf
  have hbl2 : (byteL x).length=x.size:=byteL_size x
  have hsz : cur.size=c' * 1:=by omega
  cases c with
  | none =>
   obtain ⟨g1,g2⟩:=hcc
   have g3 : K (.vec 1 H.length 0 (n+x.size) none) (some ⟨1,blk.es ++ byteL x,false,e⟩ :: AHeap.set H id none):=by
    have : GX.heap H (.appS e) [.vec 1 id 0 n none,.sc (.string x)]=some ⟨1,blk.es ++ byteL x,false,e⟩ :: AHeap.set H id none:=by simp only[GX.heap,asH,hf]
    rw[this] at h2
    exact h2
   by_cases hroom : n+x.size ≤ c'
   ·obtain ⟨w',r1,r2,r3⟩:=append_inS (P:=P) hR (ty:=o.type) ht ht' hi hs1 (x:=x) v1 hf v6 a2 hk hty a3 a5 a6 (Nat.le_of_eq g2) hroom (Nat.le_refl _) (blk.es ++ byteL x) (by
     rw[g2,List.take_length,List.drop_of_length_le (by omega),List.append_nil]) (fun h=>by rw[g1] at h;simp at h)
    have hf2 : AHeap.find (AHeap.set H id (some { blk with es:=blk.es ++ byteL x })) id=some { blk with es:=blk.es ++ byteL x }:=AHeap.find_set_same hidl
    obtain ⟨m1,m2⟩:=r2.move v1 hf2
    have hset : AHeap.set (AHeap.set H id (some { blk with es:=blk.es ++ byteL x })) id none=AHeap.set H id none:=set_set _ _ _
    rw[AHeap.set_length,hset] at m1 m2
    have hbe : ({ blk with es:=blk.es ++ byteL x } : ABlk)=⟨1,blk.es ++ byteL x,false,e⟩:=by
     cases blk
     simp only at hk hty g1
     subst hk
     subst hty
     subst g1
     rfl
    rw[hbe] at m1 m2 r3
    obtain ⟨cur',fr',q1,q2⟩:=r3.toLater.cells v6
    exact wp_value (hex (by rw[v2];exact r1)) (hn _ _ _ _ _ g3 (vr_vec_of (by simp[Phi.add]) hroom v4 (fun m hm=>by simp at hm) q1 (by rw[q2];exact hsz)) m1 (r3.trans m2))
   ·obtain ⟨c2,w',r1,r2,r3,r4⟩:=append_newS (P:=P) hR (ty:=o.type) ht ht' hi hz hzs hs1 hby (xs:=blk.es) (s:=a.eval d) (x:=x) (by
     have:=Src.of_vec hR hv hf hk (by omega)
     rwa [List.drop_zero,g2,List.take_length] at this) (by omega) (by omega) ⟨_,c',by rw[v2,g2],by omega,fun h=>by simp at h⟩
    obtain ⟨k1,k2⟩:=r2.kill id
    rw[set_cons hidl] at k1 k2
    refine wp_value (hex r1) (hn _ _ _ _ _ ?_ (k2.vr r4) k1 (r3.trans k2))
    rw[← g2]
    exact g3
  | some m =>
   have hcm:=v5 m rfl
   subst hcm
   have g3 : n ≤ blk.es.length:=by
    rcases hcc with ⟨_,h2,h3⟩ | ⟨_,h2⟩
    ·omega
    ·exact h2
   by_cases hroom : n+x.size ≤ c'
   ·have g4 : K (.vec 1 id 0 (n+x.size) (some c')) (AHeap.set H id (some { blk with es:=blk.es.take n ++ byteL x ++ blk.es.drop (n+x.size) })):=by
     have e1 : GX.heap H (.appS e) [.vec 1 id 0 n (some c'),.sc (.string x)]=AHeap.set H id (some { blk with es:=blk.es.take n ++ byteL x ++ blk.es.drop (n+x.size) }):=by simp only[GX.heap,asH,hf,if_pos hroom]
     have e2 : GX.val H (.appS e) [.vec 1 id 0 n (some c'),.sc (.string x)] = .vec 1 id 0 (n+x.size) (some c'):=by simp only[GX.val,asV,if_pos hroom]
     rw[e1,e2] at h2
     exact h2
    obtain ⟨w',r1,r2,r3⟩:=append_inS (P:=P) hR (ty:=o.type) ht ht' hi hs1 (x:=x) v1 hf v6 a2 hk hty a3 a5 a6 g3 hroom (Nat.le_refl _) _ rfl (fun hx=>by
     rcases hcc with ⟨_,h2,h3⟩ | ⟨h2,_⟩
     ·have hes : (blk.es.take n ++ byteL x ++ blk.es.drop (n+x.size)).length=blk.es.length:=by simp[hbl2];omega
      rw[hes];exact h2
     ·rw[h2] at hx;simp at hx)
    obtain ⟨cur',fr',q1,q2⟩:=r3.toLater.cells v6
    exact wp_value (hex (by rw[v2];exact r1)) (hn _ _ _ _ _ g4 (vr_vec_of v1 hroom v4 (fun m hm=>by simpa using hm) q1 (by rw[q2];exact hsz)) r2 r3)
   ·have g4 : K (.vec 1 H.length 0 (n+x.size) none) (some ⟨1,blk.es.take n ++ byteL x,false,e⟩ :: H):=by
     have e1 : GX.heap H (.appS e) [.vec 1 id 0 n (some c'),.sc (.string x)]=some ⟨1,blk.es.take n ++ byteL x,false,e⟩ :: H:=by simp only[GX.heap,asH,hf,if_neg hroom]
     have e2 : GX.val H (.appS e) [.vec 1 id 0 n (some c'),.sc (.string x)] = .vec 1 H.length 0 (n+x.size) none:=by simp only[GX.val,asV,if_neg hroom]
     rw[e1,e2] at h2
     exact h2
    have hl : (blk.es.take n).length=n:=by simp;omega
    obtain ⟨c2,w',r1,r2,r3,r4⟩:=append_newS (P:=P) hR (ty:=o.type) ht ht' hi hz hzs hs1 hby (xs:=blk.es.take n) (s:=a.eval d) (x:=x) (by
     have:=Src.of_vec hR hv hf hk (by omega)
     rwa [List.drop_zero] at this) (by omega) (by rw[hl];omega) ⟨_,c',by rw[v2,hl],by rw[hl];omega,fun h=>by simp at h⟩
    rw[hl] at r1 r4
    exact wp_value (hex r1) (hn _ _ _ _ _ g4 r4 r2 r3)
 ·exact hok.elim
theorem hs_ustr {o : Oper} {t it e : TypeId} {p n : Operand} {p' n' : X} {args : Array Operand} {ats : Array TypeId} (ho : o.op = .call { callee:=.builtin .unsafeString,args,argTypes:=ats }) (ha : args.toList=[p,n]) (hat : ats.toList=[t,it])
  (ht : P.underlying t=some (.pointer e)) (hc : P.cellsOf e=1) (hp : ofX p=some p') (hn' : ofX n=some n') : HSound P o (.gx (.ustr e) [p',n']):=by
 intro φ H w ts a hR hr K Kp h next Q hn hpp
 obtain rfl : args=#[p,n]:=by apply Array.toList_inj.1;simpa using ha
 obtain rfl : ats=#[t,it]:=by apply Array.toList_inj.1;simpa using hat
 have hv:=ofX_spec hr hp
 have hw:=ofX_spec hr hn'
 simp only[HO.sem,List.map_cons,List.map_nil] at h
 obtain ⟨h1,h2⟩:=h
 generalize X.ev ts p'=x1 at h1 h2 hv
 generalize X.ev ts n'=x2 at h1 h2 hw
 obtain ⟨m,rfl⟩ : ∃ m,x2 = .sc (.int .i64 m):=by
  match x1,x2,h1 with
  | _,.sc (.int .i64 m),_=>exact ⟨m,rfl⟩
 have hm:=VR_sc hw
 have hok : usOk H e m x1:=h1
 have hex : ∀ {r : Value} {w' : World},(Builtin.unsafeString_ #[t,it] o.type #[a.eval p,.int .i64 m]).run P w = .ok r w'→(execOp a.eval o).run P w = .ok (.value r) w':=fun {r w'} h1=>exB ho fun c=>by
  simp only[builtin,Sem.run_bind,Sem.run_pure,List.map_toArray,List.map_cons,List.map_nil,hm,h1,Result.andThen_ok]
 unfold usOk at hok
 split at hok
 ·rename_i k id j f
  split at hok
  case h_2=>exact hok.elim
  rename_i blk hf
  obtain ⟨⟨rfl,hbk,hty,rfl,rfl,h0,hle⟩,x,hx⟩:=hok
  obtain ⟨b,v1,v2⟩:=VR_ptr hv
  obtain ⟨cur,cap,a1,a2,a3,a4,a5,a6⟩:=(hR.blk id b blk v1 hf).cells (by rw[hbk];exact Nat.zero_lt_one)
  rw[hbk,Nat.mul_one] at a2
  rw[hbk] at a6
  rw[hty] at a1
  have hlen : x.size=m.toNat:=by rw[← byteL_size,← hx,List.length_take];omega
  have hll : x.data.toList.length=m.toNat:=by rw[← hlen];exact (Lib.size_eq x).symm
  have hcell : ∀ j y,x.data.toList[j]? = some y→w.cell? ((⟨b,0,none⟩ : Addr).add j)=some (.int .u8 y.toNat):=by
   intro j y hj
   have hjl:=(List.getElem?_eq_some_iff.1 hj).1
   have hes : blk.es[j]? = some (.sc (.int .u8 y.toNat)):=by
    have h3 : (blk.es.take m.toNat)[j]? = some (.sc (.int .u8 y.toNat)):=by rw[hx];simp[byteL,hj]
    rwa [List.getElem?_take_of_lt (by omega)] at h3
   have hr3 : memAt w b (0+j * 1) 0=some (.int .u8 y.toNat):=(Rl_nth a6 hes).2.2
   rw[addr_add]
   simpa [memAt] using hr3
  have hmi : m=((x.data.toList.length : Nat) : Int):=by rw[hll];omega
  have hrun:=Lib.run_unsafeString_row (P:=P) w t it o.type e ht hc b cur.size (by unfold World.shape?;rw[a1]) x.data.toList (fun e0=>by rw[e0] at hll;simp at hll;omega) (by omega) (by unfold maxLen at a5;omega) hcell
  rw[← hmi] at hrun
  have hval : usV H m (.ptr 1 id 0 0)=x:=by
   simp only[usV,hf,hx]
   apply ByteArray.ext
   simp only[bytesV,byteL,List.map_map]
   apply Array.ext'
   simp only[List.toList_toArray]
   have : ∀ l : List UInt8,l.map ((fun x=>(byteV x).getD 0) ∘ fun b=>AV.sc (.int .u8 (b.toNat : Int)))=l:=by
    intro l
    induction l with
    | nil=>rfl
    | cons c r ih =>
     rw[List.map_cons,ih]
     congr 1
     simp[Function.comp,byteV]
   exact this _
  have h2' : K (.sc (.string x)) (AHeap.set H id none):=by
   have e1 : GX.val H (.ustr e) [.ptr 1 id 0 0,.sc (.int .i64 m)] = .sc (.string (usV H m (.ptr 1 id 0 0))):=rfl
   rw[e1,hval] at h2
   exact h2
  have hxe : (⟨x.data.toList.toArray⟩ : ByteArray)=x:=by apply ByteArray.ext;simp
  rw[hxe] at hrun
  have hb2 : ∀ b',b' ≠ b→(w.freeze ⟨b,0,none⟩ x.data.toList.length).heap[b']? = w.heap[b']?:=by
   intro b' hb'
   unfold World.freeze
   split
   ·rfl
   ·simp only[Array.getElem?_modify]
    rw[if_neg (fun e=>hb' e.symm)]
  have hres:=hR.writeO (w':=w.freeze ⟨b,0,none⟩ x.data.toList.length) v1 hf none (by unfold World.freeze;split <;> simp) hb2 (by
   unfold World.freeze
   split
   ·rfl
   ·simp only[World.shape?,Array.getElem?_modify,if_true,a1,Option.map_some]) (by unfold World.freeze;split <;> rfl) (by unfold World.freeze;split <;> rfl) (by unfold World.freeze;split <;> rfl) (fun k hk=>by cases hk)
  exact wp_value (hex (by rw[v2];exact hrun)) (hn _ _ φ _ _ h2' (sc_VR rfl) hres.1 hres.2)
 ·have : m=0:=hok
  subst this
  rw[show a.eval p = .pointer none from VR_sc hv] at hex
  exact wp_value (hex (Lib.run_unsafeString_none (P:=P) w t it o.type none)) (hn _ _ φ H w h2 (sc_VR rfl) hR (Step.refl _ _ _))
 ·exact hok.elim
theorem hs_sdata {o : Oper} {s : Operand} {s' : X} {args : Array Operand} {ats : Array TypeId} (ho : o.op = .call { callee:=.builtin .unsafeSliceData,args,argTypes:=ats }) (ha : args.toList=[s]) (hs : ofX s=some s') : HSound P o (.gx .sdata [s']):=by
 intro φ H w ts a hR hr K Kp h next Q hn hpp
 obtain rfl : args=#[s]:=by apply Array.toList_inj.1;simpa using ha
 have hv:=ofX_spec hr hs
 simp only[HO.sem,List.map_cons,List.map_nil] at h
 obtain ⟨h1,h2⟩:=h
 generalize X.ev ts s'=x1 at h1 h2 hv
 have hex : ∀ {r : Value} {w' : World},(Builtin.unsafeSliceData_ ats o.type #[a.eval s]).run P w = .ok r w'→(execOp a.eval o).run P w = .ok (.value r) w':=fun {r w'} h1=>exB ho fun c=>by
  simp only[builtin,Sem.run_bind,Sem.run_pure,List.map_toArray,List.map_cons,List.map_nil,h1,Result.andThen_ok]
 match x1,h1 with
 | .vec k id off n c,h1 =>
  obtain ⟨hk,hn0⟩:=h1
  obtain ⟨b,c',cur0,e0,fr0,g1,e2,g3,g4,g5,g6,g7⟩:=VR_vec hv
  refine wp_value (hex (by rw[e2];exact Lib.run_unsafeSliceData_row (P:=P) w ats o.type _ n c' (by omega))) (hn _ _ φ H w h2 ?_ hR (Step.refl _ _ _))
  have:=ptr_VR (O:=Own φ H) (w:=w) (k:=k) (j:=off) (f:=0) g1
  rw[ptrV_pos hk] at this
  exact this
 | .sc (.slice none 0 0),_ =>
  rw[show a.eval s = .slice none 0 0 from VR_sc hv] at hex
  exact wp_value (hex (Lib.run_unsafeSliceData_nil (P:=P) w ats o.type 0 0)) (hn _ _ φ H w h2 (sc_VR rfl) hR (Step.refl _ _ _))
theorem eqP_run {t e : TypeId} (ht : P.underlying t=some (.pointer e)) (p : Option Addr) (w : World) : (Op.equal t (.pointer p) (.pointer none)).run P w = .ok p.isNone w:=by
 show (Op.equalIn (9999+1) t _ _).run P w=_
 rw[Op.equalIn]
 simp only[Sem.run_bind,rn_under ht,Result.andThen_ok]
 cases p <;> rfl
theorem isPtr_val {φ : Phi} {O : Nat→Prop} {w : World} {x : AV} {v : Value} (h : VR φ O w x v) (hp : isPtr x) : ∃ p : Option Addr,v = .pointer p ∧ p.isNone=isNilP x:=by
 match x,hp with
 | .ptr k id j f,hp =>
  obtain ⟨b,_,e⟩:=VR_ptr h
  rw[ptrV_pos hp] at e
  exact ⟨_,e,rfl⟩
 | .lp x f,_ =>
  obtain ⟨b,off,e,_⟩:=VR_lp h
  exact ⟨_,e,rfl⟩
 | .sc (.pointer none),_=>exact ⟨none,VR_sc h,rfl⟩
theorem hs_nilP {o : Oper} {op : BinOp} {t ty e : TypeId} {x : Operand} {x' : X} {pos : Bool} (ho : o.op = .binOp op t x (.const (.pointer none)) ty) (ht : P.underlying t=some (.pointer e)) (hop : op=if pos then .eql else .neq) (hx : ofX x=some x') : HSound P o (.gx (.nilP pos) [x']):=by
 intro φ H w ts a hR hr K Kp h next Q hn hpp
 have hv:=ofX_spec hr hx
 simp only[HO.sem,List.map_cons,List.map_nil] at h
 obtain ⟨h1,h2⟩:=h
 generalize X.ev ts x'=x1 at h1 h2 hv
 obtain ⟨p,e1,e2⟩:=isPtr_val hv h1
 have h2' : K (.sc (.bool (if pos then isNilP x1 else !isNilP x1))) H:=h2
 have hq:=eqP_run (P:=P) ht p w
 refine wp_value (u:=.bool (if pos then isNilP x1 else !isNilP x1)) ?_ (hn _ _ φ H w h2' (sc_VR rfl) hR (Step.refl _ _ _))
 cases pos <;> simp only[if_true,if_false,Bool.false_eq_true] at hop ⊢ <;> subst hop <;> simp[execOp,ho,e1,show a.eval (.const (.pointer none)) = .pointer none from rfl,eqGuard,binOp,hq,e2]
theorem hs_eqP {o : Oper} {op : BinOp} {t ty e : TypeId} {i : TypeInfo} {x y : Operand} {x' y' : X} {pos : Bool} (ho : o.op = .binOp op t x y ty) (ht : P.underlying t=some (.pointer e)) (hi : P.info? e=some i) (hz : 0 < i.size) (hop : op=if pos then .eql else .neq) (hx : ofX x=some x') (hy : ofX y=some y') : HSound P o (.gx (.eqP pos) [x',y']):=by
 intro φ H w ts a hR hr K Kp h next Q hn hpp
 have hv:=ofX_spec hr hx
 have hw:=ofX_spec hr hy
 simp only[HO.sem,List.map_cons,List.map_nil] at h
 obtain ⟨h1,h2⟩:=h
 generalize X.ev ts x'=x1 at h1 h2 hv
 generalize X.ev ts y'=x2 at h1 h2 hw
 match x1,x2,h1 with
 | .ptr k id j f,.ptr k' id' j' f',h1 =>
  obtain ⟨⟨rfl,rfl,rfl,rfl⟩,hk⟩:=h1
  obtain ⟨b,g1,e1⟩:=VR_ptr hv
  obtain ⟨b',g2,e2⟩:=VR_ptr hw
  rw[g1] at g2
  cases g2
  rw[ptrV_pos hk] at e1 e2
  have hq : (Op.equal t (.pointer (some ⟨b,j * k+f,none⟩)) (.pointer (some ⟨b,j * k+f,none⟩))).run P w = .ok true w:=by
   have hne : i.size ≠ 0:=by omega
   show (Op.equalIn (9999+1) t _ _).run P w=_
   rw[Op.equalIn]
   simp only[Sem.run_bind,rn_under ht,Result.andThen_ok]
   simp[sizeOf,typeInfo,hi,hne,sameAddr]
  refine wp_value (u:=.bool pos) ?_ (hn _ _ φ H w h2 (sc_VR rfl) hR (Step.refl _ _ _))
  cases pos <;> simp only[if_true,if_false,Bool.false_eq_true] at hop ⊢ <;> subst hop <;> simp[execOp,ho,e1,e2,eqGuard,binOp,hq]
theorem hs_toU {o : Oper} {s d e : TypeId} {i : TypeInfo} {x : Operand} {x' : X} (ho : o.op = .convert s d x) (hs : P.underlying s=some (.pointer e)) (hd : P.underlying d=some .unsafePointer) (hi : P.info? e=some i) (hz : 0 < i.size) (hx : ofX x=some x') : HSound P o (.gx .toU [x']):=by
 intro φ H w ts a hR hr K Kp h next Q hn hpp
 have hv:=ofX_spec hr hx
 simp only[HO.sem,List.map_cons,List.map_nil] at h
 obtain ⟨h1,h2⟩:=h
 generalize X.ev ts x'=x1 at h1 h2 hv
 match x1,h1 with
 | .ptr k id j f,h1 =>
  have h1':=h1
  simp only[GX.ok] at h1'
  split at h1'
  case h_2=>exact h1'.elim
  rename_i blk hf
  obtain ⟨hbk,hk,hj,hfk⟩:=h1'
  obtain ⟨b,v1,v2⟩:=VR_ptr hv
  rw[ptrV_pos hk] at v2
  obtain ⟨cur,cap,a1,a2,a3,a4,a5,a6⟩:=(hR.blk id b blk v1 hf).cells (by omega)
  have hoff : j * k+f < cur.size:=by
   rw[a2,hbk]
   have : (j+1) * k ≤ cap * k:=Nat.mul_le_mul_right _ (by omega)
   rw[Nat.add_mul] at this
   omega
  refine wp_value ?_ (hn _ _ φ H w h2 hv hR (Step.refl _ _ _))
  simp only[execOp,ho,v2,Sem.run_bind,Sem.run_pure,Lib.run_to_unsafe (P:=P) w ⟨b,j * k+f,none⟩ hs hd hi (by omega) (show w.shape? b=some (blk.ty,cur.size) by unfold World.shape?;rw[a1]) hoff,Result.andThen_ok]
theorem liesTys_spec {u T : TypeId} (h : (liesTys P u).contains T=true) : P.cellsOf T=2 ∧ liesAt P P.depth T 1 0 u 1=true:=by
 unfold liesTys at h
 rw[List.contains_iff_mem,List.mem_filter] at h
 have:=h.2
 simp only[Bool.and_eq_true,beq_iff_eq] at this
 exact this
theorem hs_fromU {o : Oper} {s d u : TypeId} {x : Operand} {x' : X} (ho : o.op = .convert s d x) (hs : P.underlying s=some .unsafePointer) (hd : P.underlying d=some (.pointer u)) (hi : (P.info? u).isSome=true) (hx : ofX x=some x') : HSound P o (.gx (.fromU (liesTys P u)) [x']):=by
 intro φ H w ts a hR hr K Kp h next Q hn hpp
 have hv:=ofX_spec hr hx
 obtain ⟨i,hi⟩:=Option.isSome_iff_exists.1 hi
 simp only[HO.sem,List.map_cons,List.map_nil] at h
 obtain ⟨h1,h2⟩:=h
 generalize X.ev ts x'=x1 at h1 h2 hv
 match x1,h1 with
 | .ptr k id j f,h1 =>
  have h1':=h1
  simp only[GX.ok] at h1'
  split at h1'
  case h_2=>exact h1'.elim
  rename_i blk hf
  obtain ⟨⟨rfl,hbk,rfl,rfl,hex,hel⟩,hty⟩:=h1'
  obtain ⟨hc2,hlies⟩:=liesTys_spec hty
  obtain ⟨b,v1,v2⟩:=VR_ptr hv
  rw[ptrV_pos (by decide)] at v2
  obtain ⟨cur,cap,a1,a2,a3,a4,a5,a6⟩:=(hR.blk id b blk v1 hf).cells (by omega)
  have hcap:=a4 hex
  have hcs : cur.size=2:=by rw[a2,hcap,hel,hbk]
  refine wp_value ?_ (hn _ _ φ H w h2 hv hR (Step.refl _ _ _))
  simp only[execOp,ho,v2,Sem.run_bind,Sem.run_pure,Lib.run_from_unsafe (P:=P) w ⟨b,0 * 2+0,none⟩ hs hd hi (show w.shape? b=some (blk.ty,cur.size) by unfold World.shape?;rw[a1]) (by rw[hcs,hc2];exact hlies),Result.andThen_ok]
theorem find_noesc {fn : Func} (hn : fn.name = "internal/abi.NoEscape") : Extern.find fn = some Extern.AbiNoEscape.same := by
 unfold Extern.find
 rw[hn]
 have h1 : Extern.allGenericRows.lookup "internal/abi.NoEscape" = none := by kernel_rfl
 have h2 : Extern.allTypedRows.lookup "internal/abi.NoEscape" = none := by kernel_rfl
 have h3 : Extern.allRows.lookup "internal/abi.NoEscape" = some Extern.AbiNoEscape.same := by kernel_rfl
 simp only[h1,h2,h3]
 rfl
theorem find_cntb {fn : Func} (hn : fn.name = "internal/bytealg.CountString") : Extern.find fn = some Extern.BytealgCount.count := by
 unfold Extern.find
 rw[hn]
 have h1 : Extern.allGenericRows.lookup "internal/bytealg.CountString" = none := by kernel_rfl
 have h2 : Extern.allTypedRows.lookup "internal/bytealg.CountString" = none := by kernel_rfl
 have h3 : Extern.allRows.lookup "internal/bytealg.CountString" = some Extern.BytealgCount.count := by kernel_rfl
 simp only[h1,h2,h3]
 rfl
theorem same1_ok {H : AHeap} {l : List AV} (h : GX.ok H .same1 l) : ∃ x,l=[x]:=by
 match l,h with
 | [x],_=>exact ⟨x,rfl⟩
theorem cntb_ok {H : AHeap} {l : List AV} (h : GX.ok H .cntb l) : ∃ s c,l=[.sc (.string s),.sc (.int .u8 c)]:=by
 match l,h with
 | [.sc (.string s),.sc (.int .u8 c)],_=>exact ⟨s,c,rfl⟩
theorem hs_extU {o : Oper} {f : FuncId} {args : Array Operand} {ats : Array TypeId} {fn : Func} {xs : List X} {q : HO} (ho : o.op = .call { callee:=.value (.func f),args,argTypes:=ats }) (hf : P.funcs[f]? = some fn) (hxs : ofXs args=some xs) (hx : xfnOk fn=true)
  (hq : (if fn.name = "internal/abi.NoEscape" then some (HO.gx .same1 xs) else if fn.name = "internal/bytealg.CountString" then some (.gx .cntb xs) else none) = some q) : HSound P o q := by
 intro φ H w ts a hR hr K Kp h next Q hn hpp
 have hrt:=Rt_map hr (l:=args.toList) hxs
 have hvs : args.map a.eval=(args.toList.map a.eval).toArray:=by rw[← Array.toList_map]
 split at hq
 ·rename_i hnm
  cases hq
  simp only[HO.sem] at h
  obtain ⟨h1,h2⟩:=h
  obtain ⟨x,hl⟩:=same1_ok h1
  rw[hl] at hrt h2
  obtain ⟨u1,r1,e1,o1,p1,e3⟩:=hrt
  simp only[Rt] at e3
  subst e3
  refine wp_value (ext_run ho hf hx (find_noesc hnm) (v:=u1) ?_) (hn _ _ φ H w h2 ⟨o1,p1⟩ hR (Step.refl _ _ _))
  rw[hvs,e1]
  rfl
 ·split at hq
  case isFalse=>simp at hq
  rename_i hnm
  cases hq
  simp only[HO.sem] at h
  obtain ⟨h1,h2⟩:=h
  obtain ⟨s,c,hl⟩:=cntb_ok h1
  rw[hl] at hrt h2
  obtain ⟨u1,r1,e1,o1,p1,u2,r2,e2,o2,p2,e3⟩:=hrt
  simp only[Rt] at e3
  subst e3
  have q1:=VR_sc (⟨o1,p1⟩ : VR φ (Own φ H) w _ u1)
  have q2:=VR_sc (⟨o2,p2⟩ : VR φ (Own φ H) w _ u2)
  refine wp_value (ext_run ho hf hx (find_cntb hnm) ?_) (hn _ _ φ H w h2 (sc_VR rfl) hR (Step.refl _ _ _))
  rw[hvs,e1,e2,q1,q2]
  exact Lib.run_countString s c w
theorem eqMp_run {t k e : TypeId} (ht : P.underlying t=some (.map k e)) (p : Option Nat) (w : World) : (Op.equal t (.map p) (.map none)).run P w = .ok p.isNone w:=by
 show (Op.equalIn (9999+1) t _ _).run P w=_
 rw[Op.equalIn]
 simp only[Sem.run_bind,rn_under ht,Result.andThen_ok]
 cases p <;> rfl
theorem hs_nilM {o : Oper} {op : BinOp} {t ty k e : TypeId} {x : Operand} {x' : X} {pos : Bool} (ho : o.op = .binOp op t x (.const (.map none)) ty) (ht : P.underlying t=some (.map k e)) (hop : op=if pos then .eql else .neq) (hx : ofX x=some x') : HSound P o (.gx (.nilM pos) [x']):=by
 intro φ H w ts a hR hr K Kp h next Q hn hpp
 have hv:=ofX_spec hr hx
 simp only[HO.sem,List.map_cons,List.map_nil] at h
 obtain ⟨h1,h2⟩:=h
 generalize X.ev ts x'=x1 at h1 h2 hv
 obtain ⟨p,e1,h2'⟩ : ∃ p : Option Nat,a.eval x = .map p ∧ K (.sc (.bool (if pos then p.isNone else !p.isNone))) H:=by
  match x1,h1 with
  | .ptr 0 id j 0,_ =>
   obtain ⟨b,_,g⟩:=VR_ptr hv
   refine ⟨some b,g,?_⟩
   have : K (.sc (.bool !pos)) H:=h2
   cases pos <;> exact this
  | .sc (.map none),_ =>
   refine ⟨none,VR_sc hv,?_⟩
   have : K (.sc (.bool pos)) H:=h2
   cases pos <;> exact this
 have hq:=eqMp_run (P:=P) ht p w
 refine wp_value (u:=.bool (if pos then p.isNone else !p.isNone)) ?_ (hn _ _ φ H w h2' (sc_VR rfl) hR (Step.refl _ _ _))
 cases pos <;> simp only[if_true,if_false,Bool.false_eq_true] at hop ⊢ <;> subst hop <;> simp[execOp,ho,e1,show a.eval (.const (.map none)) = .map none from rfl,eqGuard,binOp,hq]
theorem any_some {α : Type} {o : Option α} {p : α→Bool} (h : o.any p=true) : ∃ x,o=some x ∧ p x=true:=by
 cases o with
 | none=>simp at h
 | some x=>exact ⟨x,rfl,by simpa using h⟩
theorem compU_sound {o : Oper} {q : HO} (h : compU P o=some q) : HSound P o q:=by
 unfold compU at h
 split at h
 ·rename_i args ats ho
  split at h
  case h_2=>simp at h
  rename_i d s t t' ha hat
  split at h
  case h_2=>simp at h
  rename_i e d' s' h1 h2 h3 h4
  split at h
  case isFalse=>simp at h
  rename_i hc
  cases h
  exact hs_copyS ho ha hat h1 hc.2 h3 h4
 ·rename_i args ats ho
  split at h
  case h_2=>simp at h
  rename_i d s t t' ha hat
  split at h
  case h_2=>simp at h
  rename_i e d' s' h1 h2 h3 h4
  split at h
  case h_2=>simp at h
  rename_i i hi
  split at h
  case isFalse=>simp at h
  rename_i hc
  obtain ⟨c1,c2,c3,c4⟩:=hc
  cases h
  obtain ⟨z,hz,hzs⟩:=any_some c4
  exact hs_appS ho ha hat h1 h2 hi hz (by simpa using hzs) c2 c3 h3 h4
 ·rename_i args ats ho
  split at h
  case h_2=>simp at h
  rename_i p n t it ha hat
  split at h
  case h_2=>simp at h
  rename_i e p' n' h1 h2 h3
  split at h
  case isFalse=>simp at h
  rename_i hc
  cases h
  exact hs_ustr ho ha hat h1 hc.2 h2 h3
 ·rename_i args ats ho
  split at h
  case h_2=>simp at h
  rename_i s ha
  rw[Option.map_eq_some_iff] at h
  obtain ⟨s',h1,rfl⟩:=h
  exact hs_sdata ho ha h1
 ·rename_i op t x y ty ho
  split at h
  case h_3=>simp at h
  case h_2 =>
   rename_i kt e x' h1 h2
   split at h
   ·cases h;exact hs_nilM ho h1 rfl h2
   ·cases h;exact hs_nilM ho h1 rfl h2
   ·simp at h
  rename_i e x' h1 h2
  split at h
  ·cases h;exact hs_nilP ho h1 rfl h2
  ·cases h;exact hs_nilP ho h1 rfl h2
  ·split at h
   case isFalse=>simp at h
   rename_i hc
   obtain ⟨i,hi,hz⟩:=any_some hc
   rw[Option.map_eq_some_iff] at h
   obtain ⟨y',h3,rfl⟩:=h
   exact hs_eqP ho h1 hi (by simpa using hz) rfl h2 h3
  ·split at h
   case isFalse=>simp at h
   rename_i hc
   obtain ⟨i,hi,hz⟩:=any_some hc
   rw[Option.map_eq_some_iff] at h
   obtain ⟨y',h3,rfl⟩:=h
   exact hs_eqP ho h1 hi (by simpa using hz) rfl h2 h3
  ·simp at h
 ·rename_i s d x ho
  split at h
  ·rename_i e x' h1 h2 h3
   split at h
   case isFalse=>simp at h
   rename_i hc
   obtain ⟨i,hi,hz⟩:=any_some hc
   cases h
   exact hs_toU ho h1 h2 hi (by simpa using hz) h3
  ·rename_i u x' h1 h2 h3
   split at h
   case isFalse=>simp at h
   rename_i hc
   cases h
   exact hs_fromU ho h1 h2 hc h3
  ·simp at h
 ·rename_i f args ats ho
  split at h
  case h_2=>simp at h
  rename_i fn xs h1 h2
  split at h
  case isFalse=>simp at h
  rename_i hx
  exact hs_extU ho h1 h2 hx h
 ·simp at h
theorem compH_sound {b : Bool} {o : Oper} {op : HO} (h : compH P b o=some op) : HSound P o op:=by
 unfold compH at h
 split at h
 ·rename_i h0;cases h;exact compH0_sound h0
 ·unfold compU2 at h
  split at h
  ·rename_i h1;cases h;exact compU_sound h1
  ·obtain ⟨kd,x,rfl⟩:=compI_itr h
   intro φ H w ts a hR hr K Kp hh
   exact (show False from hh).elim
end
end Go.Proofs.YtdjnccnecgblmaaGreatDoor
