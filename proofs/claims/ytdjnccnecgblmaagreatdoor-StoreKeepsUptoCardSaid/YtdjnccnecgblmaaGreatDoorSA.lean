import Derived.Test.YtdjnccnecgblmaaGreatDoorVC
import Derived.Lib.Bytealg
import Derived.Test.YtdjnccnecgblmaaGreatDoorIc1
namespace Go.Proofs.YtdjnccnecgblmaaGreatDoor
open Go.RowKit
set_option linter.unusedVariables false
set_option linter.unusedSimpArgs false
inductive Over (H : AHeap) : AHeap→Prop where
 | refl : Over H H
 | cons {b : Option ABlk} {G : AHeap} : Over H G→Over H (b :: G)
theorem Over.split {H G : AHeap} (h : Over H G) : ∃ A,G=A ++ H:=by
 induction h with
 | refl=>exact ⟨[],rfl⟩
 | @cons b G _ ih=>obtain ⟨A,rfl⟩:=ih;exact ⟨b :: A,rfl⟩
theorem weak_over {H G : AHeap} {x y : AV} (h : Over H G) (hz : Fz G H.length x y) : Weak H (.ret x) G (.ret y) H:=by
 obtain ⟨A,rfl⟩:=h.split
 exact weak_same hz
theorem weak_sc {H G : AHeap} {v : Value} (h : Over H G) : Weak H (.ret (.sc v)) G (.ret (.sc v)) H:=weak_over h (.same trivial)
inductive Fu where
 | o
 | s (f : Fu)
def Lp (P : Program) (c : IC) (K : Post) : Fu→List AV→AHeap→Prop
 | .o,_,_=>False
 | .s n,ts,H=>ES P c (thenK (Lp P c K n) K) ts H
def Fu.num : Fu→Nat
 | .o=>0
 | .s f=>f.num+1
theorem Lp_next {P : Program} {c : IC} {K : Post} {n : Fu} {ts : List AV} {H : AHeap} (h : ∀ L : List AV→AHeap→Prop,(∀ ts H,Lp P c K n ts H→L ts H)→ES P c (thenK L K) ts H) : Lp P c K (.s n) ts H:=h _ (fun _ _ h=>h)
theorem ES_seq_gen {P : Program} {a b : IC} {K : Post} {ts : List AV} {H : AHeap} (h : ∀ L : List AV→AHeap→Prop,(∀ ts H,ES P b K ts H→L ts H)→ES P a (thenK L K) ts H) : ES P (.seq a b) K ts H:=h _ (fun _ _ h=>h)
theorem least_of {p : Nat→Prop} (h : ∃ n,p n) : ∃ n,p n ∧ ∀ m,p m→n ≤ m:=by
 obtain ⟨n,hn⟩:=h
 induction n using Nat.strongRecOn with
 | ind n ih =>
  by_cases e : ∃ m,m < n ∧ p m
  ·obtain ⟨m,h1,h2⟩:=e
   exact ih m h1 h2
  ·exact ⟨n,hn,fun m hm=>Nat.le_of_not_lt fun h=>e ⟨m,h,hm⟩⟩
theorem nc2 : ((2 : Nat) : Int)=2:=rfl
theorem nc3 : ((3 : Nat) : Int)=3:=rfl
theorem nc4 : ((4 : Nat) : Int)=4:=rfl
theorem nc5 : ((5 : Nat) : Int)=5:=rfl
theorem nc6 : ((6 : Nat) : Int)=6:=rfl
theorem nc7 : ((7 : Nat) : Int)=7:=rfl
theorem nc8 : ((8 : Nat) : Int)=8:=rfl
theorem nc9 : ((9 : Nat) : Int)=9:=rfl
theorem nc10 : ((10 : Nat) : Int)=10:=rfl
theorem nc11 : ((11 : Nat) : Int)=11:=rfl
theorem nc12 : ((12 : Nat) : Int)=12:=rfl
theorem ES_unroll {P : Program} {c : IC} {K : Post} (n : Fu) {ts : List AV} {H : AHeap} (h : Lp P c K n ts H) : ES P (.loop c) K ts H:=by
 classical
 let p : List AV→AHeap→Nat→Prop:=fun ts H m=>∃ f : Fu,f.num=m ∧ Lp P c K f ts H
 refine ES_loop (fun ts H=>∃ m,p ts H m) (fun ts H=>if e : ∃ m,p ts H m then Classical.choose (least_of e) else 0) ⟨n.num,n,rfl,h⟩ ?_
 intro ts H e
 have h1:=Classical.choose_spec (least_of e)
 obtain ⟨⟨f,hf,hl⟩,hmin⟩:=h1
 cases f with
 | o=>exact hl.elim
 | s f =>
  refine ES_mono (fun x ts' H' hx=>?_) hl
  cases x <;> first | exact hx | skip
  have e' : ∃ m,p ts' H' m:=⟨f.num,f,rfl,hx⟩
  refine ⟨e',?_⟩
  show (if e : _ then Classical.choose (least_of e) else 0) < (if e : _ then Classical.choose (least_of e) else 0)
  rw[dif_pos e',dif_pos e,← hf]
  exact Nat.lt_succ_of_le ((Classical.choose_spec (least_of e')).2 _ ⟨f,rfl,hx⟩)
theorem ldS_nil {A : List (List Nat)} {i : Nat} {v : AV} : ldS A i [] v=True:=by
 cases v <;> simp[ldS]
theorem ldS_same {A : List (List Nat)} {i j : Nat} {H : AHeap} {hs : List (Nat × AHeap × AHeap)} {v : AV} : ldS A i ((j,H,H) :: hs) v=ldS A i hs v:=by
 cases v <;> simp[ldS]
theorem ldS_cons {A : List (List Nat)} {i j : Nat} {H G : AHeap} {hs : List (Nat × AHeap × AHeap)} {k id a f : Nat} : ldS A i ((j,H,G) :: hs) (.ptr k id a f)=((uno A j i=true→id < H.length→AHeap.find G id=AHeap.find H id) ∧ ldS A i hs (.ptr k id a f)):=by
 simp[ldS]
theorem ldS_lp {A : List (List Nat)} {i : Nat} {hs : List (Nat × AHeap × AHeap)} {x : AV} {f : Nat} : ldS A i hs (.lp x f)=True:=rfl
theorem chS_nil {A : List (List Nat)} {i : Nat} {H G : AHeap} : chS A i [] H G=True:=by simp[chS]
theorem chS_cons {A : List (List Nat)} {i j id : Nat} {ld : List (Nat × Nat)} {H G : AHeap} : chS A i ((j,id) :: ld) H G=((uno A j i=true→AHeap.find G id=AHeap.find H id) ∧ chS A i ld H G):=by
 simp[chS]
theorem bytesOk_u8 {n : Int} {r : List AV} : bytesOk (.sc (.int .u8 n) :: r)=bytesOk r:=by simp[bytesOk,byteV]
theorem bytesOk_nil : bytesOk []=true:=rfl
def strs (l : List ByteArray) : List AV:=l.map fun s=>.sc (.string s)
theorem strs_length (l : List ByteArray) : (strs l).length=l.length:=by simp[strs]
theorem strs_nil : strs []=[]:=rfl
theorem strs_cons (s : ByteArray) (l : List ByteArray) : strs (s :: l) = .sc (.string s) :: strs l:=rfl
def nthS (xs : List ByteArray) (k : Nat) : ByteArray:=xs.getD k ByteArray.empty
theorem nthS_eq {xs : List ByteArray} {k : Nat} (h : k < xs.length) : nthS xs k=xs[k]:=by simp[nthS,List.getD,h]
theorem strs_get {l : List ByteArray} {k : Nat} (h : k < l.length) : (strs l).getD k .top = .sc (.string (nthS l k)):=by
 simp[strs,nthS,List.getD,h]
theorem nthS_ext {xs ys : List ByteArray} (hl : xs.length=ys.length) (h : ∀ i,i < xs.length→nthS xs i=nthS ys i) : xs=ys:=by
 apply List.ext_getElem hl
 intro i h1 h2
 have:=h i h1
 rwa [nthS_eq h1,nthS_eq h2] at this
theorem strs_fz {H : AHeap} {n : Nat} : ∀ {l : List ByteArray},FzL H n (strs l) (strs l)
 | []=>.nil
 | _ :: _=>.cons (.same trivial) strs_fz
theorem fz_fresh {H : AHeap} {k n ty id : Nat} {l : List ByteArray} {b : ABlk} {m : Nat} {c : Option Nat} (hf : AHeap.find H id=some b) (hb : b.es=strs l) (hk : b.k=k) (hm : m=l.length) (h : n ≤ id) : Fz H n (.vec k id 0 m c) (.lst k (strs l) none) :=
 .vec h hf hk (by rw[hb,strs_length,hm];omega) (by
  rw[hb,hm,List.drop_zero,← strs_length l,List.take_length]
  exact strs_fz)
theorem str_inj {s t : ByteArray} (h : s.toList=t.toList) : s=t:=by
 rw[ByteArray.toList_eq,ByteArray.toList_eq] at h
 cases s with
 | mk s=>cases t with
  | mk t =>
   have e : s=t:=Array.toList_inj.1 h
   subst e
   rfl
theorem toList_beq (s t : ByteArray) : (s.toList == t.toList)=decide (s=t):=by
 by_cases h : s=t
 ·subst h;simp
 ·rw[decide_eq_false h,beq_eq_false_iff_ne]
  exact fun e=>h (str_inj e)
theorem int_beq (a b : Int) : (a == b)=decide (a=b):=by
 by_cases h : a=b <;> simp[h]
theorem not_dec {p : Prop} [Decidable p] : (!decide p)=decide (¬ p):=by
 by_cases h : p <;> simp[h]
def Fr : List (Option AV)→List AV→Prop
 | [],[]=>True
 | some v :: p,x :: r=>x=v ∧ Fr p r
 | none :: p,_ :: r=>Fr p r
 | _,_=>False
def mk : List (Option AV)→(Nat→AV)→List AV
 | [],_=>[]
 | some v :: p,js=>v :: mk p (fun i=>js (i+1))
 | none :: p,js=>js 0 :: mk p (fun i=>js (i+1))
theorem Fr.opened : ∀ {p : List (Option AV)} {ts : List AV},Fr p ts→∃ js,ts=mk p js
 | [],[],_=>⟨fun _=>.top,rfl⟩
 | some v :: p,x :: r,h=>by
  obtain ⟨js,e⟩:=Fr.opened h.2
  refine ⟨fun i=>js (i - 1),?_⟩
  simp only[mk,h.1,Nat.add_sub_cancel]
  rw[e]
 | none :: p,x :: r,h=>by
  obtain ⟨js,e⟩:=Fr.opened (p:=p) (ts:=r) h
  refine ⟨fun i=>if i=0 then x else js (i - 1),?_⟩
  simp only[mk,if_true,Nat.add_sub_cancel,Nat.add_eq_zero_iff,Nat.one_ne_zero,and_false,if_false]
  rw[e]
 | [],_ :: _,h=>h.elim
 | some _ :: _,[],h=>h.elim
 | none :: _,[],h=>h.elim
theorem D_of_calls {P : Program} {f : FuncId} {args : List AV} {H : AHeap} {r : Value} (h : ∀ (w : World) (vs : Array Value),(∀ φ O,Rt φ O w args vs.toList→Calls P f vs w fun e w'=>e = .returned r ∧ w=w')) (hr : r.oneCell'=true) : D P f args H (.ret (.sc r)) H :=
 ⟨Nat.le_refl _,fun φ w vs hR ha=>(h w vs φ _ ha).mono fun e w' ⟨he,hw⟩=>by
  subst he hw
  exact ⟨φ,sc_VR hr,hR,Step.refl _ _ _⟩⟩
theorem Rt_one {φ : Phi} {O : Nat→Prop} {w : World} {x : AV} {us : List Value} (h : Rt φ O w [x] us) : ∃ v,us=[v] ∧ VR φ O w x v:=by
 obtain ⟨v,s,h1,h2,h3,h4⟩:=h
 have : s=[]:=h4
 subst this
 exact ⟨v,h1,h2,h3⟩
theorem Rt_cons {φ : Phi} {O : Nat→Prop} {w : World} {x : AV} {r : List AV} {us : List Value} (h : Rt φ O w (x :: r) us) : ∃ v s,us=v :: s ∧ VR φ O w x v ∧ Rt φ O w r s:=by
 obtain ⟨v,s,h1,h2,h3,h4⟩:=h
 exact ⟨v,s,h1,⟨h2,h3⟩,h4⟩
theorem arr_of {a : Array Value} {l : List Value} (h : a.toList=l) : a=l.toArray:=by subst h;simp
end Go.Proofs.YtdjnccnecgblmaaGreatDoor
namespace Go.Proofs.YtdjnccnecgblmaaGreatDoor
open Go Go.RowKit
set_option linter.defProp false
set_option maxRecDepth 100000
theorem isTop_sc : ∀ v_,AV.isTop (AV.sc v_)=false:=fun _=>rfl
theorem isAgg_sc : ∀ v_,AV.isAgg (AV.sc v_)=false:=fun _=>rfl
theorem ncells_sc : ∀ v_,AV.ncells (AV.sc v_)=1:=fun _=>rfl
theorem cells_sc : ∀ v_,AV.cells (AV.sc v_)=[(AV.sc v_)]:=fun _=>rfl
theorem upd_sc : ∀ v_ f0 x0,AV.upd (AV.sc v_) f0 x0=x0:=fun _ _ _=>rfl
theorem isTop_lst : ∀ k_ xs_ r_,AV.isTop (AV.lst k_ xs_ r_)=false:=fun _ _ _=>rfl
theorem isAgg_lst : ∀ k_ xs_ r_,AV.isAgg (AV.lst k_ xs_ r_)=false:=fun _ _ _=>rfl
theorem ncells_lst : ∀ k_ xs_ r_,AV.ncells (AV.lst k_ xs_ r_)=1:=fun _ _ _=>rfl
theorem cells_lst : ∀ k_ xs_ r_,AV.cells (AV.lst k_ xs_ r_)=[(AV.lst k_ xs_ r_)]:=fun _ _ _=>rfl
theorem upd_lst : ∀ k_ xs_ r_ f0 x0,AV.upd (AV.lst k_ xs_ r_) f0 x0=x0:=fun _ _ _ _ _=>rfl
theorem isTop_vec : ∀ k_ i_ o_ n_ c_,AV.isTop (AV.vec k_ i_ o_ n_ c_)=false:=fun _ _ _ _ _=>rfl
theorem isAgg_vec : ∀ k_ i_ o_ n_ c_,AV.isAgg (AV.vec k_ i_ o_ n_ c_)=false:=fun _ _ _ _ _=>rfl
theorem ncells_vec : ∀ k_ i_ o_ n_ c_,AV.ncells (AV.vec k_ i_ o_ n_ c_)=1:=fun _ _ _ _ _=>rfl
theorem cells_vec : ∀ k_ i_ o_ n_ c_,AV.cells (AV.vec k_ i_ o_ n_ c_)=[(AV.vec k_ i_ o_ n_ c_)]:=fun _ _ _ _ _=>rfl
theorem upd_vec : ∀ k_ i_ o_ n_ c_ f0 x0,AV.upd (AV.vec k_ i_ o_ n_ c_) f0 x0=x0:=fun _ _ _ _ _ _ _=>rfl
theorem isTop_ptr : ∀ k_ i_ j_ f_,AV.isTop (AV.ptr k_ i_ j_ f_)=false:=fun _ _ _ _=>rfl
theorem isAgg_ptr : ∀ k_ i_ j_ f_,AV.isAgg (AV.ptr k_ i_ j_ f_)=false:=fun _ _ _ _=>rfl
theorem ncells_ptr : ∀ k_ i_ j_ f_,AV.ncells (AV.ptr k_ i_ j_ f_)=1:=fun _ _ _ _=>rfl
theorem cells_ptr : ∀ k_ i_ j_ f_,AV.cells (AV.ptr k_ i_ j_ f_)=[(AV.ptr k_ i_ j_ f_)]:=fun _ _ _ _=>rfl
theorem upd_ptr : ∀ k_ i_ j_ f_ f0 x0,AV.upd (AV.ptr k_ i_ j_ f_) f0 x0=x0:=fun _ _ _ _ _ _=>rfl
theorem isTop_lp : ∀ x_ f_,AV.isTop (AV.lp x_ f_)=false:=fun _ _=>rfl
theorem isAgg_lp : ∀ x_ f_,AV.isAgg (AV.lp x_ f_)=false:=fun _ _=>rfl
theorem ncells_lp : ∀ x_ f_,AV.ncells (AV.lp x_ f_)=1:=fun _ _=>rfl
theorem cells_lp : ∀ x_ f_,AV.cells (AV.lp x_ f_)=[(AV.lp x_ f_)]:=fun _ _=>rfl
theorem upd_lp : ∀ x_ f_ f0 x0,AV.upd (AV.lp x_ f_) f0 x0=x0:=fun _ _ _ _=>rfl
theorem isTop_agg : ∀ cs_,AV.isTop (AV.agg cs_)=false:=fun _=>rfl
theorem isAgg_agg : ∀ cs_,AV.isAgg (AV.agg cs_)=true:=fun _=>rfl
theorem ncells_agg : ∀ cs_,AV.ncells (AV.agg cs_)=cs_.length:=fun _=>rfl
theorem cells_agg : ∀ cs_,AV.cells (AV.agg cs_)=cs_:=fun _=>rfl
theorem upd_agg : ∀ cs_ f0 x0,AV.upd (AV.agg cs_) f0 x0=AV.agg (cs_.take f0 ++ x0.cells ++ cs_.drop (f0+x0.ncells)):=fun _ _ _=>rfl
theorem isTop_tup : ∀ vs_,AV.isTop (AV.tup vs_)=true:=fun _=>rfl
theorem isAgg_tup : ∀ vs_,AV.isAgg (AV.tup vs_)=false:=fun _=>rfl
theorem ncells_tup : ∀ vs_,AV.ncells (AV.tup vs_)=1:=fun _=>rfl
theorem cells_tup : ∀ vs_,AV.cells (AV.tup vs_)=[(AV.tup vs_)]:=fun _=>rfl
theorem upd_tup : ∀ vs_ f0 x0,AV.upd (AV.tup vs_) f0 x0=x0:=fun _ _ _=>rfl
theorem isTop_fn : ∀ f_ a_ b_,AV.isTop (AV.fn f_ a_ b_)=false:=fun _ _ _=>rfl
theorem isAgg_fn : ∀ f_ a_ b_,AV.isAgg (AV.fn f_ a_ b_)=false:=fun _ _ _=>rfl
theorem ncells_fn : ∀ f_ a_ b_,AV.ncells (AV.fn f_ a_ b_)=1:=fun _ _ _=>rfl
theorem cells_fn : ∀ f_ a_ b_,AV.cells (AV.fn f_ a_ b_)=[(AV.fn f_ a_ b_)]:=fun _ _ _=>rfl
theorem upd_fn : ∀ f_ a_ b_ f0 x0,AV.upd (AV.fn f_ a_ b_) f0 x0=x0:=fun _ _ _ _ _=>rfl
theorem isTop_ifc : ∀ t_ x_,AV.isTop (AV.ifc t_ x_)=false:=fun _ _=>rfl
theorem isAgg_ifc : ∀ t_ x_,AV.isAgg (AV.ifc t_ x_)=false:=fun _ _=>rfl
theorem ncells_ifc : ∀ t_ x_,AV.ncells (AV.ifc t_ x_)=1:=fun _ _=>rfl
theorem cells_ifc : ∀ t_ x_,AV.cells (AV.ifc t_ x_)=[(AV.ifc t_ x_)]:=fun _ _=>rfl
theorem upd_ifc : ∀ t_ x_ f0 x0,AV.upd (AV.ifc t_ x_) f0 x0=x0:=fun _ _ _ _=>rfl
theorem isTop_ub : AV.isTop (AV.ub)=false:=rfl
theorem isAgg_ub : AV.isAgg (AV.ub)=false:=rfl
theorem ncells_ub : AV.ncells (AV.ub)=1:=rfl
theorem cells_ub : AV.cells (AV.ub)=[(AV.ub)]:=rfl
theorem upd_ub : ∀ f0 x0,AV.upd (AV.ub) f0 x0=x0:=fun  _ _=>rfl
theorem isTop_top : AV.isTop (AV.top)=true:=rfl
theorem isAgg_top : AV.isAgg (AV.top)=false:=rfl
theorem ncells_top : AV.ncells (AV.top)=1:=rfl
theorem cells_top : AV.cells (AV.top)=[(AV.top)]:=rfl
theorem upd_top : ∀ f0 x0,AV.upd (AV.top) f0 x0=x0:=fun  _ _=>rfl
theorem upd_OwnV : ∀ k_ xs_ i_ f0 x0,AV.upd (OwnV k_ xs_ i_) f0 x0=x0:=fun k_ xs_ i_ f0 x0=>by cases xs_ <;> rfl
theorem lenN_lst : ∀ k_ xs_ r_,lenN (.lst k_ xs_ r_)=xs_.length:=fun _ _ _=>rfl
theorem lenN_vec : ∀ k_ i_ o_ n_ c_,lenN (.vec k_ i_ o_ n_ c_)=n_:=fun _ _ _ _ _=>rfl
theorem lenOk_lst : ∀ k_ xs_ r_,lenOk (.lst k_ xs_ r_)=True:=fun _ _ _=>rfl
theorem lenOk_vec : ∀ k_ i_ o_ n_ c_,lenOk (.vec k_ i_ o_ n_ c_)=True:=fun _ _ _ _ _=>rfl
theorem lenOk_nil : lenOk (.sc (.slice none 0 0))=True:=rfl
theorem lenN_nil : lenN (.sc (.slice none 0 0))=0:=rfl
theorem lsOk_lst : ∀ H_ k_ k2_ ys_ r_,lsOk H_ k_ (.lst k2_ ys_ r_)=(k2_=k_ ∨ ys_=[]):=fun _ _ _ _ _=>rfl
theorem lsOk_vec : ∀ H_ k_ k2_ id_ off_ n_ c_,lsOk H_ k_ (.vec k2_ id_ off_ n_ c_)=match AHeap.find H_ id_ with
  | some blk=>k2_=k_ ∧ blk.k=k_ ∧ off_+n_ ≤ blk.es.length
  | none=>False:=fun _ _ _ _ _ _ _=>rfl
theorem lsV_lst : ∀ H_ k2_ ys_ r_,lsV H_ (.lst k2_ ys_ r_)=ys_:=fun _ _ _ _=>rfl
theorem lsV_vec : ∀ H_ k2_ id_ off_ n_ c_,lsV H_ (.vec k2_ id_ off_ n_ c_)=match AHeap.find H_ id_ with
  | some blk=>(blk.es.drop off_).take n_
  | none=>[]:=fun _ _ _ _ _ _=>rfl
theorem apOk_lst : ∀ H_ k_ ty_ ys_ k2_ xs_,apOk H_ k_ ty_ ys_ (.lst k2_ xs_ (some []))=((k2_=k_ ∨ xs_=[]) ∧ xs_.length+ys_.length ≤ 100000000):=fun _ _ _ _ _ _=>rfl
theorem apOk_vn : ∀ H_ k_ ty_ ys_ k2_ id_ off_ n_,apOk H_ k_ ty_ ys_ (.vec k2_ id_ off_ n_ none)=match AHeap.find H_ id_ with
  | some blk=>(k2_=k_ ∧ blk.k=k_ ∧ blk.ty=ty_ ∧ off_=0 ∧ n_+ys_.length ≤ 100000000) ∧ blk.exact=false ∧ n_=blk.es.length
  | none=>False:=fun _ _ _ _ _ _ _ _=>rfl
theorem apOk_vs : ∀ H_ k_ ty_ ys_ k2_ id_ off_ n_ m_,apOk H_ k_ ty_ ys_ (.vec k2_ id_ off_ n_ (some m_))=match AHeap.find H_ id_ with
  | some blk=>(k2_=k_ ∧ blk.k=k_ ∧ blk.ty=ty_ ∧ off_=0 ∧ n_+ys_.length ≤ 100000000) ∧ ((blk.exact=true ∧ m_=blk.es.length ∧ n_ ≤ m_) ∨ (blk.exact=false ∧ n_ ≤ blk.es.length))
  | none=>False:=fun _ _ _ _ _ _ _ _ _=>rfl
theorem apV_lst0 : ∀ H_ k_ k2_ xs_,apV H_ k_ [] (.lst k2_ xs_ (some [])) = .lst k2_ xs_ (some []):=fun _ _ _ _=>rfl
theorem apV_lst1 : ∀ H_ k_ y_ ys_ k2_ xs_,apV H_ k_ (y_ :: ys_) (.lst k2_ xs_ (some [])) = .vec k_ H_.length 0 (xs_.length+(y_ :: ys_).length) none:=fun _ _ _ _ _ _=>rfl
theorem apV_vn : ∀ H_ k_ ys_ k2_ id_ o_ n_,apV H_ k_ ys_ (.vec k2_ id_ o_ n_ none) = .vec k_ H_.length 0 (n_+ys_.length) none:=fun _ _ _ _ _ _ _=>rfl
theorem apV_vs : ∀ H_ k_ ys_ k2_ id_ o_ n_ m_,apV H_ k_ ys_ (.vec k2_ id_ o_ n_ (some m_))=if n_+ys_.length ≤ m_ then .vec k_ id_ 0 (n_+ys_.length) (some m_) else .vec k_ H_.length 0 (n_+ys_.length) none:=fun _ _ _ _ _ _ _ _=>rfl
theorem apH_lst0 : ∀ H_ k_ ty_ k2_ xs_,apH H_ k_ ty_ [] (.lst k2_ xs_ (some []))=H_:=fun _ _ _ _ _=>rfl
theorem apH_lst1 : ∀ H_ k_ ty_ y_ ys_ k2_ xs_,apH H_ k_ ty_ (y_ :: ys_) (.lst k2_ xs_ (some []))=some ⟨k_,xs_ ++ (y_ :: ys_),false,ty_⟩ :: H_:=fun _ _ _ _ _ _ _=>rfl
theorem apH_vn : ∀ H_ k_ ty_ ys_ k2_ id_ o_ n_,apH H_ k_ ty_ ys_ (.vec k2_ id_ o_ n_ none)=match AHeap.find H_ id_ with
  | some blk=>some ⟨k_,blk.es ++ ys_,false,ty_⟩ :: AHeap.set H_ id_ none
  | none=>H_:=fun _ _ _ _ _ _ _ _=>rfl
theorem apH_vs : ∀ H_ k_ ty_ ys_ k2_ id_ o_ n_ m_,apH H_ k_ ty_ ys_ (.vec k2_ id_ o_ n_ (some m_))=match AHeap.find H_ id_ with
  | some blk=>if n_+ys_.length ≤ m_ then AHeap.set H_ id_ (some { blk with es:=blk.es.take n_ ++ ys_ ++ blk.es.drop (n_+ys_.length) }) else some ⟨k_,blk.es.take n_ ++ ys_,false,ty_⟩ :: H_
  | none=>H_:=fun _ _ _ _ _ _ _ _ _=>rfl
theorem gcap_v : ∀ H_ k_ i_ o_ n_ c_,GX.ok H_ .cap [.vec k_ i_ o_ n_ (some c_)]=True:=fun _ _ _ _ _ _=>rfl
theorem gcap_l : ∀ H_ k_ x_ y_,GX.ok H_ .cap [.lst k_ x_ (some y_)]=True:=fun _ _ _ _=>rfl
theorem gcopy : ∀ H_ k_ d_ s_,GX.ok H_ (.copy k_) [d_,s_]=gcOk H_ k_ s_ d_:=fun _ _ _ _=>rfl
theorem gs2b : ∀ H_ s_,GX.ok H_ .s2b [.sc (.string s_)]=(s_.size ≤ 100000000):=fun _ _=>rfl
theorem vcap_v : ∀ H_ k_ i_ o_ n_ c_,GX.val H_ .cap [.vec k_ i_ o_ n_ (some c_)] = .sc (.int .i64 (c_ : Nat)):=fun _ _ _ _ _ _=>rfl
theorem vcap_l : ∀ H_ k_ x_ y_,GX.val H_ .cap [.lst k_ x_ (some y_)] = .sc (.int .i64 ((x_.length+y_.length : Nat) : Int)):=fun _ _ _ _=>rfl
theorem vcopy : ∀ H_ k_ d_ s_,GX.val H_ (.copy k_) [d_,s_] = .sc (.int .i64 ((min (gLen s_) (gLen d_) : Nat) : Int)):=fun _ _ _ _=>rfl
theorem vs2b : ∀ H_ s_,GX.val H_ .s2b [.sc (.string s_)] = .lst 1 (byteL s_) none:=fun _ _=>rfl
theorem hcap : ∀ H_ l_,GX.heap H_ .cap l_=H_:=fun _ _=>rfl
theorem hcopy : ∀ H_ k_ d_ s_,GX.heap H_ (.copy k_) [d_,s_]=gcH H_ s_ d_:=fun _ _ _ _=>rfl
theorem hs2b : ∀ H_ l_,GX.heap H_ .s2b l_=H_:=fun _ _=>rfl
theorem gcOk_v : ∀ H_ k_ s_ k2_ i_ o_ n_ c_,gcOk H_ k_ s_ (.vec k2_ i_ o_ n_ c_)=match AHeap.find H_ i_ with
  | some blk=>k2_=k_ ∧ blk.k=k_ ∧ o_ ≤ blk.es.length ∧ (blk.exact=false ∨ o_+min (gLen s_) n_ ≤ blk.es.length) ∧ gsOk H_ k_ (min (gLen s_) n_) s_
  | none=>False:=fun _ _ _ _ _ _ _ _=>rfl
theorem gcOk_l : ∀ H_ k_ s_ k2_ r_,gcOk H_ k_ s_ (.lst k2_ [] r_)=gsOk H_ k_ 0 s_:=fun _ _ _ _ _=>rfl
theorem gcH_v : ∀ H_ s_ k2_ i_ o_ n_ c_,gcH H_ s_ (.vec k2_ i_ o_ n_ c_)=match AHeap.find H_ i_ with
  | some blk=>AHeap.set H_ i_ (some { blk with es:=blk.es.take o_ ++ gsV H_ (min (gLen s_) n_) s_ ++ blk.es.drop (o_+min (gLen s_) n_) })
  | none=>H_:=fun _ _ _ _ _ _ _=>rfl
theorem gcH_l : ∀ H_ s_ k2_ r_,gcH H_ s_ (.lst k2_ [] r_)=H_:=fun _ _ _ _=>rfl
theorem gsOk_l : ∀ H_ k_ m_ k2_ x_ r_,gsOk H_ k_ m_ (.lst k2_ x_ r_)=((k2_=k_ ∨ m_=0) ∧ m_ ≤ x_.length):=fun _ _ _ _ _ _=>rfl
theorem gsOk_v : ∀ H_ k_ m_ k2_ i_ o_ n_ c_,gsOk H_ k_ m_ (.vec k2_ i_ o_ n_ c_)=match AHeap.find H_ i_ with
  | some blk=>k2_=k_ ∧ blk.k=k_ ∧ m_ ≤ n_ ∧ o_+m_ ≤ blk.es.length
  | none=>False:=fun _ _ _ _ _ _ _ _=>rfl
theorem gsV_l : ∀ H_ m_ k2_ x_ r_,gsV H_ m_ (.lst k2_ x_ r_)=x_.take m_:=fun _ _ _ _ _=>rfl
theorem gsV_v : ∀ H_ m_ k2_ i_ o_ n_ c_,gsV H_ m_ (.vec k2_ i_ o_ n_ c_)=match AHeap.find H_ i_ with
  | some blk=>(blk.es.drop o_).take m_
  | none=>[]:=fun _ _ _ _ _ _ _=>rfl
theorem gLen_l : ∀ k_ x_ r_,gLen (.lst k_ x_ r_)=x_.length:=fun _ _ _=>rfl
theorem gLen_v : ∀ k_ i_ o_ n_ c_,gLen (.vec k_ i_ o_ n_ c_)=n_:=fun _ _ _ _ _=>rfl
theorem geq2 : ∀ H_ p_ a_ b_ c_ d_,GX.ok H_ (.eqA p_ [none,none]) [.agg [.sc (.string a_),.sc (.string b_)],.agg [.sc (.string c_),.sc (.string d_)]]=True:=fun _ _ _ _ _ _=>rfl
theorem veq2t : ∀ H_ k_ a_ b_ c_ d_,GX.val H_ (.eqA true k_) [.agg [.sc (.string a_),.sc (.string b_)],.agg [.sc (.string c_),.sc (.string d_)]] = .sc (.bool (decide (a_=c_ ∧ b_=d_))):=fun _ _ a b c d=>by
 simp[GX.val,eqV,beq_toListBytes,toList_beq,Bool.decide_and]
theorem veq2f : ∀ H_ k_ a_ b_ c_ d_,GX.val H_ (.eqA false k_) [.agg [.sc (.string a_),.sc (.string b_)],.agg [.sc (.string c_),.sc (.string d_)]] = .sc (.bool (decide (¬ (a_=c_ ∧ b_=d_)))):=fun _ _ a b c d=>by
 simp[GX.val,eqV,beq_toListBytes,toList_beq]
theorem heqA : ∀ H_ p_ k_ l_,GX.heap H_ (.eqA p_ k_) l_=H_:=fun _ _ _ _=>rfl
theorem gappz : ∀ H_ k_ t_ z_ k2_ i_ o_ n_ c_ q_ m_,GX.ok H_ (.appz k_ t_ z_) [.vec k2_ i_ o_ n_ (some c_),.sc (.int q_ m_)]=match AHeap.find H_ i_ with
  | some blk=>(k2_=k_ ∧ blk.k=k_ ∧ o_=0 ∧ n_ ≤ blk.es.length) ∧ 0 < m_ ∧ (c_ : Int) < n_+m_ ∧ (n_ : Int)+m_ ≤ 100000000
  | none=>False:=fun _ _ _ _ _ _ _ _ _ _ _=>rfl
theorem vappz : ∀ H_ k_ t_ z_ k2_ i_ o_ n_ c_ q_ m_,GX.val H_ (.appz k_ t_ z_) [.vec k2_ i_ o_ n_ c_,.sc (.int q_ m_)] = .vec k_ H_.length 0 (n_+m_.toNat) none:=fun _ _ _ _ _ _ _ _ _ _ _=>rfl
theorem happz : ∀ H_ k_ t_ z_ k2_ i_ o_ n_ c_ q_ m_,GX.heap H_ (.appz k_ t_ z_) [.vec k2_ i_ o_ n_ c_,.sc (.int q_ m_)]=match AHeap.find H_ i_ with
  | some blk=>some ⟨k_,blk.es.take n_ ++ List.replicate m_.toNat z_,false,t_⟩ :: H_
  | none=>H_:=fun _ _ _ _ _ _ _ _ _ _ _=>rfl
theorem gidxb : ∀ H_ s_ c_,GX.ok H_ .idxb [.sc (.string s_),.sc (.int .u8 c_)]=True:=fun _ _ _=>rfl
theorem vidxb : ∀ H_ s_ k_ c_,GX.val H_ .idxb [.sc (.string s_),.sc (.int k_ c_)] = .sc (.int .i64 (firstIdx s_ c_.toNat.toUInt8)):=fun _ _ _ _=>rfl
theorem hidxb : ∀ H_ l_,GX.heap H_ .idxb l_=H_:=fun _ _=>rfl
theorem govl : ∀ H_ k_ x_ y_ r_ k2_ i_ o_ n_ c_,GX.ok H_ .ovl [.lst k_ (x_ :: y_) r_,.vec k2_ i_ o_ n_ c_]=match AHeap.find H_ i_ with
  | some _=>0 < k_
  | none=>False:=fun _ _ _ _ _ _ _ _ _ _=>rfl
theorem vovl : ∀ H_ l_,GX.val H_ .ovl l_ = .sc (.bool false):=fun _ _=>rfl
theorem hovl : ∀ H_ l_,GX.heap H_ .ovl l_=H_:=fun _ _=>rfl
theorem gmk : ∀ H_,GX.ok H_ .mkmap []=True:=fun _=>rfl
theorem gmg : ∀ H_ q_ z_ o_ i_ j_ k_,GX.ok H_ (.mget q_ z_ o_) [.ptr 0 i_ j_ 0,.sc k_]=(kOk q_ k_=true ∧ mOk H_ i_ (entsOk q_)):=fun _ _ _ _ _ _ _=>rfl
theorem gmp : ∀ H_ q_ i_ j_ k_ v_,GX.ok H_ (.mput q_) [.ptr 0 i_ j_ 0,.sc k_,v_]=(kOk q_ k_=true ∧ mOk H_ i_ (entsOk q_)):=fun _ _ _ _ _ _=>rfl
theorem gml : ∀ H_ i_ j_,GX.ok H_ .mlen [.ptr 0 i_ j_ 0]=mOk H_ i_ (fun _=>True):=fun _ _ _=>rfl
theorem gmd : ∀ H_ q_ i_ j_ k_,GX.ok H_ (.mdel q_) [.ptr 0 i_ j_ 0,.sc k_]=(kOk q_ k_=true ∧ mOk H_ i_ (entsOk q_)):=fun _ _ _ _ _=>rfl
theorem vmk : ∀ H_,GX.val H_ .mkmap [] = .ptr 0 H_.length 0 0:=fun _=>rfl
theorem vmgt : ∀ H_ q_ z_ a_ i_ j_ f_ k_,GX.val H_ (.mget q_ z_ true) [.ptr a_ i_ j_ f_,.sc k_] = .tup [mVal k_ z_ (mEs H_ i_),.sc (.bool (decide (mIdx k_ (mEs H_ i_) < (mEs H_ i_).length)))]:=fun _ _ _ _ _ _ _ _=>rfl
theorem vmgf : ∀ H_ q_ z_ a_ i_ j_ f_ k_,GX.val H_ (.mget q_ z_ false) [.ptr a_ i_ j_ f_,.sc k_]=mVal k_ z_ (mEs H_ i_):=fun _ _ _ _ _ _ _ _=>rfl
theorem vmp : ∀ H_ q_ l_,GX.val H_ (.mput q_) l_ = .top:=fun _ _ _=>rfl
theorem vml : ∀ H_ a_ i_ j_ f_,GX.val H_ .mlen [.ptr a_ i_ j_ f_] = .sc (.int .i64 ((mEs H_ i_).length : Nat)):=fun _ _ _ _ _=>rfl
theorem vmd : ∀ H_ q_ l_,GX.val H_ (.mdel q_) l_ = .tup []:=fun _ _ _=>rfl
theorem hgmk : ∀ H_ l_,GX.heap H_ .mkmap l_=some ⟨0,[],true,0⟩ :: H_:=fun _ _=>rfl
theorem hgmg : ∀ H_ q_ z_ o_ l_,GX.heap H_ (.mget q_ z_ o_) l_=H_:=fun _ _ _ _ _=>rfl
theorem hgmp : ∀ H_ q_ a_ i_ j_ f_ k_ v_,GX.heap H_ (.mput q_) [.ptr a_ i_ j_ f_,.sc k_,v_]=mSet H_ i_ (mPut k_ v_ (mEs H_ i_)):=fun _ _ _ _ _ _ _ _=>rfl
theorem hgml : ∀ H_ l_,GX.heap H_ .mlen l_=H_:=fun _ _=>rfl
theorem hgmd : ∀ H_ q_ a_ i_ j_ f_ k_,GX.heap H_ (.mdel q_) [.ptr a_ i_ j_ f_,.sc k_]=mSet H_ i_ (mDel k_ (mEs H_ i_)):=fun _ _ _ _ _ _ _=>rfl
theorem mOk_eq : ∀ H_ i_ p_,mOk H_ i_ p_=match AHeap.find H_ i_ with
  | some blk=>(blk.k=0 ∧ blk.ty=0) ∧ p_ blk.es
  | none=>False:=fun _ _ _=>rfl
theorem mEs_eq : ∀ H_ i_,mEs H_ i_=match AHeap.find H_ i_ with
  | some blk=>blk.es
  | none=>[]:=fun _ _=>rfl
theorem mSet_eq : ∀ H_ i_ e_,mSet H_ i_ e_=match AHeap.find H_ i_ with
  | some blk=>AHeap.set H_ i_ (some { blk with es:=e_ })
  | none=>H_:=fun _ _ _=>rfl
theorem kOk_s : ∀ s_,kOk none (.string s_)=true:=fun _=>rfl
theorem kOk_i : ∀ k_ n_,kOk (some k_) (.int k_ n_)=true:=fun k_ _=>by cases k_ <;> rfl
theorem entsOk_nil : ∀ q_,entsOk q_ []=True:=fun q_=>by simp[entsOk]
theorem entsOk_cons : ∀ q_ k_ v_ r_,entsOk q_ (.tup [.sc k_,v_] :: r_)=(kOk q_ k_=true ∧ entsOk q_ r_):=fun q_ k_ v_ r_=>by simp[entsOk,entOk]
theorem kSame_s : ∀ a_ b_,kSame (.string a_) (.string b_)=decide (a_=b_):=fun _ _=>rfl
theorem kSame_i : ∀ k_ q_ a_ b_,kSame (.int k_ a_) (.int q_ b_)=decide (a_=b_):=fun _ _ _ _=>rfl
theorem gcopyS : ∀ H_ k_ i_ o_ n_ c_ s_,GX.ok H_ .copyS [.vec k_ i_ o_ n_ c_,.sc (.string s_)]=match AHeap.find H_ i_ with
  | some blk=>k_=1 ∧ blk.k=1 ∧ o_+n_ ≤ blk.es.length ∧ s_.size ≤ n_
  | none=>False:=fun _ _ _ _ _ _ _=>rfl
theorem vcopyS : ∀ H_ d_ s_,GX.val H_ .copyS [d_,.sc (.string s_)] = .sc (.int .i64 (s_.size : Nat)):=fun _ _ _=>rfl
theorem hcopyS : ∀ H_ k_ i_ o_ n_ c_ s_,GX.heap H_ .copyS [.vec k_ i_ o_ n_ c_,.sc (.string s_)]=match AHeap.find H_ i_ with
  | some blk=>AHeap.set H_ i_ (some { blk with es:=blk.es.take o_ ++ byteL s_ ++ blk.es.drop (o_+s_.size) })
  | none=>H_:=fun _ _ _ _ _ _ _=>rfl
theorem gappS : ∀ H_ t_ d_ s_,GX.ok H_ (.appS t_) [d_,.sc (.string s_)]=asOk H_ t_ s_ d_:=fun _ _ _ _=>rfl
theorem vappS : ∀ H_ t_ d_ s_,GX.val H_ (.appS t_) [d_,.sc (.string s_)]=asV H_ s_ d_:=fun _ _ _ _=>rfl
theorem happS : ∀ H_ t_ d_ s_,GX.heap H_ (.appS t_) [d_,.sc (.string s_)]=asH H_ t_ s_ d_:=fun _ _ _ _=>rfl
theorem asOk_n : ∀ H_ t_ s_,asOk H_ t_ s_ (.sc (.slice none 0 0))=(s_.size ≤ 100000000):=fun _ _ _=>rfl
theorem asOk_v : ∀ H_ t_ s_ k_ i_ o_ n_ c_,asOk H_ t_ s_ (.vec k_ i_ o_ n_ c_)=match AHeap.find H_ i_ with
  | some blk=>(k_=1 ∧ blk.k=1 ∧ blk.ty=t_ ∧ o_=0 ∧ n_+s_.size ≤ 100000000) ∧ (match c_ with
   | none=>blk.exact=false ∧ n_=blk.es.length
   | some m=>(blk.exact=true ∧ m=blk.es.length ∧ n_ ≤ m) ∨ (blk.exact=false ∧ n_ ≤ blk.es.length))
  | none=>False:=fun _ _ _ _ _ _ _ _=>rfl
theorem asV_n : ∀ H_ s_ v_,asV H_ s_ (.sc v_)=if s_.size=0 then .sc v_ else .vec 1 H_.length 0 s_.size none:=fun _ _ _=>rfl
theorem asV_vn : ∀ H_ s_ k_ i_ o_ n_,asV H_ s_ (.vec k_ i_ o_ n_ none) = .vec 1 H_.length 0 (n_+s_.size) none:=fun _ _ _ _ _ _=>rfl
theorem asV_vs : ∀ H_ s_ k_ i_ o_ n_ m_,asV H_ s_ (.vec k_ i_ o_ n_ (some m_))=if n_+s_.size ≤ m_ then .vec 1 i_ 0 (n_+s_.size) (some m_) else .vec 1 H_.length 0 (n_+s_.size) none:=fun _ _ _ _ _ _ _=>rfl
theorem asH_n : ∀ H_ t_ s_ v_,asH H_ t_ s_ (.sc v_)=if s_.size=0 then H_ else some ⟨1,byteL s_,false,t_⟩ :: H_:=fun _ _ _ _=>rfl
theorem asH_vn : ∀ H_ t_ s_ k_ i_ o_ n_,asH H_ t_ s_ (.vec k_ i_ o_ n_ none)=match AHeap.find H_ i_ with
  | some blk=>some ⟨1,blk.es ++ byteL s_,false,t_⟩ :: AHeap.set H_ i_ none
  | none=>H_:=fun _ _ _ _ _ _ _=>rfl
theorem gustr : ∀ H_ t_ p_ n_,GX.ok H_ (.ustr t_) [p_,.sc (.int .i64 n_)]=usOk H_ t_ n_ p_:=fun _ _ _ _=>rfl
theorem vustr : ∀ H_ t_ p_ k_ n_,GX.val H_ (.ustr t_) [p_,.sc (.int k_ n_)] = .sc (.string (usV H_ n_ p_)):=fun _ _ _ _ _=>rfl
theorem hustr : ∀ H_ t_ p_ n_,GX.heap H_ (.ustr t_) [p_,n_]=usH H_ p_:=fun _ _ _ _=>rfl
theorem usOk_n : ∀ H_ t_ n_,usOk H_ t_ n_ (.sc (.pointer none))=(n_=0):=fun _ _ _=>rfl
theorem usOk_p : ∀ H_ t_ n_ k_ i_ j_ f_,usOk H_ t_ n_ (.ptr k_ i_ j_ f_)=match AHeap.find H_ i_ with
  | some blk=>(k_=1 ∧ blk.k=1 ∧ blk.ty=t_ ∧ j_=0 ∧ f_=0 ∧ 0 < n_ ∧ n_.toNat ≤ blk.es.length) ∧ ∃ s,blk.es.take n_.toNat=byteL s
  | none=>False:=fun _ _ _ _ _ _ _=>rfl
theorem usV_n : ∀ H_ n_ v_,usV H_ n_ (.sc v_)=⟨#[]⟩:=fun _ _ _=>rfl
theorem usV_p : ∀ H_ n_ k_ i_ j_ f_,usV H_ n_ (.ptr k_ i_ j_ f_)=match AHeap.find H_ i_ with
  | some blk=>bytesV (blk.es.take n_.toNat)
  | none=>⟨#[]⟩:=fun _ _ _ _ _ _=>rfl
theorem usH_n : ∀ H_ v_,usH H_ (.sc v_)=H_:=fun _ _=>rfl
theorem usH_p : ∀ H_ k_ i_ j_ f_,usH H_ (.ptr k_ i_ j_ f_)=AHeap.set H_ i_ none:=fun _ _ _ _ _=>rfl
theorem gsdv : ∀ H_ k_ i_ o_ n_ c_,GX.ok H_ .sdata [.vec k_ i_ o_ n_ c_]=(0 < k_ ∧ 0 < n_):=fun _ _ _ _ _ _=>rfl
theorem gsdn : ∀ H_,GX.ok H_ .sdata [.sc (.slice none 0 0)]=True:=fun _=>rfl
theorem vsdv : ∀ H_ k_ i_ o_ n_ c_,GX.val H_ .sdata [.vec k_ i_ o_ n_ c_] = .ptr k_ i_ o_ 0:=fun _ _ _ _ _ _=>rfl
theorem vsdn : ∀ H_ v_,GX.val H_ .sdata [.sc v_] = .sc (.pointer none):=fun _ _=>rfl
theorem hsd : ∀ H_ l_,GX.heap H_ .sdata l_=H_:=fun _ _=>rfl
theorem gnilP : ∀ H_ p_ x_,GX.ok H_ (.nilP p_) [x_]=isPtr x_:=fun _ _ _=>rfl
theorem vnilPt : ∀ H_ x_,GX.val H_ (.nilP true) [x_] = .sc (.bool (isNilP x_)):=fun _ _=>rfl
theorem vnilPf : ∀ H_ x_,GX.val H_ (.nilP false) [x_] = .sc (.bool (!isNilP x_)):=fun _ _=>rfl
theorem hnilP : ∀ H_ p_ l_,GX.heap H_ (.nilP p_) l_=H_:=fun _ _ _=>rfl
theorem isPtr_p : ∀ k_ i_ j_ f_,isPtr (.ptr k_ i_ j_ f_)=(0 < k_):=fun _ _ _ _=>rfl
theorem isPtr_n : isPtr (.sc (.pointer none))=True:=rfl
theorem isNilP_p : ∀ k_ i_ j_ f_,isNilP (.ptr k_ i_ j_ f_)=false:=fun _ _ _ _=>rfl
theorem isNilP_n : isNilP (.sc (.pointer none))=true:=rfl
theorem geqP : ∀ H_ p_ k_ i_ j_ f_ k2_ i2_ j2_ f2_,GX.ok H_ (.eqP p_) [.ptr k_ i_ j_ f_,.ptr k2_ i2_ j2_ f2_]=((k_=k2_ ∧ i_=i2_ ∧ j_=j2_ ∧ f_=f2_) ∧ 0 < k_):=fun _ _ _ _ _ _ _ _ _ _=>rfl
theorem veqP : ∀ H_ p_ l_,GX.val H_ (.eqP p_) l_ = .sc (.bool p_):=fun _ _ _=>rfl
theorem heqP : ∀ H_ p_ l_,GX.heap H_ (.eqP p_) l_=H_:=fun _ _ _=>rfl
theorem gtoU : ∀ H_ k_ i_ j_ f_,GX.ok H_ .toU [.ptr k_ i_ j_ f_]=match AHeap.find H_ i_ with
  | some blk=>blk.k=k_ ∧ 0 < k_ ∧ j_ < blk.es.length ∧ f_ < k_
  | none=>False:=fun _ _ _ _ _=>rfl
theorem vtoU : ∀ H_ x_,GX.val H_ .toU [x_]=x_:=fun _ _=>rfl
theorem htoU : ∀ H_ l_,GX.heap H_ .toU l_=H_:=fun _ _=>rfl
theorem gfromU : ∀ H_ t_ k_ i_ j_ f_,GX.ok H_ (.fromU t_) [.ptr k_ i_ j_ f_]=match AHeap.find H_ i_ with
  | some blk=>(k_=2 ∧ blk.k=2 ∧ j_=0 ∧ f_=0 ∧ blk.exact=true ∧ blk.es.length=1) ∧ t_.contains blk.ty=true
  | none=>False:=fun _ _ _ _ _ _=>rfl
theorem vfromU : ∀ H_ t_ x_,GX.val H_ (.fromU t_) [x_]=x_:=fun _ _ _=>rfl
theorem hfromU : ∀ H_ t_ l_,GX.heap H_ (.fromU t_) l_=H_:=fun _ _ _=>rfl
theorem gsame1 : ∀ H_ x_,GX.ok H_ .same1 [x_]=True:=fun _ _=>rfl
theorem vsame1 : ∀ H_ x_,GX.val H_ .same1 [x_]=x_:=fun _ _=>rfl
theorem hsame1 : ∀ H_ l_,GX.heap H_ .same1 l_=H_:=fun _ _=>rfl
theorem gcntb : ∀ H_ s_ c_,GX.ok H_ .cntb [.sc (.string s_),.sc (.int .u8 c_)]=True:=fun _ _ _=>rfl
theorem vcntb : ∀ H_ s_ k_ c_,GX.val H_ .cntb [.sc (.string s_),.sc (.int k_ c_)] = .sc (.int .i64 (Lib.countByte s_.data.toList c_.toNat.toUInt8 : Nat)):=fun _ _ _ _=>rfl
theorem hcntb : ∀ H_ l_,GX.heap H_ .cntb l_=H_:=fun _ _=>rfl
theorem gappn : ∀ H_ k_ t_ z_ k2_ q_ m_,GX.ok H_ (.appz k_ t_ z_) [.lst k2_ [] (some []),.sc (.int q_ m_)]=(0 < m_ ∧ m_ ≤ 100000000):=fun _ _ _ _ _ _ _=>rfl
theorem vappn : ∀ H_ k_ t_ z_ k2_ x_ r_ q_ m_,GX.val H_ (.appz k_ t_ z_) [.lst k2_ x_ r_,.sc (.int q_ m_)] = .vec k_ H_.length 0 m_.toNat none:=fun _ _ _ _ _ _ _ _ _=>rfl
theorem happn : ∀ H_ k_ t_ z_ k2_ x_ r_ m_,GX.heap H_ (.appz k_ t_ z_) [.lst k2_ x_ r_,m_]=some ⟨k_,[],false,t_⟩ :: H_:=fun _ _ _ _ _ _ _ _=>rfl
def vu:=And.intro lenOk_nil <| And.intro lenN_nil <| And.intro @gappn <| And.intro @vappn <| And.intro @happn <| And.intro @gcopyS <| And.intro @vcopyS <| And.intro @hcopyS <| And.intro @gappS <| And.intro @vappS <| And.intro @happS <| And.intro @asOk_n <| And.intro @asOk_v <| And.intro @asV_n <| And.intro @asV_vn <| And.intro @asV_vs <| And.intro @asH_n <| And.intro @asH_vn <| And.intro @gustr <| And.intro @vustr <| And.intro @hustr <| And.intro @usOk_n <| And.intro @usOk_p <| And.intro @usV_n <| And.intro @usV_p <| And.intro @usH_n <| And.intro @usH_p <| And.intro @gsdv <| And.intro @gsdn <| And.intro @vsdv <| And.intro @vsdn <| And.intro @hsd <| And.intro @gnilP <| And.intro @vnilPt <| And.intro @vnilPf <| And.intro @hnilP <| And.intro @isPtr_p <| And.intro @isPtr_n <| And.intro @isNilP_p <| And.intro @isNilP_n <| And.intro @geqP <| And.intro @veqP <| And.intro @heqP <| And.intro @gtoU <| And.intro @vtoU <| And.intro @htoU <| And.intro @gfromU <| And.intro @vfromU <| And.intro @hfromU <| And.intro @gsame1 <| And.intro @vsame1 <| And.intro @hsame1 <| And.intro @gcntb <| And.intro @vcntb <| @hcntb
theorem gmc : ∀ H_ t_ i_ j_,GX.ok H_ .mclone [.ifc t_ (.ptr 0 i_ j_ 0)]=mOk H_ i_ (fun _=>True):=fun _ _ _ _=>rfl
theorem vmc : ∀ H_ t_ x_,GX.val H_ .mclone [.ifc t_ x_] = .ifc t_ (.ptr 0 H_.length 0 0):=fun _ _ _=>rfl
theorem hmc : ∀ H_ t_ k_ i_ j_ f_,GX.heap H_ .mclone [.ifc t_ (.ptr k_ i_ j_ f_)]=some ⟨0,mEs H_ i_,true,0⟩ :: H_:=fun _ _ _ _ _ _=>rfl
theorem gta : ∀ H_ t_ u_ x_,GX.ok H_ (.tas t_) [.ifc u_ x_]=(u_=t_):=fun _ _ _ _=>rfl
theorem vta : ∀ H_ t_ u_ x_,GX.val H_ (.tas t_) [.ifc u_ x_]=x_:=fun _ _ _ _=>rfl
theorem hta : ∀ H_ t_ l_,GX.heap H_ (.tas t_) l_=H_:=fun _ _ _=>rfl
theorem gnm : ∀ H_ p_ i_ j_,GX.ok H_ (.nilM p_) [.ptr 0 i_ j_ 0]=True:=fun _ _ _ _=>rfl
theorem gnmn : ∀ H_ p_,GX.ok H_ (.nilM p_) [.sc (.map none)]=True:=fun _ _=>rfl
theorem vnm : ∀ H_ p_ k_ i_ j_ f_,GX.val H_ (.nilM p_) [.ptr k_ i_ j_ f_] = .sc (.bool !p_):=fun _ _ _ _ _ _=>rfl
theorem vnmn : ∀ H_ p_ v_,GX.val H_ (.nilM p_) [.sc v_] = .sc (.bool p_):=fun _ _ _=>rfl
theorem hnm : ∀ H_ p_ l_,GX.heap H_ (.nilM p_) l_=H_:=fun _ _ _=>rfl
def vi:=And.intro @gmc <| And.intro @vmc <| And.intro @hmc <| And.intro @gta <| And.intro @vta <| And.intro @hta <| And.intro @gnm <| And.intro @gnmn <| And.intro @vnm <| And.intro @vnmn <| @hnm
def vg:=And.intro @gmk <| And.intro @gmg <| And.intro @gmp <| And.intro @gml <| And.intro @gmd <| And.intro @vmk <| And.intro @vmgt <| And.intro @vmgf <| And.intro @vmp <| And.intro @vml <| And.intro @vmd <| And.intro @hgmk <| And.intro @hgmg <| And.intro @hgmp <| And.intro @hgml <| And.intro @hgmd <| And.intro @mOk_eq <| And.intro @mEs_eq <| And.intro @mSet_eq <| And.intro @kOk_s <| And.intro @kOk_i <| And.intro @entsOk_nil <| And.intro @entsOk_cons <| And.intro @kSame_s <| And.intro @kSame_i <| And.intro @gidxb <| And.intro @vidxb <| And.intro @hidxb <| And.intro @govl <| And.intro @vovl <| And.intro @hovl <| And.intro @geq2 <| And.intro @veq2t <| And.intro @veq2f <| And.intro @heqA <| And.intro @gappz <| And.intro @vappz <| And.intro @happz <| And.intro @runS_gx <| And.intro @runDS_gx <| And.intro @gcap_v <| And.intro @gcap_l <| And.intro @gcopy <| And.intro @gs2b <| And.intro @vcap_v <| And.intro @vcap_l <| And.intro @vcopy <| And.intro @vs2b <| And.intro @hcap <| And.intro @hcopy <| And.intro @hs2b <| And.intro @gcOk_v <| And.intro @gcOk_l <| And.intro @gcH_v <| And.intro @gcH_l <| And.intro @gsOk_l <| And.intro @gsOk_v <| And.intro @gsV_l <| And.intro @gsV_v <| And.intro @gLen_l <| @gLen_v
def vk:=And.intro @ite_true.{1} <| And.intro @ite_false.{1} <| And.intro @eq_self.{1} <| And.intro @forall_const.{1} <| @implies_true.{1}
def vl:=And.intro @AHeap.set_length <| And.intro @killO_length <| And.intro @List.length_cons.{0} <| @List.length_nil.{0}
def va:=And.intro @runS_nil <| And.intro @runS_p <| And.intro @runS_load <| And.intro @runS_alloc <| And.intro @runS_box <| And.intro @runS_bsl <| And.intro @runS_bslV <| And.intro @runS_store <| And.intro @runS_mksl <| And.intro @runS_app <| And.intro @runS_itr <| And.intro @runS_call <| And.intro @runS_callv <| And.intro @callW_func <| And.intro @runS_grd <| And.intro @grdR_tt <| And.intro @grdR_ff <| And.intro @grdR_tf <| And.intro @grdR_ft <| And.intro @grdR_tup <| And.intro @runDS_nil <| And.intro @runDS_p <| And.intro @runDS_load <| And.intro @runDS_alloc <| And.intro @runDS_box <| And.intro @runDS_bsl <| And.intro @runDS_bslV <| And.intro @runDS_store <| And.intro @runDS_mksl <| And.intro @runDS_app <| And.intro @runDS_call <| And.intro @runDS_callv <| And.intro @callE_func <| And.intro @runDS_grd <| And.intro @grdD_tt <| And.intro @grdD_ff <| And.intro @grdD_tf <| And.intro @grdD_ft <| And.intro @grdD_tup <| And.intro @chS_same <| And.intro @ES_skip <| And.intro @ES_ops <| And.intro @ES_dops <| And.intro @ES_seq <| And.intro @ES_cond <| And.intro @ES_block <| And.intro @ES_exit <| And.intro @ES_ret <| And.intro @condR_t <| And.intro @condR_f <| And.intro @thenK_n <| And.intro @thenK_e <| And.intro @thenK_r <| And.intro @thenK_p <| And.intro @blockK_n <| And.intro @blockK_e <| And.intro @blockK_r <| And.intro @blockK_p <| And.intro @bodyS_n <| And.intro @bodyS_r <| And.intro @bodyS_p <| And.intro @defR_fn <| And.intro @preS_n <| And.intro @preS_e <| And.intro @preS_r <| And.intro @preS_p <| And.intro @bodyD_n <| And.intro @bodyD_r <| And.intro @bodyD_p <| And.intro @recS_run <| And.intro @recK_n <| And.intro @recK_r <| And.intro @recK_p <| And.intro @resOk.eq_1 <| And.intro @resOk.eq_2 <| And.intro @resOk.eq_3 <| And.intro @resV.eq_1 <| And.intro @resV.eq_2 <| And.intro @resV.eq_3 <| And.intro @oneOf.eq_def <| And.intro @PO.ok.eq_1 <| And.intro @PO.ok.eq_2 <| And.intro @PO.ok.eq_3 <| And.intro @PO.ok.eq_4 <| And.intro @PO.ok.eq_5 <| And.intro @PO.ok.eq_6 <| And.intro @PO.ok.eq_7 <| And.intro @PO.ok.eq_8 <| And.intro @PO.ok.eq_9 <| And.intro @PO.ok.eq_10 <| And.intro @PO.ok.eq_11 <| And.intro @PO.ok.eq_12 <| And.intro @PO.ok.eq_13 <| And.intro @PO.ok.eq_14 <| And.intro @PO.ok.eq_15 <| And.intro @PO.ok.eq_16 <| And.intro @PO.ok.eq_17 <| And.intro @PO.ok.eq_18 <| And.intro @PO.ok.eq_19 <| And.intro @PO.ok.eq_20 <| And.intro @PO.ok.eq_21 <| And.intro @PO.ok.eq_22 <| And.intro @PO.ok.eq_23 <| And.intro @PO.ok.eq_24 <| And.intro @PO.ok.eq_25 <| And.intro @PO.ok.eq_26 <| And.intro @PO.ok.eq_27 <| And.intro @PO.ok.eq_28 <| And.intro @PO.val.eq_1 <| And.intro @PO.val.eq_2 <| And.intro @PO.val.eq_3 <| And.intro @PO.val.eq_4 <| And.intro @PO.val.eq_5 <| And.intro @PO.val.eq_6 <| And.intro @PO.val.eq_7 <| And.intro @PO.val.eq_8 <| And.intro @PO.val.eq_9 <| And.intro @PO.val.eq_10 <| And.intro @PO.val.eq_11 <| And.intro @PO.val.eq_12 <| And.intro @PO.val.eq_13 <| And.intro @PO.val.eq_14 <| And.intro @PO.val.eq_15 <| And.intro @PO.val.eq_16 <| And.intro @PO.val.eq_17 <| And.intro @PO.val.eq_18 <| And.intro @PO.val.eq_19 <| And.intro @PO.val.eq_20 <| And.intro @PO.val.eq_21 <| And.intro @PO.val.eq_22 <| And.intro @PO.val.eq_23 <| And.intro @PO.val.eq_24 <| And.intro @PO.val.eq_25 <| And.intro @PO.val.eq_26 <| And.intro @PO.val.eq_27 <| And.intro @PO.val.eq_28 <| And.intro @binOk.eq_def <| And.intro @binF.eq_def <| And.intro @shOk.eq_def <| And.intro @shF.eq_def <| And.intro @unOk.eq_def <| And.intro @unF.eq_def <| And.intro @eqBOk.eq_def <| And.intro @eqBF.eq_def <| And.intro @eqNOk.eq_def <| And.intro @eqNF.eq_def <| And.intro @nilSOk.eq_def <| And.intro @nilSF.eq_def <| And.intro @pickOk.eq_def <| And.intro @pickF.eq_def <| And.intro @convOk.eq_def <| And.intro @convBOk.eq_def <| And.intro @convBF.eq_def <| And.intro @bytesOk_u8 <| And.intro @bytesOk_nil <| And.intro @convF.eq_def <| And.intro @nilckOk.eq_def <| And.intro @faddrOk.eq_def <| And.intro @faddrF.eq_def <| And.intro @fieldOk.eq_def <| And.intro @iaddrOk.eq_def <| And.intro @iaddrF.eq_def <| And.intro @iaddrAOk.eq_def <| And.intro @iaddrAF.eq_def <| And.intro @idxSOk.eq_def <| And.intro @idxSF.eq_def <| And.intro @idxAOk.eq_def <| And.intro @idxAF.eq_def <| And.intro @bndOk.eq_1 <| And.intro @bndOk.eq_2 <| And.intro @bndV.eq_1 <| And.intro @bndV.eq_2 <| And.intro @slcOk.eq_def <| And.intro @slcF.eq_def <| And.intro @strOk.eq_def <| And.intro @strV.eq_def <| And.intro @mmOk.eq_def <| And.intro @mmF.eq_def <| And.intro @extOk.eq_def <| And.intro @extF.eq_def <| And.intro @tassOk.eq_def <| And.intro @tassF.eq_def <| And.intro @fillOk.eq_1 <| And.intro @fillOk.eq_2 <| And.intro @fillV.eq_1 <| And.intro @fillV.eq_2 <| And.intro @binV.eq_def <| And.intro @shV.eq_def <| And.intro @unV.eq_def <| And.intro @ldOk.eq_def <| And.intro @ldV.eq_def <| And.intro @stOk.eq_def <| And.intro @stH.eq_def <| And.intro @elsOk.eq_1 <| And.intro @elsOk.eq_2 <| And.intro @elsV.eq_1 <| And.intro @elsV.eq_2 <| And.intro @isIntV.eq_def <| And.intro @intV.eq_def <| And.intro @ldN.eq_def <| And.intro @X.ev.eq_1 <| And.intro @X.ev.eq_2 <| And.intro @putT.eq_1 <| And.intro @putT.eq_2 <| And.intro @AV.sub.eq_def <| And.intro @AV.subOk.eq_def <| And.intro @List.getD_cons_succ.{0} <| And.intro @List.getD_cons_zero.{0} <| And.intro @List.set_cons_succ.{0} <| And.intro @List.set_cons_zero.{0} <| And.intro @List.length_cons.{0} <| And.intro @List.length_nil.{0} <| And.intro @List.replicate.eq_1.{0} <| And.intro @List.replicate.eq_2.{0} <| And.intro @List.cons_append.{0} <| And.intro @List.nil_append.{0} <| And.intro @List.append_nil.{0} <| And.intro @List.append_assoc.{0} <| And.intro @List.map_cons.{0,0} <| And.intro @List.map_nil.{0,0} <| And.intro @List.drop_succ_cons.{0} <| And.intro @List.drop_zero.{0} <| And.intro @List.take_succ_cons.{0} <| And.intro @List.take_zero.{0} <| And.intro @List.drop_nil.{0} <| And.intro @List.take_nil.{0} <| And.intro @List.getD_nil.{0} <| And.intro @Nat.zero_add <| And.intro @Nat.add_zero <| And.intro @Nat.add_left_cancel_iff <| And.intro @Nat.add_right_cancel_iff <| And.intro @Nat.left_eq_add <| And.intro @Nat.add_eq_left <| And.intro @Nat.add_eq_zero_iff <| And.intro @Nat.succ_ne_self <| And.intro @Option.isSome_some.{0} <| And.intro @Option.isSome_none.{0} <| And.intro @Option.getD_some.{0} <| And.intro @Option.getD_none.{0} <| And.intro @Option.map_some.{0,0} <| And.intro @Option.map_none.{0,0} <| And.intro @Bool.not_true <| And.intro @Bool.not_false <| And.intro @Bool.or_true <| And.intro @Bool.true_or <| And.intro @Bool.or_false <| And.intro @Bool.false_or <| And.intro @Bool.not_eq_true <| And.intro @true_and <| And.intro @and_true <| And.intro @false_and <| And.intro @and_false <| And.intro @true_or <| And.intro @or_true <| And.intro @or_false <| And.intro @false_or <| And.intro @and_self <| And.intro @Bool.false_eq_true <| And.intro @not_true <| And.intro @not_false_iff <| And.intro @decide_true <| And.intro @decide_false <| And.intro @beq_self_eq_true.{0} <| And.intro @nc2 <| And.intro @nc3 <| And.intro @nc4 <| And.intro @nc5 <| And.intro @nc6 <| And.intro @nc7 <| And.intro @nc8 <| And.intro @nc9 <| And.intro @nc10 <| And.intro @nc11 <| And.intro @nc12 <| And.intro @Int.natCast_zero <| And.intro @Int.natCast_one <| And.intro @ldS_nil <| And.intro @ldS_same <| And.intro @ldS_cons <| And.intro @ldS_lp <| And.intro @chS_nil <| And.intro @chS_cons <| And.intro @uno.eq_def <| And.intro @anc.eq_def <| And.intro @false_implies <| And.intro @Bool.not_eq_eq_eq_not <| And.intro @List.contains_cons.{0} <| And.intro @List.contains_nil.{0} <| And.intro @Bool.and_self <| And.intro @Bool.true_and <| And.intro @Bool.and_true <| And.intro @Bool.false_and <| And.intro @Bool.and_false <| And.intro @true_implies <| And.intro @Nat.add_assoc <| And.intro @toList_beq <| And.intro @Int.toNat_natCast <| And.intro @strs_length <| And.intro @strs_nil <| And.intro @int_beq <| And.intro @not_dec <| And.intro @bne.eq_def.{0} <| @wrap_i64
def vs:=And.intro ux <| And.intro @lenN_lst <| And.intro @lenN_vec <| And.intro @lenOk_lst <| And.intro @lenOk_vec <| And.intro @lsOk_lst <| And.intro @lsOk_vec <| And.intro @lsV_lst <| And.intro @lsV_vec <| And.intro @apOk_lst <| And.intro @apOk_vn <| And.intro @apOk_vs <| And.intro @apV_lst0 <| And.intro @apV_lst1 <| And.intro @apV_vn <| And.intro @apV_vs <| And.intro @apH_lst0 <| And.intro @apH_lst1 <| And.intro @apH_vn <| And.intro @apH_vs <| And.intro @isTop_sc <| And.intro @isAgg_sc <| And.intro @ncells_sc <| And.intro @cells_sc <| And.intro @upd_sc <| And.intro @isTop_lst <| And.intro @isAgg_lst <| And.intro @ncells_lst <| And.intro @cells_lst <| And.intro @upd_lst <| And.intro @isTop_vec <| And.intro @isAgg_vec <| And.intro @ncells_vec <| And.intro @cells_vec <| And.intro @upd_vec <| And.intro @isTop_ptr <| And.intro @isAgg_ptr <| And.intro @ncells_ptr <| And.intro @cells_ptr <| And.intro @upd_ptr <| And.intro @isTop_lp <| And.intro @isAgg_lp <| And.intro @ncells_lp <| And.intro @cells_lp <| And.intro @upd_lp <| And.intro @isTop_agg <| And.intro @isAgg_agg <| And.intro @ncells_agg <| And.intro @cells_agg <| And.intro @upd_agg <| And.intro @isTop_tup <| And.intro @isAgg_tup <| And.intro @ncells_tup <| And.intro @cells_tup <| And.intro @upd_tup <| And.intro @isTop_fn <| And.intro @isAgg_fn <| And.intro @ncells_fn <| And.intro @cells_fn <| And.intro @upd_fn <| And.intro @isTop_ifc <| And.intro @isAgg_ifc <| And.intro @ncells_ifc <| And.intro @cells_ifc <| And.intro @upd_ifc <| And.intro @isTop_ub <| And.intro @isAgg_ub <| And.intro @ncells_ub <| And.intro @cells_ub <| And.intro @upd_ub <| And.intro @isTop_top <| And.intro @isAgg_top <| And.intro @ncells_top <| And.intro @cells_top <| @upd_top
def vh:=And.intro @AHeap.find.eq_1 <| And.intro @AHeap.find.eq_2 <| And.intro @AHeap.set.eq_1 <| @AHeap.set.eq_2
def vw:=And.intro @find_top <| And.intro @find_past <| And.intro @find_set_eq <| And.intro @find_set_other <| And.intro @set_past <| And.intro @set_top <| And.intro @AHeap.set_length <| And.intro @find_killO <| And.intro @killO_past <| And.intro @killO_length <| And.intro @OwnV_top <| And.intro @OwnV_ncells <| And.intro @OwnV_isAgg <| And.intro @OwnV_cells <| And.intro @upd_OwnV <| And.intro @OwnV_lenN <| @OwnV_lenOk
end Go.Proofs.YtdjnccnecgblmaaGreatDoor
namespace Go.Proofs.YtdjnccnecgblmaaGreatDoor
open Go.RowKit
set_option linter.unusedVariables false
set_option linter.unusedSimpArgs false
theorem run_indexStr (s : ByteArray) (c : Int) (w : World) : (callFunc 202 #[.string s,.int .u8 c]).run Tryz.prog w = .ok (.value (.int .i64 (Lib.indexByte s.data.toList c.toNat.toUInt8))) w:=by
 have hf:=Tryz.func202
 rw[run_callFunc_extern (e:=Extern.BytealgIndexByte.indexByte) hf (by kernel_rfl) (by kernel_rfl) (by kernel_rfl) (by kernel_rfl),Lib.run_indexByteString (P:=Tryz.prog) s c w]
 rfl
theorem indexByte_any (s : ByteArray) (w : World) : Calls Tryz.prog 106 #[.string s,.int .u8 10] w fun e w'=>e = .returned (.int .i64 (Lib.indexByte s.data.toList 10)) ∧ w=w':=by
 have hr:=fun w=>run_indexStr s 10 w
 have hlit : (10 : Int).toNat.toUInt8=10:=rfl
 rw[hlit] at hr
 go_enter Tryz.func106,Tryz.ntmps106
 go_wp2
 go_ret
 exact ⟨rfl,rfl⟩
def nl (s : ByteArray) : Int:=Lib.indexByte s.data.toList 10
theorem indexByte_d (s : ByteArray) (H : AHeap) : D Tryz.prog 106 [.sc (.string s),.sc (.int .u8 10)] H (.ret (.sc (.int .i64 (nl s)))) H:=by
 refine D_of_calls (fun w vs φ O ha=>?_) rfl
 obtain ⟨v,r,h1,h2,h3⟩:=Rt_cons ha
 obtain ⟨u,h4,h5⟩:=Rt_one h3
 rw[h4] at h1
 rw[arr_of h1,VR_sc h2,VR_sc h5]
 exact indexByte_any s w
end Go.Proofs.YtdjnccnecgblmaaGreatDoor
namespace Go.Proofs.YtdjnccnecgblmaaGreatDoor
open Go.RowKit
set_option maxRecDepth 100000
set_option linter.unusedVariables false
set_option linter.unusedSimpArgs false
theorem clone_d (l : List ByteArray) (ro : Option (List AV)) (H : AHeap) (hl : l.length ≤ 100000000) : D Tryz.prog 187 [.lst 1 (strs l) ro] H (.ret (.lst 1 (strs l) none)) H:=by
 refine D_of_DK (Nat.le_refl _) (dk187 (E_of_ES ?_))
 cases l with
 | nil =>
  simp only[ic187,strs_nil,va,vg,vs,vh,Nat.reduceMul,ite_true,ite_false,eq_self,forall_const,implies_true,Nat.reduceAdd,Nat.reduceSub,Nat.reduceLT,Nat.reduceLeDiff,↓reduceIte,reduceCtorEq,Int.reduceEq,Int.reduceLT,Int.reduceLE,Int.reduceGT,Int.reduceGE,Int.reduceAdd,Int.reduceSub,Int.reduceNeg,Int.reduceToNat,Nat.reduceBEq,Nat.reduceEqDiff]
  refine condR_u ?_ ?_
  ·simp only[va,vg,vs,vh,Nat.reduceMul,ite_true,ite_false,eq_self,forall_const,implies_true,Nat.reduceAdd,Nat.reduceSub,Nat.reduceLT,Nat.reduceLeDiff,↓reduceIte,reduceCtorEq,Int.reduceEq,Int.reduceLT,Int.reduceLE,Int.reduceGT,Int.reduceGE,Int.reduceAdd,Int.reduceSub,Int.reduceNeg,Int.reduceToNat,Nat.reduceBEq,Nat.reduceEqDiff]
   exact weak_over .refl .nil
  ·simp only[va,vg,vs,vh,Nat.reduceMul,ite_true,ite_false,eq_self,forall_const,implies_true,Nat.reduceAdd,Nat.reduceSub,Nat.reduceLT,Nat.reduceLeDiff,↓reduceIte,reduceCtorEq,Int.reduceEq,Int.reduceLT,Int.reduceLE,Int.reduceGT,Int.reduceGE,Int.reduceAdd,Int.reduceSub,Int.reduceNeg,Int.reduceToNat,Nat.reduceBEq,Nat.reduceEqDiff]
   exact weak_over .refl .nil
 | cons s l =>
  simp only[List.length_cons] at hl
  simp only[ic187,strs_cons,strs_length,va,vg,vs,vh,Nat.reduceMul,ite_true,ite_false,eq_self,forall_const,implies_true,Nat.reduceAdd,Nat.reduceSub,Nat.reduceLT,Nat.reduceLeDiff,↓reduceIte,reduceCtorEq,Int.reduceEq,Int.reduceLT,Int.reduceLE,Int.reduceGT,Int.reduceGE,Int.reduceAdd,Int.reduceSub,Int.reduceNeg,Int.reduceToNat,Nat.reduceBEq,Nat.reduceEqDiff]
  refine ⟨by omega,weak_over (.cons .refl) (fz_fresh (ty:=0) (l:=s :: l) (AHeap.find_new ..) rfl rfl rfl (Nat.le_refl _))⟩
theorem sameTexts_d (a b : List ByteArray) (ra rb : Option (List AV)) (H : AHeap) (hl : a.length ≤ 100000000) : D Tryz.prog 16 [.lst 1 (strs a) ra,.lst 1 (strs b) rb] H (.ret (.sc (.bool (decide (a=b))))) H:=by
 refine D_of_DK (Nat.le_refl _) (dk16 (E_of_ES ?_))
 simp -implicitDefEqProofs (maxSteps:=99999999) (disch:=omega) only[ic16,va,vg,vs,vh,Nat.reduceMul,ite_true,ite_false,eq_self,forall_const,implies_true,Nat.reduceAdd,Nat.reduceSub,Nat.reduceLT,Nat.reduceLeDiff,↓reduceIte,reduceCtorEq,Int.reduceEq,Int.reduceLT,Int.reduceLE,Int.reduceGT,Int.reduceGE,Int.reduceAdd,Int.reduceSub,Int.reduceNeg,Int.reduceToNat,Nat.reduceBEq,Nat.reduceEqDiff]
 refine condR_if (fun h=>?_) (fun h=>?_)
 ·have hne : ¬ a=b:=fun e=>by simp[e] at h
  simp -implicitDefEqProofs (maxSteps:=99999999) (disch:=omega) only[hne,va,vg,vs,vh,Nat.reduceMul,ite_true,ite_false,eq_self,forall_const,implies_true,Nat.reduceAdd,Nat.reduceSub,Nat.reduceLT,Nat.reduceLeDiff,↓reduceIte,reduceCtorEq,Int.reduceEq,Int.reduceLT,Int.reduceLE,Int.reduceGT,Int.reduceGE,Int.reduceAdd,Int.reduceSub,Int.reduceNeg,Int.reduceToNat,Nat.reduceBEq,Nat.reduceEqDiff]
  exact weak_sc .refl
 have hl2 : a.length=b.length:=by omega
 simp -implicitDefEqProofs (maxSteps:=99999999) (disch:=omega) only[va,vg,vs,vh,Nat.reduceMul,ite_true,ite_false,eq_self,forall_const,implies_true,Nat.reduceAdd,Nat.reduceSub,Nat.reduceLT,Nat.reduceLeDiff,↓reduceIte,reduceCtorEq,Int.reduceEq,Int.reduceLT,Int.reduceLE,Int.reduceGT,Int.reduceGE,Int.reduceAdd,Int.reduceSub,Int.reduceNeg,Int.reduceToNat,Nat.reduceBEq,Nat.reduceEqDiff]
 refine ES_loop (fun ts H'=>H'=H ∧ ∃ k : Nat,(k ≤ a.length ∧ ∀ j,j < k→nthS a j=nthS b j) ∧ Fr [some (.lst 1 (strs a) ra),some (.lst 1 (strs b) rb),none,none,some (.sc (.bool false)),some (.sc (.int .i64 k)),none,none,none,none,none,none,none,none,none,none,none,none,none,none,none,none,none,none,none,none] ts) (fun ts _=>a.length - (intV (ts.getD 5 .top)).toNat) ?_ ?_
 ·exact ⟨rfl,0,⟨Nat.zero_le _,fun j h=>absurd h (Nat.not_lt_zero _)⟩,by simp[Fr]⟩
 rintro ts _ ⟨rfl,k,⟨hk,hp⟩,hfr⟩
 obtain ⟨js,rfl⟩:=hfr.opened
 clear hfr
 simp -implicitDefEqProofs (maxSteps:=99999999) (disch:=omega) only[mk,va,vg,vs,vh,Nat.reduceMul,ite_true,ite_false,eq_self,forall_const,implies_true,Nat.reduceAdd,Nat.reduceSub,Nat.reduceLT,Nat.reduceLeDiff,↓reduceIte,reduceCtorEq,Int.reduceEq,Int.reduceLT,Int.reduceLE,Int.reduceGT,Int.reduceGE,Int.reduceAdd,Int.reduceSub,Int.reduceNeg,Int.reduceToNat,Nat.reduceBEq,Nat.reduceEqDiff]
 refine condR_if (fun h=>?_) (fun h=>?_)
 ·have h1 : k < a.length:=by omega
  have h2 : k < b.length:=by omega
  simp -implicitDefEqProofs (maxSteps:=99999999) (disch:=omega) only[strs_get h1,strs_get h2,va,vg,vs,vh,Nat.reduceMul,ite_true,ite_false,eq_self,forall_const,implies_true,Nat.reduceAdd,Nat.reduceSub,Nat.reduceLT,Nat.reduceLeDiff,↓reduceIte,reduceCtorEq,Int.reduceEq,Int.reduceLT,Int.reduceLE,Int.reduceGT,Int.reduceGE,Int.reduceAdd,Int.reduceSub,Int.reduceNeg,Int.reduceToNat,Nat.reduceBEq,Nat.reduceEqDiff]
  refine ⟨by omega,by omega,condR_if (fun h=>?_) (fun h=>?_)⟩
  ·have hne : ¬ a=b:=fun e=>by simp[e] at h
   simp -implicitDefEqProofs (maxSteps:=99999999) (disch:=omega) only[hne,va,vg,vs,vh,Nat.reduceMul,ite_true,ite_false,eq_self,forall_const,implies_true,Nat.reduceAdd,Nat.reduceSub,Nat.reduceLT,Nat.reduceLeDiff,↓reduceIte,reduceCtorEq,Int.reduceEq,Int.reduceLT,Int.reduceLE,Int.reduceGT,Int.reduceGE,Int.reduceAdd,Int.reduceSub,Int.reduceNeg,Int.reduceToNat,Nat.reduceBEq,Nat.reduceEqDiff]
   exact weak_sc .refl
  ·simp -implicitDefEqProofs (maxSteps:=99999999) (disch:=omega) only[va,vg,vs,vh,Nat.reduceMul,ite_true,ite_false,eq_self,forall_const,implies_true,Nat.reduceAdd,Nat.reduceSub,Nat.reduceLT,Nat.reduceLeDiff,↓reduceIte,reduceCtorEq,Int.reduceEq,Int.reduceLT,Int.reduceLE,Int.reduceGT,Int.reduceGE,Int.reduceAdd,Int.reduceSub,Int.reduceNeg,Int.reduceToNat,Nat.reduceBEq,Nat.reduceEqDiff]
   refine ⟨⟨k+1,⟨by omega,fun j hj=>?_⟩,by simp[Fr]⟩,by omega⟩
   rcases Nat.lt_succ_iff_lt_or_eq.1 hj with h' | rfl
   ·exact hp j h'
   ·exact Classical.not_not.1 h
 ·have hab : a=b:=nthS_ext hl2 (fun i hi=>hp i (by omega))
  simp -implicitDefEqProofs (maxSteps:=99999999) (disch:=omega) only[hab,va,vg,vs,vh,Nat.reduceMul,ite_true,ite_false,eq_self,forall_const,implies_true,Nat.reduceAdd,Nat.reduceSub,Nat.reduceLT,Nat.reduceLeDiff,↓reduceIte,reduceCtorEq,Int.reduceEq,Int.reduceLT,Int.reduceLE,Int.reduceGT,Int.reduceGE,Int.reduceAdd,Int.reduceSub,Int.reduceNeg,Int.reduceToNat,Nat.reduceBEq,Nat.reduceEqDiff]
  exact weak_sc .refl
theorem equal_d (a b : List ByteArray) (ra rb : Option (List AV)) (H : AHeap) (hl : a.length ≤ 100000000) : D Tryz.prog 91 [.lst 1 (strs a) ra,.lst 1 (strs b) rb] H (.ret (.sc (.bool (decide (a=b))))) H:=by
 refine D_of_DK (Nat.le_refl _) (dk91 (E_of_ES ?_))
 simp -implicitDefEqProofs (maxSteps:=99999999) (disch:=omega) only[ic91,va,vg,vs,vh,Nat.reduceMul,ite_true,ite_false,eq_self,forall_const,implies_true,Nat.reduceAdd,Nat.reduceSub,Nat.reduceLT,Nat.reduceLeDiff,↓reduceIte,reduceCtorEq,Int.reduceEq,Int.reduceLT,Int.reduceLE,Int.reduceGT,Int.reduceGE,Int.reduceAdd,Int.reduceSub,Int.reduceNeg,Int.reduceToNat,Nat.reduceBEq,Nat.reduceEqDiff]
 refine condR_if (fun h=>?_) (fun h=>?_)
 ·have hne : ¬ a=b:=fun e=>by simp[e] at h
  simp -implicitDefEqProofs (maxSteps:=99999999) (disch:=omega) only[hne,va,vg,vs,vh,Nat.reduceMul,ite_true,ite_false,eq_self,forall_const,implies_true,Nat.reduceAdd,Nat.reduceSub,Nat.reduceLT,Nat.reduceLeDiff,↓reduceIte,reduceCtorEq,Int.reduceEq,Int.reduceLT,Int.reduceLE,Int.reduceGT,Int.reduceGE,Int.reduceAdd,Int.reduceSub,Int.reduceNeg,Int.reduceToNat,Nat.reduceBEq,Nat.reduceEqDiff]
  exact weak_sc .refl
 have hl2 : a.length=b.length:=by omega
 simp -implicitDefEqProofs (maxSteps:=99999999) (disch:=omega) only[va,vg,vs,vh,Nat.reduceMul,ite_true,ite_false,eq_self,forall_const,implies_true,Nat.reduceAdd,Nat.reduceSub,Nat.reduceLT,Nat.reduceLeDiff,↓reduceIte,reduceCtorEq,Int.reduceEq,Int.reduceLT,Int.reduceLE,Int.reduceGT,Int.reduceGE,Int.reduceAdd,Int.reduceSub,Int.reduceNeg,Int.reduceToNat,Nat.reduceBEq,Nat.reduceEqDiff]
 refine ES_loop (fun ts H'=>H'=H ∧ ∃ k : Nat,(k ≤ a.length ∧ ∀ j,j < k→nthS a j=nthS b j) ∧ Fr [some (.lst 1 (strs a) ra),some (.lst 1 (strs b) rb),none,none,some (.sc (.bool false)),none,none,none,none,none,none,none,some (.sc (.int .i64 a.length)),some (.sc (.int .i64 k)),none,none,none,none,none,none,none,none,none,none,none,none] ts) (fun ts _=>a.length - (intV (ts.getD 13 .top)).toNat) ?_ ?_
 ·exact ⟨rfl,0,⟨Nat.zero_le _,fun j h=>absurd h (Nat.not_lt_zero _)⟩,by simp[Fr]⟩
 rintro ts _ ⟨rfl,k,⟨hk,hp⟩,hfr⟩
 obtain ⟨js,rfl⟩:=hfr.opened
 clear hfr
 simp -implicitDefEqProofs (maxSteps:=99999999) (disch:=omega) only[mk,va,vg,vs,vh,Nat.reduceMul,ite_true,ite_false,eq_self,forall_const,implies_true,Nat.reduceAdd,Nat.reduceSub,Nat.reduceLT,Nat.reduceLeDiff,↓reduceIte,reduceCtorEq,Int.reduceEq,Int.reduceLT,Int.reduceLE,Int.reduceGT,Int.reduceGE,Int.reduceAdd,Int.reduceSub,Int.reduceNeg,Int.reduceToNat,Nat.reduceBEq,Nat.reduceEqDiff]
 refine condR_if (fun h=>?_) (fun h=>?_)
 ·have h1 : k < a.length:=by omega
  have h2 : k < b.length:=by omega
  simp -implicitDefEqProofs (maxSteps:=99999999) (disch:=omega) only[strs_get h1,strs_get h2,va,vg,vs,vh,Nat.reduceMul,ite_true,ite_false,eq_self,forall_const,implies_true,Nat.reduceAdd,Nat.reduceSub,Nat.reduceLT,Nat.reduceLeDiff,↓reduceIte,reduceCtorEq,Int.reduceEq,Int.reduceLT,Int.reduceLE,Int.reduceGT,Int.reduceGE,Int.reduceAdd,Int.reduceSub,Int.reduceNeg,Int.reduceToNat,Nat.reduceBEq,Nat.reduceEqDiff]
  refine ⟨by omega,by omega,condR_if (fun h=>?_) (fun h=>?_)⟩
  ·have hne : ¬ a=b:=fun e=>by simp[e] at h
   simp -implicitDefEqProofs (maxSteps:=99999999) (disch:=omega) only[hne,va,vg,vs,vh,Nat.reduceMul,ite_true,ite_false,eq_self,forall_const,implies_true,Nat.reduceAdd,Nat.reduceSub,Nat.reduceLT,Nat.reduceLeDiff,↓reduceIte,reduceCtorEq,Int.reduceEq,Int.reduceLT,Int.reduceLE,Int.reduceGT,Int.reduceGE,Int.reduceAdd,Int.reduceSub,Int.reduceNeg,Int.reduceToNat,Nat.reduceBEq,Nat.reduceEqDiff]
   exact weak_sc .refl
  ·simp -implicitDefEqProofs (maxSteps:=99999999) (disch:=omega) only[va,vg,vs,vh,Nat.reduceMul,ite_true,ite_false,eq_self,forall_const,implies_true,Nat.reduceAdd,Nat.reduceSub,Nat.reduceLT,Nat.reduceLeDiff,↓reduceIte,reduceCtorEq,Int.reduceEq,Int.reduceLT,Int.reduceLE,Int.reduceGT,Int.reduceGE,Int.reduceAdd,Int.reduceSub,Int.reduceNeg,Int.reduceToNat,Nat.reduceBEq,Nat.reduceEqDiff]
   refine ⟨⟨k+1,⟨by omega,fun j hj=>?_⟩,by simp[Fr]⟩,by omega⟩
   rcases Nat.lt_succ_iff_lt_or_eq.1 hj with h' | rfl
   ·exact hp j h'
   ·exact Classical.not_not.1 h
 ·have hab : a=b:=nthS_ext hl2 (fun i hi=>hp i (by omega))
  simp -implicitDefEqProofs (maxSteps:=99999999) (disch:=omega) only[hab,va,vg,vs,vh,Nat.reduceMul,ite_true,ite_false,eq_self,forall_const,implies_true,Nat.reduceAdd,Nat.reduceSub,Nat.reduceLT,Nat.reduceLeDiff,↓reduceIte,reduceCtorEq,Int.reduceEq,Int.reduceLT,Int.reduceLE,Int.reduceGT,Int.reduceGE,Int.reduceAdd,Int.reduceSub,Int.reduceNeg,Int.reduceToNat,Nat.reduceBEq,Nat.reduceEqDiff]
  exact weak_sc .refl
def lineOk (s : ByteArray) : Bool:=decide (s ≠ ByteArray.empty) && (decide (nl s < 0) || decide ((s.size : Int) - 1 ≤ nl s))
def good (xs : List ByteArray) (k : Nat) : Bool:=lineOk (nthS xs k) && (!decide (nl (nthS xs k) < 0) || decide (k+1=xs.length))
def linesB (xs : List ByteArray) : Bool:=(List.range xs.length).all (good xs)
theorem linesB_bad {xs : List ByteArray} {k : Nat} (hk : k < xs.length) (h : good xs k=false) : linesB xs=false:=by
 cases hl : linesB xs with
 | false=>rfl
 | true =>
  unfold linesB at hl
  rw[List.all_eq_true] at hl
  rw[hl k (by simpa using hk)] at h
  simp at h
theorem linesB_ok {xs : List ByteArray} (h : ∀ k,k < xs.length→good xs k=true) : linesB xs=true:=by
 unfold linesB
 rw[List.all_eq_true]
 intro k hk
 exact h k (by simpa using hk)
def Short (xs : List ByteArray) : Prop:=xs.length ≤ 100000000 ∧ ∀ s ∈ xs,s.size ≤ 100000000
theorem Short.nth {xs : List ByteArray} (h : Short xs) {k : Nat} (hk : k < xs.length) : (nthS xs k).size ≤ 100000000:=by
 rw[nthS_eq hk];exact h.2 _ (List.getElem_mem _)
theorem lines_d (a : List ByteArray) (ra : Option (List AV)) (H : AHeap) (hl : Short a) : D Tryz.prog 90 [.lst 1 (strs a) ra] H (.ret (.sc (.bool (linesB a)))) H:=by
 have hlen:=hl.1
 refine D_of_DK (Nat.le_refl _) (dk90 (E_of_ES ?_))
 simp -implicitDefEqProofs (maxSteps:=99999999) (disch:=omega) only[ic90,va,vg,vs,vh,Nat.reduceMul,ite_true,ite_false,eq_self,forall_const,implies_true,Nat.reduceAdd,Nat.reduceSub,Nat.reduceLT,Nat.reduceLeDiff,↓reduceIte,reduceCtorEq,Int.reduceEq,Int.reduceLT,Int.reduceLE,Int.reduceGT,Int.reduceGE,Int.reduceAdd,Int.reduceSub,Int.reduceNeg,Int.reduceToNat,Nat.reduceBEq,Nat.reduceEqDiff]
 refine ES_loop (fun ts H'=>H'=H ∧ ∃ k : Nat,(k ≤ a.length ∧ ∀ j,j < k→good a j=true) ∧ Fr [some (.lst 1 (strs a) ra),none,some (.sc (.bool false)),none,none,none,some (.lst 1 (strs a) ra),some (.sc (.int .i64 a.length)),some (.sc (.int .i64 k)),none,none,none,none,none,none,none,none,none,none,none,none,none,none,none,none,none,none,none,none,none,none,none,none,none,none,none,none,none,none,none] ts) (fun ts _=>a.length - (intV (ts.getD 8 .top)).toNat) ?_ ?_
 ·exact ⟨rfl,0,⟨Nat.zero_le _,fun j h=>absurd h (Nat.not_lt_zero _)⟩,by simp[Fr]⟩
 rintro ts _ ⟨rfl,k,⟨hk,hp⟩,hfr⟩
 obtain ⟨js,rfl⟩:=hfr.opened
 clear hfr
 simp -implicitDefEqProofs (maxSteps:=99999999) (disch:=omega) only[mk,va,vg,vs,vh,Nat.reduceMul,ite_true,ite_false,eq_self,forall_const,implies_true,Nat.reduceAdd,Nat.reduceSub,Nat.reduceLT,Nat.reduceLeDiff,↓reduceIte,reduceCtorEq,Int.reduceEq,Int.reduceLT,Int.reduceLE,Int.reduceGT,Int.reduceGE,Int.reduceAdd,Int.reduceSub,Int.reduceNeg,Int.reduceToNat,Nat.reduceBEq,Nat.reduceEqDiff]
 refine condR_if (fun h=>?_) (fun h=>?_)
 ·have h1 : k < a.length:=by omega
  have hs:=hl.nth h1
  simp -implicitDefEqProofs (maxSteps:=99999999) (disch:=omega) only[strs_get h1,va,vg,vs,vh,Nat.reduceMul,ite_true,ite_false,eq_self,forall_const,implies_true,Nat.reduceAdd,Nat.reduceSub,Nat.reduceLT,Nat.reduceLeDiff,↓reduceIte,reduceCtorEq,Int.reduceEq,Int.reduceLT,Int.reduceLE,Int.reduceGT,Int.reduceGE,Int.reduceAdd,Int.reduceSub,Int.reduceNeg,Int.reduceToNat,Nat.reduceBEq,Nat.reduceEqDiff]
  refine ⟨by omega,callR_ret (indexByte_d _ _) ?_⟩
  by_cases e0 : nthS a k=⟨#[]⟩
  ·have hb : linesB a=false:=linesB_bad h1 (by unfold good lineOk;rw[e0];rfl)
   simp -implicitDefEqProofs (maxSteps:=99999999) (disch:=omega) only[e0,hb,va,vg,vs,vh,Nat.reduceMul,ite_true,ite_false,eq_self,forall_const,implies_true,Nat.reduceAdd,Nat.reduceSub,Nat.reduceLT,Nat.reduceLeDiff,↓reduceIte,reduceCtorEq,Int.reduceEq,Int.reduceLT,Int.reduceLE,Int.reduceGT,Int.reduceGE,Int.reduceAdd,Int.reduceSub,Int.reduceNeg,Int.reduceToNat,Nat.reduceBEq,Nat.reduceEqDiff]
   exact weak_sc .refl
  by_cases e1 : nl (nthS a k) < 0
  ·have e1' : ¬ (nl (nthS a k) ≥ 0):=by omega
   by_cases e2 : (k : Int) < a.length - 1
   ·have hb : linesB a=false:=linesB_bad h1 (by unfold good lineOk;simp[e1];omega)
    simp -implicitDefEqProofs (maxSteps:=99999999) (disch:=omega) only[e0,e1,e1',e2,hb,va,vg,vs,vh,Nat.reduceMul,ite_true,ite_false,eq_self,forall_const,implies_true,Nat.reduceAdd,Nat.reduceSub,Nat.reduceLT,Nat.reduceLeDiff,↓reduceIte,reduceCtorEq,Int.reduceEq,Int.reduceLT,Int.reduceLE,Int.reduceGT,Int.reduceGE,Int.reduceAdd,Int.reduceSub,Int.reduceNeg,Int.reduceToNat,Nat.reduceBEq,Nat.reduceEqDiff]
    exact weak_sc .refl
   ·have hg : good a k=true:=by unfold good lineOk;simp[e1];exact ⟨e0,by omega⟩
    simp -implicitDefEqProofs (maxSteps:=99999999) (disch:=omega) only[e0,e1,e1',e2,va,vg,vs,vh,Nat.reduceMul,ite_true,ite_false,eq_self,forall_const,implies_true,Nat.reduceAdd,Nat.reduceSub,Nat.reduceLT,Nat.reduceLeDiff,↓reduceIte,reduceCtorEq,Int.reduceEq,Int.reduceLT,Int.reduceLE,Int.reduceGT,Int.reduceGE,Int.reduceAdd,Int.reduceSub,Int.reduceNeg,Int.reduceToNat,Nat.reduceBEq,Nat.reduceEqDiff]
    refine ⟨⟨k+1,⟨by omega,fun j hj=>?_⟩,by simp[Fr]⟩,by omega⟩
    rcases Nat.lt_succ_iff_lt_or_eq.1 hj with h' | rfl
    ·exact hp j h'
    ·exact hg
  ·have e1' : nl (nthS a k) ≥ 0:=by omega
   by_cases e2 : nl (nthS a k) < (nthS a k).size - 1
   ·have hb : linesB a=false:=linesB_bad h1 (by unfold good lineOk;simp[e1];intro _;omega)
    simp -implicitDefEqProofs (maxSteps:=99999999) (disch:=omega) only[e0,e1,e1',e2,hb,va,vg,vs,vh,Nat.reduceMul,ite_true,ite_false,eq_self,forall_const,implies_true,Nat.reduceAdd,Nat.reduceSub,Nat.reduceLT,Nat.reduceLeDiff,↓reduceIte,reduceCtorEq,Int.reduceEq,Int.reduceLT,Int.reduceLE,Int.reduceGT,Int.reduceGE,Int.reduceAdd,Int.reduceSub,Int.reduceNeg,Int.reduceToNat,Nat.reduceBEq,Nat.reduceEqDiff]
    exact weak_sc .refl
   ·have hg : good a k=true:=by unfold good lineOk;simp[e1];exact ⟨e0,by omega⟩
    simp -implicitDefEqProofs (maxSteps:=99999999) (disch:=omega) only[e0,e1,e1',e2,va,vg,vs,vh,Nat.reduceMul,ite_true,ite_false,eq_self,forall_const,implies_true,Nat.reduceAdd,Nat.reduceSub,Nat.reduceLT,Nat.reduceLeDiff,↓reduceIte,reduceCtorEq,Int.reduceEq,Int.reduceLT,Int.reduceLE,Int.reduceGT,Int.reduceGE,Int.reduceAdd,Int.reduceSub,Int.reduceNeg,Int.reduceToNat,Nat.reduceBEq,Nat.reduceEqDiff]
    refine ⟨⟨k+1,⟨by omega,fun j hj=>?_⟩,by simp[Fr]⟩,by omega⟩
    rcases Nat.lt_succ_iff_lt_or_eq.1 hj with h' | rfl
    ·exact hp j h'
    ·exact hg
 ·have hab : linesB a=true:=linesB_ok (fun i hi=>hp i (by omega))
  simp -implicitDefEqProofs (maxSteps:=99999999) (disch:=omega) only[hab,va,vg,vs,vh,Nat.reduceMul,ite_true,ite_false,eq_self,forall_const,implies_true,Nat.reduceAdd,Nat.reduceSub,Nat.reduceLT,Nat.reduceLeDiff,↓reduceIte,reduceCtorEq,Int.reduceEq,Int.reduceLT,Int.reduceLE,Int.reduceGT,Int.reduceGE,Int.reduceAdd,Int.reduceSub,Int.reduceNeg,Int.reduceToNat,Nat.reduceBEq,Nat.reduceEqDiff]
  exact weak_sc .refl
end Go.Proofs.YtdjnccnecgblmaaGreatDoor
namespace Go.Proofs.YtdjnccnecgblmaaGreatDoor
open Go.RowKit
set_option maxRecDepth 100000
set_option linter.unusedVariables false
set_option linter.unusedSimpArgs false
structure Hk where
 at_ : Int
 old : List ByteArray
 new : List ByteArray
abbrev hkr (h : Hk) (ro rn : Option (List AV)) : AV:=.agg [.sc (.int .i64 h.at_),.lst 1 (strs h.old) ro,.lst 1 (strs h.new) rn]
abbrev hk (h : Hk) : AV:=hkr h none none
def Hk.short (h : Hk) : Prop:=Short h.old ∧ Short h.new
def rightB (h : Hk) : Bool:=decide (0 ≤ h.at_) && (decide (h.at_ ≤ 1099511627776) && (linesB h.old && (linesB h.new && !decide (h.old=h.new))))
theorem right_d (h : Hk) (ro rn : Option (List AV)) (H : AHeap) (hs : h.short) : D Tryz.prog 49 [hkr h ro rn] H (.ret (.sc (.bool (rightB h)))) H:=by
 refine D_of_DK (Nat.le_refl _) (dk49 (E_of_ES ?_))
 by_cases c0 : h.at_ ≥ 0
 ·have c0' : 0 ≤ h.at_:=c0
  by_cases c1 : h.at_ ≤ 1099511627776
  ·simp -implicitDefEqProofs (maxSteps:=99999999) (disch:=omega) only[ic49,c0,c1,va,vg,vs,vh,Nat.reduceMul,ite_true,ite_false,eq_self,forall_const,implies_true,Nat.reduceAdd,Nat.reduceSub,Nat.reduceLT,Nat.reduceLeDiff,↓reduceIte,reduceCtorEq,Int.reduceEq,Int.reduceLT,Int.reduceLE,Int.reduceGT,Int.reduceGE,Int.reduceAdd,Int.reduceSub,Int.reduceNeg,Int.reduceToNat,Nat.reduceBEq,Nat.reduceEqDiff]
   refine callR_ret (lines_d h.old ro _ hs.1) ?_
   cases l1 : linesB h.old with
   | false =>
    simp -implicitDefEqProofs (maxSteps:=99999999) (disch:=omega) only[va,vg,vs,vh,Nat.reduceMul,ite_true,ite_false,eq_self,forall_const,implies_true,Nat.reduceAdd,Nat.reduceSub,Nat.reduceLT,Nat.reduceLeDiff,↓reduceIte,reduceCtorEq,Int.reduceEq,Int.reduceLT,Int.reduceLE,Int.reduceGT,Int.reduceGE,Int.reduceAdd,Int.reduceSub,Int.reduceNeg,Int.reduceToNat,Nat.reduceBEq,Nat.reduceEqDiff]
    exact weak_over (.cons .refl) (by simp only[rightB,l1,c0',c1,decide_true,Bool.and_true,Bool.true_and,Bool.and_false,Bool.false_and];exact .same trivial)
   | true =>
    simp -implicitDefEqProofs (maxSteps:=99999999) (disch:=omega) only[va,vg,vs,vh,Nat.reduceMul,ite_true,ite_false,eq_self,forall_const,implies_true,Nat.reduceAdd,Nat.reduceSub,Nat.reduceLT,Nat.reduceLeDiff,↓reduceIte,reduceCtorEq,Int.reduceEq,Int.reduceLT,Int.reduceLE,Int.reduceGT,Int.reduceGE,Int.reduceAdd,Int.reduceSub,Int.reduceNeg,Int.reduceToNat,Nat.reduceBEq,Nat.reduceEqDiff]
    refine callR_ret (lines_d h.new rn _ hs.2) ?_
    cases l2 : linesB h.new with
    | false =>
     simp -implicitDefEqProofs (maxSteps:=99999999) (disch:=omega) only[va,vg,vs,vh,Nat.reduceMul,ite_true,ite_false,eq_self,forall_const,implies_true,Nat.reduceAdd,Nat.reduceSub,Nat.reduceLT,Nat.reduceLeDiff,↓reduceIte,reduceCtorEq,Int.reduceEq,Int.reduceLT,Int.reduceLE,Int.reduceGT,Int.reduceGE,Int.reduceAdd,Int.reduceSub,Int.reduceNeg,Int.reduceToNat,Nat.reduceBEq,Nat.reduceEqDiff]
     exact weak_over (.cons .refl) (by simp only[rightB,l1,l2,c0',c1,decide_true,Bool.and_true,Bool.true_and,Bool.and_false,Bool.false_and];exact .same trivial)
    | true =>
     simp -implicitDefEqProofs (maxSteps:=99999999) (disch:=omega) only[va,vg,vs,vh,Nat.reduceMul,ite_true,ite_false,eq_self,forall_const,implies_true,Nat.reduceAdd,Nat.reduceSub,Nat.reduceLT,Nat.reduceLeDiff,↓reduceIte,reduceCtorEq,Int.reduceEq,Int.reduceLT,Int.reduceLE,Int.reduceGT,Int.reduceGE,Int.reduceAdd,Int.reduceSub,Int.reduceNeg,Int.reduceToNat,Nat.reduceBEq,Nat.reduceEqDiff]
     refine callR_ret (equal_d h.old h.new ro rn _ hs.1.1) ?_
     simp -implicitDefEqProofs (maxSteps:=99999999) (disch:=omega) only[va,vg,vs,vh,Nat.reduceMul,ite_true,ite_false,eq_self,forall_const,implies_true,Nat.reduceAdd,Nat.reduceSub,Nat.reduceLT,Nat.reduceLeDiff,↓reduceIte,reduceCtorEq,Int.reduceEq,Int.reduceLT,Int.reduceLE,Int.reduceGT,Int.reduceGE,Int.reduceAdd,Int.reduceSub,Int.reduceNeg,Int.reduceToNat,Nat.reduceBEq,Nat.reduceEqDiff]
     exact weak_over (.cons .refl) (by simp only[rightB,l1,l2,c0',c1,decide_true,Bool.and_true,Bool.true_and,Bool.and_false,Bool.false_and,not_dec];exact .same trivial)
  ·simp -implicitDefEqProofs (maxSteps:=99999999) (disch:=omega) only[ic49,c0,c1,va,vg,vs,vh,Nat.reduceMul,ite_true,ite_false,eq_self,forall_const,implies_true,Nat.reduceAdd,Nat.reduceSub,Nat.reduceLT,Nat.reduceLeDiff,↓reduceIte,reduceCtorEq,Int.reduceEq,Int.reduceLT,Int.reduceLE,Int.reduceGT,Int.reduceGE,Int.reduceAdd,Int.reduceSub,Int.reduceNeg,Int.reduceToNat,Nat.reduceBEq,Nat.reduceEqDiff]
   exact weak_over (.cons .refl) (by simp only[rightB,c0',c1,decide_true,decide_false,Bool.and_true,Bool.true_and,Bool.and_false,Bool.false_and];exact .same trivial)
 ·have c0' : ¬ 0 ≤ h.at_:=c0
  simp -implicitDefEqProofs (maxSteps:=99999999) (disch:=omega) only[ic49,c0,va,vg,vs,vh,Nat.reduceMul,ite_true,ite_false,eq_self,forall_const,implies_true,Nat.reduceAdd,Nat.reduceSub,Nat.reduceLT,Nat.reduceLeDiff,↓reduceIte,reduceCtorEq,Int.reduceEq,Int.reduceLT,Int.reduceLE,Int.reduceGT,Int.reduceGE,Int.reduceAdd,Int.reduceSub,Int.reduceNeg,Int.reduceToNat,Nat.reduceBEq,Nat.reduceEqDiff]
  exact weak_over (.cons .refl) (by simp only[rightB,c0',decide_true,decide_false,Bool.and_true,Bool.true_and,Bool.and_false,Bool.false_and];exact .same trivial)
def sameH (a b : Hk) : Bool:=decide (a.at_=b.at_) && (decide (a.old=b.old) && decide (a.new=b.new))
theorem sameHunk_d (a b : Hk) (ro rn qo qn : Option (List AV)) (H : AHeap) (hs : a.old.length ≤ 100000000 ∧ a.new.length ≤ 100000000) : D Tryz.prog 44 [hkr a ro rn,hkr b qo qn] H (.ret (.sc (.bool (sameH a b)))) H:=by
 refine D_of_DK (Nat.le_refl _) (dk44 (E_of_ES ?_))
 by_cases c0 : a.at_=b.at_
 ·simp -implicitDefEqProofs (maxSteps:=99999999) (disch:=omega) only[ic44,c0,va,vg,vs,vh,Nat.reduceMul,ite_true,ite_false,eq_self,forall_const,implies_true,Nat.reduceAdd,Nat.reduceSub,Nat.reduceLT,Nat.reduceLeDiff,↓reduceIte,reduceCtorEq,Int.reduceEq,Int.reduceLT,Int.reduceLE,Int.reduceGT,Int.reduceGE,Int.reduceAdd,Int.reduceSub,Int.reduceNeg,Int.reduceToNat,Nat.reduceBEq,Nat.reduceEqDiff]
  refine callR_ret (sameTexts_d _ _ _ _ _ hs.1) ?_
  by_cases c1 : a.old=b.old
  ·simp -implicitDefEqProofs (maxSteps:=99999999) (disch:=omega) only[c1,va,vg,vs,vh,Nat.reduceMul,ite_true,ite_false,eq_self,forall_const,implies_true,Nat.reduceAdd,Nat.reduceSub,Nat.reduceLT,Nat.reduceLeDiff,↓reduceIte,reduceCtorEq,Int.reduceEq,Int.reduceLT,Int.reduceLE,Int.reduceGT,Int.reduceGE,Int.reduceAdd,Int.reduceSub,Int.reduceNeg,Int.reduceToNat,Nat.reduceBEq,Nat.reduceEqDiff]
   refine callR_ret (sameTexts_d _ _ _ _ _ hs.2) ?_
   simp -implicitDefEqProofs (maxSteps:=99999999) (disch:=omega) only[va,vg,vs,vh,Nat.reduceMul,ite_true,ite_false,eq_self,forall_const,implies_true,Nat.reduceAdd,Nat.reduceSub,Nat.reduceLT,Nat.reduceLeDiff,↓reduceIte,reduceCtorEq,Int.reduceEq,Int.reduceLT,Int.reduceLE,Int.reduceGT,Int.reduceGE,Int.reduceAdd,Int.reduceSub,Int.reduceNeg,Int.reduceToNat,Nat.reduceBEq,Nat.reduceEqDiff]
   exact weak_over (.cons (.cons .refl)) (by simp only[sameH,c0,c1,decide_true,Bool.true_and];exact .same trivial)
  ·simp -implicitDefEqProofs (maxSteps:=99999999) (disch:=omega) only[c1,va,vg,vs,vh,Nat.reduceMul,ite_true,ite_false,eq_self,forall_const,implies_true,Nat.reduceAdd,Nat.reduceSub,Nat.reduceLT,Nat.reduceLeDiff,↓reduceIte,reduceCtorEq,Int.reduceEq,Int.reduceLT,Int.reduceLE,Int.reduceGT,Int.reduceGE,Int.reduceAdd,Int.reduceSub,Int.reduceNeg,Int.reduceToNat,Nat.reduceBEq,Nat.reduceEqDiff]
   exact weak_over (.cons (.cons .refl)) (by simp only[sameH,c0,c1,decide_true,decide_false,Bool.true_and,Bool.false_and];exact .same trivial)
 ·simp -implicitDefEqProofs (maxSteps:=99999999) (disch:=omega) only[ic44,c0,va,vg,vs,vh,Nat.reduceMul,ite_true,ite_false,eq_self,forall_const,implies_true,Nat.reduceAdd,Nat.reduceSub,Nat.reduceLT,Nat.reduceLeDiff,↓reduceIte,reduceCtorEq,Int.reduceEq,Int.reduceLT,Int.reduceLE,Int.reduceGT,Int.reduceGE,Int.reduceAdd,Int.reduceSub,Int.reduceNeg,Int.reduceToNat,Nat.reduceBEq,Nat.reduceEqDiff]
  exact weak_over (.cons (.cons .refl)) (by simp only[sameH,c0,decide_true,decide_false,Bool.true_and,Bool.false_and];exact .same trivial)
end Go.Proofs.YtdjnccnecgblmaaGreatDoor
namespace Go.Proofs.YtdjnccnecgblmaaGreatDoor
open Go.RowKit
set_option maxRecDepth 100000
set_option linter.unusedVariables false
set_option linter.unusedSimpArgs false
def tcnt : List ByteArray→Int→Int→Int
 | [],n,_=>n
 | s :: r,n,most=>if n ≤ most then tcnt r (n+s.size / 8) most else n
def textsOf (l : List ByteArray) (most : Int) : Int:=tcnt l l.length most
theorem tcnt_step {l : List ByteArray} {k : Nat} (hk : k < l.length) (n most : Int) : tcnt (l.drop k) n most=if n ≤ most then tcnt (l.drop (k+1)) (n+(nthS l k).size / 8) most else n:=by
 rw[List.drop_eq_getElem_cons hk,tcnt,nthS_eq hk]
theorem tcnt_rng (most : Int) (hm : 0 ≤ most ∧ most ≤ 1000000) : ∀ (l : List ByteArray) (n : Int),(∀ s ∈ l,s.size ≤ 100000000)→0 ≤ n→n ≤ 100000000→0 ≤ tcnt l n most ∧ tcnt l n most ≤ 100000000
 | [],n,_,h0,h1=>⟨h0,h1⟩
 | s :: r,n,hs,h0,h1=>by
  unfold tcnt
  split
  ·have:=hs s (by simp)
   exact tcnt_rng most hm r _ (fun x hx=>hs x (by simp[hx])) (by omega) (by omega)
  ·exact ⟨h0,h1⟩
theorem textsOf_rng {l : List ByteArray} (h : Short l) {most : Int} (hm : 0 ≤ most ∧ most ≤ 1000000) : 0 ≤ textsOf l most ∧ textsOf l most ≤ 100000000 :=
 tcnt_rng most hm l _ h.2 (by omega) (by have:=h.1;omega)
theorem tdiv8 (n : Nat) : (n : Int).tdiv 8=n / 8:=Int.tdiv_eq_ediv_of_nonneg (by omega)
theorem textsOf_d (a : List ByteArray) (ra : Option (List AV)) (most : Int) (H : AHeap) (hl : Short a) (hm : 0 ≤ most ∧ most ≤ 1000000) : D Tryz.prog 101 [.lst 1 (strs a) ra,.sc (.int .i64 most)] H (.ret (.sc (.int .i64 (textsOf a most)))) H:=by
 have hlen:=hl.1
 refine D_of_DK (Nat.le_refl _) (dk101 (E_of_ES ?_))
 simp -implicitDefEqProofs (maxSteps:=99999999) (disch:=omega) only[ic101,va,vg,vs,vh,Nat.reduceMul,ite_true,ite_false,eq_self,forall_const,implies_true,Nat.reduceAdd,Nat.reduceSub,Nat.reduceLT,Nat.reduceLeDiff,↓reduceIte,reduceCtorEq,Int.reduceEq,Int.reduceLT,Int.reduceLE,Int.reduceGT,Int.reduceGE,Int.reduceAdd,Int.reduceSub,Int.reduceNeg,Int.reduceToNat,Nat.reduceBEq,Nat.reduceEqDiff]
 refine ES_loop (fun ts H'=>H'=H ∧ ∃ (k : Nat) (n : Int),(k ≤ a.length ∧ 0 ≤ n ∧ n ≤ 100000000 ∧ tcnt (a.drop k) n most=textsOf a most) ∧ Fr [some (.lst 1 (strs a) ra),some (.sc (.int .i64 most)),none,none,none,some (.sc (.int .i64 n)),some (.sc (.int .i64 k)),none,none,none,none,none,none,none,none,none,none,none,none,none,none,none,none,none,none,none,none,none,none] ts) (fun ts _=>a.length - (intV (ts.getD 6 .top)).toNat) ?_ ?_
 ·exact ⟨rfl,0,a.length,⟨Nat.zero_le _,by omega,by omega,rfl⟩,by simp[Fr]⟩
 rintro ts _ ⟨rfl,k,n,⟨hk,hn0,hn1,hp⟩,hfr⟩
 obtain ⟨js,rfl⟩:=hfr.opened
 clear hfr
 by_cases h1 : k < a.length
 ·have h1' : (k : Int) < a.length:=by omega
  have hs:=hl.nth h1
  rw[tcnt_step h1] at hp
  by_cases h2 : n ≤ most
  ·rw[if_pos h2] at hp
   simp -implicitDefEqProofs (maxSteps:=99999999) (disch:=omega) only[mk,h1',h2,strs_get h1,tdiv8,va,vg,vs,vh,Nat.reduceMul,ite_true,ite_false,eq_self,forall_const,implies_true,Nat.reduceAdd,Nat.reduceSub,Nat.reduceLT,Nat.reduceLeDiff,↓reduceIte,reduceCtorEq,Int.reduceEq,Int.reduceLT,Int.reduceLE,Int.reduceGT,Int.reduceGE,Int.reduceAdd,Int.reduceSub,Int.reduceNeg,Int.reduceToNat,Nat.reduceBEq,Nat.reduceEqDiff]
   refine ⟨by omega,⟨k+1,n+(nthS a k).size / 8,⟨by omega,by omega,by omega,hp⟩,by simp[Fr]⟩,by omega⟩
  ·rw[if_neg h2] at hp
   subst hp
   simp -implicitDefEqProofs (maxSteps:=99999999) (disch:=omega) only[mk,h1',h2,va,vg,vs,vh,Nat.reduceMul,ite_true,ite_false,eq_self,forall_const,implies_true,Nat.reduceAdd,Nat.reduceSub,Nat.reduceLT,Nat.reduceLeDiff,↓reduceIte,reduceCtorEq,Int.reduceEq,Int.reduceLT,Int.reduceLE,Int.reduceGT,Int.reduceGE,Int.reduceAdd,Int.reduceSub,Int.reduceNeg,Int.reduceToNat,Nat.reduceBEq,Nat.reduceEqDiff]
   exact weak_sc .refl
 ·have h1' : ¬ (k : Int) < a.length:=by omega
  have hp' : n=textsOf a most:=by rw[← hp,List.drop_eq_nil_of_le (by omega)];rfl
  subst hp'
  simp -implicitDefEqProofs (maxSteps:=99999999) (disch:=omega) only[mk,h1',va,vg,vs,vh,Nat.reduceMul,ite_true,ite_false,eq_self,forall_const,implies_true,Nat.reduceAdd,Nat.reduceSub,Nat.reduceLT,Nat.reduceLeDiff,↓reduceIte,reduceCtorEq,Int.reduceEq,Int.reduceLT,Int.reduceLE,Int.reduceGT,Int.reduceGE,Int.reduceAdd,Int.reduceSub,Int.reduceNeg,Int.reduceToNat,Nat.reduceBEq,Nat.reduceEqDiff]
  exact weak_sc .refl
end Go.Proofs.YtdjnccnecgblmaaGreatDoor
