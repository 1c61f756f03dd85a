import Derived.WalkKit
import Derived.WalkSpells
import Derived.WalkLawsBesides
import Derived.Lib.Hide
import Derived.Laws.AppendOwnNone
import Derived.Orders
import Derived.Laws.BytesString
import Derived.Great.BuildSlice
import Derived.Laws.CopyRow
import Derived.Laws.Externs
import Derived.Lib.Bytealg
import Derived.MapKept
import Derived.Maps.RangeRun
namespace Go.Proofs.YtdjnccnecgblmaaGreatDoor
open Go.RowKit
set_option linter.unusedVariables false
inductive AV where
  | sc (v : Value)
  | lst (k : Nat) (xs : List AV) (room : Option (List AV))
  | vec (k id off n : Nat) (c : Option Nat)
  | ptr (k id j f : Nat)
  | lp (x : AV) (f : Nat)
  | agg (cs : List AV)
  | tup (vs : List AV)
  | fn (f : Fn) (first caps : List AV)
  | ifc (t : TypeId) (v : AV)
  | ub
  | top
  | rcd (r : Loop)
def AV.ncells : AV→Nat
  | .agg cs=>cs.length
  | _=>1
def AV.isAgg : AV→Bool
  | .agg _=>true
  | _=>false
def AV.isTop : AV→Bool
  | .top=>true
  | .tup _=>true
  | _=>false
structure ABlk where
  k : Nat
  es : List AV
  exact : Bool
  ty : TypeId
abbrev AHeap:=List (Option ABlk)
def AHeap.find : AHeap→Nat→Option ABlk
  | [],_=>none
  | b :: r,i=>if i=r.length then b else AHeap.find r i
def AHeap.set : AHeap→Nat→Option ABlk→AHeap
  | [],_,_=>[]
  | b :: r,i,x=>if i=r.length then x :: r else b :: AHeap.set r i x
theorem AHeap.find_lt {H : AHeap} {i : Nat} {b : ABlk} (h : AHeap.find H i=some b) : i < H.length:=by
  induction H with
  | nil=>simp[AHeap.find] at h
  | cons x r ih =>
    simp only[AHeap.find] at h
    split at h
    · simp;omega
    · have:=ih h;simp;omega
theorem AHeap.find_ge {H : AHeap} {i : Nat} (h : H.length ≤ i) : AHeap.find H i=none:=by
  cases hf : AHeap.find H i with
  | none=>rfl
  | some b=>have:=AHeap.find_lt hf;omega
theorem AHeap.find_cons {H : AHeap} {i : Nat} {b : Option ABlk} (h : i < H.length) : AHeap.find (b :: H) i=AHeap.find H i:=by
  simp only[AHeap.find];rw[if_neg (by omega)]
theorem AHeap.find_new {H : AHeap} {b : Option ABlk} : AHeap.find (b :: H) H.length=b:=by simp[AHeap.find]
theorem AHeap.set_length (H : AHeap) (i : Nat) (x : Option ABlk) : (AHeap.set H i x).length=H.length:=by
  induction H with
  | nil=>rfl
  | cons b r ih=>simp only[AHeap.set];split <;> simp[ih]
theorem AHeap.find_set_same {H : AHeap} {i : Nat} {x : Option ABlk} (h : i < H.length) : AHeap.find (AHeap.set H i x) i=x:=by
  induction H with
  | nil=>simp at h
  | cons b r ih =>
    simp only[AHeap.set]
    split
    · rename_i e;simp[AHeap.find,e]
    · rename_i e
      have : i < r.length:=by simp at h;omega
      simp only[AHeap.find,AHeap.set_length]
      rw[if_neg e,ih this]
theorem AHeap.find_set_ne {H : AHeap} {i j : Nat} {x : Option ABlk} (h : j ≠ i) : AHeap.find (AHeap.set H i x) j=AHeap.find H j:=by
  induction H with
  | nil=>rfl
  | cons b r ih =>
    simp only[AHeap.set]
    split
    · rename_i e;simp only[AHeap.find];rw[if_neg (by omega),if_neg (by omega)]
    · simp only[AHeap.find,AHeap.set_length,ih]
theorem AHeap.find_append {G H : AHeap} {i : Nat} (h : i < H.length) : AHeap.find (G ++ H) i=AHeap.find H i:=by
  induction G with
  | nil=>rfl
  | cons b r ih=>rw[List.cons_append,AHeap.find_cons (by simp;omega),ih]
abbrev Phi:=Nat→Option Nat
def Own (φ : Phi) (H : AHeap) (b : Nat) : Prop:=∃ id blk,φ id=some b ∧ AHeap.find H id=some blk
def cget (v : Value) : Nat→Option Value:=fun i=>v.cells[i]?
def memAt (w : World) (b off : Nat) : Nat→Option Value:=fun i=>w.cell? ⟨b,off+i,none⟩
def okA : AV→Value→Prop
  | .agg cs,u=>∃ us,u = .agg us ∧ us.size=cs.length
  | .tup _,u=>∃ us,u = .tuple us
  | .top,_=>True
  | _,u=>u.oneCell'=true
def ptrV : Nat→Nat→Nat→Nat→Value
  | 0,_,0,b=>.map (some b)
  | 0,_,1,b=>.func (.yield b) #[] #[]
  | 0,_,_+2,b=>.pointer (some ⟨b,0,none⟩)
  | k+1,j,f,b=>.pointer (some ⟨b,j * (k+1)+f,none⟩)
theorem ptrV_pos {k j f b : Nat} (h : 0 < k) : ptrV k j f b = .pointer (some ⟨b,j * k+f,none⟩):=by
  cases k with
  | zero=>omega
  | succ k=>rfl
theorem ptrV_one {k j f b : Nat} : (ptrV k j f b).oneCell'=true:=by
  unfold ptrV
  split <;> rfl
mutual
def R (φ : Phi) (O : Nat→Prop) (w : World) : AV→(Nat→Option Value)→Prop
  | .sc v,g=>g 0=some v
  | .lst k xs room,g=>∃ a c,g 0=some (.slice a xs.length c) ∧ xs.length ≤ c ∧ c ≤ maxLen ∧ (a=none→c=0) ∧
      (0 < xs.length→∃ b off,a=some ⟨b,off,none⟩ ∧ ¬ O b ∧ b < w.heap.size ∧ Rl φ O w b k xs off) ∧ Rm φ O w k xs.length a c room
  | .vec k id off n c,g=>∃ b c' cur e fr,φ id=some b ∧ g 0=some (.slice (some ⟨b,off * k,none⟩) n c') ∧ n ≤ c' ∧ c' ≤ maxLen ∧ (∀ m,c=some m→c'=m) ∧
      w.heap[b]? = some (.cells cur e fr) ∧ cur.size=(off+c') * k
  | .ptr k id j f,g=>∃ b,φ id=some b ∧ g 0=some (ptrV k j f b)
  | .lp x f,g=>∃ b off,g 0=some (.pointer (some ⟨b,off+f,none⟩)) ∧ ¬ O b ∧ b < w.heap.size ∧ (x.isAgg=false→∃ u,memAt w b off 0=some u ∧ u.oneCell'=true) ∧ R φ O w x (memAt w b off)
  | .agg cs,g=>Rs φ O w cs g
  | .tup vs,g=>∃ us,g 0=some (.tuple us) ∧ Rt φ O w vs us.toList
  | .fn f first caps,g=>∃ us ws,g 0=some (.func f us ws) ∧ Rt φ O w first us.toList ∧ Rt φ O w caps ws.toList
  | .ifc t x,g=>∃ u,g 0=some (.iface t u) ∧ okA x u ∧ R φ O w x (cget u)
  | .ub,g=>∃ b,g 0=some (.bool b)
  | .top,_=>True
  | .rcd _,_=>False
def Rm (φ : Phi) (O : Nat→Prop) (w : World) (k n : Nat) (a : Option Addr) (c : Nat) : Option (List AV)→Prop
  | none=>True
  | some ys=>c=n+ys.length ∧ (0 < ys.length→∃ b off,a=some ⟨b,off,none⟩ ∧ ¬ O b ∧ b < w.heap.size ∧ Rl φ O w b k ys (off+n * k))
def Rl (φ : Phi) (O : Nat→Prop) (w : World) (b k : Nat) : List AV→Nat→Prop
  | [],_=>True
  | x :: r,off=>x.ncells=k ∧ (x.isAgg=false→∃ u,memAt w b off 0=some u ∧ u.oneCell'=true) ∧ R φ O w x (memAt w b off) ∧ Rl φ O w b k r (off+k)
def Rs (φ : Phi) (O : Nat→Prop) (w : World) : List AV→(Nat→Option Value)→Prop
  | [],_=>True
  | x :: r,g=>x.isAgg=false ∧ R φ O w x g ∧ (∃ u,g 0=some u ∧ u.oneCell'=true) ∧ Rs φ O w r (fun i=>g (i+1))
def Rt (φ : Phi) (O : Nat→Prop) (w : World) : List AV→List Value→Prop
  | [],us=>us=[]
  | x :: r,us=>∃ v s,us=v :: s ∧ okA x v ∧ R φ O w x (cget v) ∧ Rt φ O w r s
end
def VR (φ : Phi) (O : Nat→Prop) (w : World) (x : AV) (v : Value) : Prop:=okA x v ∧ R φ O w x (cget v)
mutual
def AV.ids (ok : Nat→Prop) : AV→Prop
  | .sc _=>True
  | .lst _ xs room=>AV.idsL ok xs ∧ AV.idsM ok room
  | .vec _ id _ _ _=>ok id
  | .ptr _ id _ _=>ok id
  | .lp x _=>AV.ids ok x
  | .agg cs=>AV.idsL ok cs
  | .tup vs=>AV.idsL ok vs
  | .fn _ first caps=>AV.idsL ok first ∧ AV.idsL ok caps
  | .ifc _ x=>AV.ids ok x
  | .ub=>True
  | .top=>True
  | .rcd _=>True
def AV.idsM (ok : Nat→Prop) : Option (List AV)→Prop
  | none=>True
  | some ys=>AV.idsL ok ys
def AV.idsL (ok : Nat→Prop) : List AV→Prop
  | []=>True
  | x :: r=>AV.ids ok x ∧ AV.idsL ok r
end
theorem AV.idsL_iff {ok : Nat→Prop} : ∀ {l : List AV},AV.idsL ok l ↔ ∀ x ∈ l,AV.ids ok x
  | []=>by simp[AV.idsL]
  | x :: r=>by simp[AV.idsL,AV.idsL_iff (l:=r)]
mutual
theorem AV.ids_mono {p q : Nat→Prop} (h : ∀ i,p i→q i) : ∀ (x : AV),x.ids p→x.ids q
  | .sc _,_=>trivial
  | .lst _ xs none,hx=>⟨AV.idsL_mono h xs hx.1,trivial⟩
  | .lst _ xs (some ys),hx=>⟨AV.idsL_mono h xs hx.1,AV.idsL_mono h ys hx.2⟩
  | .vec ..,hx=>h _ hx
  | .ptr ..,hx=>h _ hx
  | .lp x _,hx=>AV.ids_mono h x hx
  | .agg cs,hx=>AV.idsL_mono h cs hx
  | .tup vs,hx=>AV.idsL_mono h vs hx
  | .fn _ a b,hx=>⟨AV.idsL_mono h a hx.1,AV.idsL_mono h b hx.2⟩
  | .ifc _ x,hx=>AV.ids_mono h x hx
  | .ub,_=>trivial
  | .top,_=>trivial
  | .rcd _,_=>trivial
theorem AV.idsL_mono {p q : Nat→Prop} (h : ∀ i,p i→q i) : ∀ (l : List AV),AV.idsL p l→AV.idsL q l
  | [],_=>trivial
  | x :: r,hx=>⟨AV.ids_mono h x hx.1,AV.idsL_mono h r hx.2⟩
end
mutual
theorem AV.ids_true : ∀ (x : AV),x.ids (fun _=>True)
  | .sc _=>trivial
  | .lst _ xs none=>⟨AV.idsL_true xs,trivial⟩
  | .lst _ xs (some ys)=>⟨AV.idsL_true xs,AV.idsL_true ys⟩
  | .vec ..=>trivial
  | .ptr ..=>trivial
  | .lp x _=>AV.ids_true x
  | .agg cs=>AV.idsL_true cs
  | .tup vs=>AV.idsL_true vs
  | .fn _ a b=>⟨AV.idsL_true a,AV.idsL_true b⟩
  | .ifc _ x=>AV.ids_true x
  | .ub=>trivial
  | .top=>trivial
  | .rcd _=>trivial
theorem AV.idsL_true : ∀ (l : List AV),AV.idsL (fun _=>True) l
  | []=>trivial
  | x :: r=>⟨AV.ids_true x,AV.idsL_true r⟩
end
structure Later (ok : Nat→Prop) (φ φ' : Phi) (O O' : Nat→Prop) (w w' : World) : Prop where
  map : ∀ id b,ok id→φ id=some b→φ' id=some b
  size : w.heap.size ≤ w'.heap.size
  own : ∀ b,b < w.heap.size→¬ O b→¬ O' b
  same : ∀ b,b < w.heap.size→¬ O b→w'.heap[b]? = w.heap[b]?
  shape : ∀ b,b < w.heap.size→w'.shape? b=w.shape? b
theorem heap_lt {w : World} {b : Nat} {o : Obj} (h : w.heap[b]? = some o) : b < w.heap.size:=(Array.getElem?_eq_some_iff.1 h).1
theorem Later.cells {ok : Nat→Prop} {φ φ' : Phi} {O O' : Nat→Prop} {w w' : World} (h : Later ok φ φ' O O' w w') {b : Nat} {cur : Array Value} {e : TypeId} {fr : Nat × Nat} (hb : w.heap[b]? = some (.cells cur e fr)) :
    ∃ cur' fr',w'.heap[b]? = some (.cells cur' e fr') ∧ cur'.size=cur.size:=by
  have hs:=h.shape b (heap_lt hb)
  unfold World.shape? at hs
  rw[hb] at hs
  simp only at hs
  split at hs
  · rename_i c e' fr' hh
    simp at hs
    exact ⟨c,fr',by rw[hh,hs.1],hs.2⟩
  · simp at hs
mutual
theorem R_later {ok : Nat→Prop} {φ φ' : Phi} {O O' : Nat→Prop} {w w' : World} (h : Later ok φ φ' O O' w w') :
    ∀ (x : AV) (g g' : Nat→Option Value),x.ids ok→(∀ i v,g i=some v→g' i=some v)→R φ O w x g→R φ' O' w' x g'
  | .sc v,g,g',_,hg,hr=>hg _ _ hr
  | .lst k xs room,g,g',hi,hg,hr=>by
    obtain ⟨a,c,h1,h2,h3,h4,h5,h6⟩:=hr
    refine ⟨a,c,hg _ _ h1,h2,h3,h4,fun hn=>?_,?_⟩
    · obtain ⟨b,off,ha,ho,hb,hl⟩:=h5 hn
      exact ⟨b,off,ha,h.own b hb ho,Nat.lt_of_lt_of_le hb h.size,Rl_later h b (h.same b hb ho) k xs off hi.1 hl⟩
    · cases room with
      | none=>trivial
      | some ys =>
        refine ⟨h6.1,fun hn=>?_⟩
        obtain ⟨b,off,ha,ho,hb,hl⟩:=h6.2 hn
        exact ⟨b,off,ha,h.own b hb ho,Nat.lt_of_lt_of_le hb h.size,Rl_later h b (h.same b hb ho) k ys _ hi.2 hl⟩
  | .vec k id off n c,g,g',hi,hg,hr=>by
    obtain ⟨b,c',cur,e,fr,h1,h2,h3,h4,h5,h6,h7⟩:=hr
    obtain ⟨cur',fr',h8,h9⟩:=h.cells h6
    exact ⟨b,c',cur',e,fr',h.map id b hi h1,hg _ _ h2,h3,h4,h5,h8,by rw[h9];exact h7⟩
  | .ptr k id j f,g,g',hi,hg,hr=>by
    obtain ⟨b,h1,h2⟩:=hr
    exact ⟨b,h.map id b hi h1,hg _ _ h2⟩
  | .lp x f,g,g',hi,hg,hr=>by
    obtain ⟨b,off,h1,ho,hb,h3,h2⟩:=hr
    have hm : ∀ i v,memAt w b off i=some v→memAt w' b off i=some v:=fun i v hv=>by
      unfold memAt at hv ⊢
      rw[World.cell?_of_block (h.same b hb ho)]
      exact hv
    refine ⟨b,off,hg _ _ h1,h.own b hb ho,Nat.lt_of_lt_of_le hb h.size,fun hx=>?_,R_later h x _ _ hi hm h2⟩
    obtain ⟨u,h4,h5⟩:=h3 hx
    exact ⟨u,hm _ _ h4,h5⟩
  | .agg cs,g,g',hi,hg,hr=>Rs_later h cs g g' hi hg hr
  | .tup vs,g,g',hi,hg,hr=>by
    obtain ⟨us,h1,h2⟩:=hr
    exact ⟨us,hg _ _ h1,Rt_later h vs _ hi h2⟩
  | .fn f a b,g,g',hi,hg,hr=>by
    obtain ⟨us,ws,h1,h2,h3⟩:=hr
    exact ⟨us,ws,hg _ _ h1,Rt_later h a _ hi.1 h2,Rt_later h b _ hi.2 h3⟩
  | .ifc t x,g,g',hi,hg,hr=>by
    obtain ⟨u,h1,h2,h3⟩:=hr
    exact ⟨u,hg _ _ h1,h2,R_later h x _ _ hi (fun _ _ h=>h) h3⟩
  | .ub,g,g',hi,hg,hr=>by
    obtain ⟨b,h1⟩:=hr
    exact ⟨b,hg _ _ h1⟩
  | .top,_,_,_,_,_=>trivial
  | .rcd _,_,_,_,_,hr=>hr.elim
theorem Rl_later {ok : Nat→Prop} {φ φ' : Phi} {O O' : Nat→Prop} {w w' : World} (h : Later ok φ φ' O O' w w') (b : Nat) (hs : w'.heap[b]? = w.heap[b]?) (k : Nat) :
    ∀ (l : List AV) (off : Nat),AV.idsL ok l→Rl φ O w b k l off→Rl φ' O' w' b k l off
  | [],_,_,_=>trivial
  | x :: r,off,hi,hr=>by
    have hm : ∀ i v,memAt w b off i=some v→memAt w' b off i=some v:=fun i v hv=>by
      unfold memAt at hv ⊢
      rw[World.cell?_of_block hs]
      exact hv
    refine ⟨hr.1,fun hx=>?_,R_later h x _ _ hi.1 hm hr.2.2.1,Rl_later h b hs k r _ hi.2 hr.2.2.2⟩
    obtain ⟨u,h1,h2⟩:=hr.2.1 hx
    exact ⟨u,hm _ _ h1,h2⟩
theorem Rs_later {ok : Nat→Prop} {φ φ' : Phi} {O O' : Nat→Prop} {w w' : World} (h : Later ok φ φ' O O' w w') :
    ∀ (l : List AV) (g g' : Nat→Option Value),AV.idsL ok l→(∀ i v,g i=some v→g' i=some v)→Rs φ O w l g→Rs φ' O' w' l g'
  | [],_,_,_,_,_=>trivial
  | x :: r,g,g',hi,hg,hr=>⟨hr.1,R_later h x _ _ hi.1 hg hr.2.1,by
      obtain ⟨u,h1,h2⟩:=hr.2.2.1
      exact ⟨u,hg _ _ h1,h2⟩,Rs_later h r _ _ hi.2 (fun i v=>hg (i+1) v) hr.2.2.2⟩
theorem Rt_later {ok : Nat→Prop} {φ φ' : Phi} {O O' : Nat→Prop} {w w' : World} (h : Later ok φ φ' O O' w w') :
    ∀ (l : List AV) (us : List Value),AV.idsL ok l→Rt φ O w l us→Rt φ' O' w' l us
  | [],_,_,hr=>hr
  | x :: r,us,hi,hr=>by
    obtain ⟨v,s,h1,h2,h3,h4⟩:=hr
    exact ⟨v,s,h1,h2,R_later h x _ _ hi.1 (fun _ _ h=>h) h3,Rt_later h r _ hi.2 h4⟩
end
theorem VR_later {ok : Nat→Prop} {φ φ' : Phi} {O O' : Nat→Prop} {w w' : World} (h : Later ok φ φ' O O' w w') {x : AV} {v : Value} (hi : x.ids ok) (hr : VR φ O w x v) : VR φ' O' w' x v :=
  ⟨hr.1,R_later h x _ _ hi (fun _ _ h=>h) hr.2⟩
end Go.Proofs.YtdjnccnecgblmaaGreatDoor
namespace Go.Proofs.YtdjnccnecgblmaaGreatDoor
open Go.RowKit
set_option linter.unusedVariables false
def BlkC (φ : Phi) (O : Nat→Prop) (w : World) (k : ABlk) (b : Nat) : Prop :=
  ∃ cur cap,w.heap[b]? = some (.cells cur k.ty (0,0)) ∧ cur.size=cap * k.k ∧ k.es.length ≤ cap ∧ (k.exact=true→cap=k.es.length) ∧ cap ≤ maxLen ∧ Rl φ O w b k.k k.es 0
def RE (φ : Phi) (O : Nat→Prop) (w : World) : List AV→List MapEntry→Prop
  | [],es=>es=[]
  | x :: r,es=>∃ e s,es=e :: s ∧ VR φ O w x (.tuple #[e.key,e.val]) ∧ RE φ O w r s
def BlkM (φ : Phi) (O : Nat→Prop) (w : World) (k : ABlk) (b : Nat) : Prop :=
  ∃ (ents : Array MapEntry) (clock : Nat),w.heap[b]? = some (.map ents clock) ∧ (ents.toList.map (·.born)).Pairwise (· < ·) ∧ (∀ e ∈ ents.toList,e.born < clock) ∧ RE φ O w k.es ents.toList
def BlkL (φ : Phi) (O : Nat→Prop) (w : World) (k : ABlk) (b : Nat) : Prop :=
  ∃ (r : Loop) (ts : List AV) (tm : Array Value),k.es = .rcd r :: ts ∧ w.heap[b]? = some (.loop { r with tmps:=tm }) ∧ Rt φ O w ts tm.toList
def natsV (l : List Nat) : Value:=.func (.yield 0) (l.map fun (n : Nat)=>Value.int .i64 n).toArray #[]
def BlkK (φ : Phi) (O : Nat→Prop) (w : World) (k : ABlk) (b : Nat) : Prop :=
  ∃ (ents : Array MapEntry) (clock : Nat) (x : AV) (r : List AV),k.es=x :: r ∧ w.heap[b]? = some (.map ents clock) ∧ (ents.toList.map (·.born)).Pairwise (· < ·) ∧ (∀ e ∈ ents.toList,e.born < clock) ∧ VR φ O w x (natsV (clock :: ents.toList.map (·.born))) ∧ RE φ O w r ents.toList
def BlkI (φ : Phi) (O : Nat→Prop) (w : World) (k : ABlk) (b : Nat) : Prop :=
  ∃ (bm clock : Nat) (seen : Array Nat),w.heap[b]? = some (.mapIter (some bm) clock seen clock) ∧ Rt φ O w k.es [.map (some bm),natsV (clock :: seen.toList)]
def BlkR (φ : Phi) (O : Nat→Prop) (w : World) (k : ABlk) (b : Nat) : Prop:=(0 < k.k ∧ BlkC φ O w k b) ∨ (k.k=0 ∧ k.ty=0 ∧ BlkM φ O w k b) ∨ (k.k=0 ∧ k.ty=1 ∧ BlkL φ O w k b) ∨ (k.k=0 ∧ k.ty=2 ∧ BlkK φ O w k b) ∨ (k.k=0 ∧ k.ty=3 ∧ BlkI φ O w k b)
theorem BlkR.cells {φ : Phi} {O : Nat→Prop} {w : World} {k : ABlk} {b : Nat} (h : BlkR φ O w k b) (hk : 0 < k.k) : BlkC φ O w k b:=by
  rcases h with h | h | h | h | h
  · exact h.2
  · omega
  · omega
  · omega
  · omega
theorem BlkR.atCells {φ : Phi} {O : Nat→Prop} {w : World} {k : ABlk} {b : Nat} (h : BlkR φ O w k b) {cur : Array Value} {e : TypeId} {fr : Nat × Nat} (hb : w.heap[b]? = some (.cells cur e fr)) : 0 < k.k ∧ BlkC φ O w k b:=by
  rcases h with h | ⟨_,_,ents,clock,h,_⟩ | ⟨_,_,r,ts,tm,_,h,_⟩ | ⟨_,_,ents,clock,x,r,_,h,_⟩ | ⟨_,_,bm,clock,seen,h,_⟩
  · exact h
  · rw[hb] at h;cases h
  · rw[hb] at h;cases h
  · rw[hb] at h;cases h
  · rw[hb] at h;cases h
theorem RE_later {ok : Nat→Prop} {φ φ' : Phi} {O O' : Nat→Prop} {w w' : World} (h : Later ok φ φ' O O' w w') : ∀ {l : List AV} {es : List MapEntry},AV.idsL ok l→RE φ O w l es→RE φ' O' w' l es
  | [],_,_,hr=>hr
  | _ :: _,_,hi,hr=>by
    obtain ⟨e,s,h1,h2,h3⟩:=hr
    exact ⟨e,s,h1,VR_later h hi.1 h2,RE_later h hi.2 h3⟩
theorem BlkR.later {ok : Nat→Prop} {φ φ' : Phi} {O O' : Nat→Prop} {w w' : World} (hl : Later ok φ φ' O O' w w') {k : ABlk} {b : Nat} (hs : w'.heap[b]? = w.heap[b]?) (hi : AV.idsL ok k.es) (h : BlkR φ O w k b) : BlkR φ' O' w' k b:=by
  rcases h with ⟨h0,c1,c2,a1,a2,a3,a4,a5,a6⟩ | ⟨h0,ht,ents,clock,a1,a2,a3,a4⟩ | ⟨h0,ht,r,ts,tm,e,a1,a2⟩ | ⟨h0,ht,ents,clock,x,r,e,a1,a2,a3,a4,a5⟩ | ⟨h0,ht,bm,clock,seen,a1,a2⟩
  · exact .inl ⟨h0,c1,c2,by rw[hs];exact a1,a2,a3,a4,a5,Rl_later hl b hs _ _ _ hi a6⟩
  · exact .inr (.inl ⟨h0,ht,ents,clock,by rw[hs];exact a1,a2,a3,RE_later hl hi a4⟩)
  · rw[e] at hi
    exact .inr (.inr (.inl ⟨h0,ht,r,ts,tm,e,by rw[hs];exact a1,Rt_later hl _ _ hi.2 a2⟩))
  · rw[e] at hi
    exact .inr (.inr (.inr (.inl ⟨h0,ht,ents,clock,x,r,e,by rw[hs];exact a1,a2,a3,VR_later hl hi.1 a4,RE_later hl hi.2 a5⟩)))
  · exact .inr (.inr (.inr (.inr ⟨h0,ht,bm,clock,seen,by rw[hs];exact a1,Rt_later hl _ _ hi a2⟩)))
theorem BlkR.on {φ φ' : Phi} {O O' : Nat→Prop} {w w' : World} (hl : Later (fun _=>True) φ φ' O O' w w') {k : ABlk} {b : Nat} (hs : w'.heap[b]? = w.heap[b]?) (h : BlkR φ O w k b) : BlkR φ' O' w' k b:=h.later hl hs (AV.idsL_true _)
def gtab : List (Nat × List Value):=[(0,(List.range 256).map fun c=>Value.int .u8 (if c=9 ∨ c=10 ∨ c=11 ∨ c=12 ∨ c=13 ∨ c=32 then 1 else 0))]
def GOk (φ : Phi) (H : AHeap) (w : World) : Prop:=∀ p ∈ gtab,(∃ e fr,w.heap[p.1]? = some (.cells p.2.toArray e fr)) ∧ ¬ Own φ H p.1
theorem GOk.later {ok : Nat→Prop} {φ φ' : Phi} {H H' : AHeap} {w w' : World} (h : GOk φ H w) (hl : Later ok φ φ' (Own φ H) (Own φ' H') w w') : GOk φ' H' w':=fun p hp=>by
  obtain ⟨⟨e,fr,h1⟩,h2⟩:=h p hp
  exact ⟨⟨e,fr,(hl.same _ (heap_lt h1) h2).trans h1⟩,hl.own _ (heap_lt h1) h2⟩
theorem GOk.less {φ φ' : Phi} {H H' : AHeap} {w : World} (h : GOk φ H w) (ho : ∀ b,Own φ' H' b→Own φ H b) : GOk φ' H' w:=fun p hp=>⟨(h p hp).1,fun k=>(h p hp).2 (ho _ k)⟩
structure Rel (φ : Phi) (H : AHeap) (w : World) : Prop where
  glob : GOk φ H w
  dom : ∀ id b,φ id=some b→id < H.length ∧ b < w.heap.size
  inj : ∀ i j b,φ i=some b→φ j=some b→(AHeap.find H i).isSome→(AHeap.find H j).isSome→i=j
  blk : ∀ id b k,φ id=some b→AHeap.find H id=some k→BlkR φ (Own φ H) w k b
structure Step (φ : Phi) (H : AHeap) (w : World) (φ' : Phi) (H' : AHeap) (w' : World) : Prop extends Later (fun _=>True) φ φ' (Own φ H) (Own φ' H') w w' where
  os : w'.os=w.os
  tape : w'.tape=w.tape
  output : w'.output=w.output
  len : H.length ≤ H'.length
  old : ∀ id,id < H.length→φ' id=φ id
theorem Later.refl {φ : Phi} {O : Nat→Prop} {w : World} {ok : Nat→Prop} : Later ok φ φ O O w w :=
  ⟨fun _ _ _ h=>h,Nat.le_refl _,fun _ _ h=>h,fun _ _ _=>rfl,fun _ _=>rfl⟩
theorem Later.trans {φ ψ χ : Phi} {O P Q : Nat→Prop} {u v w : World} (h : Later (fun _=>True) φ ψ O P u v) (k : Later (fun _=>True) ψ χ P Q v w) : Later (fun _=>True) φ χ O Q u w where
  map:=fun id b _ e=>k.map id b trivial (h.map id b trivial e)
  size:=Nat.le_trans h.size k.size
  own:=fun b hb ho=>k.own b (Nat.lt_of_lt_of_le hb h.size) (h.own b hb ho)
  same:=fun b hb ho=>(k.same b (Nat.lt_of_lt_of_le hb h.size) (h.own b hb ho)).trans (h.same b hb ho)
  shape:=fun b hb=>(k.shape b (Nat.lt_of_lt_of_le hb h.size)).trans (h.shape b hb)
theorem Step.refl (φ : Phi) (H : AHeap) (w : World) : Step φ H w φ H w:=⟨Later.refl,rfl,rfl,rfl,Nat.le_refl _,fun _ _=>rfl⟩
theorem Step.trans {φ ψ χ : Phi} {G H K : AHeap} {u v w : World} (h : Step φ G u ψ H v) (k : Step ψ H v χ K w) : Step φ G u χ K w :=
  ⟨h.toLater.trans k.toLater,k.os.trans h.os,k.tape.trans h.tape,k.output.trans h.output,Nat.le_trans h.len k.len,fun id hid=>(k.old id (Nat.lt_of_lt_of_le hid h.len)).trans (h.old id hid)⟩
theorem Step.vr {φ φ' : Phi} {H H' : AHeap} {w w' : World} (h : Step φ H w φ' H' w') {x : AV} {v : Value} (hr : VR φ (Own φ H) w x v) : VR φ' (Own φ' H') w' x v :=
  VR_later h.toLater (AV.ids_true x) hr
theorem drew_rel {φ : Phi} {H : AHeap} {w : World} (h : Rel φ H w) : Rel φ H { w with drawn:=w.drawn+1 }:=by
  have hl : Later (fun _=>True) φ φ (Own φ H) (Own φ H) w { w with drawn:=w.drawn+1 }:=⟨fun _ _ _ h=>h,Nat.le_refl _,fun _ _ h=>h,fun _ _ _=>rfl,fun _ _=>rfl⟩
  refine ⟨h.glob.later hl,h.dom,h.inj,fun id b k h1 h2=>?_⟩
  exact (h.blk id b k h1 h2).on hl rfl
theorem drew_step (φ : Phi) (H : AHeap) (w : World) : Step φ H w φ H { w with drawn:=w.drawn+1 } :=
  ⟨⟨fun _ _ _ h=>h,Nat.le_refl _,fun _ _ h=>h,fun _ _ _=>rfl,fun _ _=>rfl⟩,rfl,rfl,rfl,Nat.le_refl _,fun _ _=>rfl⟩
def FR (φ : Phi) (O : Nat→Prop) (w : World) (ts : List AV) (a : Act) : Prop :=
  a.tmps.size=ts.length ∧ ∀ i,VR φ O w (ts.getD i .top) (a.tmps.getD i undef)
theorem FR.step {φ φ' : Phi} {H H' : AHeap} {w w' : World} (h : Step φ H w φ' H' w') {ts : List AV} {a : Act} (hr : FR φ (Own φ H) w ts a) : FR φ' (Own φ' H') w' ts a :=
  ⟨hr.1,fun i=>h.vr (hr.2 i)⟩
def putT (ts : List AV) (d : Option Tmp) (v : AV) : List AV :=
  match d with
  | some d=>ts.set d v
  | none=>ts
theorem vr_top {φ : Phi} {O : Nat→Prop} {w : World} (v : Value) : VR φ O w .top v:=⟨trivial,trivial⟩
theorem FR.put {φ : Phi} {O : Nat→Prop} {w : World} {ts : List AV} {a : Act} (hr : FR φ O w ts a) (d : Option Tmp) {x : AV} {v : Value} (hv : VR φ O w x v) : FR φ O w (putT ts d x) (a.put d v):=by
  cases d with
  | none=>exact hr
  | some d =>
    refine ⟨by simp[putT,Act.put,hr.1],fun i=>?_⟩
    have h0:=hr.2 i
    simp only[putT,Act.put,List.getD,Array.getD_eq_getD_getElem?,List.getElem?_set,Array.getElem?_setIfInBounds] at h0 ⊢
    by_cases e : d=i
    · subst e
      simp only[if_true]
      by_cases hl : d < ts.length
      · have hl' : d < a.tmps.size:=by rw[hr.1];exact hl
        simp[hl,hl']
        exact hv
      · simp[hl]
        exact vr_top _
    · simp only[if_neg e]
      exact h0
inductive X where
  | t (n : Nat)
  | k (v : AV)
def X.ev (ts : List AV) : X→AV
  | .t n=>ts.getD n .top
  | .k v=>v
def ofCell : Value→Option AV
  | .slice none 0 0=>some (.lst 0 [] (some []))
  | .slice _ _ _=>none
  | .agg _=>none
  | .tuple _=>none
  | .func ..=>none
  | .iface ..=>none
  | v=>some (.sc v)
def ofCells : List Value→Option (List AV)
  | []=>some []
  | v :: r=>match ofCell v,ofCells r with
    | some x,some s=>some (x :: s)
    | _,_=>none
def ofConst : Value→Option AV
  | .agg cs=>(ofCells cs.toList).map .agg
  | .tuple _=>some .top
  | .func f a b=>if a.isEmpty && b.isEmpty then some (.fn f [] []) else none
  | v=>ofCell v
def ofX : Operand→Option X
  | .tmp t=>some (.t t)
  | .const v=>(ofConst v).map .k
  | .global g=>some (.k (.sc (.pointer (some ⟨g,0,none⟩))))
  | .func f=>some (.k (.fn (.func f) [] []))
theorem ofCell_spec {φ : Phi} {O : Nat→Prop} {w : World} {v : Value} {x : AV} (h : ofCell v=some x) :
    x.isAgg=false ∧ v.oneCell'=true ∧ okA x v ∧ ∀ g : Nat→Option Value,g 0=some v→R φ O w x g:=by
  unfold ofCell at h
  split at h
  · cases h
    exact ⟨rfl,rfl,rfl,fun g hg=>⟨none,0,hg,Nat.le_refl _,by simp,fun _=>rfl,fun h=>by simp at h,rfl,fun h=>by simp at h⟩⟩
  all_goals first
    | (simp at h;done)
    | skip
  rename_i h1 h2 h3 h4 h5 h6
  cases h
  have hv : v.oneCell'=true:=by
    cases v <;> first | rfl | (exact absurd rfl (h3 _)) | (exact absurd rfl (h4 _))
  exact ⟨rfl,hv,hv,fun g hg=>hg⟩
theorem ofCells_spec {φ : Phi} {O : Nat→Prop} {w : World} : ∀ {l : List Value} {xs : List AV},ofCells l=some xs →
    xs.length=l.length ∧ ∀ g : Nat→Option Value,(∀ i,g i=l[i]?)→Rs φ O w xs g
  | [],xs,h=>by
    simp[ofCells] at h
    subst h
    exact ⟨rfl,fun _ _=>trivial⟩
  | v :: r,xs,h=>by
    unfold ofCells at h
    split at h
    · rename_i x s h1 h2
      cases h
      obtain ⟨a1,a2,a3,a4⟩:=ofCell_spec (φ:=φ) (O:=O) (w:=w) h1
      obtain ⟨b1,b2⟩:=ofCells_spec (φ:=φ) (O:=O) (w:=w) h2
      exact ⟨by simp[b1],fun g hg=>⟨a1,a4 g (by simpa using hg 0),⟨v,by simpa using hg 0,a2⟩,b2 _ fun i=>by simpa using hg (i+1)⟩⟩
    · simp at h
theorem ofConst_spec {φ : Phi} {O : Nat→Prop} {w : World} {v : Value} {x : AV} (h : ofConst v=some x) : VR φ O w x v:=by
  unfold ofConst at h
  split at h
  · rename_i cs
    cases hc : ofCells cs.toList with
    | none=>rw[hc] at h;simp at h
    | some xs =>
      rw[hc] at h
      simp at h
      subst h
      obtain ⟨b1,b2⟩:=ofCells_spec (φ:=φ) (O:=O) (w:=w) hc
      exact ⟨⟨cs,rfl,by simp[b1]⟩,b2 _ fun i=>by simp[cget,Value.cells]⟩
  · cases h
    exact vr_top _
  · rename_i f a b
    split at h
    · rename_i he
      simp at he
      obtain ⟨rfl,rfl⟩:=he
      cases h
      exact ⟨rfl,⟨#[],#[],rfl,rfl,rfl⟩⟩
    · simp at h
  · obtain ⟨a1,a2,a3,a4⟩:=ofCell_spec (φ:=φ) (O:=O) (w:=w) h
    refine ⟨a3,a4 _ ?_⟩
    cases v <;> first | rfl | (simp[Value.oneCell'] at a2)
def ofZero : Value→Option AV
  | .agg cs=>match cs.toList with
    | [.pointer none,.slice none 0 0]=>some (.agg [.sc (.pointer none),.sc (.slice none 0 0)])
    | _=>ofConst (.agg cs)
  | v=>ofConst v
theorem ofZero_spec {φ : Phi} {O : Nat→Prop} {w : World} {v : Value} {x : AV} (h : ofZero v=some x) : VR φ O w x v:=by
  unfold ofZero at h
  split at h
  · rename_i cs
    split at h
    · rename_i e
      cases h
      have hcs : cs=#[.pointer none,.slice none 0 0]:=by apply Array.toList_inj.1;simpa using e
      subst hcs
      exact ⟨⟨_,rfl,rfl⟩,rfl,rfl,⟨_,rfl,rfl⟩,rfl,rfl,⟨_,rfl,rfl⟩,trivial⟩
    · exact ofConst_spec h
  · exact ofConst_spec h
theorem ofX_spec {φ : Phi} {O : Nat→Prop} {w : World} {ts : List AV} {a : Act} (hr : FR φ O w ts a) {o : Operand} {x : X} (h : ofX o=some x) : VR φ O w (x.ev ts) (a.eval o):=by
  cases o with
  | tmp t=>cases h;exact hr.2 t
  | const v =>
    simp[ofX] at h
    obtain ⟨y,h1,h2⟩:=h
    subst h2
    exact ofConst_spec h1
  | global g=>cases h;exact ⟨rfl,rfl⟩
  | func f=>cases h;exact ⟨rfl,⟨#[],#[],rfl,rfl,rfl⟩⟩
end Go.Proofs.YtdjnccnecgblmaaGreatDoor
namespace Go.Proofs.YtdjnccnecgblmaaGreatDoor
open Go.RowKit
set_option linter.unusedVariables false
section cells
variable {φ : Phi} {O : Nat→Prop} {w : World}
theorem R_zero {x : AV} (hx : x.isAgg=false) {g g' : Nat→Option Value} (h : R φ O w x g) (h0 : g' 0=g 0) : R φ O w x g':=by
  cases x <;> first | (simp[AV.isAgg] at hx;done) | (simp only[R,h0] at h ⊢;exact h) | trivial
theorem Rs_congr : ∀ {cs : List AV} {g g' : Nat→Option Value},(∀ i,i < cs.length→g' i=g i)→Rs φ O w cs g→Rs φ O w cs g'
  | [],_,_,_,_=>trivial
  | x :: r,g,g',hg,h=>by
    have h0:=hg 0 (by simp)
    refine ⟨h.1,R_zero h.1 h.2.1 h0,by rw[h0];exact h.2.2.1,Rs_congr (fun i hi=>?_) h.2.2.2⟩
    exact hg (i+1) (by simpa using hi)
theorem Rs_cells : ∀ {cs : List AV} {g : Nat→Option Value},Rs φ O w cs g→∃ us : List Value,us.length=cs.length ∧ (∀ i,i < cs.length→g i=us[i]?) ∧ ∀ u ∈ us,u.oneCell'=true
  | [],g,_=>⟨[],rfl,fun i hi=>by simp at hi,fun u hu=>by simp at hu⟩
  | x :: r,g,h=>by
    obtain ⟨u,h1,h2⟩:=h.2.2.1
    obtain ⟨us,h3,h4,h5⟩:=Rs_cells h.2.2.2
    refine ⟨u :: us,by simp[h3],fun i hi=>?_,fun v hv=>?_⟩
    · cases i with
      | zero=>simpa using h1
      | succ i=>simpa using h4 i (by simpa using hi)
    · rcases List.mem_cons.1 hv with rfl | hv
      · exact h2
      · exact h5 v hv
theorem Rs_nth : ∀ {cs : List AV} {g : Nat→Option Value} {i : Nat} {x : AV},Rs φ O w cs g→cs[i]? = some x →
    x.isAgg=false ∧ R φ O w x (fun j=>g (i+j)) ∧ ∃ u,g i=some u ∧ u.oneCell'=true
  | [],_,_,_,_,h=>by simp at h
  | y :: r,g,0,x,h,hi=>by
    simp at hi
    subst hi
    exact ⟨h.1,R_zero h.1 h.2.1 (by simp),h.2.2.1⟩
  | y :: r,g,i+1,x,h,hi=>by
    have:=Rs_nth h.2.2.2 (by simpa using hi)
    refine ⟨this.1,R_zero this.1 this.2.1 (by simp),this.2.2⟩
theorem Rs_drop : ∀ {f : Nat} {cs : List AV} {g : Nat→Option Value},Rs φ O w cs g→Rs φ O w (cs.drop f) (fun j=>g (f+j))
  | 0,cs,g,h=>by simpa using h
  | f+1,[],g,h=>by simp[Rs]
  | f+1,x :: r,g,h=>by
    have:=Rs_drop (f:=f) h.2.2.2
    simp only[List.drop_succ_cons]
    exact Rs_congr (fun i _=>by congr 1;omega) this
theorem Rs_take : ∀ {n : Nat} {cs : List AV} {g : Nat→Option Value},Rs φ O w cs g→Rs φ O w (cs.take n) g
  | 0,cs,g,h=>by simp[Rs]
  | n+1,[],g,h=>by simp[Rs]
  | n+1,x :: r,g,h=>by
    simp only[List.take_succ_cons]
    exact ⟨h.1,h.2.1,h.2.2.1,Rs_take h.2.2.2⟩
theorem Rs_append : ∀ {a b : List AV} {g : Nat→Option Value},Rs φ O w a g→Rs φ O w b (fun j=>g (a.length+j))→Rs φ O w (a ++ b) g
  | [],b,g,_,h=>by simpa using h
  | x :: r,b,g,h,h'=>by
    refine ⟨h.1,h.2.1,h.2.2.1,Rs_append h.2.2.2 (Rs_congr (fun i _=>?_) h')⟩
    congr 1
    simp
    omega
def AV.cells : AV→List AV
  | .agg cs=>cs
  | x=>[x]
theorem AV.ncells_eq (x : AV) : x.ncells=x.cells.length:=by cases x <;> rfl
theorem R_Rs {x : AV} {g : Nat→Option Value} (h : R φ O w x g) (h1 : x.isAgg=false→∃ u,g 0=some u ∧ u.oneCell'=true) : Rs φ O w x.cells g:=by
  cases x <;> first | exact h | exact ⟨rfl,h,h1 rfl,trivial⟩
theorem VR_Rs {x : AV} {v : Value} (h : VR φ O w x v) (ht : x.isTop=false) : Rs φ O w x.cells (cget v):=by
  refine R_Rs h.2 fun hx=>?_
  have h1 : v.oneCell'=true:=by
    have:=h.1
    cases x <;> first | (simp[AV.isAgg] at hx;done) | (simp[AV.isTop] at ht;done) | exact this
  refine ⟨v,?_,h1⟩
  cases v <;> first | rfl | (simp[Value.oneCell'] at h1)
theorem VR_agg {cs : List AV} {us : Array Value} (h : Rs φ O w cs (fun i=>us[i]?)) (hs : us.size=cs.length) : VR φ O w (.agg cs) (.agg us) :=
  ⟨⟨us,rfl,hs⟩,h⟩
theorem VR_one {x : AV} {v : Value} (hx : x.isAgg=false) (hv : v.oneCell'=true) {g : Nat→Option Value} (h : R φ O w x g) (h0 : g 0=some v) : VR φ O w x v:=by
  have hc : cget v 0=some v:=by cases v <;> first | rfl | (simp[Value.oneCell'] at hv)
  refine ⟨?_,R_zero hx h (by rw[hc,h0])⟩
  cases x <;> first | (simp[AV.isAgg] at hx;done) | exact hv | trivial | skip
  obtain ⟨us,h1,_⟩:=h
  rw[h0] at h1
  exact ⟨us,Option.some.inj h1⟩
theorem VR_get {x : AV} {v : Value} (hx : x.isAgg=false) (ht : x.isTop=false) (h : VR φ O w x v) : cget v 0=some v ∧ v.oneCell'=true:=by
  have h1 : v.oneCell'=true:=by
    have:=h.1
    cases x <;> first | (simp[AV.isAgg] at hx;done) | (simp[AV.isTop] at ht;done) | exact this
  refine ⟨?_,h1⟩
  cases v <;> first | rfl | (simp[Value.oneCell'] at h1)
theorem VR_sc {u v : Value} (h : VR φ O w (.sc u) v) : v=u:=by
  have h1:=(VR_get rfl rfl h).1
  have h2:=h.2
  simp only[R] at h2
  rw[h1] at h2
  exact Option.some.inj h2
theorem sc_VR {u : Value} (h : u.oneCell'=true) : VR φ O w (.sc u) u :=
  ⟨h,by cases u <;> first | rfl | (simp[Value.oneCell'] at h)⟩
theorem VR_aggI {cs : List AV} {v : Value} (h : VR φ O w (.agg cs) v) : ∃ us : Array Value,v = .agg us ∧ us.size=cs.length ∧ Rs φ O w cs (fun i=>us[i]?):=by
  obtain ⟨us,rfl,hs⟩:=h.1
  exact ⟨us,rfl,hs,h.2⟩
theorem Rt_nth : ∀ {l : List AV} {us : List Value} {i : Nat} {x : AV},Rt φ O w l us→l[i]? = some x→∃ u,us[i]? = some u ∧ VR φ O w x u
  | [],_,_,_,_,h=>by simp at h
  | y :: r,us,0,x,h,hi=>by
    obtain ⟨v,s,rfl,h1,h2,_⟩:=h
    simp at hi
    subst hi
    exact ⟨v,rfl,h1,h2⟩
  | y :: r,us,i+1,x,h,hi=>by
    obtain ⟨v,s,rfl,_,_,h3⟩:=h
    obtain ⟨u,h4,h5⟩:=Rt_nth h3 (by simpa using hi)
    exact ⟨u,by simpa using h4,h5⟩
theorem Rt_len : ∀ {l : List AV} {us : List Value},Rt φ O w l us→us.length=l.length
  | [],us,h=>by simp only[Rt] at h;subst h;rfl
  | y :: r,us,h=>by
    obtain ⟨v,s,rfl,_,_,h3⟩:=h
    simp[Rt_len h3]
theorem Rt_map {ts : List AV} {a : Act} (hr : FR φ O w ts a) : ∀ {l : List Operand} {xs : List X},l.mapM ofX=some xs→Rt φ O w (xs.map (X.ev ts)) (l.map a.eval)
  | [],xs,h=>by simp at h;subst h;rfl
  | o :: r,xs,h=>by
    rw[List.mapM_cons] at h
    cases h1 : ofX o with
    | none=>rw[h1] at h;simp at h
    | some x =>
      cases h2 : r.mapM ofX with
      | none=>rw[h1,h2] at h;simp at h
      | some ys =>
        rw[h1,h2] at h
        simp at h
        subst h
        have hv:=ofX_spec hr h1
        exact ⟨_,_,rfl,hv.1,hv.2,Rt_map hr h2⟩
end cells
def AV.sub (x : AV) (f n : Nat) (ag : Bool) : AV:=if ag then .agg ((x.cells.drop f).take n) else x.cells.getD f .top
def AV.subOk (x : AV) (f n : Nat) (ag : Bool) : Prop:=if ag then f+n ≤ x.cells.length else f < x.cells.length
def fits (n : Nat) : Bool:=Nat.ble n 9223372036854775807
theorem fits_not {n : Nat} (h : fits n=true) : ¬ ((n : Nat) : Int) > IntKind.i64.max:=by
  have h1 : n ≤ 9223372036854775807:=Nat.le_of_ble_eq_true h
  have h2 : IntKind.i64.max=9223372036854775807:=by decide
  rw[h2]
  omega
def binV : BinOp→Value→Value→Option Value
  | op,.int k a,.int k' b =>
    if k=k' then
      match op with
      | .add=>some (.int k (k.wrap (a+b)))
      | .sub=>some (.int k (k.wrap (a - b)))
      | .mul=>some (.int k (k.wrap (a * b)))
      | .quo=>if b=0 then none else some (.int k (k.wrap (a.tdiv b)))
      | .rem=>if b=0 then none else some (.int k (a.tmod b))
      | .eql=>some (.bool (a == b))
      | .neq=>some (.bool (a != b))
      | .lss=>some (.bool (a < b))
      | .leq=>some (.bool (a ≤ b))
      | .gtr=>some (.bool (a > b))
      | .geq=>some (.bool (a ≥ b))
      | .and=>some (.int k (k.wrap (BitVec.ofInt k.bits a &&& BitVec.ofInt k.bits b).toNat))
      | .or=>some (.int k (k.wrap (BitVec.ofInt k.bits a ||| BitVec.ofInt k.bits b).toNat))
      | .xor=>some (.int k (k.wrap (BitVec.ofInt k.bits a ^^^ BitVec.ofInt k.bits b).toNat))
      | .andNot=>some (.int k (k.wrap (BitVec.ofInt k.bits a &&& ~~~BitVec.ofInt k.bits b).toNat))
      | _=>none
    else none
  | op,.string s,.string t =>
    match op with
    | .add=>if fits (s.size+t.size)=true then some (.string (s ++ t)) else none
    | .eql=>some (.bool (s.toList == t.toList))
    | .neq=>some (.bool !(s.toList == t.toList))
    | .lss=>some (.bool (Op.bytesLess s.toList t.toList))
    | .leq=>some (.bool (Op.bytesLess s.toList t.toList || s.toList == t.toList))
    | .gtr=>some (.bool !(Op.bytesLess s.toList t.toList || s.toList == t.toList))
    | .geq=>some (.bool !(Op.bytesLess s.toList t.toList))
    | _=>none
  | _,_,_=>none
def shV (op : BinOp) : Value→Value→Option Value
  | .int k a,.int _ y=>if y < 0 then none else
    match op with
    | .shl=>some (.int k (k.wrap (a * 2 ^ (min y.toNat k.bits))))
    | .shr=>some (.int k (a.fdiv (2 ^ (min y.toNat k.bits))))
    | _=>none
  | _,_=>none
def unV (op : UnOp) : Value→Option Value
  | .bool b=>match op with | .not=>some (.bool !b) | _=>none
  | .int k n=>match op with
    | .neg=>some (.int k (k.wrap (0 - n)))
    | .xor=>some (.int k (k.wrap (BitVec.ofInt k.bits (if k.signed then -1 else k.max) ^^^ BitVec.ofInt k.bits n).toNat))
    | _=>none
  | _=>none
theorem binV_run {op : BinOp} {x y r : Value} (h : binV op x y=some r) (P : Program) (t : TypeId) (w : World) : (binOp op t x y).run P w = .ok r w ∧ r.oneCell'=true:=by
  unfold binV at h
  split at h
  · rename_i k a k' b
    split at h
    · rename_i hk
      subst hk
      unfold binOp
      cases op <;> simp only at h <;> first
        | (cases h;simp[Op.intArith,Op.intBits,Op.intCmp,Value.oneCell'];done)
        | (split at h
           · simp at h
           · rename_i hb
             cases h
             simp[Op.intDiv,hb,Value.oneCell'])
        | (simp at h;done)
    · simp at h
  · rename_i s t
    unfold binOp
    cases op <;> simp only at h <;> first
      | (cases h;simp[Op.stringOp,Value.oneCell'];done)
      | (split at h
         · rename_i hb
           cases h
           simp only[Op.stringOp]
           rw[if_neg (fits_not hb)]
           exact ⟨rfl,rfl⟩
         · simp at h)
      | (simp at h;done)
  · simp at h
theorem binV_guard {op : BinOp} {x y r : Value} (h : binV op x y=some r) (P : Program) (t : TypeId) (xo yo : Operand) (w : World) : (eqGuard op t xo yo x y).run P w = .ok () w:=by
  unfold binV at h
  unfold eqGuard
  split at h
  · split <;> simp
  · split <;> simp
  · simp at h
theorem shV_run {op : BinOp} {x y r : Value} (h : shV op x y=some r) (P : Program) (t : TypeId) (w : World) : (binOp op t x y).run P w = .ok r w ∧ r.oneCell'=true ∧ ∀ xo yo,(eqGuard op t xo yo x y).run P w = .ok () w:=by
  unfold shV at h
  split at h
  · rename_i k a k' y
    split at h
    · simp at h
    · rename_i hy
      split at h
      · cases h
        simp[binOp,Op.shift,hy,Value.oneCell',eqGuard]
      · cases h
        simp[binOp,Op.shift,hy,Value.oneCell',eqGuard]
      · simp at h
  · simp at h
theorem unV_run {op : UnOp} {x r : Value} (h : unV op x=some r) (P : Program) (w : World) : (Op.unary op x).run P w = .ok r w ∧ r.oneCell'=true:=by
  unfold unV at h
  split at h
  · split at h
    · cases h;simp[Op.unary,Value.oneCell']
    · simp at h
  · split at h
    · cases h;simp[Op.unary,Op.intArith,Value.oneCell']
    · cases h;simp[Op.unary,Op.intBits,Value.oneCell']
    · simp at h
  · simp at h
end Go.Proofs.YtdjnccnecgblmaaGreatDoor
namespace Go.Proofs.YtdjnccnecgblmaaGreatDoor
open Go.RowKit
set_option linter.unusedVariables false
inductive PO where
  | mv (x : X)
  | pick (c a b : X)
  | bin (op : BinOp) (x y : X)
  | shf (op : BinOp) (x y : X)
  | eqB (pos : Bool) (x y : X)
  | eqN (pos : Bool) (x : X)
  | nilS (pos : Bool) (x : X)
  | un (op : UnOp) (x : X)
  | conv (k : IntKind) (x : X)
  | convB (x : X)
  | nilck (x : X)
  | faddr (off : Nat) (x : X)
  | field (off n : Nat) (ag : Bool) (x : X)
  | iaddr (k : Nat) (x i : X)
  | iaddrA (len k : Nat) (x i : X)
  | idxS (x i : X)
  | idxA (len n : Nat) (ag : Bool) (x i : X)
  | slc (k : Nat) (x : X) (lo hi mx : Option X)
  | slcS (x : X) (lo hi : Option X)
  | len (x : X)
  | lenS (x : X)
  | mm (mx : Bool) (x y : X)
  | ext (x : X) (i : Nat)
  | mkfn (f : Fn) (first caps : List X)
  | mkif (t : TypeId) (x : X)
  | tass (t : TypeId) (z : AV) (x : X)
  | build (zs : List AV) (parts : List (Nat × Nat × X))
def fillA (ev : X→AV) : List AV→List (Nat × Nat × X)→(List AV→Prop)→Prop
  | zs,[],K=>K zs
  | zs,(off,n,x) :: r,K=>((ev x).isTop=false ∧ (ev x).ncells=n ∧ off+n ≤ zs.length) ∧ fillA ev (zs.take off ++ (ev x).cells ++ zs.drop (off+n)) r K
def bnd (ev : X→AV) (d : Nat) : Option X→(Nat→Prop)→Prop
  | none,K=>K d
  | some x,K=>match ev x with
    | .sc (.int _ n)=>0 ≤ n ∧ K n.toNat
    | _=>False
def byteV : AV→Option UInt8
  | .sc (.int .u8 n)=>some (UInt8.ofNat n.toNat)
  | _=>none
def bytesOk : List AV→Bool
  | []=>true
  | x :: r=>(byteV x).isSome && bytesOk r
def bytesV (xs : List AV) : ByteArray:=⟨(xs.map fun x=>(byteV x).getD 0).toArray⟩
def PO.sem (ev : X→AV) (K : AV→Prop) : PO→Prop
  | .mv x=>K (ev x)
  | .pick c a b=>match ev c with
    | .sc (.bool t)=>(t=true→K (ev a)) ∧ (t=false→K (ev b))
    | _=>False
  | .bin op x y=>match ev x,ev y with
    | .sc u,.sc v=>∃ r,binV op u v=some r ∧ K (.sc r)
    | _,_=>False
  | .shf op x y=>match ev x,ev y with
    | .sc u,.sc v=>∃ r,shV op u v=some r ∧ K (.sc r)
    | _,_=>False
  | .eqB pos x y=>match ev x,ev y with
    | .sc (.bool a),.sc (.bool b)=>K (.sc (.bool (if pos then a == b else !(a == b))))
    | _,_=>False
  | .eqN pos x=>match ev x with
    | .sc .nilIface=>K (.sc (.bool pos))
    | .ifc _ _=>K (.sc (.bool !pos))
    | _=>False
  | .nilS pos x=>match ev x with
    | .lst _ [] _=>K .ub
    | .lst _ (_ :: _) _=>K (.sc (.bool !pos))
    | .vec _ _ _ _ _=>K (.sc (.bool !pos))
    | _=>False
  | .un op x=>match ev x with
    | .sc u=>∃ r,unV op u=some r ∧ K (.sc r)
    | _=>False
  | .conv k x=>match ev x with
    | .sc (.int _ n)=>K (.sc (.int k (k.wrap n)))
    | _=>False
  | .convB x=>match ev x with
    | .lst k xs _=>(k=1 ∧ bytesOk xs=true) ∧ K (.sc (.string (bytesV xs)))
    | _=>False
  | .nilck x=>match ev x with
    | .ptr k id j f=>(0 < k ∨ 0 < f) ∧ K (.ptr k id j f)
    | .lp y f=>K (.lp y f)
    | .fn (.func f) a b=>K (.fn (.func f) a b)
    | _=>False
  | .faddr off x=>match ev x with
    | .ptr k id j f=>0 < k ∧ K (.ptr k id j (f+off))
    | .lp y f=>K (.lp y (f+off))
    | _=>False
  | .field off n ag x=>match ev x with
    | .agg cs=>AV.subOk (.agg cs) off n ag ∧ K (AV.sub (.agg cs) off n ag)
    | _=>False
  | .iaddr k x i=>match ev x,ev i with
    | .lst k' xs _,.sc (.int _ n)=>(0 ≤ n ∧ n < (xs.length : Int) ∧ k'=k) ∧ K (.lp (xs.getD n.toNat .top) 0)
    | .vec k' id off m _,.sc (.int _ n)=>(0 ≤ n ∧ n < (m : Int) ∧ k'=k ∧ 0 < k) ∧ K (.ptr k id (off+n.toNat) 0)
    | _,_=>False
  | .iaddrA ln k x i=>match ev x,ev i with
    | .ptr k' id j f,.sc (.int _ n)=>(0 ≤ n ∧ n < (ln : Int) ∧ 0 < k') ∧ K (.ptr k' id j (f+n.toNat * k))
    | .lp y f,.sc (.int _ n)=>(0 ≤ n ∧ n < (ln : Int)) ∧ K (.lp y (f+n.toNat * k))
    | _,_=>False
  | .idxS x i=>match ev x,ev i with
    | .sc (.string s),.sc (.int _ n)=>(0 ≤ n ∧ n < (s.size : Int)) ∧ K (.sc (.int .u8 ((s.data.getD n.toNat 0).toNat : Int)))
    | _,_=>False
  | .idxA ln n ag x i=>match ev x,ev i with
    | .agg cs,.sc (.int _ m)=>(0 ≤ m ∧ m < (ln : Int)) ∧ AV.subOk (.agg cs) (m.toNat * n) n ag ∧ K (AV.sub (.agg cs) (m.toNat * n) n ag)
    | _,_=>False
  | .slc k x lo hi mx=>match ev x with
    | .lst k' xs room=>(k'=k ∨ xs=[] ∧ room=some []) ∧
      match mx with
      | some m=>bnd ev 0 (some m) fun m=>bnd ev 0 hi fun h=>bnd ev 0 lo fun l=>(hi.isSome ∧ l ≤ h ∧ h ≤ m ∧ m ≤ xs.length) ∧ K (.lst k ((xs.take h).drop l) (some ((xs.take m).drop h)))
      | none=>match room with
        | none=>bnd ev xs.length hi fun h=>bnd ev 0 lo fun l=>(l ≤ h ∧ h ≤ xs.length) ∧ K (.lst k ((xs.take h).drop l) none)
        | some ys=>bnd ev xs.length hi fun h=>bnd ev 0 lo fun l=>(l ≤ h ∧ h ≤ xs.length+ys.length) ∧ K (.lst k (((xs ++ ys).take h).drop l) (some ((xs ++ ys).drop h)))
    | .vec k' id off n c=>k'=k ∧ mx.isNone ∧ bnd ev n hi fun h=>bnd ev 0 lo fun l=>(l ≤ h ∧ h ≤ c.getD n) ∧
        match c with
        | none=>(l < h→K (.vec k id (off+l) (h - l) none)) ∧ (l=h→K (.lst k [] none))
        | some m=>(l < m→K (.vec k id (off+l) (h - l) (some (m - l)))) ∧ (m ≤ l→K (.lst k [] none))
    | _=>False
  | .slcS x lo hi=>match ev x with
    | .sc (.string s)=>bnd ev s.size hi fun h=>bnd ev 0 lo fun l=>(l ≤ h ∧ h ≤ s.size) ∧ K (.sc (.string (s.extract l h)))
    | _=>False
  | .len x=>match ev x with
    | .lst _ xs _=>K (.sc (.int .i64 xs.length))
    | .vec _ _ _ n _=>K (.sc (.int .i64 n))
    | .sc (.slice none 0 0)=>K (.sc (.int .i64 0))
    | _=>False
  | .lenS x=>match ev x with
    | .sc (.string s)=>K (.sc (.int .i64 s.size))
    | _=>False
  | .mm mx x y=>match ev x,ev y with
    | .sc (.int k a),.sc (.int _ b)=>K (.sc (.int k (if mx then (if b > a then b else a) else (if b < a then b else a))))
    | _,_=>False
  | .ext x i=>match ev x with
    | .tup vs=>i < vs.length ∧ K (vs.getD i .top)
    | _=>False
  | .mkfn f first caps=>K (.fn f (first.map ev) (caps.map ev))
  | .mkif t x=>K (.ifc t (ev x))
  | .tass t z x=>match ev x with
    | .ifc u v=>(u=t→K (.tup [v,.sc (.bool true)])) ∧ (u ≠ t→K (.tup [z,.sc (.bool false)]))
    | .sc .nilIface=>K (.tup [z,.sc (.bool false)])
    | _=>False
  | .build zs parts=>fillA ev zs parts fun cs=>K (.agg cs)
def isAggT : TypeDesc→Bool
  | .struct _ | .array _ _=>true
  | _=>false
def sizeAgg (P : Program) (t : TypeId) : Option (Nat × Bool) :=
  match P.underlying t,P.info? t with
  | some d,some i=>some (i.size,isAggT d)
  | _,_=>none
def ofXs (l : Array Operand) : Option (List X):=l.toList.mapM ofX
def ofXo : Option Operand→Option (Option X)
  | none=>some none
  | some o=>(ofX o).map some
def placesOf (P : Program) (fs : List Field) : Option (List (Nat × Nat)):=fs.mapM fun f=>(P.info? f.type).map fun i=>(f.offset,i.size)
def partsOf (pl : Nat→Option (Nat × Nat)) : List (Nat × Operand)→Option (List (Nat × Nat × X))
  | []=>some []
  | (i,o) :: r=>match pl i,ofX o,partsOf pl r with
    | some (off,n),some x,some s=>some ((off,n,x) :: s)
    | _,_,_=>none
def isU8 (P : Program) (e : TypeId) : Bool:=match P.underlying e with
  | some (.int .u8)=>true
  | _=>false
theorem isU8_spec {P : Program} {e : TypeId} (h : isU8 P e=true) : P.underlying e=some (.int .u8):=by
  unfold isU8 at h
  split at h
  · assumption
  · simp at h
def compBin (P : Program) (op : BinOp) (t : TypeId) (x y : Operand) : Option PO :=
  match ofX x,ofX y with
  | some x',some y' =>
    match op with
    | .shl | .shr=>some (.shf op x' y')
    | _ =>
      match P.underlying t with
      | some .bool=>(match op with | .eql=>some (.eqB true x' y') | .neq=>some (.eqB false x' y') | _=>none)
      | some (.interface _)=>(match op,y with | .eql,.const .nilIface=>some (.eqN true x') | .neq,.const .nilIface=>some (.eqN false x') | _,_=>none)
      | some (.slice _)=>(match op,y with | .eql,.const (.slice none 0 0)=>some (.nilS true x') | .neq,.const (.slice none 0 0)=>some (.nilS false x') | _,_=>none)
      | some (.int _) | some .string=>some (.bin op x' y')
      | _=>none
  | _,_=>none
def compP (P : Program) (o : Oper) : Option PO :=
  match o.op with
  | .move x | .assign x=>(ofX x).map .mv
  | .pick c a b=>match ofX c,ofX a,ofX b with
    | some c,some a,some b=>some (.pick c a b)
    | _,_,_=>none
  | .binOp op t x y _=>compBin P op t x y
  | .unOp op _ x=>(ofX x).map (.un op)
  | .convert s d x=>match P.underlying s,P.underlying d,ofX x with
    | some (.int _),some (.int k),some x=>some (.conv k x)
    | some .string,some .string,some x=>some (.slcS x none none)
    | some (.slice e),some .string,some x=>if isU8 P e=true then some (.convB x) else none
    | _,_,_=>none
  | .nilCheck x=>(ofX x).map .nilck
  | .fieldAddr s x f=>match P.underlying s,ofX x with
    | some (.struct fs),some x=>match fs[f]? with
      | some fd=>match P.info? fd.type with
        | some i=>if i.size=0 then none else some (.faddr fd.offset x)
        | none=>none
      | none=>none
    | _,_=>none
  | .field t x f=>match P.underlying t,ofX x with
    | some (.struct fs),some x=>match fs[f]? with
      | some fd=>match sizeAgg P fd.type with
        | some (n,ag)=>some (.field fd.offset n ag x)
        | none=>none
      | none=>none
    | _,_=>none
  | .indexAddr t x i=>match P.underlying t,ofX x,ofX i with
    | some (.slice e),some x,some i=>(P.info? e).map fun inf=>.iaddr inf.size x i
    | some (.array ln e),some x,some i=>(P.info? e).map fun inf=>.iaddrA ln inf.size x i
    | _,_,_=>none
  | .index t x i=>match P.underlying t,ofX x,ofX i with
    | some .string,some x,some i=>some (.idxS x i)
    | some (.array ln e),some x,some i=>(sizeAgg P e).map fun (n,ag)=>.idxA ln n ag x i
    | _,_,_=>none
  | .slice t x lo hi mx=>match P.underlying t,ofX x,ofXo lo,ofXo hi,ofXo mx with
    | some (.slice e),some x,some lo,some hi,some mx=>(P.info? e).map fun inf=>.slc inf.size x lo hi mx
    | some .string,some x,some lo,some hi,some none=>some (.slcS x lo hi)
    | _,_,_,_,_=>none
  | .extract x i=>(ofX x).map (.ext · i)
  | .makeFunc f a b=>match ofXs a,ofXs b with
    | some a,some b=>some (.mkfn f a b)
    | _,_=>none
  | .makeInterface t x=>match P.underlying t,ofX x with
    | some (.interface _),_=>none
    | some _,some x=>some (.mkif t x)
    | _,_=>none
  | .typeAssert x _ t true=>match P.underlying t,P.info? t,ofX x with
    | some (.interface _),_,_=>none
    | some _,some i,some x=>(i.zero.bind ofConst).map fun z=>.tass t z x
    | _,_,_=>none
  | .build t parts=>match P.underlying t,(P.info? t).bind (·.zero) with
    | some (.struct fs),some (.agg zs)=>match placesOf P fs.toList,ofCells zs.toList with
      | some pl,some cs=>(partsOf (fun i=>pl[i]?) parts.toList).map fun ps=>.build cs ps
      | _,_=>none
    | some (.array _ e),some (.agg zs)=>match P.info? e,ofCells zs.toList with
      | some inf,some cs=>(partsOf (fun i=>some (i * inf.size,inf.size)) parts.toList).map fun ps=>.build cs ps
      | _,_=>none
    | _,_=>none
  | .call { callee:=.builtin .len,args,argTypes }=>match args.toList,argTypes.toList with
    | [x],[t]=>match P.underlying t,ofX x with
      | some (.slice _),some x=>some (.len x)
      | some .string,some x=>some (.lenS x)
      | some (.array n _),some _=>some (.mv (.k (.sc (.int .i64 n))))
      | _,_=>none
    | _,_=>none
  | .call { callee:=.builtin .min,args,.. }=>match args.toList with
    | [x,y]=>match ofX x,ofX y with
      | some x,some y=>some (.mm false x y)
      | _,_=>none
    | _=>none
  | .call { callee:=.builtin .max,args,.. }=>match args.toList with
    | [x,y]=>match ofX x,ofX y with
      | some x,some y=>some (.mm true x y)
      | _,_=>none
    | _=>none
  | _=>none
end Go.Proofs.YtdjnccnecgblmaaGreatDoor
namespace Go.Proofs.YtdjnccnecgblmaaGreatDoor
open Go.RowKit
set_option linter.unusedVariables false
set_option linter.unusedSimpArgs false
section
variable {P : Program} {φ : Phi} {O : Nat→Prop} {w : World}
theorem rn_size {t : TypeId} {i : TypeInfo} (h : P.info? t=some i) : (sizeOf t).run P w = .ok i.size w:=by simp[sizeOf,typeInfo,h]
theorem rn_under {t : TypeId} {d : TypeDesc} (h : P.underlying t=some d) : (underlying t).run P w = .ok d w:=run_underlying h w
theorem rn_isAgg {t : TypeId} {d : TypeDesc} (h : P.underlying t=some d) : (isAgg t).run P w = .ok (isAggT d) w:=by
  simp only[isAgg,Sem.run_bind,rn_under h,Result.andThen_ok]
  cases d <;> rfl
theorem cut_sub {cs : List AV} {us : Array Value} {f n : Nat} (h : Rs φ O w cs (fun i=>us[i]?)) (hs : us.size=cs.length) (hf : f+n ≤ cs.length) :
    VR φ O w (.agg ((cs.drop f).take n)) (.agg (us.extract f (f+n))):=by
  refine VR_agg (Rs_congr (fun i hi=>?_) (Rs_take (n:=n) (Rs_drop (f:=f) h))) ?_
  · have : i < n:=by simp at hi;omega
    have h1 : f+i < us.size:=by simp at hi;omega
    rw[Array.getElem?_extract]
    have : i < min (f+n) us.size - f:=by omega
    rw[if_pos this]
  · simp;omega
theorem part_run {t : TypeId} {n : Nat} {ag : Bool} (hs : sizeAgg P t=some (n,ag)) {cs : List AV} {us : Array Value} (h : Rs φ O w cs (fun i=>us[i]?)) (hz : us.size=cs.length) {f : Nat} (hok : AV.subOk (.agg cs) f n ag) :
    ∃ u,(part t us f).run P w = .ok u w ∧ VR φ O w (AV.sub (.agg cs) f n ag) u:=by
  unfold sizeAgg at hs
  split at hs
  · rename_i d i h1 h2
    cases hs
    unfold part
    simp only[Sem.run_bind,rn_isAgg h1,Result.andThen_ok]
    cases hd : isAggT d with
    | true =>
      simp only[AV.subOk,hd,if_true,AV.cells] at hok
      simp only[if_true,Sem.run_bind,rn_size h2,Result.andThen_ok,Sem.run_pure,AV.sub,hd,AV.cells]
      exact ⟨_,rfl,cut_sub h hz hok⟩
    | false =>
      simp only[AV.subOk,hd,AV.cells] at hok
      simp only[AV.sub,hd,AV.cells]
      have hf : f < us.size:=by rw[hz];simpa using hok
      have hl : f < cs.length:=by simpa using hok
      obtain ⟨a1,a2,u,a3,a4⟩:=Rs_nth h (i:=f) (x:=cs[f]) (by simp[hl])
      refine ⟨u,?_,?_⟩
      · simp[a3]
      · have : cs.getD f AV.top=cs[f]:=by simp[List.getD,hl]
        simp only[Bool.false_eq_true,if_false,this]
        exact VR_one a1 a4 a2 (by simpa using a3)
  · simp at hs
theorem VR_tup {vs : List AV} {v : Value} (h : VR φ O w (.tup vs) v) : ∃ us,v = .tuple us ∧ Rt φ O w vs us.toList:=by
  obtain ⟨us,h1,h2⟩:=h.2
  obtain ⟨us',rfl⟩:=h.1
  simp[cget,Value.cells] at h1
  subst h1
  exact ⟨_,rfl,h2⟩
theorem cget_one {v : Value} (h : v.oneCell'=true) : cget v 0=some v:=by
  cases v <;> first | rfl | (simp[Value.oneCell'] at h)
theorem VR_lst {k : Nat} {xs : List AV} {room : Option (List AV)} {v : Value} (h : VR φ O w (.lst k xs room) v) : ∃ a c,v = .slice a xs.length c ∧ xs.length ≤ c ∧ c ≤ maxLen ∧ (a=none→c=0) ∧
      (0 < xs.length→∃ b off,a=some ⟨b,off,none⟩ ∧ ¬ O b ∧ b < w.heap.size ∧ Rl φ O w b k xs off) ∧ Rm φ O w k xs.length a c room:=by
  obtain ⟨a,c,h1,h2⟩:=h.2
  rw[cget_one h.1] at h1
  exact ⟨a,c,Option.some.inj h1,h2⟩
theorem VR_vec {k id off n : Nat} {c : Option Nat} {v : Value} (h : VR φ O w (.vec k id off n c) v) : ∃ b c' cur e fr,φ id=some b ∧ v = .slice (some ⟨b,off * k,none⟩) n c' ∧ n ≤ c' ∧ c' ≤ maxLen ∧ (∀ m,c=some m→c'=m) ∧
      w.heap[b]? = some (.cells cur e fr) ∧ cur.size=(off+c') * k:=by
  obtain ⟨b,c',cur,e,fr,h1,h2,h3⟩:=h.2
  rw[cget_one h.1] at h2
  exact ⟨b,c',cur,e,fr,h1,Option.some.inj h2,h3⟩
theorem VR_ptr {k id j f : Nat} {v : Value} (h : VR φ O w (.ptr k id j f) v) : ∃ b,φ id=some b ∧ v=ptrV k j f b:=by
  obtain ⟨b,h1,h2⟩:=h.2
  rw[cget_one h.1] at h2
  exact ⟨b,h1,Option.some.inj h2⟩
theorem VR_lp {x : AV} {f : Nat} {v : Value} (h : VR φ O w (.lp x f) v) : ∃ b off,v = .pointer (some ⟨b,off+f,none⟩) ∧ ¬ O b ∧ b < w.heap.size ∧ (x.isAgg=false→∃ u,memAt w b off 0=some u ∧ u.oneCell'=true) ∧ R φ O w x (memAt w b off):=by
  obtain ⟨b,off,h1,h2⟩:=h.2
  rw[cget_one h.1] at h1
  exact ⟨b,off,Option.some.inj h1,h2⟩
theorem VR_fn {f : Fn} {a b : List AV} {v : Value} (h : VR φ O w (.fn f a b) v) : ∃ us ws,v = .func f us ws ∧ Rt φ O w a us.toList ∧ Rt φ O w b ws.toList:=by
  obtain ⟨us,ws,h1,h2⟩:=h.2
  rw[cget_one h.1] at h1
  exact ⟨us,ws,Option.some.inj h1,h2⟩
theorem VR_ifc {t : TypeId} {x : AV} {v : Value} (h : VR φ O w (.ifc t x) v) : ∃ u,v = .iface t u ∧ VR φ O w x u:=by
  obtain ⟨u,h1,h2⟩:=h.2
  rw[cget_one h.1] at h1
  exact ⟨u,Option.some.inj h1,h2⟩
theorem ptr_VR {k id j f b : Nat} (h : φ id=some b) : VR φ O w (.ptr k id j f) (ptrV k j f b):=⟨ptrV_one,b,h,cget_one ptrV_one⟩
theorem addr_add (b o n : Nat) : (⟨b,o,none⟩ : Addr).add n=⟨b,o+n,none⟩:=by unfold Addr.add;split <;> simp_all
theorem Rl_nth : ∀ {l : List AV} {b k off j : Nat} {x : AV},Rl φ O w b k l off→l[j]? = some x →
    x.ncells=k ∧ (x.isAgg=false→∃ u,memAt w b (off+j * k) 0=some u ∧ u.oneCell'=true) ∧ R φ O w x (memAt w b (off+j * k))
  | [],_,_,_,_,_,_,h=>by simp at h
  | y :: r,b,k,off,0,x,h,hj=>by
    simp at hj
    subst hj
    simp only[Nat.zero_mul,Nat.add_zero]
    exact ⟨h.1,h.2.1,h.2.2.1⟩
  | y :: r,b,k,off,j+1,x,h,hj=>by
    have:=Rl_nth h.2.2.2 (by simpa using hj)
    rw[show off+k+j * k=off+(j+1) * k from by rw[Nat.add_mul];omega] at this
    exact this
theorem Rl_drop : ∀ {f : Nat} {l : List AV} {b k off : Nat},Rl φ O w b k l off→Rl φ O w b k (l.drop f) (off+f * k)
  | 0,l,b,k,off,h=>by simpa using h
  | f+1,[],b,k,off,h=>by simp[Rl]
  | f+1,x :: r,b,k,off,h=>by
    have:=Rl_drop (f:=f) h.2.2.2
    rw[show off+k+f * k=off+(f+1) * k from by rw[Nat.add_mul];omega] at this
    simpa using this
theorem Rl_take : ∀ {n : Nat} {l : List AV} {b k off : Nat},Rl φ O w b k l off→Rl φ O w b k (l.take n) off
  | 0,l,b,k,off,h=>by simp[Rl]
  | n+1,[],b,k,off,h=>by simp[Rl]
  | n+1,x :: r,b,k,off,h=>⟨h.1,h.2.1,h.2.2.1,Rl_take h.2.2.2⟩
theorem Rl_append : ∀ {l m : List AV} {b k off : Nat},Rl φ O w b k l off→Rl φ O w b k m (off+l.length * k)→Rl φ O w b k (l ++ m) off
  | [],m,b,k,off,_,h=>by simpa using h
  | x :: r,m,b,k,off,h,h'=>⟨h.1,h.2.1,h.2.2.1,Rl_append h.2.2.2 (by
      rw[show off+(x :: r).length * k=off+k+r.length * k from by simp[Nat.add_mul];omega] at h'
      exact h')⟩
theorem bnd_run {ts : List AV} {a : Act} (hr : FR φ O w ts a) {o : Option Operand} {x : Option X} (hx : ofXo o=some x) {d : Nat} {K : Nat→Prop} (h : bnd (X.ev ts) d x K) :
    (o=none ∧ x=none ∧ K d) ∨ (∃ p k n,o=some p ∧ x.isSome ∧ a.eval p = .int k n ∧ 0 ≤ n ∧ K n.toNat):=by
  cases o with
  | none=>cases hx;exact .inl ⟨rfl,rfl,h⟩
  | some p =>
    simp only[ofXo,Option.map_eq_some_iff] at hx
    obtain ⟨y,h1,rfl⟩:=hx
    simp only[bnd] at h
    have hv:=ofX_spec hr h1
    cases he : X.ev ts y <;> rw[he] at h hv <;> try exact False.elim h
    rename_i v
    cases v <;> try exact False.elim h
    exact .inr ⟨p,_,_,rfl,rfl,VR_sc hv,h.1,h.2⟩
theorem bound_run {k : IntKind} {n : Int} {y : Nat} {c : BoundsCode} (h0 : 0 ≤ n) (h1 : n.toNat ≤ y) : (Instr.sliceBound (.int k n) y c).run P w = .ok n.toNat w:=by
  unfold Instr.sliceBound
  have : n ≤ (y : Int):=by omega
  simp[asIntOf,h0,this]
theorem bounds_run {sl : Bool} {len cap : Nat} {lo hi mx : Option Value} {l h m : Nat}
    (hm : (mx=none ∧ m=cap) ∨ ∃ k n,mx=some (.int k n) ∧ 0 ≤ n ∧ m=n.toNat ∧ hi.isSome) (hh : (hi=none ∧ h=len) ∨ ∃ k n,hi=some (.int k n) ∧ 0 ≤ n ∧ h=n.toNat)
    (hl : (lo=none ∧ l=0) ∨ ∃ k n,lo=some (.int k n) ∧ 0 ≤ n ∧ l=n.toNat) (h1 : l ≤ h) (h2 : h ≤ m) (h3 : m ≤ cap) : (Instr.sliceBounds sl len cap lo hi mx).run P w = .ok (l,h,m) w:=by
  unfold Instr.sliceBounds
  rcases hm with ⟨rfl,rfl⟩ | ⟨km,nm,rfl,m0,rfl,hi'⟩ <;> rcases hh with ⟨rfl,rfl⟩ | ⟨kh,nh,rfl,hh0,rfl⟩ <;> rcases hl with ⟨rfl,rfl⟩ | ⟨kl,nl,rfl,hl0,rfl⟩ <;>
    first
    | (simp at hi';done)
    | (simp only[Sem.run_bind,Sem.run_pure,Result.andThen_ok];done)
    | (simp only[Sem.run_bind,Sem.run_pure,Result.andThen_ok];rw[bound_run (by assumption) (by omega)];done)
    | (simp only[Sem.run_bind,Sem.run_pure,Result.andThen_ok];rw[bound_run (by assumption) (by omega)];simp only[Sem.run_bind,Sem.run_pure,Result.andThen_ok];done)
    | (simp only[Sem.run_bind,Sem.run_pure,Result.andThen_ok];rw[bound_run (by assumption) (by omega)];simp only[Sem.run_bind,Sem.run_pure,Result.andThen_ok];rw[bound_run (by assumption) (by omega)];simp only[Sem.run_bind,Sem.run_pure,Result.andThen_ok];done)
    | (simp only[Sem.run_bind,Sem.run_pure,Result.andThen_ok];rw[bound_run (by assumption) (by omega)];simp only[Sem.run_bind,Sem.run_pure,Result.andThen_ok];rw[bound_run (by assumption) (by omega)];simp only[Sem.run_bind,Sem.run_pure,Result.andThen_ok];rw[bound_run (by assumption) (by omega)];simp only[Sem.run_bind,Sem.run_pure,Result.andThen_ok];done)
end
end Go.Proofs.YtdjnccnecgblmaaGreatDoor
namespace Go.Proofs.YtdjnccnecgblmaaGreatDoor
open Go.RowKit
set_option linter.unusedVariables false
set_option linter.unusedSimpArgs false
def PSound (P : Program) (o : Oper) (op : PO) : Prop :=
  ∀ (φ : Phi) (O : Nat→Prop) (w : World) (ts : List AV) (a : Act),FR φ O w ts a→∀ K : AV→Prop,PO.sem (X.ev ts) K op →
    ∃ v u,K v ∧ VR φ O w v u ∧ (execOp a.eval o).run P w = .ok (.value u) w
section
variable {P : Program}
theorem ps_mv {o : Oper} {x : Operand} {x' : X} (ho : o.op = .move x ∨ o.op = .assign x) (hx : ofX x=some x') : PSound P o (.mv x'):=by
  intro φ O w ts a hr K h
  refine ⟨_,_,h,ofX_spec hr hx,?_⟩
  rcases ho with ho | ho <;> simp[execOp,ho]
theorem ps_pick {o : Oper} {c x y : Operand} {c' x' y' : X} (ho : o.op = .pick c x y) (hc : ofX c=some c') (hx : ofX x=some x') (hy : ofX y=some y') : PSound P o (.pick c' x' y'):=by
  intro φ O w ts a hr K h
  have hv:=ofX_spec hr hc
  simp only[PO.sem] at h
  cases he : X.ev ts c' <;> rw[he] at h hv <;> try exact False.elim h
  rename_i u
  cases u <;> try exact False.elim h
  rename_i t
  have hu:=VR_sc hv
  cases t with
  | true=>exact ⟨_,_,h.1 rfl,ofX_spec hr hx,by simp[execOp,ho,hu,asBool]⟩
  | false=>exact ⟨_,_,h.2 rfl,ofX_spec hr hy,by simp[execOp,ho,hu,asBool]⟩
theorem ps_bin {o : Oper} {op : BinOp} {t ty : TypeId} {x y : Operand} {x' y' : X} (ho : o.op = .binOp op t x y ty) (hx : ofX x=some x') (hy : ofX y=some y') : PSound P o (.bin op x' y'):=by
  intro φ O w ts a hr K h
  have hv:=ofX_spec hr hx
  have hw:=ofX_spec hr hy
  simp only[PO.sem] at h
  cases he : X.ev ts x' <;> cases hf : X.ev ts y' <;> rw[he,hf] at h <;> try exact False.elim h
  rw[he] at hv
  rw[hf] at hw
  obtain ⟨r,h1,h2⟩:=h
  obtain ⟨h3,h4⟩:=binV_run h1 P t w
  refine ⟨_,_,h2,sc_VR h4,?_⟩
  simp[execOp,ho,VR_sc hv,VR_sc hw,binV_guard h1 P t x y w,h3]
theorem ps_shf {o : Oper} {op : BinOp} {t ty : TypeId} {x y : Operand} {x' y' : X} (ho : o.op = .binOp op t x y ty) (hx : ofX x=some x') (hy : ofX y=some y') : PSound P o (.shf op x' y'):=by
  intro φ O w ts a hr K h
  have hv:=ofX_spec hr hx
  have hw:=ofX_spec hr hy
  simp only[PO.sem] at h
  cases he : X.ev ts x' <;> cases hf : X.ev ts y' <;> rw[he,hf] at h <;> try exact False.elim h
  rw[he] at hv
  rw[hf] at hw
  obtain ⟨r,h1,h2⟩:=h
  obtain ⟨h3,h4,h5⟩:=shV_run h1 P t w
  refine ⟨_,_,h2,sc_VR h4,?_⟩
  simp[execOp,ho,VR_sc hv,VR_sc hw,h5,h3]
theorem eqB_run {t : TypeId} (ht : P.underlying t=some .bool) (x y : Bool) (w : World) : (Op.equal t (.bool x) (.bool y)).run P w = .ok (x == y) w:=by
  show (Op.equalIn (9999+1) t _ _).run P w=_
  rw[Op.equalIn]
  simp only[Sem.run_bind,rn_under ht,Result.andThen_ok]
  rfl
theorem eqN_run {t : TypeId} {ms : Array (String × TypeId)} (ht : P.underlying t=some (.interface ms)) (w : World) : (Op.equal t .nilIface .nilIface).run P w = .ok true w:=by
  show (Op.equalIn (9999+1) t _ _).run P w=_
  rw[Op.equalIn]
  simp only[Sem.run_bind,rn_under ht,Result.andThen_ok]
  rfl
theorem eqM_run {t u : TypeId} {v : Value} {ms : Array (String × TypeId)} (ht : P.underlying t=some (.interface ms)) (w : World) : (Op.equal t (.iface u v) .nilIface).run P w = .ok false w:=by
  show (Op.equalIn (9999+1) t _ _).run P w=_
  rw[Op.equalIn]
  simp only[Sem.run_bind,rn_under ht,Result.andThen_ok]
  rfl
theorem lp_VR {φ : Phi} {O : Nat→Prop} {w : World} {x : AV} {f b off p : Nat} (h1 : ¬ O b) (h2 : b < w.heap.size) (h4 : x.isAgg=false→∃ u,memAt w b off 0=some u ∧ u.oneCell'=true) (h3 : R φ O w x (memAt w b off)) (hp : p=off+f) : VR φ O w (.lp x f) (.pointer (some ⟨b,p,none⟩)) :=
  ⟨rfl,b,off,by rw[hp];rfl,h1,h2,h4,h3⟩
theorem ps_eqB {o : Oper} {op : BinOp} {t ty : TypeId} {x y : Operand} {x' y' : X} {pos : Bool} (ho : o.op = .binOp op t x y ty) (ht : P.underlying t=some .bool) (hop : op=if pos then .eql else .neq) (hx : ofX x=some x') (hy : ofX y=some y') : PSound P o (.eqB pos x' y'):=by
  intro φ O w ts a hr K h
  have hv:=ofX_spec hr hx
  have hw:=ofX_spec hr hy
  simp only[PO.sem] at h
  split at h
  case h_2=>exact h.elim
  rename_i u v he hf
  rw[he] at hv
  rw[hf] at hw
  refine ⟨_,_,h,sc_VR rfl,?_⟩
  cases pos <;> simp at hop <;> subst hop
  · simp only[execOp,ho,VR_sc hv,VR_sc hw]
    have e : ∀ u v,binOp .neq t (.bool u) (.bool v)=(do pure (.bool (!(← Op.equal t (.bool u) (.bool v))))):=fun _ _=>rfl
    rw[e]
    simp[eqGuard,eqB_run ht]
  · simp only[execOp,ho,VR_sc hv,VR_sc hw]
    have e : ∀ u v,binOp .eql t (.bool u) (.bool v)=(do pure (.bool (← Op.equal t (.bool u) (.bool v)))):=fun _ _=>rfl
    rw[e]
    simp[eqGuard,eqB_run ht]
theorem ps_eqN {o : Oper} {op : BinOp} {t ty : TypeId} {x : Operand} {x' : X} {pos : Bool} {ms : Array (String × TypeId)} (ho : o.op = .binOp op t x (.const .nilIface) ty) (ht : P.underlying t=some (.interface ms)) (hop : op=if pos then .eql else .neq) (hx : ofX x=some x') : PSound P o (.eqN pos x'):=by
  intro φ O w ts a hr K h
  have hv:=ofX_spec hr hx
  have hc : a.eval (.const .nilIface) = .nilIface:=rfl
  simp only[PO.sem] at h
  cases he : X.ev ts x' <;> rw[he] at h hv <;> try exact False.elim h
  · rename_i u
    cases u <;> try exact False.elim h
    refine ⟨_,_,h,sc_VR rfl,?_⟩
    have e1 : binOp .neq t .nilIface .nilIface=(do pure (.bool (!(← Op.equal t .nilIface .nilIface)))):=rfl
    have e2 : binOp .eql t .nilIface .nilIface=(do pure (.bool (← Op.equal t .nilIface .nilIface))):=rfl
    cases pos <;> simp at hop <;> subst hop <;> simp only[execOp,ho,VR_sc hv,hc,e1,e2] <;> simp[eqGuard,eqN_run ht]
  · obtain ⟨u,hu,_⟩:=VR_ifc hv
    refine ⟨_,_,h,sc_VR rfl,?_⟩
    have e1 : ∀ a b,binOp .neq t (.iface a b) .nilIface=(do pure (.bool (!(← Op.equal t (.iface a b) .nilIface)))):=fun _ _=>rfl
    have e2 : ∀ a b,binOp .eql t (.iface a b) .nilIface=(do pure (.bool (← Op.equal t (.iface a b) .nilIface))):=fun _ _=>rfl
    cases pos <;> simp at hop <;> subst hop <;> simp only[execOp,ho,hu,hc,e1,e2] <;> simp[eqGuard,eqM_run ht]
theorem eqS_run {t e : TypeId} (ht : P.underlying t=some (.slice e)) (a : Option Addr) (n c : Nat) (w : World) : (Op.equal t (.slice a n c) (.slice none 0 0)).run P w = .ok a.isNone w:=by
  show (Op.equalIn (9999+1) t _ _).run P w=_
  rw[Op.equalIn]
  simp only[Sem.run_bind,rn_under ht,Result.andThen_ok]
  cases a <;> rfl
theorem ub_VR {φ : Phi} {O : Nat→Prop} {w : World} {b : Bool} : VR φ O w .ub (.bool b):=⟨rfl,b,rfl⟩
theorem ps_nilS {o : Oper} {op : BinOp} {t ty e : TypeId} {x : Operand} {x' : X} {pos : Bool} (ho : o.op = .binOp op t x (.const (.slice none 0 0)) ty) (ht : P.underlying t=some (.slice e)) (hop : op=if pos then .eql else .neq) (hx : ofX x=some x') : PSound P o (.nilS pos x'):=by
  intro φ O w ts a hr K h
  have hv:=ofX_spec hr hx
  have hc : a.eval (.const (.slice none 0 0)) = .slice none 0 0:=rfl
  have e1 : ∀ a n c,binOp .neq t (.slice a n c) (.slice none 0 0)=(do pure (.bool (!(← Op.equal t (.slice a n c) (.slice none 0 0))))):=fun _ _ _=>rfl
  have e2 : ∀ a n c,binOp .eql t (.slice a n c) (.slice none 0 0)=(do pure (.bool (← Op.equal t (.slice a n c) (.slice none 0 0)))):=fun _ _ _=>rfl
  have key : ∀ {z : Option Addr} {n c : Nat},a.eval x = .slice z n c→(execOp a.eval o).run P w = .ok (.value (.bool (if pos then z.isNone else !z.isNone))) w:=by
    intro z n c hz
    cases pos <;> simp at hop <;> subst hop <;> simp only[execOp,ho,hz,hc,e1,e2] <;> simp[eqGuard,eqS_run ht]
  have key' : ∀ {z : Option Addr} {n c : Nat} {v : Value},a.eval x = .slice z n c→v = .bool (if pos then z.isNone else !z.isNone)→(execOp a.eval o).run P w = .ok (.value v) w:=fun h1 h2=>by rw[h2];exact key h1
  simp only[PO.sem] at h
  split at h
  · rename_i k room he
    rw[he] at hv
    obtain ⟨z,c,hz,_⟩:=VR_lst hv
    exact ⟨_,_,h,ub_VR,key' hz rfl⟩
  · rename_i k y ys room he
    rw[he] at hv
    obtain ⟨z,c,hz,h1,h2,h3,h4,_⟩:=VR_lst hv
    obtain ⟨b,off,rfl,_⟩:=h4 (by simp)
    exact ⟨_,_,h,sc_VR rfl,key' hz (by cases pos <;> rfl)⟩
  · rename_i he
    rw[he] at hv
    obtain ⟨b,c',cur,e,fr,h1,hz,_⟩:=VR_vec hv
    exact ⟨_,_,h,sc_VR rfl,key' hz (by cases pos <;> rfl)⟩
  · exact h.elim
theorem ps_un {o : Oper} {op : UnOp} {t : TypeId} {x : Operand} {x' : X} (ho : o.op = .unOp op t x) (hx : ofX x=some x') : PSound P o (.un op x'):=by
  intro φ O w ts a hr K h
  have hv:=ofX_spec hr hx
  simp only[PO.sem] at h
  cases he : X.ev ts x' <;> rw[he] at h hv <;> try exact False.elim h
  obtain ⟨r,h1,h2⟩:=h
  obtain ⟨h3,h4⟩:=unV_run h1 P w
  exact ⟨_,_,h2,sc_VR h4,by simp[execOp,ho,VR_sc hv,h3]⟩
theorem ps_conv {o : Oper} {s d : TypeId} {x : Operand} {x' : X} {k k' : IntKind} (ho : o.op = .convert s d x) (hs : P.underlying s=some (.int k')) (hd : P.underlying d=some (.int k)) (hx : ofX x=some x') : PSound P o (.conv k x'):=by
  intro φ O w ts a hr K h
  have hv:=ofX_spec hr hx
  simp only[PO.sem] at h
  cases he : X.ev ts x' <;> rw[he] at h hv <;> try exact False.elim h
  rename_i u
  cases u <;> try exact False.elim h
  exact ⟨_,_,h,sc_VR rfl,by simp[execOp,ho,VR_sc hv,convert,rn_under hs,rn_under hd,Conv.intToInt]⟩
theorem ps_convS {o : Oper} {s d : TypeId} {x : Operand} {x' : X} (ho : o.op = .convert s d x) (hs : P.underlying s=some .string) (hd : P.underlying d=some .string) (hx : ofX x=some x') : PSound P o (.slcS x' none none):=by
  intro φ O w ts a hr K h
  have hv:=ofX_spec hr hx
  simp only[PO.sem] at h
  cases he : X.ev ts x' <;> rw[he] at h hv <;> try exact False.elim h
  rename_i u
  cases u <;> try exact False.elim h
  rename_i s'
  refine ⟨_,_,h.2,sc_VR rfl,?_⟩
  have e : s'.extract 0 s'.size=s':=by
    have:=ByteArray.extract_zero_size (b:=s')
    exact this
  simp[execOp,ho,VR_sc hv,convert,rn_under hs,rn_under hd,e]
theorem byteV_some {x : AV} (h : (byteV x).isSome=true) : ∃ n,x = .sc (.int .u8 n):=by
  unfold byteV at h
  split at h
  · exact ⟨_,rfl⟩
  · simp at h
theorem bytes_load {φ : Phi} {O : Nat→Prop} {w : World} {b : Nat} : ∀ {xs : List AV} {off : Nat},bytesOk xs=true→Rl φ O w b 1 xs off →
    ∃ ns : List Int,ns.length=xs.length ∧ (∀ j n,ns[j]? = some n→w.cell? ⟨b,off+j,none⟩=some (.int .u8 n)) ∧ ns.map (fun n=>UInt8.ofNat n.toNat)=xs.map fun x=>(byteV x).getD 0
  | [],off,_,_=>⟨[],rfl,fun j n h=>by simp at h,rfl⟩
  | x :: r,off,ho,h=>by
    simp only[bytesOk,Bool.and_eq_true] at ho
    obtain ⟨ns,h1,h2,h3⟩:=bytes_load ho.2 h.2.2.2
    obtain ⟨n,rfl⟩:=byteV_some ho.1
    refine ⟨n :: ns,by simp[h1],fun j m hj=>?_,by simp[h3,byteV]⟩
    cases j with
    | zero =>
      simp at hj
      subst hj
      have:=h.2.2.1
      simp only[R,memAt] at this
      exact this
    | succ j =>
      have:=h2 j m (by simpa using hj)
      rw[show off+(j+1)=off+1+j from by omega]
      exact this
theorem foldl_push_bs : ∀ (ns : List Int) (s : ByteArray),ns.foldl (fun r n=>r.push (UInt8.ofNat n.toNat)) s=⟨s.data ++ (ns.map fun n=>UInt8.ofNat n.toNat).toArray⟩
  | [],s=>by simp
  | n :: r,s=>by
    rw[List.foldl_cons,foldl_push_bs r]
    simp[ByteArray.push]
theorem ps_convB {o : Oper} {s d e : TypeId} {x : Operand} {x' : X} (ho : o.op = .convert s d x) (hs : P.underlying s=some (.slice e)) (hd : P.underlying d=some .string) (he : P.underlying e=some (.int .u8)) (hx : ofX x=some x') : PSound P o (.convB x'):=by
  intro φ O w ts a hr K h
  have hv:=ofX_spec hr hx
  simp only[PO.sem] at h
  cases hxe : X.ev ts x' <;> rw[hxe] at h hv <;> try exact False.elim h
  rename_i k xs room
  obtain ⟨⟨rfl,hb⟩,hk⟩:=h
  obtain ⟨ad,c,h1,h2,h3,h4,h5,h6⟩:=VR_lst hv
  refine ⟨_,_,hk,sc_VR rfl,?_⟩
  have hrun : (convert s d (.slice ad xs.length c)).run P w = .ok (.string (bytesV xs)) w:=by
    rw[run_convert_bytes_string w s d e _ _ _ hs he hd]
    by_cases hp : 0 < xs.length
    · obtain ⟨b,off,rfl,g1,g2,g3⟩:=h5 hp
      obtain ⟨ns,n1,n2,n3⟩:=bytes_load hb g3
      have hld:=run_loadCells_list (P:=P) w ⟨b,off,none⟩ (ns.map (Value.int .u8)) (fun j v hv=>by
        rw[List.getElem?_map,Option.map_eq_some_iff] at hv
        obtain ⟨n,e1,rfl⟩:=hv
        rw[addr_add]
        exact n2 j n e1)
      rw[List.length_map,n1] at hld
      rw[run_bytesToString w _ _ _ ns hld,foldl_push_bs,n3]
      have e0 : ByteArray.empty.data=#[]:=rfl
      rw[e0]
      simp[bytesV]
    · have : xs=[]:=List.length_eq_zero_iff.1 (by omega)
      subst this
      cases ad with
      | none=>simp[Conv.bytesToString];rfl
      | some ad =>
        have hld:=run_loadCells_list (P:=P) w ad [] (fun j v hv=>by simp at hv)
        rw[show ([] : List AV).length=([] : List Value).length from rfl,run_bytesToString w _ _ _ [] hld]
        rfl
  simp[execOp,ho,h1,hrun]
theorem ps_nilck {o : Oper} {x : Operand} {x' : X} (ho : o.op = .nilCheck x) (hx : ofX x=some x') : PSound P o (.nilck x'):=by
  intro φ O w ts a hr K h
  have hv:=ofX_spec hr hx
  simp only[PO.sem] at h
  cases he : X.ev ts x' <;> rw[he] at h hv <;> try exact False.elim h
  · obtain ⟨b,h1,h2⟩:=VR_ptr hv
    refine ⟨_,_,h.2,hv,?_⟩
    rename_i k id j f
    cases k with
    | zero =>
      cases f with
      | zero=>have:=h.1;omega
      | succ f=>cases f <;> simp[execOp,ho,h2,ptrV]
    | succ k=>simp[execOp,ho,h2,ptrV]
  · obtain ⟨b,off,h1,h2⟩:=VR_lp hv
    exact ⟨_,_,h,hv,by simp[execOp,ho,h1]⟩
  · rename_i f _ _
    cases f <;> try exact False.elim h
    obtain ⟨us,ws,h1,h2⟩:=VR_fn hv
    exact ⟨_,_,h,hv,by simp[execOp,ho,h1]⟩
theorem ps_faddr {o : Oper} {s : TypeId} {x : Operand} {x' : X} {f : Nat} {fs : Array Field} {fd : Field} {i : TypeInfo} (ho : o.op = .fieldAddr s x f) (hs : P.underlying s=some (.struct fs)) (hf : fs[f]? = some fd) (hi : P.info? fd.type=some i) (hz : i.size ≠ 0) (hx : ofX x=some x') : PSound P o (.faddr fd.offset x'):=by
  intro φ O w ts a hr K h
  have hv:=ofX_spec hr hx
  simp only[PO.sem] at h
  cases he : X.ev ts x' <;> rw[he] at h hv <;> try exact False.elim h
  · obtain ⟨b,h1,h2⟩:=VR_ptr hv
    refine ⟨_,_,h.2,ptr_VR h1,?_⟩
    rw[ptrV_pos h.1] at h2 ⊢
    simp[execOp,ho,h2,Instr.fieldAt,rn_under hs,hf,Instr.sureAddr,fieldPlace,rn_size hi,hz,addr_add,Nat.add_assoc]
  · obtain ⟨b,off,h1,h2,h3,h3',h4⟩:=VR_lp hv
    refine ⟨_,_,h,lp_VR h2 h3 h3' h4 rfl,?_⟩
    simp[execOp,ho,h1,Instr.fieldAt,rn_under hs,hf,Instr.sureAddr,fieldPlace,rn_size hi,hz,addr_add,Nat.add_assoc]
theorem ps_field {o : Oper} {t : TypeId} {x : Operand} {x' : X} {f n : Nat} {ag : Bool} {fs : Array Field} {fd : Field} (ho : o.op = .field t x f) (hs : P.underlying t=some (.struct fs)) (hf : fs[f]? = some fd) (hi : sizeAgg P fd.type=some (n,ag)) (hx : ofX x=some x') : PSound P o (.field fd.offset n ag x'):=by
  intro φ O w ts a hr K h
  have hv:=ofX_spec hr hx
  simp only[PO.sem] at h
  cases he : X.ev ts x' <;> rw[he] at h hv <;> try exact False.elim h
  obtain ⟨us,h1,h2,h3⟩:=VR_aggI hv
  obtain ⟨u,h4,h5⟩:=part_run hi h3 h2 h.1
  exact ⟨_,_,h.2,h5,by simp[execOp,ho,h1,Instr.field,rn_under hs,hf,asAgg,h4]⟩
theorem ps_iaddr {o : Oper} {t e : TypeId} {x i : Operand} {x' i' : X} {inf : TypeInfo} (ho : o.op = .indexAddr t x i) (ht : P.underlying t=some (.slice e)) (hi : P.info? e=some inf) (hx : ofX x=some x') (hj : ofX i=some i') : PSound P o (.iaddr inf.size x' i'):=by
  intro φ O w ts a hr K h
  have hv:=ofX_spec hr hx
  have hw:=ofX_spec hr hj
  simp only[PO.sem] at h
  cases he : X.ev ts x' <;> cases hf : X.ev ts i' <;> rw[he,hf] at h <;> try exact False.elim h
  all_goals
    rename_i u
    rw[he] at hv
    rw[hf] at hw
    cases u <;> try exact False.elim h
    rename_i kk n
    obtain ⟨⟨h0,h1,hk⟩,h2⟩:=h
    have hi':=VR_sc hw
  · subst hk
    rename_i xs _
    obtain ⟨ad,c,h3,h4,h5,h6,h7,h8⟩:=VR_lst hv
    have hpos : 0 < xs.length:=by omega
    obtain ⟨b,off,rfl,h9,h10,h11⟩:=h7 hpos
    have hn : n.toNat < xs.length:=by omega
    have hg : xs[n.toNat]? = some (xs.getD n.toNat .top):=by simp[List.getD,hn]
    obtain ⟨a1,a2,a3⟩:=Rl_nth h11 hg
    refine ⟨_,_,h2,lp_VR h9 h10 a2 a3 rfl,?_⟩
    simp[execOp,ho,h3,hi',Instr.indexAt,asIntOf,rn_under ht,h0,h1,rn_size hi,addr_add]
  · obtain ⟨hk,hk0⟩:=hk
    subst hk
    obtain ⟨b,c',cur,e',fr,h3,h4,h5,_⟩:=VR_vec hv
    refine ⟨_,_,h2,ptr_VR h3,?_⟩
    rw[ptrV_pos hk0]
    simp[execOp,ho,h4,hi',Instr.indexAt,asIntOf,rn_under ht,h0,h1,rn_size hi,addr_add,Nat.add_mul]
theorem ps_iaddrA {o : Oper} {t e : TypeId} {x i : Operand} {x' i' : X} {ln : Nat} {inf : TypeInfo} (ho : o.op = .indexAddr t x i) (ht : P.underlying t=some (.array ln e)) (hi : P.info? e=some inf) (hx : ofX x=some x') (hj : ofX i=some i') : PSound P o (.iaddrA ln inf.size x' i'):=by
  intro φ O w ts a hr K h
  have hv:=ofX_spec hr hx
  have hw:=ofX_spec hr hj
  simp only[PO.sem] at h
  cases he : X.ev ts x' <;> cases hf : X.ev ts i' <;> rw[he,hf] at h <;> try exact False.elim h
  all_goals
    rename_i u
    rw[he] at hv
    rw[hf] at hw
    cases u <;> try exact False.elim h
    rename_i kk n
    obtain ⟨⟨h0,h1⟩,h2⟩:=h
    have hi':=VR_sc hw
  · obtain ⟨h1,hk0⟩:=h1
    obtain ⟨b,h3,h4⟩:=VR_ptr hv
    refine ⟨_,_,h2,ptr_VR h3,?_⟩
    rw[ptrV_pos hk0] at h4 ⊢
    simp[execOp,ho,h4,hi',Instr.indexAt,asIntOf,rn_under ht,h0,h1,rn_size hi,addr_add,Instr.sureAddr,Nat.add_assoc]
  · obtain ⟨b,off,h3,h4,h5,h5',h6⟩:=VR_lp hv
    refine ⟨_,_,h2,lp_VR h4 h5 h5' h6 rfl,?_⟩
    simp[execOp,ho,h3,hi',Instr.indexAt,asIntOf,rn_under ht,h0,h1,rn_size hi,addr_add,Instr.sureAddr,Nat.add_assoc]
theorem ps_idxS {o : Oper} {t : TypeId} {x i : Operand} {x' i' : X} (ho : o.op = .index t x i) (ht : P.underlying t=some .string) (hx : ofX x=some x') (hj : ofX i=some i') : PSound P o (.idxS x' i'):=by
  intro φ O w ts a hr K h
  have hv:=ofX_spec hr hx
  have hw:=ofX_spec hr hj
  simp only[PO.sem] at h
  split at h
  case h_2=>exact h.elim
  rename_i s kk n he hf
  rw[he] at hv
  rw[hf] at hw
  obtain ⟨⟨h0,h1⟩,h2⟩:=h
  refine ⟨_,_,h2,sc_VR rfl,?_⟩
  have hn : n.toNat < s.size:=by omega
  have hd : n.toNat < s.data.size:=hn
  have hs : s[n.toNat]? = some (s.data.getD n.toNat 0):=by
    rw[getElem?_pos s n.toNat hn]
    rw[Array.getD,dif_pos hd]
    rfl
  simp[execOp,ho,VR_sc hv,VR_sc hw,Instr.index,asIntOf,rn_under ht,h0,hs]
theorem ps_idxA {o : Oper} {t e : TypeId} {x i : Operand} {x' i' : X} {ln n : Nat} {ag : Bool} (ho : o.op = .index t x i) (ht : P.underlying t=some (.array ln e)) (hi : sizeAgg P e=some (n,ag)) (hx : ofX x=some x') (hj : ofX i=some i') : PSound P o (.idxA ln n ag x' i'):=by
  intro φ O w ts a hr K h
  have hv:=ofX_spec hr hx
  have hw:=ofX_spec hr hj
  simp only[PO.sem] at h
  cases he : X.ev ts x' <;> cases hf : X.ev ts i' <;> rw[he,hf] at h <;> try exact False.elim h
  rename_i v
  rw[he] at hv
  rw[hf] at hw
  cases v <;> try exact False.elim h
  rename_i kk m
  obtain ⟨⟨h0,h1⟩,h2,h3⟩:=h
  obtain ⟨us,h4,h5,h6⟩:=VR_aggI hv
  obtain ⟨u,h7,h8⟩:=part_run hi h6 h5 h2
  refine ⟨_,_,h3,h8,?_⟩
  have hsz : ∃ inf,P.info? e=some inf ∧ inf.size=n:=by
    unfold sizeAgg at hi
    split at hi
    · rename_i h9;cases hi;exact ⟨_,h9,rfl⟩
    · simp at hi
  obtain ⟨inf,hi1,rfl⟩:=hsz
  simp[execOp,ho,h4,VR_sc hw,Instr.index,asIntOf,rn_under ht,h0,h1,rn_size hi1,h7]
theorem ps_lenL {o : Oper} {t e : TypeId} {x : Operand} {x' : X} {args : Array Operand} {ats : Array TypeId} (ho : o.op = .call { callee:=.builtin .len,args,argTypes:=ats }) (ha : args.toList=[x]) (hat : ats.toList=[t]) (ht : P.underlying t=some (.slice e)) (hx : ofX x=some x') : PSound P o (.len x'):=by
  intro φ O w ts a hr K h
  obtain rfl : args=#[x]:=by apply Array.toList_inj.1;simpa using ha
  obtain rfl : ats=#[t]:=by apply Array.toList_inj.1;simpa using hat
  have hv:=ofX_spec hr hx
  simp only[PO.sem] at h
  cases he : X.ev ts x' <;> rw[he] at h hv <;> try exact False.elim h
  · rename_i v
    have h1:=VR_sc hv
    split at h
    · rename_i e0;cases e0
    · rename_i e0;cases e0
    · rename_i e0
      cases e0
      exact ⟨_,_,h,sc_VR rfl,by simp[execOp,ho,resolve,invoke,builtin,h1,Builtin.len_,rn_under ht,goInt]⟩
    · exact h.elim
  · obtain ⟨ad,c,h3,_⟩:=VR_lst hv
    exact ⟨_,_,h,sc_VR rfl,by simp[execOp,ho,resolve,invoke,builtin,h3,Builtin.len_,rn_under ht,goInt]⟩
  · obtain ⟨b,c',cur,e',fr,h3,h4,h5,_⟩:=VR_vec hv
    exact ⟨_,_,h,sc_VR rfl,by simp[execOp,ho,resolve,invoke,builtin,h4,Builtin.len_,rn_under ht,goInt]⟩
theorem ps_lenS {o : Oper} {t : TypeId} {x : Operand} {x' : X} {args : Array Operand} {ats : Array TypeId} (ho : o.op = .call { callee:=.builtin .len,args,argTypes:=ats }) (ha : args.toList=[x]) (hat : ats.toList=[t]) (ht : P.underlying t=some .string) (hx : ofX x=some x') : PSound P o (.lenS x'):=by
  intro φ O w ts a hr K h
  obtain rfl : args=#[x]:=by apply Array.toList_inj.1;simpa using ha
  obtain rfl : ats=#[t]:=by apply Array.toList_inj.1;simpa using hat
  have hv:=ofX_spec hr hx
  simp only[PO.sem] at h
  cases he : X.ev ts x' <;> rw[he] at h hv <;> try exact False.elim h
  rename_i u
  cases u <;> try exact False.elim h
  exact ⟨_,_,h,sc_VR rfl,by simp[execOp,ho,resolve,invoke,builtin,VR_sc hv,Builtin.len_,rn_under ht,goInt]⟩
theorem ps_lenA {o : Oper} {t e : TypeId} {x : Operand} {n : Nat} {args : Array Operand} {ats : Array TypeId} (ho : o.op = .call { callee:=.builtin .len,args,argTypes:=ats }) (ha : args.toList=[x]) (hat : ats.toList=[t]) (ht : P.underlying t=some (.array n e)) : PSound P o (.mv (.k (.sc (.int .i64 n)))):=by
  intro φ O w ts a hr K h
  obtain rfl : args=#[x]:=by apply Array.toList_inj.1;simpa using ha
  obtain rfl : ats=#[t]:=by apply Array.toList_inj.1;simpa using hat
  exact ⟨_,_,h,sc_VR rfl,by simp[execOp,ho,resolve,invoke,builtin,Builtin.len_,rn_under ht,goInt]⟩
theorem ps_mm {o : Oper} {x y : Operand} {x' y' : X} {mx : Bool} {args : Array Operand} {ats : Array TypeId} (ho : o.op = .call { callee:=.builtin (if mx then .max else .min),args,argTypes:=ats }) (ha : args.toList=[x,y]) (hx : ofX x=some x') (hy : ofX y=some y') : PSound P o (.mm mx x' y'):=by
  intro φ O w ts a hr K h
  obtain rfl : args=#[x,y]:=by apply Array.toList_inj.1;simpa using ha
  have hv:=ofX_spec hr hx
  have hw:=ofX_spec hr hy
  simp only[PO.sem] at h
  split at h
  case h_2=>exact h.elim
  rename_i kk a1 kk2 b1 he hf
  rw[he] at hv
  rw[hf] at hw
  refine ⟨_,_,h,sc_VR rfl,?_⟩
  cases mx <;> simp[execOp,ho,resolve,invoke,builtin,VR_sc hv,VR_sc hw,Builtin.max_,Builtin.min_,Builtin.max2,Builtin.min2]
theorem ps_ext {o : Oper} {x : Operand} {x' : X} {i : Nat} (ho : o.op = .extract x i) (hx : ofX x=some x') : PSound P o (.ext x' i):=by
  intro φ O w ts a hr K h
  have hv:=ofX_spec hr hx
  simp only[PO.sem] at h
  cases he : X.ev ts x' <;> rw[he] at h hv <;> try exact False.elim h
  rename_i vs
  obtain ⟨us,h1,h2⟩:=VR_tup hv
  obtain ⟨u,h3,h4⟩:=Rt_nth h2 (i:=i) (x:=vs.getD i .top) (by simp[List.getD,h.1])
  exact ⟨_,_,h.2,h4,by simp at h3;simp[execOp,ho,h1,Instr.extract,h3]⟩
theorem ps_mkfn {o : Oper} {f : Fn} {A B : Array Operand} {A' B' : List X} (ho : o.op = .makeFunc f A B) (hA : ofXs A=some A') (hB : ofXs B=some B') : PSound P o (.mkfn f A' B'):=by
  intro φ O w ts a hr K h
  refine ⟨_,.func f (A.map a.eval) (B.map a.eval),h,⟨rfl,_,_,rfl,?_,?_⟩,by simp[execOp,ho,Instr.makeFunc]⟩
  · have:=Rt_map hr hA
    simpa using this
  · have:=Rt_map hr hB
    simpa using this
theorem ps_mkif {o : Oper} {t : TypeId} {d : TypeDesc} {x : Operand} {x' : X} (ho : o.op = .makeInterface t x) (ht : P.underlying t=some d) (hd : ∀ ms,d ≠ .interface ms) (hx : ofX x=some x') : PSound P o (.mkif t x'):=by
  intro φ O w ts a hr K h
  have hv:=ofX_spec hr hx
  refine ⟨_,.iface t (a.eval x),h,⟨rfl,_,rfl,hv.1,hv.2⟩,?_⟩
  cases d <;> first | (exact absurd rfl (hd _)) | simp[execOp,ho,Instr.makeInterface,rn_under ht]
theorem ps_tass {o : Oper} {t xt : TypeId} {d : TypeDesc} {i : TypeInfo} {zv : Value} {z : AV} {x : Operand} {x' : X} (ho : o.op = .typeAssert x xt t true) (ht : P.underlying t=some d) (hd : ∀ ms,d ≠ .interface ms) (hi : P.info? t=some i) (hz : i.zero=some zv) (hz' : ofConst zv=some z) (hx : ofX x=some x') : PSound P o (.tass t z x'):=by
  intro φ O w ts a hr K h
  have hv:=ofX_spec hr hx
  have hzv : VR φ O w z zv:=ofConst_spec hz'
  simp only[PO.sem] at h
  cases he : X.ev ts x' <;> rw[he] at h hv <;> try exact False.elim h
  · rename_i u
    cases u <;> try exact False.elim h
    refine ⟨_,.tuple #[zv,.bool false],h,⟨⟨_,rfl⟩,_,rfl,_,_,rfl,hzv.1,hzv.2,_,_,rfl,rfl,rfl,rfl⟩,?_⟩
    cases d <;> first | (exact absurd rfl (hd _)) | simp[execOp,ho,Instr.typeAssert,rn_under ht,VR_sc hv,zeroValue,typeInfo,hi,hz]
  · rename_i u v
    obtain ⟨y,h1,h2⟩:=VR_ifc hv
    by_cases hu : u=t
    · subst hu
      refine ⟨_,.tuple #[y,.bool true],h.1 rfl,⟨⟨_,rfl⟩,_,rfl,_,_,rfl,h2.1,h2.2,_,_,rfl,rfl,rfl,rfl⟩,?_⟩
      cases d <;> first | (exact absurd rfl (hd _)) | simp[execOp,ho,Instr.typeAssert,rn_under ht,h1]
    · refine ⟨_,.tuple #[zv,.bool false],h.2 hu,⟨⟨_,rfl⟩,_,rfl,_,_,rfl,hzv.1,hzv.2,_,_,rfl,rfl,rfl,rfl⟩,?_⟩
      cases d <;> first | (exact absurd rfl (hd _)) | simp[execOp,ho,Instr.typeAssert,rn_under ht,h1,hu,zeroValue,typeInfo,hi,hz]
end
end Go.Proofs.YtdjnccnecgblmaaGreatDoor
namespace Go.Proofs.YtdjnccnecgblmaaGreatDoor
open Go.RowKit
set_option linter.unusedVariables false
set_option linter.unusedSimpArgs false
section
variable {P : Program} {φ : Phi} {O : Nat→Prop} {w : World}
theorem bnd_val {ts : List AV} {a : Act} (hr : FR φ O w ts a) {o : Option Operand} {x : Option X} (hx : ofXo o=some x) {d : Nat} {K : Nat→Prop} (h : bnd (X.ev ts) d x K) :
    ∃ n,K n ∧ ((o.map a.eval=none ∧ n=d) ∨ ∃ k m,o.map a.eval=some (.int k m) ∧ 0 ≤ m ∧ n=m.toNat) ∧ (x.isSome=(o.map a.eval).isSome):=by
  rcases bnd_run hr hx h with ⟨rfl,rfl,h1⟩ | ⟨p,k,n,rfl,h2,h3,h4,h5⟩
  · exact ⟨_,h1,.inl ⟨rfl,rfl⟩,rfl⟩
  · exact ⟨_,h5,.inr ⟨k,n,by simp[h3],h4,rfl⟩,by simp[h2]⟩
theorem lst_full {k : Nat} {xs ys : List AV} {v : Value} (h : VR φ O w (.lst k xs (some ys)) v) : ∃ a,v = .slice a xs.length (xs.length+ys.length) ∧ xs.length+ys.length ≤ maxLen ∧
    (0 < xs.length+ys.length→∃ b off,a=some ⟨b,off,none⟩ ∧ ¬ O b ∧ b < w.heap.size ∧ Rl φ O w b k (xs ++ ys) off):=by
  obtain ⟨a,c,rfl,h2,h3,h4,h5,h6,h7⟩:=VR_lst h
  subst h6
  refine ⟨a,rfl,h3,fun hp=>?_⟩
  by_cases hx : 0 < xs.length
  · obtain ⟨b,off,rfl,h8,h9,h10⟩:=h5 hx
    refine ⟨b,off,rfl,h8,h9,?_⟩
    by_cases hy : 0 < ys.length
    · obtain ⟨b',off',e,_,_,h11⟩:=h7 hy
      cases e
      exact Rl_append h10 h11
    · have : ys=[]:=List.length_eq_zero_iff.1 (by omega)
      subst this
      simpa using h10
  · have : xs=[]:=List.length_eq_zero_iff.1 (by omega)
    subst this
    obtain ⟨b,off,rfl,h8,h9,h11⟩:=h7 (by simpa using hp)
    exact ⟨b,off,rfl,h8,h9,by simpa using h11⟩
theorem mk_room {k : Nat} {zs : List AV} {a : Option Addr} {l h m : Nat} (hz : 0 < zs.length→∃ b off,a=some ⟨b,off,none⟩ ∧ ¬ O b ∧ b < w.heap.size ∧ Rl φ O w b k zs off)
    (h1 : l ≤ h) (h2 : h ≤ m) (h3 : m ≤ zs.length) (h4 : m ≤ maxLen) :
    VR φ O w (.lst k ((zs.take h).drop l) (some ((zs.take m).drop h))) (.slice (if m=l then a else a.map (·.add (l * k))) (h - l) (m - l)):=by
  have hlen : ((zs.take h).drop l).length=h - l:=by simp;omega
  have hlen2 : ((zs.take m).drop h).length=m - h:=by simp;omega
  have e1 : h - l ≤ m - l:=by omega
  have e2 : m - l ≤ maxLen:=by omega
  have e3 : m - l=(h - l)+(m - h):=by omega
  have e4 : l+(h - l)=h:=by omega
  refine ⟨rfl,(if m=l then a else a.map (·.add (l * k))),m - l,by rw[hlen];rfl,by rw[hlen];exact e1,e2,fun hn=>?_,fun hp=>?_,?_⟩
  · by_cases e : m=l
    · omega
    · have hq:=hz (by omega)
      obtain ⟨b,off,rfl,_⟩:=hq
      rw[if_neg e] at hn
      simp at hn
  · rw[hlen] at hp
    have hq:=hz (by omega)
    obtain ⟨b,off,rfl,h5,h6,h7⟩:=hq
    rw[if_neg (by omega)]
    exact ⟨b,off+l * k,by simp[addr_add],h5,h6,Rl_drop (Rl_take h7)⟩
  · refine ⟨by rw[hlen,hlen2];exact e3,fun hp=>?_⟩
    rw[hlen2] at hp
    have hq:=hz (by omega)
    obtain ⟨b,off,rfl,h5,h6,h7⟩:=hq
    rw[if_neg (by omega)]
    refine ⟨b,off+l * k,by simp[addr_add],h5,h6,?_⟩
    rw[hlen]
    have h8:=Rl_drop (f:=h) (Rl_take (n:=m) h7)
    rw[Nat.add_assoc,← Nat.add_mul,e4]
    exact h8
theorem mk_open {k : Nat} {xs : List AV} {a : Option Addr} {l h c : Nat} (hz : 0 < xs.length→∃ b off,a=some ⟨b,off,none⟩ ∧ ¬ O b ∧ b < w.heap.size ∧ Rl φ O w b k xs off)
    (h1 : l ≤ h) (h2 : h ≤ xs.length) (h3 : xs.length ≤ c) (h4 : c ≤ maxLen) (h5 : a=none→c=0) :
    VR φ O w (.lst k ((xs.take h).drop l) none) (.slice (if c=l then a else a.map (·.add (l * k))) (h - l) (c - l)):=by
  have hlen : ((xs.take h).drop l).length=h - l:=by simp;omega
  have e1 : h - l ≤ c - l:=by omega
  have e2 : c - l ≤ maxLen:=by omega
  refine ⟨rfl,(if c=l then a else a.map (·.add (l * k))),c - l,by rw[hlen];rfl,by rw[hlen];exact e1,e2,fun hn=>?_,fun hp=>?_,trivial⟩
  · by_cases e : c=l
    · omega
    · rw[if_neg e] at hn
      simp at hn
      have:=h5 hn
      omega
  · rw[hlen] at hp
    have hq:=hz (by omega)
    obtain ⟨b,off,rfl,h5,h6,h7⟩:=hq
    rw[if_neg (by omega)]
    exact ⟨b,off+l * k,by simp[addr_add],h5,h6,Rl_drop (Rl_take h7)⟩
theorem slice_run {t e : TypeId} {inf : TypeInfo} (ht : P.underlying t=some (.slice e)) (hi : P.info? e=some inf) {a : Option Addr} {n c l h m : Nat} {lo hi' mx : Option Value}
    (hm : (mx=none ∧ m=c) ∨ ∃ k n,mx=some (.int k n) ∧ 0 ≤ n ∧ m=n.toNat ∧ hi'.isSome) (hh : (hi'=none ∧ h=n) ∨ ∃ k n,hi'=some (.int k n) ∧ 0 ≤ n ∧ h=n.toNat)
    (hl : (lo=none ∧ l=0) ∨ ∃ k n,lo=some (.int k n) ∧ 0 ≤ n ∧ l=n.toNat) (h1 : l ≤ h) (h2 : h ≤ m) (h3 : m ≤ c) :
    (Instr.sliceAt t (.slice a n c) lo hi' mx).run P w = .ok (.slice (if m=l then a else a.map (·.add (l * inf.size))) (h - l) (m - l)) w:=by
  simp only[Instr.sliceAt,Instr.slice,Sem.run_bind,rn_under ht,Result.andThen_ok,bounds_run hm hh hl h1 h2 h3,rn_size hi,Sem.run_pure]
theorem ps_slc {o : Oper} {t e : TypeId} {inf : TypeInfo} {x : Operand} {x' : X} {lo hi mx : Option Operand} {lo' hi' mx' : Option X} (ho : o.op = .slice t x lo hi mx) (ht : P.underlying t=some (.slice e)) (hi0 : P.info? e=some inf)
    (hx : ofX x=some x') (hlo : ofXo lo=some lo') (hhi : ofXo hi=some hi') (hmx : ofXo mx=some mx') : PSound P o (.slc inf.size x' lo' hi' mx'):=by
  intro φ O w ts a hr K h
  have hv:=ofX_spec hr hx
  have hex : ∀ {V : Value} {r : Value},a.eval x=V→(Instr.sliceAt t V (lo.map a.eval) (hi.map a.eval) (mx.map a.eval)).run P w = .ok r w→(execOp a.eval o).run P w = .ok (.value r) w:=by
    intro V r h1 h2
    simp only[execOp,ho,Sem.run_bind,h1,h2,Result.andThen_ok,Sem.run_pure]
  simp only[PO.sem] at h
  cases he : X.ev ts x' <;> rw[he] at h hv <;> try exact False.elim h
  · rename_i k xs room
    obtain ⟨hk,h⟩:=h
    have hkz : ∀ {zs : List AV},k=inf.size ∨ zs.length=0→∀ {b off : Nat},Rl φ O w b k zs off→Rl φ O w b inf.size zs off:=by
      intro zs hz b off hl
      rcases hz with rfl | hz
      · exact hl
      · have : zs=[]:=List.length_eq_zero_iff.1 hz
        subst this
        trivial
    cases mx' with
    | some m =>
      have hmx2 : ∃ p,mx=some p:=by
        cases mx with
        | none=>simp[ofXo] at hmx
        | some p=>exact ⟨p,rfl⟩
      obtain ⟨nm,h1,h2,_⟩:=bnd_val hr hmx h
      obtain ⟨nh,h3,h4,h4'⟩:=bnd_val hr hhi h1
      obtain ⟨nl,h5,h6,_⟩:=bnd_val hr hlo h3
      obtain ⟨⟨g0,g1,g2,g3⟩,h8⟩:=h5
      have h4 : (hi.map a.eval=none ∧ nh=xs.length) ∨ ∃ k m,hi.map a.eval=some (.int k m) ∧ 0 ≤ m ∧ nh=m.toNat:=by
        rcases h4 with ⟨e,_⟩ | e
        · rw[g0,e] at h4'
          simp at h4'
        · exact .inr e
      obtain ⟨ad,c,hva,c1,c2,c3,c4,_⟩:=VR_lst hv
      obtain ⟨p,rfl⟩:=hmx2
      refine ⟨_,_,h8,mk_room (k:=inf.size) (a:=ad) (zs:=xs) (l:=nl) (h:=nh) (m:=nm) (fun hp=>?_) g1 g2 g3 (by omega),hex hva (slice_run ht hi0 ?_ h4 h6 g1 g2 (by omega))⟩
      · obtain ⟨b,off,e1,e2,e3,e4⟩:=c4 hp
        exact ⟨b,off,e1,e2,e3,hkz (hk.imp id fun e=>by rw[e.1];rfl) e4⟩
      · rcases h2 with ⟨e1,_⟩ | ⟨kk,mm,e1,e2,e3⟩
        · simp at e1
        · refine .inr ⟨kk,mm,e1,e2,e3,?_⟩
          rw[← h4']
          exact g0
    | none =>
      have hmn : mx=none:=by
        cases mx with
        | none=>rfl
        | some p=>simp[ofXo] at hmx
      subst hmn
      cases room with
      | none =>
        obtain ⟨nh,h3,h4,_⟩:=bnd_val hr hhi h
        obtain ⟨nl,h5,h6,_⟩:=bnd_val hr hlo h3
        obtain ⟨⟨g1,g2⟩,h8⟩:=h5
        obtain ⟨ad,c,hva,c1,c2,c3,c4,_⟩:=VR_lst hv
        refine ⟨_,_,h8,mk_open (k:=inf.size) (a:=ad) (xs:=xs) (c:=c) (fun hp=>?_) g1 g2 c1 c2 c3,hex hva (slice_run ht hi0 (.inl ⟨rfl,rfl⟩) h4 h6 g1 (by omega) (Nat.le_refl _))⟩
        obtain ⟨b,off,e1,e2,e3,e4⟩:=c4 hp
        exact ⟨b,off,e1,e2,e3,hkz (hk.imp id fun e=>by rw[e.1];rfl) e4⟩
      | some ys =>
        obtain ⟨nh,h3,h4,_⟩:=bnd_val hr hhi h
        obtain ⟨nl,h5,h6,_⟩:=bnd_val hr hlo h3
        obtain ⟨⟨g1,g2⟩,h8⟩:=h5
        obtain ⟨ad,hva,c2,c4⟩:=lst_full hv
        have hk2 : k=inf.size ∨ (xs ++ ys).length=0:=hk.imp id fun e=>by rw[e.1];have:=e.2;cases this;rfl
        refine ⟨_,_,h8,?_,hex hva (slice_run ht hi0 (.inl ⟨rfl,rfl⟩) h4 h6 g1 g2 (Nat.le_refl _))⟩
        have:=mk_room (φ:=φ) (O:=O) (w:=w) (k:=inf.size) (a:=ad) (zs:=xs ++ ys) (l:=nl) (h:=nh) (m:=xs.length+ys.length) (fun hp=>by
          obtain ⟨b,off,e1,e2,e3,e4⟩:=c4 (by simpa using hp)
          exact ⟨b,off,e1,e2,e3,hkz hk2 e4⟩) g1 g2 (by simp) (by omega)
        rw[show (xs ++ ys).take (xs.length+ys.length)=xs ++ ys from List.take_of_length_le (by simp)] at this
        exact this
  · rename_i k id off n c
    obtain ⟨rfl,hm,h⟩:=h
    have hmn : mx=none:=by
      cases mx with
      | none=>rfl
      | some p =>
        simp[ofXo] at hmx
        obtain ⟨q,_,rfl⟩:=hmx
        simp at hm
    subst hmn
    obtain ⟨nh,h3,h4,_⟩:=bnd_val hr hhi h
    obtain ⟨nl,h5,h6,_⟩:=bnd_val hr hlo h3
    obtain ⟨⟨g1,g2⟩,h8⟩:=h5
    obtain ⟨b,c',cur,e',fr,v1,v2,v3,v4,v5,v6,v7⟩:=VR_vec hv
    have hcap : nh ≤ c':=by
      cases c with
      | none=>simp at g2;omega
      | some m=>have:=v5 m rfl;simp at g2;omega
    have hrun:=hex v2 (slice_run ht hi0 (lo:=lo.map a.eval) (hi':=hi.map a.eval) (mx:=none) (.inl ⟨rfl,rfl⟩) h4 h6 g1 hcap (Nat.le_refl _))
    have hvec : nl < c'→VR φ O w (.vec inf.size id (off+nl) (nh - nl) (c.map (· - nl))) (.slice (if c'=nl then some ⟨b,off * inf.size,none⟩ else (some (⟨b,off * inf.size,none⟩ : Addr)).map (·.add (nl * inf.size))) (nh - nl) (c' - nl)):=by
      intro hlt
      rw[if_neg (by omega)]
      refine ⟨rfl,b,c' - nl,cur,e',fr,v1,?_,by omega,by omega,?_,v6,?_⟩
      · simp[cget,Value.cells,addr_add,Nat.add_mul]
      · intro m hm
        cases c with
        | none=>simp at hm
        | some mm=>simp at hm;have:=v5 mm rfl;omega
      · rw[v7];congr 1;omega
    have hnil : nl=nh→VR φ O w (.lst inf.size [] none) (.slice (if c'=nl then some ⟨b,off * inf.size,none⟩ else (some (⟨b,off * inf.size,none⟩ : Addr)).map (·.add (nl * inf.size))) (nh - nl) (c' - nl)):=by
      intro hlt
      have hz : nh - nl=0:=by omega
      rw[hz]
      refine ⟨rfl,_,c' - nl,rfl,Nat.zero_le _,by omega,fun hn=>?_,fun hp=>by simp at hp,trivial⟩
      split at hn <;> simp at hn
    cases c with
    | none =>
      by_cases hlt : nl < nh
      · exact ⟨_,_,h8.1 hlt,hvec (by omega),hrun⟩
      · exact ⟨_,_,h8.2 (by omega),hnil (by omega),hrun⟩
    | some m =>
      have hm:=v5 m rfl
      simp at g2
      by_cases hlt : nl < m
      · exact ⟨_,_,h8.1 hlt,hvec (by omega),hrun⟩
      · exact ⟨_,_,h8.2 (by omega),hnil (by omega),hrun⟩
theorem ps_slcS {o : Oper} {t : TypeId} {x : Operand} {x' : X} {lo hi : Option Operand} {lo' hi' : Option X} (ho : o.op = .slice t x lo hi none) (ht : P.underlying t=some .string)
    (hx : ofX x=some x') (hlo : ofXo lo=some lo') (hhi : ofXo hi=some hi') : PSound P o (.slcS x' lo' hi'):=by
  intro φ O w ts a hr K h
  have hv:=ofX_spec hr hx
  simp only[PO.sem] at h
  cases he : X.ev ts x' <;> rw[he] at h hv <;> try exact False.elim h
  rename_i u
  cases u <;> try exact False.elim h
  rename_i s
  obtain ⟨nh,h3,h4,_⟩:=bnd_val hr hhi h
  obtain ⟨nl,h5,h6,_⟩:=bnd_val hr hlo h3
  obtain ⟨⟨g1,g2⟩,h8⟩:=h5
  refine ⟨_,_,h8,sc_VR rfl,?_⟩
  have hb:=bounds_run (P:=P) (w:=w) (sl:=false) (len:=s.size) (cap:=s.size) (mx:=none) (.inl ⟨rfl,rfl⟩) h4 h6 g1 g2 (Nat.le_refl _)
  simp only[execOp,ho,VR_sc hv,Instr.sliceAt,Instr.slice,Sem.run_bind,rn_under ht,Result.andThen_ok,Option.map_none,hb,Option.isSome_none,Bool.false_eq_true,if_false,Sem.run_pure]
end
end Go.Proofs.YtdjnccnecgblmaaGreatDoor
namespace Go.Proofs.YtdjnccnecgblmaaGreatDoor
open Go.RowKit
set_option linter.unusedVariables false
set_option linter.unusedSimpArgs false
section
variable {P : Program} {φ : Phi} {O : Nat→Prop} {w : World}
theorem foldl_set (off : Nat) : ∀ (l : List Value) (i : Nat) (cs : Array Value),
    ((l.zipIdx i).foldl (fun cs (c,j)=>cs.setIfInBounds (off+j) c) cs).size=cs.size ∧
    ∀ k,k < cs.size→((l.zipIdx i).foldl (fun cs (c,j)=>cs.setIfInBounds (off+j) c) cs)[k]? = if off+i ≤ k ∧ k < off+i+l.length then l[k - (off+i)]? else cs[k]?
  | [],i,cs=>⟨rfl,fun k hk=>by
      have : ¬ (off+i ≤ k ∧ k < off+i+([] : List Value).length):=by rw[List.length_nil];omega
      rw[if_neg this];rfl⟩
  | v :: r,i,cs=>by
    obtain ⟨h1,h2⟩:=foldl_set off r (i+1) (cs.setIfInBounds (off+i) v)
    simp only[List.zipIdx_cons,List.foldl_cons]
    refine ⟨by rw[h1];simp,fun k hk=>?_⟩
    rw[h2 k (by simpa using hk)]
    by_cases e : off+i=k
    · subst e
      have c1 : ¬ (off+(i+1) ≤ off+i ∧ off+i < off+(i+1)+r.length):=by omega
      have c2 : off+i ≤ off+i ∧ off+i < off+i+(v :: r).length:=by simp
      rw[if_neg c1,if_pos c2]
      simp[hk]
    · by_cases c1 : off+(i+1) ≤ k ∧ k < off+(i+1)+r.length
      · have c2 : off+i ≤ k ∧ k < off+i+(v :: r).length:=by simp;omega
        rw[if_pos c1,if_pos c2,show k - (off+i)=(k - (off+(i+1)))+1 from by omega]
        simp
      · have c2 : ¬ (off+i ≤ k ∧ k < off+i+(v :: r).length):=by simp;omega
        rw[if_neg c1,if_neg c2,Array.getElem?_setIfInBounds_ne e]
theorem cells_size {x : AV} {v : Value} (h : VR φ O w x v) (ht : x.isTop=false) : v.cells.size=x.ncells:=by
  have h1:=h.1
  cases x <;> first
    | (simp[AV.isTop] at ht;done)
    | (obtain ⟨us,rfl,hs⟩:=h1;exact hs)
    | (cases v <;> first | rfl | (simp[okA,Value.oneCell'] at h1))
theorem fill_run {ts : List AV} {a : Act} (hr : FR φ O w ts a) {pl : Nat→Option (Nat × Nat)} {K : List AV→Prop} : ∀ {l : List (Nat × Operand)} {ps : List (Nat × Nat × X)},partsOf pl l=some ps→∀ {zs : List AV} {cells : Array Value},
    Rs φ O w zs (fun i=>cells[i]?)→cells.size=zs.length→fillA (X.ev ts) zs ps K →
    ∃ cs cells',K cs ∧ Instr.fill pl cells (l.map fun (i,x)=>(i,a.eval x))=some cells' ∧ cells'.size=cs.length ∧ Rs φ O w cs (fun i=>cells'[i]?)
  | [],ps,h,zs,cells,hz,hs,hf=>by
    simp[partsOf] at h
    subst h
    exact ⟨zs,cells,hf,rfl,hs,hz⟩
  | (i,o) :: r,ps,h,zs,cells,hz,hs,hf=>by
    unfold partsOf at h
    split at h
    case h_2=>simp at h
    rename_i off n x s h1 h2 h3
    cases h
    obtain ⟨⟨g1,g2,g3⟩,hf⟩:=hf
    have hv:=ofX_spec hr h2
    have hsz:=cells_size hv g1
    have hcs:=VR_Rs hv g1
    rw[g2] at hsz
    have hln : (X.ev ts x).cells.length=n:=by rw[← AV.ncells_eq,g2]
    obtain ⟨k1,k2⟩:=foldl_set off (a.eval o).cells.toList 0 cells
    have hfold : (a.eval o).cells.zipIdx.foldl (fun cs (c,j)=>cs.setIfInBounds (off+j) c) cells=((a.eval o).cells.toList.zipIdx 0).foldl (fun cs (c,j)=>cs.setIfInBounds (off+j) c) cells:=by
      rw[← Array.foldl_toList,Array.toList_zipIdx]
    have hnew : Rs φ O w (zs.take off ++ (X.ev ts x).cells ++ zs.drop (off+n)) (fun i=>((a.eval o).cells.zipIdx.foldl (fun cs (c,j)=>cs.setIfInBounds (off+j) c) cells)[i]?):=by
      rw[hfold]
      refine Rs_append (Rs_append (Rs_congr (fun j hj=>?_) (Rs_take (n:=off) hz)) (Rs_congr (fun j hj=>?_) hcs)) (Rs_congr (fun j hj=>?_) (Rs_drop (f:=off+n) hz))
      · have hj' : j < off:=by simp at hj;omega
        rw[k2 j (by omega),if_neg (by omega)]
      · have hl : (zs.take off).length=off:=by simp;omega
        rw[hl]
        have hj' : j < n:=by omega
        have hjs : j < (a.eval o).cells.size:=by omega
        rw[k2 (off+j) (by omega),if_pos (by simp;omega)]
        simp[cget]
      · have hl : (zs.take off ++ (X.ev ts x).cells).length=off+n:=by simp[hln];omega
        rw[hl]
        have hj' : j < zs.length - (off+n):=by simpa using hj
        rw[k2 (off+n+j) (by omega),if_neg (by simp;omega)]
    have hsize : ((a.eval o).cells.zipIdx.foldl (fun cs (c,j)=>cs.setIfInBounds (off+j) c) cells).size=(zs.take off ++ (X.ev ts x).cells ++ zs.drop (off+n)).length:=by
      rw[hfold,k1]
      simp[hln]
      omega
    obtain ⟨cs,cells',e1,e2,e3,e4⟩:=fill_run hr h3 hnew hsize hf
    refine ⟨cs,cells',e1,?_,e3,e4⟩
    simp only[List.map_cons,Instr.fill,h1]
    rw[if_neg (by simp[hsz];omega)]
    exact e2
theorem ps_build {o : Oper} {t : TypeId} {parts : Array (Nat × Operand)} {pl : Nat→Option (Nat × Nat)} {zs : Array Value} {cs : List AV} {ps : List (Nat × Nat × X)} (ho : o.op = .build t parts)
    (hz : ofCells zs.toList=some cs) (hps : partsOf pl parts.toList=some ps) (hb : ∀ l cells,Instr.fill pl zs l=some cells→P.built t l=some cells) : PSound P o (.build cs ps):=by
  intro φ O w ts a hr K h
  obtain ⟨h1,h2⟩:=ofCells_spec (φ:=φ) (O:=O) (w:=w) hz
  obtain ⟨cs',cells',e1,e2,e3,e4⟩:=fill_run hr hps (zs:=cs) (cells:=zs) (h2 _ fun i=>by simp) (by simp[h1]) h
  refine ⟨_,_,e1,VR_agg e4 e3,?_⟩
  have hbt:=hb _ _ e2
  have hrun:=run_build (P:=P) w t (parts.map fun (i,x)=>(i,a.eval x)) cells' (by simpa using hbt)
  simp only[execOp,ho,Sem.run_bind,hrun,Result.andThen_ok,Sem.run_pure]
end
theorem compP_sound {P : Program} {o : Oper} {op : PO} (h : compP P o=some op) : PSound P o op:=by
  unfold compP at h
  split at h
  · rename_i x ho
    simp at h;obtain ⟨x',h1,rfl⟩:=h
    exact ps_mv (.inl ho) h1
  · rename_i x ho
    simp at h;obtain ⟨x',h1,rfl⟩:=h
    exact ps_mv (.inr ho) h1
  · rename_i c a b ho
    split at h <;> cases h
    exact ps_pick ho (by assumption) (by assumption) (by assumption)
  · rename_i op' t x y ty ho
    unfold compBin at h
    split at h
    case h_2=>simp at h
    rename_i x' y' hx hy
    have hs : ∀ q,some q=some op→(q = .bin op' x' y' ∨ q = .shf op' x' y')→PSound P o op:=by
      intro q hq h2
      cases hq
      rcases h2 with rfl | rfl
      · exact ps_bin ho hx hy
      · exact ps_shf ho hx hy
    split at h
    · exact hs _ h (.inr rfl)
    · exact hs _ h (.inr rfl)
    · split at h
      · rename_i ht
        split at h
        · cases h;exact ps_eqB ho ht rfl hx hy
        · cases h;exact ps_eqB ho ht rfl hx hy
        · simp at h
      · rename_i ms ht
        split at h
        · cases h;exact ps_eqN ho ht rfl hx
        · cases h;exact ps_eqN ho ht rfl hx
        · simp at h
      · rename_i e ht
        split at h
        · cases h;exact ps_nilS ho ht rfl hx
        · cases h;exact ps_nilS ho ht rfl hx
        · simp at h
      · exact hs _ h (.inl rfl)
      · exact hs _ h (.inl rfl)
      · simp at h
  · rename_i op' t x ho
    simp at h;obtain ⟨x',h1,rfl⟩:=h
    exact ps_un ho h1
  · rename_i s d x ho
    split at h
    · cases h;exact ps_conv ho (by assumption) (by assumption) (by assumption)
    · cases h;exact ps_convS ho (by assumption) (by assumption) (by assumption)
    · split at h
      · cases h
        exact ps_convB ho (by assumption) (by assumption) (isU8_spec (by assumption)) (by assumption)
      · simp at h
    · simp at h
  · rename_i x ho
    simp at h;obtain ⟨x',h1,rfl⟩:=h
    exact ps_nilck ho h1
  · rename_i s x f ho
    split at h
    case h_2=>simp at h
    rename_i fs x' h1 h2
    split at h
    case h_2=>simp at h
    rename_i fd h3
    split at h
    case h_2=>simp at h
    rename_i i h4
    split at h
    · simp at h
    · rename_i h5
      cases h
      exact ps_faddr ho h1 h3 h4 h5 h2
  · rename_i t x f ho
    split at h
    case h_2=>simp at h
    rename_i fs x' h1 h2
    split at h
    case h_2=>simp at h
    rename_i fd h3
    split at h
    case h_2=>simp at h
    rename_i n ag h4
    cases h
    exact ps_field ho h1 h3 h4 h2
  · rename_i t x i ho
    split at h
    · simp at h;obtain ⟨inf,h1,rfl⟩:=h
      exact ps_iaddr ho (by assumption) h1 (by assumption) (by assumption)
    · simp at h;obtain ⟨inf,h1,rfl⟩:=h
      exact ps_iaddrA ho (by assumption) h1 (by assumption) (by assumption)
    · simp at h
  · rename_i t x i ho
    split at h
    · cases h
      exact ps_idxS ho (by assumption) (by assumption) (by assumption)
    · rw[Option.map_eq_some_iff] at h
      obtain ⟨⟨n,ag⟩,h1,rfl⟩:=h
      exact ps_idxA ho (by assumption) h1 (by assumption) (by assumption)
    · simp at h
  · rename_i t x lo hi mx ho
    split at h
    · simp at h;obtain ⟨inf,h1,rfl⟩:=h
      exact ps_slc ho (by assumption) h1 (by assumption) (by assumption) (by assumption) (by assumption)
    · rename_i hmx
      cases h
      have : mx=none:=by
        cases mx with
        | none=>rfl
        | some p=>simp[ofXo] at hmx
      subst this
      exact ps_slcS ho (by assumption) (by assumption) (by assumption) (by assumption)
    · simp at h
  · rename_i x i ho
    simp at h;obtain ⟨x',h1,rfl⟩:=h
    exact ps_ext ho h1
  · rename_i f a b ho
    split at h <;> cases h
    exact ps_mkfn ho (by assumption) (by assumption)
  · rename_i t x ho
    split at h
    · simp at h
    · rename_i hd h1 h2
      cases h
      exact ps_mkif ho h1 (fun ms e=>hd ms e) h2
    · simp at h
  · rename_i x xt t ho
    split at h
    · simp at h
    · rename_i hd h1 h2 h3
      rw[Option.map_eq_some_iff] at h
      obtain ⟨z,hz,rfl⟩:=h
      rw[Option.bind_eq_some_iff] at hz
      obtain ⟨zv,h4,h5⟩:=hz
      exact ps_tass ho h1 (fun ms e=>hd ms e) h2 h4 h5 h3
    · simp at h
  · rename_i t parts ho
    split at h
    · rename_i fs zs h1 h2
      split at h
      case h_2=>simp at h
      rename_i pl cs h3 h4
      simp at h
      obtain ⟨ps,h5,rfl⟩:=h
      simp[Option.bind_eq_some_iff] at h2
      obtain ⟨it,h6,h7⟩:=h2
      refine ps_build ho h4 h5 fun l cells hl=>?_
      unfold Program.built
      rw[h6,h1]
      simp only[h7]
      unfold placesOf at h3
      rw[h3]
      simpa [Value.cells] using hl
    · rename_i n e zs h1 h2
      split at h
      case h_2=>simp at h
      rename_i inf cs h3 h4
      simp at h
      obtain ⟨ps,h5,rfl⟩:=h
      simp[Option.bind_eq_some_iff] at h2
      obtain ⟨it,h6,h7⟩:=h2
      refine ps_build ho h4 h5 fun l cells hl=>?_
      unfold Program.built
      rw[h6,h1]
      simp only[h7,h3]
      simpa [Value.cells] using hl
    · simp at h
  · rename_i args ats ho
    split at h
    case h_2=>simp at h
    rename_i x t ha hat
    split at h
    · cases h;exact ps_lenL ho ha hat (by assumption) (by assumption)
    · cases h;exact ps_lenS ho ha hat (by assumption) (by assumption)
    · cases h;exact ps_lenA ho ha hat (by assumption)
    · simp at h
  · rename_i args ats ho
    split at h
    case h_2=>simp at h
    split at h <;> cases h
    exact ps_mm (mx:=false) ho (by assumption) (by assumption) (by assumption)
  · rename_i args ats ho
    split at h
    case h_2=>simp at h
    split at h <;> cases h
    exact ps_mm (mx:=true) ho (by assumption) (by assumption) (by assumption)
  · simp at h
end Go.Proofs.YtdjnccnecgblmaaGreatDoor
namespace Go.Proofs.YtdjnccnecgblmaaGreatDoor
open Go.RowKit
set_option linter.unusedVariables false
set_option linter.unusedSimpArgs false
section
variable {P : Program} {φ : Phi} {O : Nat→Prop} {w : World}
def flat (es : List AV) : List AV:=es.flatMap AV.cells
theorem flat_cons (x : AV) (r : List AV) : flat (x :: r)=x.cells ++ flat r:=by simp[flat]
theorem flat_append (a b : List AV) : flat (a ++ b)=flat a ++ flat b:=by simp[flat]
theorem flat_length {k : Nat} : ∀ {es : List AV},(∀ x ∈ es,x.ncells=k)→(flat es).length=es.length * k
  | [],_=>by simp[flat]
  | x :: r,h=>by
    rw[flat_cons,List.length_append,← AV.ncells_eq,h x (by simp),flat_length (fun y hy=>h y (by simp[hy])),List.length_cons,Nat.add_mul]
    omega
theorem memAt_add (w : World) (b off : Nat) : (fun j=>memAt w b 0 (off+j))=memAt w b off:=by
  funext j;simp[memAt]
theorem memAt_add' (w : World) (b off k : Nat) : (fun j=>memAt w b off (k+j))=memAt w b (off+k):=by
  funext j;simp[memAt,Nat.add_assoc]
theorem Rl_flat {b k : Nat} : ∀ {es : List AV} {off : Nat},Rl φ O w b k es off→(∀ x ∈ es,x.ncells=k) ∧ Rs φ O w (flat es) (memAt w b off)
  | [],off,_=>⟨by simp,trivial⟩
  | x :: r,off,h=>by
    obtain ⟨h1,h2⟩:=Rl_flat h.2.2.2
    refine ⟨fun y hy=>?_,?_⟩
    · rcases List.mem_cons.1 hy with rfl | hy
      · exact h.1
      · exact h1 y hy
    · rw[flat_cons]
      refine Rs_append (R_Rs h.2.2.1 h.2.1) ?_
      rw[← AV.ncells_eq,h.1,memAt_add']
      exact h2
theorem Rs_head {x : AV} {r : List AV} {g : Nat→Option Value} (h : Rs φ O w (x.cells ++ r) g) : R φ O w x g ∧ (x.isAgg=false→∃ u,g 0=some u ∧ u.oneCell'=true):=by
  have h1:=Rs_take (n:=x.cells.length) h
  rw[List.take_left] at h1
  cases x <;> first
    | exact ⟨h1,fun h=>by simp[AV.isAgg] at h⟩
    | exact ⟨h1.2.1,fun _=>h1.2.2.1⟩
theorem flat_Rl {b k : Nat} : ∀ {es : List AV} {off : Nat},(∀ x ∈ es,x.ncells=k)→Rs φ O w (flat es) (memAt w b off)→Rl φ O w b k es off
  | [],off,_,_=>trivial
  | x :: r,off,hk,h=>by
    rw[flat_cons] at h
    obtain ⟨h1,h2⟩:=Rs_head h
    refine ⟨hk x (by simp),h2,h1,flat_Rl (fun y hy=>hk y (by simp[hy])) ?_⟩
    have h3:=Rs_drop (f:=x.cells.length) h
    rw[List.drop_left,← AV.ncells_eq,hk x (by simp),memAt_add'] at h3
    exact h3
theorem flat_take {k : Nat} {es : List AV} (hk : ∀ x ∈ es,x.ncells=k) : ∀ j,flat (es.take j)=(flat es).take (j * k):=by
  induction es with
  | nil=>intro j;simp[flat]
  | cons x r ih =>
    intro j
    cases j with
    | zero=>simp[flat]
    | succ j =>
      have hx : x.cells.length=k:=by rw[← AV.ncells_eq];exact hk x (by simp)
      rw[List.take_succ_cons,flat_cons,flat_cons,ih (fun y hy=>hk y (by simp[hy])),Nat.add_mul,Nat.one_mul,List.take_append,hx]
      rw[List.take_of_length_le (l:=x.cells) (by omega)]
      congr 2
      omega
theorem flat_drop {k : Nat} {es : List AV} (hk : ∀ x ∈ es,x.ncells=k) : ∀ j,flat (es.drop j)=(flat es).drop (j * k):=by
  induction es with
  | nil=>intro j;simp[flat]
  | cons x r ih =>
    intro j
    cases j with
    | zero=>simp[flat]
    | succ j =>
      have hx : x.cells.length=k:=by rw[← AV.ncells_eq];exact hk x (by simp)
      rw[List.drop_succ_cons,flat_cons,ih (fun y hy=>hk y (by simp[hy])),Nat.add_mul,Nat.one_mul,List.drop_append,hx]
      rw[List.drop_of_length_le (l:=x.cells) (by omega),List.nil_append]
      congr 1
      omega
theorem load_run {t : TypeId} {n : Nat} {ag : Bool} (hs : sizeAgg P t=some (n,ag)) {x : AV} {b off f : Nat} (h : Rs φ O w x.cells (memAt w b off)) (hok : AV.subOk x f n ag) :
    ∃ u,(loadVar t ⟨b,off+f,none⟩).run P w = .ok u w ∧ VR φ O w (AV.sub x f n ag) u:=by
  unfold sizeAgg at hs
  split at hs
  case h_2=>simp at hs
  rename_i d i h1 h2
  cases hs
  unfold loadVar
  simp only[Sem.run_bind,rn_isAgg h1,Result.andThen_ok]
  cases hd : isAggT d with
  | true =>
    simp only[AV.subOk,hd,if_true] at hok
    simp only[if_true,Sem.run_bind,rn_size h2,Result.andThen_ok,Sem.run_pure,AV.sub,hd]
    have h3:=Rs_take (n:=i.size) (Rs_drop (f:=f) h)
    rw[memAt_add'] at h3
    obtain ⟨us,h4,h5,h6⟩:=Rs_cells h3
    have hl : ((x.cells.drop f).take i.size).length=i.size:=by simp;omega
    rw[hl] at h4 h5
    have hld:=run_loadCells_list (P:=P) w ⟨b,off+f,none⟩ us (fun j v hv=>by
      have hj : j < us.length:=(List.getElem?_eq_some_iff.1 hv).1
      rw[addr_add]
      have:=h5 j (by omega)
      rw[hv] at this
      exact this)
    rw[h4] at hld
    rw[hld]
    refine ⟨_,rfl,VR_agg (Rs_congr (fun j hj=>?_) h3) (by simp[h4,hl])⟩
    rw[hl] at hj
    rw[h5 j hj]
    simp
  | false =>
    simp only[AV.subOk,hd] at hok
    have hf : f < x.cells.length:=by simpa using hok
    obtain ⟨a1,a2,u,a3,a4⟩:=Rs_nth h (i:=f) (x:=x.cells[f]) (by simp[hf])
    refine ⟨u,?_,?_⟩
    · have hc : w.cell? ⟨b,off+f,none⟩=some u:=a3
      simp[hc]
    · have e : x.cells.getD f AV.top=x.cells[f]:=by simp[List.getD,hf]
      simp only[AV.sub,hd,Bool.false_eq_true,if_false,e]
      exact VR_one a1 a4 a2 (by simpa using a3)
theorem Rel.elem {H : AHeap} (h : Rel φ H w) {id b j : Nat} {blk : ABlk} {e : AV} (hm : φ id=some b) (hf : AHeap.find H id=some blk) (he : blk.es[j]? = some e) (hk0 : 0 < blk.k) :
    e.ncells=blk.k ∧ Rs φ (Own φ H) w e.cells (memAt w b (j * blk.k)):=by
  obtain ⟨cur,cap,a1,a2,a3,a4,a5,a6⟩:=(h.blk id b blk hm hf).cells hk0
  obtain ⟨b1,b2,b3⟩:=Rl_nth a6 he
  rw[Nat.zero_add] at b2 b3
  exact ⟨b1,R_Rs b3 b2⟩
theorem Rel.grow {H : AHeap} (h : Rel φ H w) {w' : World} (hs : w.heap.size ≤ w'.heap.size) (hb : ∀ b,b < w.heap.size→w'.heap[b]? = w.heap[b]?) : Rel φ H w':=by
  have hl : Later (fun _=>True) φ φ (Own φ H) (Own φ H) w w':=⟨fun _ _ _ h=>h,hs,fun _ _ h=>h,fun b hb' _=>hb b hb',fun b hb'=>by unfold World.shape?;rw[hb b hb']⟩
  refine ⟨h.glob.later hl,fun id b hm=>⟨(h.dom id b hm).1,Nat.lt_of_lt_of_le (h.dom id b hm).2 hs⟩,h.inj,fun id b k h1 h2=>?_⟩
  exact (h.blk id b k h1 h2).on hl (hb b (h.dom id b h1).2)
theorem grow_step {H : AHeap} {w' : World} (ho : w'.os=w.os) (ht : w'.tape=w.tape) (hu : w'.output=w.output) (hs : w.heap.size ≤ w'.heap.size) (hb : ∀ b,b < w.heap.size→w'.heap[b]? = w.heap[b]?) : Step φ H w φ H w' :=
  ⟨⟨fun _ _ _ h=>h,hs,fun _ _ h=>h,fun b hb' _=>hb b hb',fun b hb'=>by unfold World.shape?;rw[hb b hb']⟩,ho,ht,hu,Nat.le_refl _,fun _ _=>rfl⟩
def Phi.add (φ : Phi) (id b : Nat) : Phi:=fun i=>if i=id then some b else φ i
theorem own_add {H : AHeap} {b b' : Nat} {blk : ABlk} (hd : ∀ id b,φ id=some b→id < H.length) (h : Own (φ.add H.length b) (some blk :: H) b') : Own φ H b' ∨ b'=b:=by
  obtain ⟨id,k,h1,h2⟩:=h
  unfold Phi.add at h1
  split at h1
  · cases h1;exact .inr rfl
  · have l1:=hd id b' h1
    rw[AHeap.find_cons l1] at h2
    exact .inl ⟨id,k,h1,h2⟩
theorem Rel.alloc {H : AHeap} (h : Rel φ H w) (blk : ABlk) (hk0 : 0 < blk.k) (cur : Array Value) (cap : Nat) (hsz : cur.size=cap * blk.k)
    (hcap : blk.es.length ≤ cap) (hex : blk.exact=true→cap=blk.es.length) (hm : cap ≤ maxLen) (hk : ∀ x ∈ blk.es,x.ncells=blk.k) (hr : Rs φ (Own φ H) w (flat blk.es) (fun i=>cur[i]?)) :
    Rel (φ.add H.length w.heap.size) (some blk :: H) (w.alloc (.cells cur blk.ty)) ∧ Step φ H w (φ.add H.length w.heap.size) (some blk :: H) (w.alloc (.cells cur blk.ty)):=by
  have hold : ∀ b,b < w.heap.size→(w.alloc (.cells cur blk.ty)).heap[b]? = w.heap[b]?:=fun b hb=>heap_alloc_old w _ hb
  have hsize : w.heap.size ≤ (w.alloc (.cells cur blk.ty)).heap.size:=by simp
  have hg:=h.grow hsize hold
  have hs : Step φ H w φ H (w.alloc (.cells cur blk.ty)):=grow_step rfl rfl rfl hsize hold
  have hdom : ∀ id b,φ id=some b→id < H.length:=fun id b hm=>(h.dom id b hm).1
  have hl2 : Later (fun _=>True) φ (φ.add H.length w.heap.size) (Own φ H) (Own (φ.add H.length w.heap.size) (some blk :: H)) w (w.alloc (.cells cur blk.ty)):=by
    refine ⟨fun id b _ hm'=>?_,hsize,fun b hb ho ho'=>?_,fun b hb _=>hold b hb,fun b hb=>by unfold World.shape?;rw[hold b hb]⟩
    · unfold Phi.add
      rw[if_neg (by have:=hdom id b hm';omega)]
      exact hm'
    · rcases own_add hdom ho' with h1 | h1
      · exact ho h1
      · omega
  have hstep : Step φ H w (φ.add H.length w.heap.size) (some blk :: H) (w.alloc (.cells cur blk.ty)):=⟨hl2,rfl,rfl,rfl,by simp,fun id hid=>by unfold Phi.add;rw[if_neg (by omega)]⟩
  have hRs : ∀ {l : List AV} {g g' : Nat→Option Value},(∀ i v,g i=some v→g' i=some v)→Rs φ (Own φ H) w l g→Rs (φ.add H.length w.heap.size) (Own (φ.add H.length w.heap.size) (some blk :: H)) (w.alloc (.cells cur blk.ty)) l g' :=
    fun hg' hl=>Rs_later hl2 _ _ _ (AV.idsL_true _) hg' hl
  refine ⟨⟨h.glob.later hstep.toLater,fun id b' hm'=>?_,fun i j b' hi hj hfi hfj=>?_,fun id b' k h1 h2=>?_⟩,hstep⟩
  · unfold Phi.add at hm'
    split at hm'
    · rename_i e
      cases hm'
      exact ⟨by simp[e],by simp⟩
    · have:=h.dom id b' hm'
      exact ⟨by simp;omega,by simp;omega⟩
  · unfold Phi.add at hi hj
    split at hi <;> split at hj
    · omega
    · cases hi;have:=(h.dom j _ hj).2;omega
    · cases hj;have:=(h.dom i _ hi).2;omega
    · have l1:=(h.dom i b' hi).1
      have l2:=(h.dom j b' hj).1
      rw[AHeap.find_cons l1] at hfi
      rw[AHeap.find_cons l2] at hfj
      exact h.inj i j b' hi hj hfi hfj
  · unfold Phi.add at h1
    split at h1
    · rename_i e
      cases h1
      subst e
      rw[AHeap.find_new] at h2
      cases h2
      refine .inl ⟨hk0,cur,cap,heap_alloc_new w _,hsz,hcap,hex,hm,flat_Rl hk (hRs (fun i v hv=>?_) hr)⟩
      unfold memAt
      rw[Nat.zero_add,World.cell?_alloc_at _ _ _ _ rfl]
      exact hv
    · have l1:=(h.dom id b' h1).1
      have l2:=(h.dom id b' h1).2
      rw[AHeap.find_cons l1] at h2
      exact (h.blk id b' k h1 h2).on hl2 (hold b' l2)
end
end Go.Proofs.YtdjnccnecgblmaaGreatDoor
namespace Go.Proofs.YtdjnccnecgblmaaGreatDoor
open Go.RowKit
set_option linter.unusedVariables false
set_option linter.unusedSimpArgs false
section
variable {P : Program} {φ : Phi} {O : Nat→Prop} {w : World}
theorem setRow_shape (w : World) (g : Nat) (old cs : Array Value) (t : TypeId) (fr : Nat × Nat) (hg : w.heap[g]? = some (.cells old t fr)) (hs : cs.size=old.size) (b : Nat) : (w.setRow g cs).shape? b=w.shape? b:=by
  unfold World.shape?
  by_cases e : b=g
  · subst e
    rw[setRow_heap w b old cs t fr hg,hg]
    simp[hs]
  · rw[setRow_other w g b cs e]
theorem Rel.write {H : AHeap} (h : Rel φ H w) {id b : Nat} {blk : ABlk} (hk0 : 0 < blk.k) {cur cur' : Array Value} {cap : Nat} (hm : φ id=some b) (hf : AHeap.find H id=some blk) (hb : w.heap[b]? = some (.cells cur blk.ty (0,0))) (hsz : cur.size=cap * blk.k)
    (es' : List AV) (hs' : cur'.size=cur.size) (hcap : es'.length ≤ cap) (hmx : cap ≤ maxLen) (hex : blk.exact=true→cap=es'.length) (hk : ∀ x ∈ es',x.ncells=blk.k) (hr : Rs φ (Own φ H) w (flat es') (fun i=>cur'[i]?)) :
    Rel φ (AHeap.set H id (some { blk with es:=es' })) (w.setRow b cur') ∧ Step φ H w φ (AHeap.set H id (some { blk with es:=es' })) (w.setRow b cur'):=by
  have hid : id < H.length:=AHeap.find_lt hf
  have hown : ∀ b',Own φ (AHeap.set H id (some { blk with es:=es' })) b' ↔ Own φ H b':=by
    intro b'
    constructor
    · rintro ⟨i,k,h1,h2⟩
      by_cases e : i=id
      · subst e;exact ⟨i,blk,h1,hf⟩
      · rw[AHeap.find_set_ne e] at h2;exact ⟨i,k,h1,h2⟩
    · rintro ⟨i,k,h1,h2⟩
      by_cases e : i=id
      · subst e;exact ⟨i,_,h1,AHeap.find_set_same hid⟩
      · exact ⟨i,k,h1,by rw[AHeap.find_set_ne e];exact h2⟩
  have hob : Own φ H b:=⟨id,blk,hm,hf⟩
  have hl : Later (fun _=>True) φ φ (Own φ H) (Own φ (AHeap.set H id (some { blk with es:=es' }))) w (w.setRow b cur'):=by
    refine ⟨fun _ _ _ h=>h,by simp,fun b' hb' ho ho'=>ho ((hown b').1 ho'),fun b' hb' ho=>?_,fun b' hb'=>setRow_shape w b cur cur' _ _ hb hs' b'⟩
    exact setRow_other w b b' cur' (fun e=>ho (e ▸ hob))
  refine ⟨⟨h.glob.later hl,fun i b' hi=>?_,fun i j b' hi hj hfi hfj=>?_,fun i b' k h1 h2=>?_⟩,⟨hl,rfl,rfl,rfl,by rw[AHeap.set_length];exact Nat.le_refl _,fun _ _=>rfl⟩⟩
  · rw[AHeap.set_length]
    simpa using h.dom i b' hi
  · have g1 : (AHeap.find H i).isSome:=by
      by_cases e : i=id
      · subst e;rw[hf];rfl
      · rwa [AHeap.find_set_ne e] at hfi
    have g2 : (AHeap.find H j).isSome:=by
      by_cases e : j=id
      · subst e;rw[hf];rfl
      · rwa [AHeap.find_set_ne e] at hfj
    exact h.inj i j b' hi hj g1 g2
  · by_cases e : i=id
    · subst e
      rw[hm] at h1
      cases h1
      rw[AHeap.find_set_same hid] at h2
      cases h2
      refine .inl ⟨hk0,cur',cap,setRow_heap w b cur cur' _ _ hb,by rw[hs',hsz],hcap,hex,hmx,flat_Rl hk (Rs_later hl _ _ _ (AV.idsL_true _) (fun i v hv=>?_) hr)⟩
      unfold memAt
      rw[Nat.zero_add,cell_setRow_same w b i cur cur' _ _ hb]
      exact hv
    · rw[AHeap.find_set_ne e] at h2
      have hne : b' ≠ b:=fun eb=>by
        subst eb
        exact e (h.inj i id b' h1 hm (by rw[h2];rfl) (by rw[hf];rfl))
      exact (h.blk i b' k h1 h2).on hl (setRow_other w b b' cur' hne)
theorem own_kill {H : AHeap} {id b : Nat} (h : Own φ (AHeap.set H id none) b) : Own φ H b:=by
  obtain ⟨i,k,h1,h2⟩:=h
  by_cases e : i=id
  · subst e
    by_cases hl : i < H.length
    · rw[AHeap.find_set_same hl] at h2;simp at h2
    · rw[AHeap.find_ge (by rw[AHeap.set_length];omega)] at h2;simp at h2
  · rw[AHeap.find_set_ne e] at h2;exact ⟨i,k,h1,h2⟩
theorem find_kill {H : AHeap} {id i : Nat} {k : ABlk} (h : AHeap.find (AHeap.set H id none) i=some k) : i ≠ id ∧ AHeap.find H i=some k:=by
  by_cases e : i=id
  · subst e
    by_cases hl : i < H.length
    · rw[AHeap.find_set_same hl] at h;simp at h
    · rw[AHeap.find_ge (by rw[AHeap.set_length];omega)] at h;simp at h
  · rw[AHeap.find_set_ne e] at h;exact ⟨e,h⟩
theorem Rel.kill {H : AHeap} (h : Rel φ H w) (id : Nat) : Rel φ (AHeap.set H id none) w ∧ Step φ H w φ (AHeap.set H id none) w:=by
  have hl : Later (fun _=>True) φ φ (Own φ H) (Own φ (AHeap.set H id none)) w w:=⟨fun _ _ _ h=>h,Nat.le_refl _,fun b _ ho ho'=>ho (own_kill ho'),fun _ _ _=>rfl,fun _ _=>rfl⟩
  refine ⟨⟨h.glob.later hl,fun i b hi=>by rw[AHeap.set_length];exact h.dom i b hi,fun i j b hi hj hfi hfj=>?_,fun i b k h1 h2=>?_⟩,⟨hl,rfl,rfl,rfl,by rw[AHeap.set_length];exact Nat.le_refl _,fun _ _=>rfl⟩⟩
  · obtain ⟨k1,e1⟩:=Option.isSome_iff_exists.1 hfi
    obtain ⟨k2,e2⟩:=Option.isSome_iff_exists.1 hfj
    exact h.inj i j b hi hj (by rw[(find_kill e1).2];rfl) (by rw[(find_kill e2).2];rfl)
  · exact (h.blk i b k h1 (find_kill h2).2).on hl rfl
theorem Rel.move {H : AHeap} (h : Rel φ H w) {id b : Nat} {blk : ABlk} (hm : φ id=some b) (hf : AHeap.find H id=some blk) :
    Rel (φ.add H.length b) (some blk :: AHeap.set H id none) w ∧ Step φ H w (φ.add H.length b) (some blk :: AHeap.set H id none) w:=by
  have hid : id < H.length:=AHeap.find_lt hf
  have hdom : ∀ i b',φ i=some b'→i < H.length:=fun i b' hi=>(h.dom i b' hi).1
  have hown : ∀ b',Own (φ.add H.length b) (some blk :: AHeap.set H id none) b'→Own φ H b':=by
    rintro b' ⟨i,k,h1,h2⟩
    unfold Phi.add at h1
    split at h1
    · cases h1;exact ⟨id,blk,hm,hf⟩
    · have l1:=hdom i b' h1
      rw[AHeap.find_cons (by rw[AHeap.set_length];exact l1)] at h2
      exact ⟨i,k,h1,(find_kill h2).2⟩
  have hl : Later (fun _=>True) φ (φ.add H.length b) (Own φ H) (Own (φ.add H.length b) (some blk :: AHeap.set H id none)) w w:=by
    refine ⟨fun i b' _ hi=>?_,Nat.le_refl _,fun b' _ ho ho'=>ho (hown b' ho'),fun _ _ _=>rfl,fun _ _=>rfl⟩
    unfold Phi.add
    rw[if_neg (by have:=hdom i b' hi;omega)]
    exact hi
  refine ⟨⟨h.glob.later hl,fun i b' hi=>?_,fun i j b' hi hj hfi hfj=>?_,fun i b' k h1 h2=>?_⟩,⟨hl,rfl,rfl,rfl,by simp[AHeap.set_length],fun id hid=>by unfold Phi.add;rw[if_neg (by omega)]⟩⟩
  · unfold Phi.add at hi
    split at hi
    · cases hi
      exact ⟨by simp[AHeap.set_length];omega,(h.dom id b hm).2⟩
    · have:=h.dom i b' hi
      exact ⟨by simp[AHeap.set_length];omega,this.2⟩
  · have key : ∀ i,φ i=some b'→(AHeap.find (some blk :: AHeap.set H id none) i).isSome→i ≠ id ∧ (AHeap.find H i).isSome:=by
      intro i hi hfi
      rw[AHeap.find_cons (by rw[AHeap.set_length];exact hdom i b' hi)] at hfi
      obtain ⟨k1,e1⟩:=Option.isSome_iff_exists.1 hfi
      exact ⟨(find_kill e1).1,by rw[(find_kill e1).2];rfl⟩
    unfold Phi.add at hi hj
    split at hi <;> split at hj
    · omega
    · cases hi
      obtain ⟨n1,n2⟩:=key j hj hfj
      exact absurd (h.inj j id b hj hm n2 (by rw[hf];rfl)) n1
    · cases hj
      obtain ⟨n1,n2⟩:=key i hi hfi
      exact absurd (h.inj i id b hi hm n2 (by rw[hf];rfl)) n1
    · exact h.inj i j b' hi hj (key i hi hfi).2 (key j hj hfj).2
  · have hblk : ∀ i k,φ i=some b'→AHeap.find H i=some k→BlkR (φ.add H.length b) (Own (φ.add H.length b) (some blk :: AHeap.set H id none)) w k b':=by
      intro i k h1 h2
      exact (h.blk i b' k h1 h2).on hl rfl
    unfold Phi.add at h1
    split at h1
    · rename_i e
      cases h1
      subst e
      have : AHeap.find (some blk :: AHeap.set H id none) H.length=some blk:=by
        have:=AHeap.find_new (H:=AHeap.set H id none) (b:=some blk)
        rwa [AHeap.set_length] at this
      rw[this] at h2
      cases h2
      exact hblk id blk hm hf
    · rw[AHeap.find_cons (by rw[AHeap.set_length];exact hdom i b' h1)] at h2
      exact hblk i k h1 (find_kill h2).2
structure Src (φ : Phi) (O : Nat→Prop) (w : World) (k : Nat) (ys : List AV) (v : Value) : Prop where
  ex : ∃ a c news,v = .slice a ys.length c ∧ news.length=ys.length * k ∧ (∀ x ∈ ys,x.ncells=k) ∧ Rs φ O w (flat ys) (fun i=>(news : List Value)[i]?) ∧ (∀ u ∈ news,u.oneCell'=true) ∧
    (0 < ys.length→∃ ad,a=some ad ∧ ∀ j u,news[j]? = some u→w.cell? (ad.add j)=some u)
theorem Src.of_mem {k : Nat} {ys : List AV} {b off c : Nat} (h : Rl φ O w b k ys off) : Src φ O w k ys (.slice (some ⟨b,off,none⟩) ys.length c):=by
  obtain ⟨h1,h2⟩:=Rl_flat h
  obtain ⟨us,h3,h4,h5⟩:=Rs_cells h2
  refine ⟨_,c,us,rfl,by rw[h3,flat_length h1],h1,Rs_congr (fun i hi=>?_) h2,h5,fun _=>⟨_,rfl,fun j u hj=>?_⟩⟩
  · exact (h4 i hi).symm
  · have hj' : j < us.length:=(List.getElem?_eq_some_iff.1 hj).1
    have:=h4 j (by omega)
    rw[hj] at this
    rw[addr_add]
    exact this
theorem Src.of_lst {k : Nat} {ys : List AV} {room : Option (List AV)} {v : Value} (h : VR φ O w (.lst k ys room) v) {k' : Nat} (hk : k=k' ∨ ys=[]) : Src φ O w k' ys v:=by
  obtain ⟨a,c,rfl,h2,h3,h4,h5,h6⟩:=VR_lst h
  by_cases hn : 0 < ys.length
  · obtain ⟨b,off,rfl,_,_,h7⟩:=h5 hn
    rcases hk with rfl | rfl
    · exact Src.of_mem h7
    · simp at hn
  · have : ys=[]:=List.length_eq_zero_iff.1 (by omega)
    subst this
    exact ⟨a,c,[],rfl,by simp,by simp,trivial,by simp,fun h=>by simp at h⟩
theorem Src.of_vec {H : AHeap} (hR : Rel φ H w) {k id off n : Nat} {c : Option Nat} {v : Value} (h : VR φ (Own φ H) w (.vec k id off n c) v) {blk : ABlk} (hf : AHeap.find H id=some blk) (hk : blk.k=k) (hl : off+n ≤ blk.es.length) :
    Src φ (Own φ H) w k ((blk.es.drop off).take n) v:=by
  obtain ⟨b,c',cur,e,fr,v1,rfl,v3,v4,v5,v6,v7⟩:=VR_vec h
  obtain ⟨_,cur',cap,a1,a2,a3,a4,a5,a6⟩:=(hR.blk id b blk v1 hf).atCells v6
  have h7:=Rl_take (n:=n) (Rl_drop (f:=off) a6)
  rw[hk,Nat.zero_add] at h7
  have hln : ((blk.es.drop off).take n).length=n:=by simp;omega
  have:=Src.of_mem (c:=c') h7
  rwa [hln] at this
theorem append_zero {t ty e : TypeId} {inf : TypeInfo} (ht : P.underlying t=some (.slice e)) (hi : P.info? e=some inf) {base a : Option Addr} {n c c' : Nat} (hn : n ≤ c) :
    (Builtin.append_ #[t,t] ty #[.slice base n c,.slice a 0 c']).run P w = .ok (.slice base n c) w:=by
  cases base <;> cases a <;> simp[Builtin.append_,rn_under ht,rn_size hi,Builtin.lenOf,Builtin.firstCells,hn,loadCells,loadCellsFrom,storeCells]
theorem append_new {H : AHeap} (hR : Rel φ H w) {t ty e : TypeId} {inf : TypeInfo} {z : Value} (ht : P.underlying t=some (.slice e)) (hi : P.info? e=some inf) (hz : inf.zero=some z) (hzs : z.cells.size=inf.size) (hby : inf.bytes ≤ 1000) (hk0 : 0 < inf.size)
    {xs ys : List AV} {s v : Value} (hs : Src φ (Own φ H) w inf.size xs s) (hv : Src φ (Own φ H) w inf.size ys v) (hy : 0 < ys.length) (hb : xs.length+ys.length ≤ 100000000)
    (hc : ∃ a c,s = .slice a xs.length c ∧ c < xs.length+ys.length ∧ (a=none→c=0)) :
    ∃ c' w',(Builtin.append_ #[t,t] ty #[s,v]).run P w = .ok (.slice (some ⟨w.heap.size,0,none⟩) (xs.length+ys.length) c') w' ∧
      Rel (φ.add H.length w.heap.size) (some ⟨inf.size,xs ++ ys,false,e⟩ :: H) w' ∧ Step φ H w (φ.add H.length w.heap.size) (some ⟨inf.size,xs ++ ys,false,e⟩ :: H) w' ∧
      VR (φ.add H.length w.heap.size) (Own (φ.add H.length w.heap.size) (some ⟨inf.size,xs ++ ys,false,e⟩ :: H)) w' (.vec inf.size H.length 0 (xs.length+ys.length) none) (.slice (some ⟨w.heap.size,0,none⟩) (xs.length+ys.length) c'):=by
  obtain ⟨a,c,olds,e1,o2,o3,o4,o5,o6⟩:=hs.ex
  obtain ⟨a2,c2,news,e2,n2,n3,n4,n5,n6⟩:=hv.ex
  obtain ⟨a',c',e3,hlt,hn0⟩:=hc
  rw[e1] at e3
  cases e3
  subst e1
  subst e2
  obtain ⟨ad,rfl,hnews⟩:=n6 hy
  have hdr:=drew_rel hR
  have hfin : ∀ (cap : Nat) (arr : Array Value),xs.length+ys.length ≤ cap→cap ≤ maxLen→arr.size=cap * inf.size→(∀ i,i < (olds ++ news).length→arr[i]? = (olds ++ news)[i]?) →
      Rel (φ.add H.length w.heap.size) (some ⟨inf.size,xs ++ ys,false,e⟩ :: H) (w.drew.alloc (.cells arr e)) ∧ Step φ H w (φ.add H.length w.heap.size) (some ⟨inf.size,xs ++ ys,false,e⟩ :: H) (w.drew.alloc (.cells arr e)) ∧
      VR (φ.add H.length w.heap.size) (Own (φ.add H.length w.heap.size) (some ⟨inf.size,xs ++ ys,false,e⟩ :: H)) (w.drew.alloc (.cells arr e)) (.vec inf.size H.length 0 (xs.length+ys.length) none) (.slice (some ⟨w.heap.size,0,none⟩) (xs.length+ys.length) cap):=by
    intro cap arr h1 h2 h3 h4
    have hk : ∀ x ∈ xs ++ ys,x.ncells=inf.size:=fun x hx=>by
      rcases List.mem_append.1 hx with h | h
      · exact o3 x h
      · exact n3 x h
    have hrs : Rs φ (Own φ H) w.drew (flat (xs ++ ys)) (fun i=>arr[i]?):=by
      have hl : Later (fun _=>True) φ φ (Own φ H) (Own φ H) w w.drew:=(drew_step φ H w).toLater
      refine Rs_later hl _ _ _ (AV.idsL_true _) (fun i v hv=>hv) ?_
      rw[flat_append]
      have hol : (flat xs).length=olds.length:=by rw[flat_length o3,o2]
      have hnl : (flat ys).length=news.length:=by rw[flat_length n3,n2]
      refine Rs_append (Rs_congr (fun i hi=>?_) o4) (Rs_congr (fun i hi=>?_) n4)
      · rw[h4 i (by simp;omega),List.getElem?_append_left (by omega)]
      · rw[h4 _ (by simp;omega),List.getElem?_append_right (by omega)]
        congr 1
        omega
    have:=hdr.alloc ⟨inf.size,xs ++ ys,false,e⟩ hk0 arr cap h3 (by simpa using h1) (fun h=>by simp at h) h2 hk hrs
    refine ⟨this.1,(drew_step φ H w).trans this.2,rfl,?_⟩
    refine ⟨w.heap.size,cap,arr,e,(0,0),by simp[Phi.add],by simp[cget,Value.cells],h1,h2,fun m hm=>by simp at hm,heap_alloc_new w.drew _,by simpa using h3⟩
  have hlen : (olds ++ news).length=(xs.length+ys.length) * inf.size:=by rw[List.length_append,o2,n2,Nat.add_mul]
  have hbytes : (xs.length+ys.length) * inf.bytes ≤ 100000000 * 1000:=Nat.mul_le_mul hb hby
  cases a with
  | none =>
    have hc0:=hn0 rfl
    have hx : xs=[]:=by
      cases xs with
      | nil=>rfl
      | cons x r=>obtain ⟨_,h,_⟩:=o6 (by simp);simp at h
    subst hc0
    subst hx
    have ho : olds=[]:=List.length_eq_zero_iff.1 (by simpa using o2)
    subst ho
    have hr:=run_append_nil (P:=P) w t ty e inf z ht hi hz ad ys.length c2 news n2 hnews hy (by omega) (by simp at hbytes;omega)
    simp only[List.length_nil,Nat.zero_add,List.nil_append] at hfin hb ⊢
    have hge:=grownCap_ge w ys.length 0 e
    obtain ⟨f1,f2,f3⟩:=hfin (grownCap w ys.length 0 e) (news.toArray ++ Builtin.zeroCells z.cells (grownCap w ys.length 0 e - ys.length)) hge (grownCap_le_maxLen w _ _ _ (by unfold maxLen;omega))
      (by simp only[Array.size_append,List.size_toArray,size_zeroCells,hzs,n2,← Nat.add_mul];congr 1;omega) (fun i hi=>by rw[Array.getElem?_append_left (by simpa using hi)];simp)
    exact ⟨_,_,hr,f1,f2,f3⟩
  | some b =>
    have holds : ∀ j u,olds[j]? = some u→w.cell? (b.add j)=some u:=fun j u hj=>by
      have hp : 0 < xs.length:=by
        rcases Nat.eq_zero_or_pos xs.length with h | h
        · rw[h] at o2
          have : olds=[]:=List.length_eq_zero_iff.1 (by simpa using o2)
          subst this
          simp at hj
        · exact h
      obtain ⟨ad',h,h'⟩:=o6 hp
      cases h
      exact h' j u hj
    have hr:=run_append_grow (P:=P) w t ty e inf z ht hi hz b xs.length c olds o2 holds ad ys.length c2 news n2 hnews hlt (by omega) (growslice_fits (by omega) (by omega))
    have hge:=grownCap_ge w (xs.length+ys.length) c e
    obtain ⟨f1,f2,f3⟩:=hfin (grownCap w (xs.length+ys.length) c e) (olds.toArray ++ news.toArray ++ Builtin.zeroCells z.cells (grownCap w (xs.length+ys.length) c e - (xs.length+ys.length))) hge (grownCap_le_maxLen w _ _ _ (by unfold maxLen;omega))
      (by simp only[Array.size_append,List.size_toArray,size_zeroCells,hzs,n2,o2,← Nat.add_mul];congr 1;omega) (fun i hi=>by rw[Array.getElem?_append_left (by simpa using hi)];simp[List.getElem?_append])
    exact ⟨_,_,hr,f1,f2,f3⟩
end
end Go.Proofs.YtdjnccnecgblmaaGreatDoor
namespace Go.Proofs.YtdjnccnecgblmaaGreatDoor
open Go.RowKit
set_option linter.unusedVariables false
set_option linter.unusedSimpArgs false
inductive AEnd where
  | ret (v : AV)
  | pan (v : AV)
def AEnd.post (K Kp : AV→AHeap→Prop) (H' : AHeap) : AEnd→Prop
  | .ret v=>K v H'
  | .pan v=>Kp v H'
def ChR (φ : Phi) (O : Nat→Prop) (w : World) (x : AV) (c : List PanicEntry) : Prop:=∃ v older,c={ v:=v,recovered:=false } :: older ∧ (∀ p ∈ older,p.goexit=false) ∧ VR φ O w x v
theorem ChR.one {φ : Phi} {O : Nat→Prop} {w : World} {x : AV} {v : Value} (h : VR φ O w x v) : ChR φ O w x [{ v:=v,recovered:=false }]:=⟨v,[],rfl,by simp,h⟩
def EndR (φ : Phi) (O : Nat→Prop) (w : World) : AEnd→Ending→Prop
  | .ret x,.returned v=>VR φ O w x v
  | .pan x,.panicked c=>ChR φ O w x c
  | _,_=>False
def D (P : Program) (f : FuncId) (args : List AV) (H : AHeap) (e : AEnd) (H' : AHeap) : Prop :=
  H.length ≤ H'.length ∧ ∀ (φ : Phi) (w : World) (vs : Array Value),Rel φ H w→Rt φ (Own φ H) w args vs.toList →
    Calls P f vs w fun en w'=>∃ φ',EndR φ' (Own φ' H') w' e en ∧ Rel φ' H' w' ∧ Step φ H w φ' H' w'
def DK (P : Program) (f : FuncId) (args : List AV) (H : AHeap) (Kr : AEnd→AHeap→Prop) : Prop :=
  ∀ (φ : Phi) (w : World) (vs : Array Value),Rel φ H w→Rt φ (Own φ H) w args vs.toList →
    Calls P f vs w fun en w'=>∃ e H' φ',EndR φ' (Own φ' H') w' e en ∧ Kr e H' ∧ Rel φ' H' w' ∧ Step φ H w φ' H' w'
theorem D.dk {P : Program} {f : FuncId} {args : List AV} {H H' : AHeap} {e : AEnd} (h : D P f args H e H') : DK P f args H (fun e1 H1=>e1=e ∧ H1=H') :=
  fun φ w vs hR ha=>(h.2 φ w vs hR ha).mono fun en w' ⟨φ',h1,h2,h3⟩=>⟨e,H',φ',h1,⟨rfl,rfl⟩,h2,h3⟩
theorem DK.mono {P : Program} {f : FuncId} {args : List AV} {H : AHeap} {Kr Kr' : AEnd→AHeap→Prop} (h : DK P f args H Kr) (hk : ∀ e H',H.length ≤ H'.length→Kr e H'→Kr' e H') : DK P f args H Kr' :=
  fun φ w vs hR ha=>(h φ w vs hR ha).mono fun en w' ⟨e,H',φ',h1,h2,h3,h4⟩=>⟨e,H',φ',h1,hk _ _ h4.len h2,h3,h4⟩
inductive GX where
  | cap
  | copy (k : Nat)
  | s2b
  | eqA (pos : Bool) (ks : List (Option IntKind))
  | appz (k : Nat) (ty : TypeId) (z : AV)
  | idxb
  | ovl
  | mkmap
  | mclone
  | tas (t : TypeId)
  | nilM (pos : Bool)
  | mget (q : Option IntKind) (z : AV) (ok : Bool)
  | mput (q : Option IntKind)
  | mlen
  | mdel (q : Option IntKind)
  | copyS
  | appS (ty : TypeId)
  | ustr (ty : TypeId)
  | sdata
  | nilP (pos : Bool)
  | eqP (pos : Bool)
  | toU
  | fromU (tys : List TypeId)
  | same1
  | cntb
def eqOk : List (Option IntKind)→List AV→List AV→Prop
  | [],[],[]=>True
  | none :: r,.sc (.string _) :: xs,.sc (.string _) :: ys=>eqOk r xs ys
  | some k :: r,.sc (.int k1 _) :: xs,.sc (.int k2 _) :: ys=>(k1=k ∧ k2=k) ∧ eqOk r xs ys
  | _,_,_=>False
def eqV : List AV→List AV→Bool
  | .sc (.string a) :: xs,.sc (.string b) :: ys=>(a == b) && eqV xs ys
  | .sc (.int _ a) :: xs,.sc (.int _ b) :: ys=>(a == b) && eqV xs ys
  | _,_=>true
def gLen : AV→Nat
  | .lst _ xs _=>xs.length
  | .vec _ _ _ n _=>n
  | _=>0
def gsOk (H : AHeap) (k m : Nat) : AV→Prop
  | .lst k' xs _=>(k'=k ∨ m=0) ∧ m ≤ xs.length
  | .vec k' id off n _=>match AHeap.find H id with
    | some blk=>k'=k ∧ blk.k=k ∧ m ≤ n ∧ off+m ≤ blk.es.length
    | none=>False
  | _=>False
def gsV (H : AHeap) (m : Nat) : AV→List AV
  | .lst _ xs _=>xs.take m
  | .vec _ id off _ _=>match AHeap.find H id with
    | some blk=>(blk.es.drop off).take m
    | none=>[]
  | _=>[]
def gcOk (H : AHeap) (k : Nat) (s : AV) : AV→Prop
  | .vec k' id off n _=>match AHeap.find H id with
    | some blk=>k'=k ∧ blk.k=k ∧ off ≤ blk.es.length ∧ (blk.exact=false ∨ off+min (gLen s) n ≤ blk.es.length) ∧ gsOk H k (min (gLen s) n) s
    | none=>False
  | .lst _ [] _=>gsOk H k 0 s
  | _=>False
def gcH (H : AHeap) (s : AV) : AV→AHeap
  | .vec _ id off n _=>match AHeap.find H id with
    | some blk=>AHeap.set H id (some { blk with es:=blk.es.take off ++ gsV H (min (gLen s) n) s ++ blk.es.drop (off+min (gLen s) n) })
    | none=>H
  | _=>H
def kOk : Option IntKind→Value→Bool
  | none,.string _=>true
  | some a,.int b _=>a == b
  | _,_=>false
def kSame : Value→Value→Bool
  | .string a,.string b=>decide (a=b)
  | .int _ a,.int _ b=>decide (a=b)
  | _,_=>false
def entOk (q : Option IntKind) : AV→Bool
  | .tup [.sc k,_]=>kOk q k
  | _=>false
def entHit (k : Value) : AV→Bool
  | .tup [.sc k',_]=>kSame k k'
  | _=>false
def entV : AV→AV
  | .tup [_,v]=>v
  | _=>.top
def mIdx (k : Value) : List AV→Nat
  | []=>0
  | x :: r=>if entHit k x=true then 0 else mIdx k r+1
def mVal (k : Value) (z : AV) (es : List AV) : AV:=if mIdx k es < es.length then entV (es.getD (mIdx k es) .top) else z
def mPut (k : Value) (v : AV) (es : List AV) : List AV:=if mIdx k es < es.length then es.set (mIdx k es) (.tup [.sc k,v]) else es ++ [.tup [.sc k,v]]
def mDel (k : Value) (es : List AV) : List AV:=es.eraseIdx (mIdx k es)
def mOk (H : AHeap) (id : Nat) (p : List AV→Prop) : Prop:=match AHeap.find H id with
  | some blk=>(blk.k=0 ∧ blk.ty=0) ∧ p blk.es
  | none=>False
def mEs (H : AHeap) (id : Nat) : List AV:=match AHeap.find H id with
  | some blk=>blk.es
  | none=>[]
def mSet (H : AHeap) (id : Nat) (es : List AV) : AHeap:=match AHeap.find H id with
  | some blk=>AHeap.set H id (some { blk with es:=es })
  | none=>H
def entsOk (q : Option IntKind) (es : List AV) : Prop:=∀ x ∈ es,entOk q x=true
def byteL (s : ByteArray) : List AV:=s.data.toList.map fun b=>.sc (.int .u8 b.toNat)
def asOk (H : AHeap) (ty : TypeId) (s : ByteArray) : AV→Prop
  | .sc (.slice none 0 0)=>s.size ≤ 100000000
  | .lst _ [] (some [])=>s.size ≤ 100000000
  | .vec k id off n c=>match AHeap.find H id with
    | some blk=>(k=1 ∧ blk.k=1 ∧ blk.ty=ty ∧ off=0 ∧ n+s.size ≤ 100000000) ∧ (match c with
      | none=>blk.exact=false ∧ n=blk.es.length
      | some m=>(blk.exact=true ∧ m=blk.es.length ∧ n ≤ m) ∨ (blk.exact=false ∧ n ≤ blk.es.length))
    | none=>False
  | _=>False
def asV (H : AHeap) (s : ByteArray) : AV→AV
  | .vec _ id _ n (some m)=>if n+s.size ≤ m then .vec 1 id 0 (n+s.size) (some m) else .vec 1 H.length 0 (n+s.size) none
  | .vec _ _ _ n none=>.vec 1 H.length 0 (n+s.size) none
  | d=>if s.size=0 then d else .vec 1 H.length 0 s.size none
def asH (H : AHeap) (ty : TypeId) (s : ByteArray) : AV→AHeap
  | .vec _ id _ n c=>match AHeap.find H id with
    | some blk=>match c with
      | none=>some ⟨1,blk.es ++ byteL s,false,ty⟩ :: AHeap.set H id none
      | some m=>if n+s.size ≤ m then AHeap.set H id (some { blk with es:=blk.es.take n ++ byteL s ++ blk.es.drop (n+s.size) }) else some ⟨1,blk.es.take n ++ byteL s,false,ty⟩ :: H
    | none=>H
  | _=>if s.size=0 then H else some ⟨1,byteL s,false,ty⟩ :: H
def usOk (H : AHeap) (ty : TypeId) (n : Int) : AV→Prop
  | .ptr k id j f=>match AHeap.find H id with
    | some blk=>(k=1 ∧ blk.k=1 ∧ blk.ty=ty ∧ j=0 ∧ f=0 ∧ 0 < n ∧ n.toNat ≤ blk.es.length) ∧ ∃ s,blk.es.take n.toNat=byteL s
    | none=>False
  | .sc (.pointer none)=>n=0
  | _=>False
def usV (H : AHeap) (n : Int) : AV→ByteArray
  | .ptr _ id _ _=>match AHeap.find H id with
    | some blk=>bytesV (blk.es.take n.toNat)
    | none=>⟨#[]⟩
  | _=>⟨#[]⟩
def usH (H : AHeap) : AV→AHeap
  | .ptr _ id _ _=>AHeap.set H id none
  | _=>H
def isPtr : AV→Prop
  | .ptr k _ _ _=>0 < k
  | .lp _ _=>True
  | .sc (.pointer none)=>True
  | _=>False
def isNilP : AV→Bool
  | .sc (.pointer none)=>true
  | _=>false
def GX.ok (H : AHeap) : GX→List AV→Prop
  | .cap,[.vec _ _ _ _ (some _)]=>True
  | .cap,[.lst _ _ (some _)]=>True
  | .copy k,[d,s]=>gcOk H k s d
  | .s2b,[.sc (.string s)]=>s.size ≤ 100000000
  | .eqA _ ks,[.agg xs,.agg ys]=>eqOk ks xs ys
  | .appz k _ _,[.vec k' id off n (some c),.sc (.int _ m)]=>match AHeap.find H id with
    | some blk=>(k'=k ∧ blk.k=k ∧ off=0 ∧ n ≤ blk.es.length) ∧ 0 < m ∧ (c : Int) < n+m ∧ (n : Int)+m ≤ 100000000
    | none=>False
  | .appz _ _ _,[.lst _ [] (some []),.sc (.int _ m)]=>0 < m ∧ m ≤ 100000000
  | .idxb,[.sc (.string _),.sc (.int .u8 _)]=>True
  | .ovl,[.lst k (_ :: _) _,.vec _ id _ _ _]=>match AHeap.find H id with
    | some _=>0 < k
    | none=>False
  | .mkmap,[]=>True
  | .mclone,[.ifc _ (.ptr 0 id _ 0)]=>mOk H id fun _=>True
  | .tas t,[.ifc u _]=>u=t
  | .nilM _,[.ptr 0 _ _ 0]=>True
  | .nilM _,[.sc (.map none)]=>True
  | .mget q _ _,[.ptr 0 id _ 0,.sc k]=>kOk q k=true ∧ mOk H id (entsOk q)
  | .mput q,[.ptr 0 id _ 0,.sc k,_]=>kOk q k=true ∧ mOk H id (entsOk q)
  | .mlen,[.ptr 0 id _ 0]=>mOk H id fun _=>True
  | .mdel q,[.ptr 0 id _ 0,.sc k]=>kOk q k=true ∧ mOk H id (entsOk q)
  | .copyS,[.vec k id off n _,.sc (.string s)]=>match AHeap.find H id with
    | some blk=>k=1 ∧ blk.k=1 ∧ off+n ≤ blk.es.length ∧ s.size ≤ n
    | none=>False
  | .appS ty,[d,.sc (.string s)]=>asOk H ty s d
  | .ustr ty,[p,.sc (.int .i64 n)]=>usOk H ty n p
  | .sdata,[.vec k _ _ n _]=>0 < k ∧ 0 < n
  | .sdata,[.sc (.slice none 0 0)]=>True
  | .nilP _,[p]=>isPtr p
  | .eqP _,[.ptr k id j f,.ptr k' id' j' f']=>(k=k' ∧ id=id' ∧ j=j' ∧ f=f') ∧ 0 < k
  | .toU,[.ptr k id j f]=>match AHeap.find H id with
    | some blk=>blk.k=k ∧ 0 < k ∧ j < blk.es.length ∧ f < k
    | none=>False
  | .fromU tys,[.ptr k id j f]=>match AHeap.find H id with
    | some blk=>(k=2 ∧ blk.k=2 ∧ j=0 ∧ f=0 ∧ blk.exact=true ∧ blk.es.length=1) ∧ tys.contains blk.ty=true
    | none=>False
  | .same1,[_]=>True
  | .cntb,[.sc (.string _),.sc (.int .u8 _)]=>True
  | _,_=>False
def GX.val (H : AHeap) : GX→List AV→AV
  | .cap,[.vec _ _ _ _ (some c)]=>.sc (.int .i64 c)
  | .cap,[.lst _ xs (some ys)]=>.sc (.int .i64 (xs.length+ys.length : Nat))
  | .copy _,[d,s]=>.sc (.int .i64 (min (gLen s) (gLen d) : Nat))
  | .s2b,[.sc (.string s)]=>.lst 1 (byteL s) none
  | .eqA pos _,[.agg xs,.agg ys]=>.sc (.bool (if pos then eqV xs ys else !eqV xs ys))
  | .appz k _ _,[.vec _ _ _ n _,.sc (.int _ m)]=>.vec k H.length 0 (n+m.toNat) none
  | .appz k _ _,[.lst _ _ _,.sc (.int _ m)]=>.vec k H.length 0 m.toNat none
  | .idxb,[.sc (.string s),.sc (.int _ c)]=>.sc (.int .i64 (firstIdx s c.toNat.toUInt8))
  | .ovl,_=>.sc (.bool false)
  | .mkmap,_=>.ptr 0 H.length 0 0
  | .mclone,[.ifc t _]=>.ifc t (.ptr 0 H.length 0 0)
  | .tas _,[.ifc _ v]=>v
  | .nilM pos,[.sc _]=>.sc (.bool pos)
  | .nilM pos,_=>.sc (.bool !pos)
  | .mget _ z ok,[.ptr _ id _ _,.sc k]=>if ok then .tup [mVal k z (mEs H id),.sc (.bool (decide (mIdx k (mEs H id) < (mEs H id).length)))] else mVal k z (mEs H id)
  | .mlen,[.ptr _ id _ _]=>.sc (.int .i64 (mEs H id).length)
  | .mdel _,_=>.tup []
  | .copyS,[_,.sc (.string s)]=>.sc (.int .i64 s.size)
  | .appS _,[d,.sc (.string s)]=>asV H s d
  | .ustr _,[p,.sc (.int _ n)]=>.sc (.string (usV H n p))
  | .sdata,[.vec k id off _ _]=>.ptr k id off 0
  | .sdata,_=>.sc (.pointer none)
  | .nilP pos,[p]=>.sc (.bool (if pos then isNilP p else !isNilP p))
  | .eqP pos,_=>.sc (.bool pos)
  | .toU,[p]=>p
  | .fromU _,[p]=>p
  | .same1,[p]=>p
  | .cntb,[.sc (.string s),.sc (.int _ c)]=>.sc (.int .i64 (Lib.countByte s.data.toList c.toNat.toUInt8))
  | _,_=>.top
def GX.heap (H : AHeap) : GX→List AV→AHeap
  | .copy _,[d,s]=>gcH H s d
  | .appz k ty z,[.vec _ id _ n _,.sc (.int _ m)]=>match AHeap.find H id with
    | some blk=>some ⟨k,blk.es.take n ++ List.replicate m.toNat z,false,ty⟩ :: H
    | none=>H
  | .appz k ty _,[.lst _ _ _,_]=>some ⟨k,[],false,ty⟩ :: H
  | .mkmap,_=>some ⟨0,[],true,0⟩ :: H
  | .mclone,[.ifc _ (.ptr _ id _ _)]=>some ⟨0,mEs H id,true,0⟩ :: H
  | .mput _,[.ptr _ id _ _,.sc k,v]=>mSet H id (mPut k v (mEs H id))
  | .mdel _,[.ptr _ id _ _,.sc k]=>mSet H id (mDel k (mEs H id))
  | .copyS,[.vec _ id off _ _,.sc (.string s)]=>match AHeap.find H id with
    | some blk=>AHeap.set H id (some { blk with es:=blk.es.take off ++ byteL s ++ blk.es.drop (off+s.size) })
    | none=>H
  | .appS ty,[d,.sc (.string s)]=>asH H ty s d
  | .ustr _,[p,_]=>usH H p
  | _,_=>H
theorem mSet_length {H : AHeap} {id : Nat} {es : List AV} : (mSet H id es).length=H.length:=by
  unfold mSet
  split
  · rw[AHeap.set_length]
  · rfl
theorem GX.heap_le {H : AHeap} {g : GX} {l : List AV} : H.length ≤ (GX.heap H g l).length:=by
  unfold GX.heap
  split
  · unfold gcH
    split
    · split
      · rw[AHeap.set_length];exact Nat.le_refl _
      · exact Nat.le_refl _
    · exact Nat.le_refl _
  · split
    · simp
    · exact Nat.le_refl _
  · simp
  · simp
  · simp
  · rw[mSet_length];exact Nat.le_refl _
  · rw[mSet_length];exact Nat.le_refl _
  · split
    · rw[AHeap.set_length];exact Nat.le_refl _
    · exact Nat.le_refl _
  · unfold asH
    repeat' split
    all_goals first | exact Nat.le_refl _ | (simp[AHeap.set_length];done)
  · unfold usH
    split
    · rw[AHeap.set_length];exact Nat.le_refl _
    · exact Nat.le_refl _
  · exact Nat.le_refl _
def fldK (P : Program) : Nat→List Field→Option (List (Option IntKind))
  | _,[]=>some []
  | i, f :: r => if (f.name != "_") = true ∧ f.offset = i ∧ sizeAgg P f.type = some (1, false) then match P.underlying f.type, fldK P (i + 1) r with
      | some .string,some ks=>some (none :: ks)
      | some (.int k),some ks=>some (some k :: ks)
      | _,_=>none
    else none
def eqTys (P : Program) (t : TypeId) : Option (List (Option IntKind)):=match P.underlying t with
  | some (.struct fs)=>if P.stoodInHeld t=false ∧ P.eqGuardType P.depth t=false then fldK P 0 fs.toList else none
  | some (.array n e)=>if P.eqGuardType P.depth t=false ∧ sizeAgg P e=some (1,false) then match P.underlying e with
      | some (.int k)=>some (List.replicate n (some k))
      | _=>none
    else none
  | _=>none
inductive ItK where
  | range
  | next
  | entry
def itB (id clock : Nat) (seen : List Nat) : ABlk:=⟨0,[.ptr 0 id 0 0,.sc (natsV (clock :: seen))],true,3⟩
def lkB (clock : Nat) (bs : List Nat) (es : List AV) (ex : Bool) : ABlk:=⟨0,.sc (natsV (clock :: bs)) :: es,ex,2⟩
def itK (K : AV→AHeap→Prop) (H : AHeap) : ItK→AV→Prop
  | .range,.ptr 0 id _ 0=>∃ (es : List AV) (ex : Bool),AHeap.find H id=some ⟨0,es,ex,0⟩ ∧ ∀ (clock : Nat) (bs : List Nat),bs.length=es.length→bs.Pairwise (· < ·)→K (.ptr 0 H.length 0 2) (some (itB id clock []) :: AHeap.set H id (some (lkB clock bs es ex)))
  | .next,.ptr 0 it _ 2=>∃ (id clock : Nat) (seen bs : List Nat) (es : List AV) (ex : Bool),AHeap.find H it=some (itB id clock seen) ∧ AHeap.find H id=some (lkB clock bs es ex) ∧ (∀ x ∈ es,∃ (k : Value) (v : AV),x = .tup [.sc k,v]) ∧
      ((∀ b ∈ bs,b ∈ seen)→K (.tup [.sc (.bool false)]) (AHeap.set H id (some ⟨0,es,ex,0⟩))) ∧
      ∀ (i b : Nat) (k : Value) (v : AV),bs[i]? = some b→es[i]? = some (.tup [.sc k,v])→b ∉ seen→K (.tup [.sc (.bool true),.sc k,v]) (AHeap.set H it (some (itB id clock (seen ++ [b]))))
  | .entry,.ptr 0 it _ 2=>∃ (id clock : Nat) (seen bs : List Nat) (es : List AV) (ex : Bool) (i b : Nat) (k : Value) (v : AV),AHeap.find H it=some (itB id clock (seen ++ [b])) ∧ AHeap.find H id=some (lkB clock bs es ex) ∧ bs[i]? = some b ∧ es[i]? = some (.tup [.sc k,v]) ∧ K (.tup [.sc k,v]) H
  | _,_=>False
theorem itK_mono {K K' : AV→AHeap→Prop} {H : AHeap} (hk : ∀ v H,K v H→K' v H) {kd : ItK} {x : AV} (h : itK K H kd x) : itK K' H kd x:=by
  unfold itK at h ⊢
  split at h
  · obtain ⟨es,ex,h1,h2⟩:=h
    exact ⟨es,ex,h1,fun c bs k1 k2=>hk _ _ (h2 c bs k1 k2)⟩
  · obtain ⟨id,clock,seen,bs,es,ex,h1,h2,h3,h4,h5⟩:=h
    exact ⟨id,clock,seen,bs,es,ex,h1,h2,h3,fun k=>hk _ _ (h4 k),fun i b k v k1 k2 k3=>hk _ _ (h5 i b k v k1 k2 k3)⟩
  · obtain ⟨id,clock,seen,bs,es,ex,i,b,k,v,h1,h2,h3,h4,h5⟩:=h
    exact ⟨id,clock,seen,bs,es,ex,i,b,k,v,h1,h2,h3,h4,hk _ _ h5⟩
  · exact h.elim
inductive HO where
  | itr (kd : ItK) (x : X)
  | gx (g : GX) (xs : List X)
  | load (n : Nat) (ag : Bool) (a : X)
  | alloc (z : AV) (ty : TypeId)
  | box (k : Nat) (ty : TypeId) (x : X)
  | bsl (k : Nat) (ty : TypeId) (z : AV) (ln : Nat) (parts : List (Nat × X))
  | bslV (k : Nat) (ty : TypeId) (z : AV) (ln : Nat) (parts : List (Nat × X))
  | store (n : Nat) (a x : X)
  | mksl (k : Nat) (ty : TypeId) (z : AV) (l c : X)
  | app (k : Nat) (ty : TypeId) (s x : X)
  | call (f : FuncId) (args : List X)
  | callv (f : X) (args : List X)
  | pan (x : X)
def lsOf (H : AHeap) (k : Nat) : AV→(List AV→Prop)→Prop
  | .lst k' ys _,K=>(k'=k ∨ ys=[]) ∧ K ys
  | .vec k' id off n _,K=>∃ blk,AHeap.find H id=some blk ∧ (k'=k ∧ blk.k=k ∧ off+n ≤ blk.es.length) ∧ K ((blk.es.drop off).take n)
  | _,_=>False
def AV.upd (e : AV) (f : Nat) (x : AV) : AV :=
  match e with
  | .agg cs=>.agg (cs.take f ++ x.cells ++ cs.drop (f+x.ncells))
  | _=>x
def elsA (ev : X→AV) (k : Nat) : List AV→List (Nat × X)→(List AV→Prop)→Prop
  | es,[],K=>K es
  | es,(i,x) :: r,K=>((ev x).isTop=false ∧ (ev x).ncells=k ∧ i < es.length) ∧ elsA ev k (es.set i (ev x)) r K
def HO.sem (P : Program) (ev : X→AV) (H : AHeap) (K Kp : AV→AHeap→Prop) : HO→Prop
  | .load n ag a=>match ev a with
    | .ptr k id j f=>∃ blk e,AHeap.find H id=some blk ∧ blk.es[j]? = some e ∧ (blk.k=k ∧ AV.subOk e f n ag ∧ 0 < k) ∧ K (AV.sub e f n ag) H
    | .lp x f=>AV.subOk x f n ag ∧ K (AV.sub x f n ag) H
    | _=>False
  | .alloc z ty=>K (.ptr z.ncells H.length 0 0) (some ⟨z.ncells,[z],true,ty⟩ :: H)
  | .box k ty x=>((ev x).isTop=false ∧ (ev x).ncells=k) ∧ K (.ptr k H.length 0 0) (some ⟨k,[ev x],true,ty⟩ :: H)
  | .bsl k ty z ln parts=>elsA ev k (List.replicate ln z) parts fun es=>K (.lst k es (some [])) H
  | .bslV k ty z ln parts=>elsA ev k (List.replicate ln z) parts fun es=>K (.vec k H.length 0 ln (some ln)) (some ⟨k,es,true,ty⟩ :: H)
  | .store n a x=>match ev a with
    | .ptr k id j f=>∃ blk e,AHeap.find H id=some blk ∧ blk.es[j]? = some e ∧ (blk.k=k ∧ (ev x).isTop=false ∧ (ev x).ncells=n ∧ f+n ≤ e.ncells ∧ (e.isAgg=false→(ev x).isAgg=false) ∧ 0 < k) ∧
        K .top (AHeap.set H id (some { blk with es:=blk.es.set j (AV.upd e f (ev x)) }))
    | _=>False
  | .mksl k ty z l c=>match ev l,ev c with
    | .sc (.int _ n),.sc (.int _ m)=>(0 ≤ n ∧ n ≤ m ∧ m ≤ 100000000) ∧ K (.vec k H.length 0 n.toNat (some m.toNat)) (some ⟨k,List.replicate m.toNat z,true,ty⟩ :: H)
    | _,_=>False
  | .app k ty s x=>lsOf H k (ev x) fun ys=>match ev s with
    | .lst k' xs (some [])=>((k'=k ∨ xs=[]) ∧ xs.length+ys.length ≤ 100000000) ∧ (ys=[]→K (.lst k' xs (some [])) H) ∧
        (ys ≠ []→K (.vec k H.length 0 (xs.length+ys.length) none) (some ⟨k,xs ++ ys,false,ty⟩ :: H))
    | .vec k' id off n c=>∃ blk,AHeap.find H id=some blk ∧ (k'=k ∧ blk.k=k ∧ blk.ty=ty ∧ off=0 ∧ n+ys.length ≤ 100000000) ∧
        match c with
        | none=>(blk.exact=false ∧ n=blk.es.length) ∧ K (.vec k H.length 0 (n+ys.length) none) (some ⟨k,blk.es ++ ys,false,ty⟩ :: AHeap.set H id none)
        | some m=>((blk.exact=true ∧ m=blk.es.length ∧ n ≤ m) ∨ (blk.exact=false ∧ n ≤ blk.es.length)) ∧
            (n+ys.length ≤ m→K (.vec k id 0 (n+ys.length) (some m)) (AHeap.set H id (some { blk with es:=blk.es.take n ++ ys ++ blk.es.drop (n+ys.length) }))) ∧
            (m < n+ys.length→K (.vec k H.length 0 (n+ys.length) none) (some ⟨k,blk.es.take n ++ ys,false,ty⟩ :: H))
    | _=>False
  | .gx g xs=>g.ok H (xs.map ev) ∧ K (g.val H (xs.map ev)) (g.heap H (xs.map ev))
  | .itr _ _=>False
  | .call f args=>∃ e H',D P f (args.map ev) H e H' ∧ AEnd.post K Kp H' e
  | .callv f args=>match ev f with
    | .fn (.func g) a b => (∃ fn, P.funcs[g]? = some fn ∧ fn.body.isSome ∧ fn.name ≠ "runtime.NumGoroutine") ∧ ∃ e H', D P g (a ++ args.map ev ++ b) H e H' ∧ AEnd.post K Kp H' e
    | _=>False
  | .pan x=>match ev x with
    | .ifc t v=>Kp (.ifc t v) H
    | _=>False
def callable (P : Program) (f : FuncId) : Bool :=
  match P.funcs[f]? with
  | some fn => fn.body.isSome && !(fn.name == "runtime.NumGoroutine")
  | none=>false
def elPartsOf : List (Nat × Operand)→Option (List (Nat × X))
  | []=>some []
  | (i,o) :: r=>match ofX o,elPartsOf r with
    | some x,some s=>some ((i,x) :: s)
    | _,_=>none
def xfnOk (fn : Func) : Bool := fn.body.isNone && !(fn.name == "runtime.NumGoroutine") && (Extern.findNext fn).isNone
def ovlIs (P : Program) (fn : Func) : Bool := fn.origin == "slices.overlaps" && (Extern.allGenericRows.lookup fn.name).isNone && (Extern.allTypedRows.lookup fn.name).isNone && (Extern.allRows.lookup fn.name).isNone &&
  (match fn.params.toList with
   | t :: _=>match P.underlying t with
     | some (.slice e)=>(P.info? e).isSome
     | _=>false
   | []=>false)
def keyK (P : Program) (t : TypeId) : Option (Option IntKind × TypeId):=match P.underlying t with
  | some (.map k e)=>match P.underlying k with
    | some .string=>some (none,e)
    | some (.int q)=>some (some q,e)
    | _=>none
  | _=>none
def zeroA (P : Program) (e : TypeId) : Option AV:=((P.info? e).bind (·.zero)).bind ofConst
def extH (P : Program) (f : FuncId) (args : Array Operand) : Option HO:=match P.funcs[f]?,ofXs args with
  | some fn, some xs => if xfnOk fn = true then (if fn.name = "internal/bytealg.IndexByteString" then some (.gx .idxb xs) else if ovlIs P fn = true then some (.gx .ovl xs) else if fn.name = "maps.clone" then some (.gx .mclone xs) else none) else none
  | _,_=>none
def compZ (P : Program) (s x : Operand) (t t' : TypeId) : Option HO:=match P.underlying t,P.underlying t' with
  | some (.slice e),some (.int _)=>match P.info? e,ofX s,ofX x with
    | some i,some s,some x=>match i.zero.bind ofConst with
      | some z=>if z.ncells=i.size ∧ 0 < i.size ∧ i.bytes ≤ 1000 ∧ z.isTop=false then some (.gx (.appz i.size e z) [s,x]) else none
      | none=>none
    | _,_,_=>none
  | _,_=>none
def compM (P : Program) (op : Op) : Option HO:=match op with
  | .makeMap t none=>match P.underlying t with
    | some (.map _ _)=>some (.gx .mkmap [])
    | _=>none
  | .lookup t x i ok=>match keyK P t,ofX x,ofX i with
    | some (q,e),some x,some i=>(zeroA P e).map fun z=>.gx (.mget q z ok) [x,i]
    | _,_,_=>none
  | .mapUpdate t m k v=>match keyK P t,ofX m,ofX k,ofX v with
    | some (q,_),some m,some k,some v=>some (.gx (.mput q) [m,k,v])
    | _,_,_,_=>none
  | .typeAssert x _ t false=>match P.underlying t,ofX x with
    | some (.map _ _),some x=>some (.gx (.tas t) [x])
    | _,_=>none
  | .insert t m k v=>match keyK P t,ofX m,ofX k,ofX v with
    | some (q,_),some m,some k,some v=>some (.gx (.mput q) [m,k,v])
    | _,_,_,_=>none
  | .call { callee:=.builtin .len,args,argTypes }=>match args.toList,argTypes.toList with
    | [x],[t]=>match P.underlying t,ofX x with
      | some (.map _ _),some x=>some (.gx .mlen [x])
      | _,_=>none
    | _,_=>none
  | .call { callee:=.builtin .delete,args,argTypes }=>match args.toList,argTypes.toList with
    | [m,k],t :: _=>match keyK P t,ofX m,ofX k with
      | some (q,_),some m,some k=>some (.gx (.mdel q) [m,k])
      | _,_,_=>none
    | _,_=>none
  | _=>none
def compH0 (P : Program) (vecs : Bool) (o : Oper) : Option HO :=
  match o.op with
  | .load t a=>match sizeAgg P t,ofX a with
    | some (n,ag),some a=>some (.load n ag a)
    | _,_=>none
  | .alloc t=>match (P.info? t).bind (·.zero) with
    | some z=>match ofZero z with
      | some z'=>if z'.isTop=false ∧ 0 < z'.ncells then some (.alloc z' t) else none
      | none=>none
    | none=>none
  | .box t x=>match P.info? t,ofX x with
    | some i,some x=>if 0 < i.size then some (.box i.size t x) else none
    | _,_=>none
  | .buildSlice t ln parts=>match P.underlying t with
    | some (.slice e)=>match P.info? e with
      | some i=>match i.zero.bind ofConst,elPartsOf parts.toList with
        | some z,some ps=>if z.ncells=i.size ∧ 0 < i.size ∧ ln * i.size ≤ 1000000 ∧ z.isTop=false then some (if vecs then .bslV i.size e z ln ps else .bsl i.size e z ln ps) else none
        | _,_=>none
      | none=>none
    | _=>none
  | .store t a x=>match P.info? t,ofX a,ofX x with
    | some i,some a,some x=>some (.store i.size a x)
    | _,_,_=>none
  | .makeSlice t l c=>match P.underlying t with
    | some (.slice e)=>match P.info? e,ofX l,ofX c with
      | some i,some l,some c=>match i.zero.bind ofConst with
        | some z=>if z.ncells=i.size ∧ 0 < i.size ∧ i.bytes ≤ 1000 ∧ z.isTop=false then some (.mksl i.size e z l c) else none
        | none=>none
      | _,_,_=>none
    | _=>none
  | .call { callee:=.builtin .append,args,argTypes }=>match args.toList,argTypes.toList with
    | [s,x],[t,t']=>if t=t' then match P.underlying t with
      | some (.slice e)=>match P.info? e,ofX s,ofX x with
        | some i,some s,some x=>match i.zero with
          | some z=>if z.cells.size=i.size ∧ 0 < i.size ∧ i.bytes ≤ 1000 then some (.app i.size e s x) else none
          | none=>none
        | _,_,_=>none
      | _=>none
      else compZ P s x t t'
    | _,_=>none
  | .call { callee:=.value (.func f),args,.. }=>if callable P f then (ofXs args).map (.call f) else extH P f args
  | .call { callee:=.value (.tmp t),args,.. }=>(ofXs args).map (.callv (.t t))
  | .panic x=>(ofX x).map .pan
  | .convert s d x=>match P.underlying s,P.underlying d,ofX x with
    | some .string,some (.slice e),some x=>if isU8 P e=true then some (.gx .s2b [x]) else none
    | _,_,_=>none
  | .call { callee:=.builtin .cap,args,argTypes }=>match args.toList,argTypes.toList with
    | [x],[t]=>match P.underlying t,ofX x with
      | some (.slice _),some x=>some (.gx .cap [x])
      | _,_=>none
    | _,_=>none
  | .call { callee:=.builtin .copy,args,argTypes }=>match args.toList,argTypes.toList with
    | [d,s],[t,t']=>if t=t' then match P.underlying t with
      | some (.slice e)=>match P.info? e,ofX d,ofX s with
        | some i,some d,some s=>if 0 < i.size then some (.gx (.copy i.size) [d,s]) else none
        | _,_,_=>none
      | _=>none
      else none
    | _,_=>none
  | .binOp op t x y _=>match eqTys P t,ofX x,ofX y with
    | some ks,some x,some y=>match op with
      | .eql=>some (.gx (.eqA true ks) [x,y])
      | .neq=>some (.gx (.eqA false ks) [x,y])
      | _=>none
    | _,_,_=>none
  | op=>compM P op
def liesTys (P : Program) (u : TypeId) : List TypeId:=(List.range P.types.size).filter fun T=>P.cellsOf T == 2 && liesAt P P.depth T 1 0 u 1
def compU (P : Program) (o : Oper) : Option HO:=match o.op with
  | .call { callee:=.builtin .copy,args,argTypes }=>match args.toList,argTypes.toList with
    | [d,s],[t,t']=>match P.underlying t,P.underlying t',ofX d,ofX s with
      | some (.slice e),some .string,some d,some s=>if isU8 P e=true ∧ (P.info? e).map (·.size)=some 1 then some (.gx .copyS [d,s]) else none
      | _,_,_,_=>none
    | _,_=>none
  | .call { callee:=.builtin .append,args,argTypes }=>match args.toList,argTypes.toList with
    | [d,s],[t,t']=>match P.underlying t,P.underlying t',ofX d,ofX s with
      | some (.slice e),some .string,some d,some s=>match P.info? e with
        | some i=>if isU8 P e=true ∧ i.size=1 ∧ i.bytes=1 ∧ (i.zero.any fun z=>z.cells.size == 1)=true then some (.gx (.appS e) [d,s]) else none
        | none=>none
      | _,_,_,_=>none
    | _,_=>none
  | .call { callee:=.builtin .unsafeString,args,argTypes }=>match args.toList,argTypes.toList with
    | [p,n],[t,_]=>match P.underlying t,ofX p,ofX n with
      | some (.pointer e),some p,some n=>if isU8 P e=true ∧ P.cellsOf e=1 then some (.gx (.ustr e) [p,n]) else none
      | _,_,_=>none
    | _,_=>none
  | .call { callee:=.builtin .unsafeSliceData,args,.. }=>match args.toList with
    | [s]=>(ofX s).map fun s=>.gx .sdata [s]
    | _=>none
  | .binOp op t x y _=>match P.underlying t,ofX x with
    | some (.pointer e),some x'=>match op,y with
      | .eql,.const (.pointer none)=>some (.gx (.nilP true) [x'])
      | .neq,.const (.pointer none)=>some (.gx (.nilP false) [x'])
      | .eql,y=>if (P.info? e).any (fun i=>0 < i.size) then (ofX y).map fun y=>.gx (.eqP true) [x',y] else none
      | .neq,y=>if (P.info? e).any (fun i=>0 < i.size) then (ofX y).map fun y=>.gx (.eqP false) [x',y] else none
      | _,_=>none
    | some (.map _ _),some x'=>match op,y with
      | .eql,.const (.map none)=>some (.gx (.nilM true) [x'])
      | .neq,.const (.map none)=>some (.gx (.nilM false) [x'])
      | _,_=>none
    | _,_=>none
  | .convert s d x=>match P.underlying s,P.underlying d,ofX x with
    | some (.pointer e),some .unsafePointer,some x=>if (P.info? e).any (fun i=>0 < i.size) then some (.gx .toU [x]) else none
    | some .unsafePointer,some (.pointer u),some x=>if (P.info? u).isSome then some (.gx (.fromU (liesTys P u)) [x]) else none
    | _,_,_=>none
  | .call { callee:=.value (.func f),args,.. }=>match P.funcs[f]?,ofXs args with
    | some fn, some xs => if xfnOk fn = true then (if fn.name = "internal/abi.NoEscape" then some (.gx .same1 xs) else if fn.name = "internal/bytealg.CountString" then some (.gx .cntb xs) else none) else none
    | _,_=>none
  | _=>none
theorem compU_gx {P : Program} {o : Oper} {q : HO} (h : compU P o=some q) : ∃ g xs,q = .gx g xs:=by
  unfold compU at h
  repeat' split at h
  all_goals first | (simp at h;done) | (cases h;exact ⟨_,_,rfl⟩) | (rw[Option.map_eq_some_iff] at h;obtain ⟨_,_,rfl⟩:=h;exact ⟨_,_,rfl⟩)
def compI (P : Program) (op : Op) : Option HO:=match op with
  | .range t x=>match P.underlying t,ofX x with
    | some (.map _ _),some x=>some (.itr .range x)
    | _,_=>none
  | .next x false=>(ofX x).map (.itr .next)
  | .entry x=>(ofX x).map (.itr .entry)
  | _=>none
def compU2 (P : Program) (o : Oper) : Option HO:=match compU P o with
  | some q=>some q
  | none=>compI P o.op
theorem compI_itr {P : Program} {op : Op} {q : HO} (h : compI P op=some q) : ∃ kd x,q = .itr kd x:=by
  unfold compI at h
  repeat' split at h
  all_goals first | (simp at h;done) | (cases h;exact ⟨_,_,rfl⟩) | (rw[Option.map_eq_some_iff] at h;obtain ⟨_,_,rfl⟩:=h;exact ⟨_,_,rfl⟩)
theorem compU2_gx {P : Program} {o : Oper} {q : HO} (h : compU2 P o=some q) : (∃ g xs,q = .gx g xs) ∨ (∃ kd x,q = .itr kd x):=by
  unfold compU2 at h
  split at h
  · rename_i h1;cases h;exact .inl (compU_gx h1)
  · exact .inr (compI_itr h)
def compH (P : Program) (vecs : Bool) (o : Oper) : Option HO:=match compH0 P vecs o with
  | some q=>some q
  | none=>compU2 P o
def HSound (P : Program) (o : Oper) (op : HO) : Prop :=
  ∀ (φ : Phi) (H : AHeap) (w : World) (ts : List AV) (a : Act),Rel φ H w→FR φ (Own φ H) w ts a→∀ K Kp : AV→AHeap→Prop,HO.sem P (X.ev ts) H K Kp op →
    ∀ (next : Act→World→Prop) (Q : Exit→Act→World→Prop),
    (∀ v u φ' H' w',K v H'→VR φ' (Own φ' H') w' v u→Rel φ' H' w'→Step φ H w φ' H' w'→next (a.put o.dst u) w') →
    (∀ v u φ' H' w',Kp v H'→ChR φ' (Own φ' H') w' v u→Rel φ' H' w'→Step φ H w φ' H' w'→Q (.panic u) a w') →
    o.wp P a w next Q
section
variable {P : Program}
theorem wp_value {o : Oper} {a : Act} {w w' : World} {next : Act→World→Prop} {Q : Exit→Act→World→Prop} {u : Value} (hr : (execOp a.eval o).run P w = .ok (.value u) w') (h : next (a.put o.dst u) w') : o.wp P a w next Q:=by
  unfold Oper.wp
  rw[hr]
  exact h
theorem wp_skip' {o : Oper} {a : Act} {w w' : World} {next : Act→World→Prop} {Q : Exit→Act→World→Prop} (hr : (execOp a.eval o).run P w = .ok .skip w') (h : next (a.put o.dst undef) w') : o.wp P a w next Q:=by
  unfold Oper.wp
  rw[hr]
  exact h
theorem hs_load {o : Oper} {t : TypeId} {n : Nat} {ag : Bool} {x : Operand} {x' : X} (ho : o.op = .load t x) (hs : sizeAgg P t=some (n,ag)) (hx : ofX x=some x') : HSound P o (.load n ag x'):=by
  intro φ H w ts a hR hr K Kp h next Q hn hp
  have hv:=ofX_spec hr hx
  simp only[HO.sem] at h
  cases he : X.ev ts x' <;> rw[he] at h hv <;> try exact False.elim h
  · obtain ⟨blk,e,h1,h2,⟨rfl,h3,hk0⟩,h4⟩:=h
    obtain ⟨b,h5,h6⟩:=VR_ptr hv
    rw[ptrV_pos hk0] at h6
    obtain ⟨h7,h8⟩:=hR.elem h5 h1 h2 hk0
    obtain ⟨u,h9,h10⟩:=load_run hs h8 h3
    exact wp_value (by simp[execOp,ho,h6,Instr.loadAt,Instr.sureAddr,h9]) (hn _ _ _ _ _ h4 h10 hR (Step.refl _ _ _))
  · obtain ⟨h1,h2⟩:=h
    obtain ⟨b,off,h3,h4,h5,h6,h7⟩:=VR_lp hv
    obtain ⟨u,h9,h10⟩:=load_run hs (R_Rs h7 h6) h1
    exact wp_value (by simp[execOp,ho,h3,Instr.loadAt,Instr.sureAddr,h9]) (hn _ _ _ _ _ h2 h10 hR (Step.refl _ _ _))
theorem ptr_new {φ : Phi} {O : Nat→Prop} {w : World} {H : AHeap} {k b : Nat} (hk0 : 0 < k) : VR (φ.add H.length b) O w (.ptr k H.length 0 0) (.pointer (some ⟨b,0,none⟩)) :=
  ⟨rfl,b,by simp[Phi.add],by simp[cget,Value.cells,ptrV_pos hk0]⟩
theorem newVar_run {φ : Phi} {H : AHeap} {w : World} (hR : Rel φ H w) {x : AV} {v : Value} (hv : VR φ (Own φ H) w x v) (ht : x.isTop=false) {k : Nat} (hk : x.ncells=k) (hk0 : 0 < k) (t : TypeId) :
    (newVar t v).run P w = .ok ⟨w.heap.size,0,none⟩ (w.alloc (.cells v.cells t)) ∧
    Rel (φ.add H.length w.heap.size) (some ⟨k,[x],true,t⟩ :: H) (w.alloc (.cells v.cells t)) ∧ Step φ H w (φ.add H.length w.heap.size) (some ⟨k,[x],true,t⟩ :: H) (w.alloc (.cells v.cells t)):=by
  have hsz:=cells_size hv ht
  have:=hR.alloc ⟨k,[x],true,t⟩ hk0 v.cells 1 (by simp[hsz,hk]) (by simp) (by simp) (by unfold maxLen;omega) (by simp[hk]) (by simp only[flat,List.flatMap_cons,List.flatMap_nil,List.append_nil];exact VR_Rs hv ht)
  exact ⟨by simp[newVar,newRow],this.1,this.2⟩
theorem hs_alloc {o : Oper} {t : TypeId} {i : TypeInfo} {zv : Value} {z : AV} (ho : o.op = .alloc t) (hi : P.info? t=some i) (hz : i.zero=some zv) (hc : ofZero zv=some z) (ht : z.isTop=false) (hk0 : 0 < z.ncells) : HSound P o (.alloc z t):=by
  intro φ H w ts a hR hr K Kp h next Q hn hp
  have hv : VR φ (Own φ H) w z zv:=ofZero_spec hc
  obtain ⟨h1,h2,h3⟩:=newVar_run (P:=P) hR hv ht rfl hk0 t
  refine wp_value (u:=.pointer (some ⟨w.heap.size,0,none⟩)) ?_ (hn _ _ _ _ _ h (ptr_new hk0) h2 h3)
  simp only[execOp,ho,Instr.alloc,zeroValue,typeInfo,Sem.run_bind,run_program,hi,Result.andThen_ok,Sem.run_pure,hz,h1]
theorem hs_box {o : Oper} {t : TypeId} {k : Nat} {x : Operand} {x' : X} (hk0 : 0 < k) (ho : o.op = .box t x) (hx : ofX x=some x') : HSound P o (.box k t x'):=by
  intro φ H w ts a hR hr K Kp h next Q hn hp
  have hv:=ofX_spec hr hx
  obtain ⟨⟨g1,g2⟩,h⟩:=h
  obtain ⟨h1,h2,h3⟩:=newVar_run (P:=P) hR hv g1 g2 hk0 t
  refine wp_value (u:=.pointer (some ⟨w.heap.size,0,none⟩)) ?_ (hn _ _ _ _ _ h (ptr_new hk0) h2 h3)
  simp only[execOp,ho,Instr.box,Sem.run_bind,h1,Result.andThen_ok,Sem.run_pure]
theorem upd_cells {e x : AV} {f n : Nat} (hx : x.ncells=n) (hf : f+n ≤ e.ncells) (ha : e.isAgg=false→x.isAgg=false) :
    (AV.upd e f x).cells=e.cells.take f ++ x.cells ++ e.cells.drop (f+n) ∧ (AV.upd e f x).ncells=e.ncells:=by
  have hxl : x.cells.length=n:=by rw[← AV.ncells_eq,hx]
  have key : e.isAgg=false→(AV.upd e f x).cells=e.cells.take f ++ x.cells ++ e.cells.drop (f+n) ∧ (AV.upd e f x).ncells=e.ncells:=by
    intro he
    have hu : AV.upd e f x=x:=by cases e <;> first | rfl | (simp[AV.isAgg] at he)
    have hx1 : n=1:=by
      have:=ha he
      cases x <;> first | (simp[AV.isAgg] at this;done) | (simpa [AV.ncells] using hx.symm)
    have he1 : e.ncells=1:=by cases e <;> first | rfl | (simp[AV.isAgg] at he)
    have hf0 : f=0:=by omega
    subst hf0
    subst hx1
    rw[hu,he1,hx]
    have hl : e.cells.length=1:=by rw[← AV.ncells_eq,he1]
    simp[List.drop_of_length_le (l:=e.cells) (i:=1) (by omega)]
  cases e with
  | agg cs =>
    subst hx
    refine ⟨rfl,?_⟩
    show (cs.take f ++ x.cells ++ cs.drop (f+x.ncells)).length=cs.length
    have hf' : f+x.ncells ≤ cs.length:=hf
    simp only[List.length_append,List.length_take,List.length_drop,hxl]
    omega
  | _=>exact key rfl
theorem flat_set {k : Nat} {es : List AV} (hk : ∀ x ∈ es,x.ncells=k) {j : Nat} {e e' : AV} (hj : es[j]? = some e) : flat (es.set j e')=(flat es).take (j * k) ++ e'.cells ++ (flat es).drop (j * k+k):=by
  have hlt : j < es.length:=(List.getElem?_eq_some_iff.1 hj).1
  rw[List.set_eq_take_append_cons_drop,if_pos hlt,flat_append,flat_cons,flat_take hk,flat_drop hk]
  rw[show (j+1) * k=j * k+k from by rw[Nat.add_mul,Nat.one_mul]]
  simp
theorem splice {α : Type} {L X : List α} {p k f n : Nat} (hX : X.length=n) (hf : f+n ≤ k) (hp : p+k ≤ L.length) :
    L.take p ++ (((L.drop p).take k).take f ++ X ++ ((L.drop p).take k).drop (f+n)) ++ L.drop (p+k)=L.take (p+f) ++ X ++ L.drop (p+f+n):=by
  have h1 : L.take (p+f)=L.take p ++ (L.drop p).take f:=List.take_add
  have h2 : ((L.drop p).take k).take f=(L.drop p).take f:=by rw[List.take_take];congr 1;omega
  have h3 : L.drop (p+f+n)=((L.drop p).take k).drop (f+n) ++ L.drop (p+k):=by
    have h5 : L.drop (p+f+n)=(L.drop p).drop (f+n):=by rw[List.drop_drop];congr 1;omega
    have h6 : L.drop (p+k)=(L.drop p).drop k:=by rw[List.drop_drop]
    have h4 : ((L.drop p).take k ++ (L.drop p).drop k).drop (f+n)=((L.drop p).take k).drop (f+n) ++ (L.drop p).drop k:=by
      rw[List.drop_append_of_le_length]
      simp
      omega
    rw[h5,h6,← h4,List.take_append_drop]
  rw[h1,h2,h3]
  simp
theorem hs_store {o : Oper} {t : TypeId} {i : TypeInfo} {x y : Operand} {x' y' : X} (ho : o.op = .store t x y) (hi : P.info? t=some i) (hx : ofX x=some x') (hy : ofX y=some y') : HSound P o (.store i.size x' y'):=by
  intro φ H w ts a hR hr K Kp h next Q hn hp
  have hv:=ofX_spec hr hx
  have hw:=ofX_spec hr hy
  simp only[HO.sem] at h
  cases he : X.ev ts x' <;> rw[he] at h hv <;> try exact False.elim h
  rename_i k id j f
  obtain ⟨blk,e,h1,h2,⟨rfl,h3,h4,h5,h6,hk0⟩,h7⟩:=h
  obtain ⟨b,h8,h9⟩:=VR_ptr hv
  rw[ptrV_pos hk0] at h9
  obtain ⟨cur,cap,a1,a2,a3,a4,a5,a6⟩:=(hR.blk id b blk h8 h1).cells hk0
  obtain ⟨f1,f2⟩:=Rl_flat a6
  have hlt : j < blk.es.length:=(List.getElem?_eq_some_iff.1 h2).1
  have hek : e.ncells=blk.k:=f1 e (List.mem_of_getElem? h2)
  have hsz:=cells_size hw h3
  have hcs:=VR_Rs hw h3
  obtain ⟨u1,u2⟩:=upd_cells (e:=e) (x:=X.ev ts y') h4 h5 h6
  have hone : ∀ v ∈ (a.eval y).cells.toList,v.oneCell'=true:=by
    obtain ⟨us,c1,c2,c3⟩:=Rs_cells hcs
    intro v hv'
    refine c3 v ?_
    obtain ⟨q,hq⟩:=List.getElem?_of_mem hv'
    have hq' : q < (X.ev ts y').cells.length:=by
      have:=(List.getElem?_eq_some_iff.1 hq).1
      rw[← AV.ncells_eq,← hsz]
      simpa using this
    have:=c2 q hq'
    unfold cget at this
    rw[← Array.getElem?_toList,hq] at this
    exact List.mem_of_getElem? this.symm
  have hjk : j * blk.k+blk.k ≤ cap * blk.k:=by
    have:=Nat.mul_le_mul_right blk.k (show j+1 ≤ cap from by omega)
    rwa [Nat.add_mul,Nat.one_mul] at this
  have hvl : (a.eval y).cells.toList.length=i.size:=by simp[hsz,h4]
  have hst:=run_storeCells_at P b (j * blk.k+f) blk.ty (a.eval y).cells.toList 0 cur w a1 (by rw[hvl];omega) hone
  have hrun : (execOp a.eval o).run P w = .ok .skip (w.setRow b (cur.toList.take (j * blk.k+f) ++ (a.eval y).cells.toList ++ cur.toList.drop (j * blk.k+f+i.size)).toArray):=by
    rw[Nat.add_zero,hvl] at hst
    have hsz' : (a.eval y).cells.size=i.size:=by rw[hsz,h4]
    simp only[execOp,ho,h9,Instr.storeAt,Instr.sureAddr,storeVar,Sem.run_bind,Sem.run_pure,Result.andThen_ok,rn_size hi,hsz',ne_eq,not_true_eq_false,if_false,hst]
  have hfl : (flat blk.es).length=blk.es.length * blk.k:=flat_length f1
  have hcl : blk.es.length * blk.k ≤ cap * blk.k:=Nat.mul_le_mul_right _ a3
  have hjl : j * blk.k+blk.k ≤ blk.es.length * blk.k:=by
    have:=Nat.mul_le_mul_right blk.k (show j+1 ≤ blk.es.length from by omega)
    rwa [Nat.add_mul,Nat.one_mul] at this
  have hfk : f+i.size ≤ blk.k:=by omega
  have hxl : (X.ev ts y').cells.length=i.size:=by rw[← AV.ncells_eq,h4]
  have hec : e.cells=((flat blk.es).drop (j * blk.k)).take blk.k:=by
    rw[← flat_drop f1,List.drop_eq_getElem_cons hlt,flat_cons]
    have : blk.es[j]=e:=by
      have:=List.getElem?_eq_some_iff.1 h2
      exact this.2
    rw[this,← hek,AV.ncells_eq,List.take_left]
  have hflat : flat (blk.es.set j (AV.upd e f (X.ev ts y')))=(flat blk.es).take (j * blk.k+f) ++ (X.ev ts y').cells ++ (flat blk.es).drop (j * blk.k+f+i.size):=by
    rw[flat_set f1 h2,u1,hec]
    exact splice hxl hfk (by omega)
  have hwr:=hR.write hk0 h8 h1 a1 a2 (blk.es.set j (AV.upd e f (X.ev ts y'))) (cur':=(cur.toList.take (j * blk.k+f) ++ (a.eval y).cells.toList ++ cur.toList.drop (j * blk.k+f+i.size)).toArray)
    (by simp only[List.size_toArray,List.length_append,List.length_take,List.length_drop,Array.length_toList,hsz,h4];omega) (by simpa using a3) a5 (by simpa using a4)
    (fun q hq=>by
      rcases List.mem_or_eq_of_mem_set hq with hq | rfl
      · exact f1 q hq
      · rw[u2];exact hek)
    (by
      rw[hflat]
      refine Rs_append (Rs_append (Rs_congr (fun q hq=>?_) (Rs_take (n:=j * blk.k+f) f2)) (Rs_congr (fun q hq=>?_) hcs)) (Rs_congr (fun q hq=>?_) (Rs_drop (f:=j * blk.k+f+i.size) f2))
      · have hq' : q < j * blk.k+f:=by simp at hq;omega
        simp only[List.getElem?_toArray]
        rw[List.getElem?_append_left (by simp;omega),List.getElem?_append_left (by simp;omega),List.getElem?_take_of_lt hq']
        simp[memAt,World.cell?,a1]
      · have hl : ((flat blk.es).take (j * blk.k+f)).length=j * blk.k+f:=by simp[hfl];omega
        rw[hl]
        simp only[List.getElem?_toArray]
        have hl2 : (cur.toList.take (j * blk.k+f)).length=j * blk.k+f:=by simp;omega
        rw[List.getElem?_append_left (by simp[hsz,h4];omega),List.getElem?_append_right (by omega),hl2]
        simp[cget]
      · have hl : ((flat blk.es).take (j * blk.k+f) ++ (X.ev ts y').cells).length=j * blk.k+f+i.size:=by simp[hfl,hxl];omega
        rw[hl]
        simp only[List.getElem?_toArray]
        have hl2 : (cur.toList.take (j * blk.k+f) ++ (a.eval y).cells.toList).length=j * blk.k+f+i.size:=by simp[hsz,h4];omega
        rw[List.getElem?_append_right (by omega),hl2]
        simp[memAt,World.cell?,a1])
  exact wp_skip' hrun (hn _ _ _ _ _ h7 (vr_top _) hwr.1 hwr.2)
end
end Go.Proofs.YtdjnccnecgblmaaGreatDoor
namespace Go.Proofs.YtdjnccnecgblmaaGreatDoor
open Go.RowKit
set_option linter.unusedVariables false
set_option linter.unusedSimpArgs false
section
variable {P : Program} {φ : Phi} {O : Nat→Prop} {w : World}
theorem elsA_fill {ev : X→AV} {k : Nat} {K : List AV→Prop} : ∀ {ps : List (Nat × X)} {es : List AV},elsA ev k es ps K→(∀ x ∈ es,x.ncells=k) →
    fillA ev (flat es) (ps.map fun (i,x)=>(i * k,k,x)) (fun cs=>∃ es',cs=flat es' ∧ (∀ x ∈ es',x.ncells=k) ∧ es'.length=es.length ∧ K es')
  | [],es,h,hk=>⟨es,rfl,hk,rfl,h⟩
  | (i,x) :: r,es,h,hk=>by
    obtain ⟨⟨h1,h2,h3⟩,h4⟩:=h
    have hj : es[i]? = some es[i]:=by simp[h3]
    have hk' : ∀ y ∈ es.set i (ev x),y.ncells=k:=fun y hy=>by
      rcases List.mem_or_eq_of_mem_set hy with hy | rfl
      · exact hk y hy
      · exact h2
    have ih:=elsA_fill h4 hk'
    rw[flat_set hk hj] at ih
    refine ⟨⟨h1,h2,?_⟩,?_⟩
    · rw[flat_length hk]
      have:=Nat.mul_le_mul_right k (show i+1 ≤ es.length from h3)
      rwa [Nat.add_mul,Nat.one_mul] at this
    · simpa using ih
theorem elParts_parts {k : Nat} : ∀ {l : List (Nat × Operand)} {ps : List (Nat × X)},elPartsOf l=some ps→partsOf (fun i=>some (i * k,k)) l=some (ps.map fun (i,x)=>(i * k,k,x))
  | [],ps,h=>by simp[elPartsOf] at h;subst h;rfl
  | (i,o) :: r,ps,h=>by
    unfold elPartsOf at h
    split at h
    case h_2=>simp at h
    rename_i x s h1 h2
    cases h
    simp[partsOf,h1,elParts_parts h2]
theorem Rs_replicate {z : AV} {zc : Array Value} {k : Nat} (hz : Rs φ O w z.cells (fun i=>zc[i]?)) (hk : z.ncells=k) (hk0 : 0 < k) : ∀ (n : Nat) (g : Nat→Option Value),(∀ i,i < n * k→g i=zc[i % k]?)→Rs φ O w (flat (List.replicate n z)) g
  | 0,g,_=>by simp[flat,Rs]
  | n+1,g,h=>by
    rw[List.replicate_succ,flat_cons]
    have hl : z.cells.length=k:=by rw[← AV.ncells_eq,hk]
    refine Rs_append (Rs_congr (fun i hi=>?_) hz) (Rs_replicate hz hk hk0 n _ fun i hi=>?_)
    · rw[hl] at hi
      rw[h i (by rw[Nat.add_mul];omega),Nat.mod_eq_of_lt hi]
    · rw[hl,h (k+i) (by rw[Nat.add_mul];omega),Nat.add_mod_left]
theorem zeros_get {zc : Array Value} {k n i : Nat} (hk : zc.size=k) (hk0 : 0 < k) (hi : i < n * k) : ((Array.range (n * k)).map (zc[· % zc.size]!))[i]? = zc[i % k]?:=by
  have hm : i % k < zc.size:=by rw[hk];exact Nat.mod_lt _ hk0
  rw[Array.getElem?_map,Array.getElem?_range,if_pos hi,Option.map_some,hk]
  rw[getElem!_pos zc (i % k) hm,getElem?_pos zc (i % k) hm]
theorem bsl_run {H : AHeap} {ts : List AV} {a : Act} (hr : FR φ O w ts a) {t e : TypeId} {i : TypeInfo} {zv : Value} {z : AV} {ln : Nat} {parts : Array (Nat × Operand)} {ps : List (Nat × X)}
    (ht : P.underlying t=some (.slice e)) (hi : P.info? e=some i) (hz : i.zero=some zv) (hc : ofConst zv=some z) (hp : elPartsOf parts.toList=some ps) (hk : z.ncells=i.size) (hk0 : 0 < i.size) (hsm : ln * i.size ≤ 1000000) (ht0 : z.isTop=false)
    {K : List AV→Prop} (h : elsA (X.ev ts) i.size (List.replicate ln z) ps K) :
    ∃ es cells,K es ∧ es.length=ln ∧ (∀ x ∈ es,x.ncells=i.size) ∧ cells.size=ln * i.size ∧ Rs φ O w (flat es) (fun i=>(cells : Array Value)[i]?) ∧
      (Instr.buildSlice t ln (parts.map fun (i,x)=>(i,a.eval x))).run P w = .ok (.slice (some ⟨w.heap.size,0,none⟩) ln ln) (w.alloc (.cells cells e)):=by
  have hzv : VR φ O w z zv:=ofConst_spec hc
  have hzs:=cells_size hzv ht0
  rw[hk] at hzs
  have hzr:=VR_Rs hzv ht0
  have hks : ∀ x ∈ List.replicate ln z,x.ncells=i.size:=fun x hx=>by rw[List.eq_of_mem_replicate hx];exact hk
  have hinit:=Rs_replicate (zc:=zv.cells) hzr hk hk0 ln (fun j=>((Array.range (ln * i.size)).map (zv.cells[· % zv.cells.size]!))[j]?) (fun j hj=>zeros_get hzs hk0 hj)
  obtain ⟨cs,cells,⟨es,rfl,h1,h2,h3⟩,h4,h5,h6⟩:=fill_run hr (elParts_parts (k:=i.size) hp) (cells:=(Array.range (ln * i.size)).map (zv.cells[· % zv.cells.size]!)) hinit
    (by rw[flat_length hks];simp) (elsA_fill h hks)
  have hlen : es.length=ln:=by simpa using h2
  refine ⟨es,cells,h3,hlen,h1,by rw[h5,flat_length h1,hlen],h6,?_⟩
  by_cases hl0 : ln=0
  · subst hl0
    have h0 : ∀ g : Nat→Value,(Array.range (0 * i.size)).map g=#[]:=fun g=>by
      have : (0 * i.size)=0:=Nat.zero_mul _
      rw[this,show Array.range 0=#[] by simp,Array.map_empty]
    rw[h0] at h4
    have h4' : Instr.fill (fun j=>some (j * i.size,i.size)) #[] (parts.map fun (i,x)=>(i,a.eval x)).toList=some cells:=by simpa using h4
    simp only[Instr.buildSlice,Sem.run_bind,rn_under ht,Result.andThen_ok,rn_size hi,Sem.run_pure,h0]
    simp[newRow]
    have h5' : Instr.fill (fun j=>some (j * i.size,i.size)) #[] (List.map (fun x=>(x.fst,a.eval x.snd)) parts.toList)=some cells:=by simpa using h4'
    rw[h5']
    simp
  · have h7 : ¬ ln * i.size=0:=by
      have:=Nat.mul_pos (Nat.pos_of_ne_zero hl0) hk0
      omega
    exact run_buildSlice w t e ln _ cells i zv ht hi hz (by omega) h7 (by simpa using h4)
theorem hs_bsl {o : Oper} {t e : TypeId} {i : TypeInfo} {zv : Value} {z : AV} {ln : Nat} {parts : Array (Nat × Operand)} {ps : List (Nat × X)} (ho : o.op = .buildSlice t ln parts)
    (ht : P.underlying t=some (.slice e)) (hi : P.info? e=some i) (hz : i.zero=some zv) (hc : ofConst zv=some z) (hp : elPartsOf parts.toList=some ps) (hk : z.ncells=i.size) (hk0 : 0 < i.size) (hsm : ln * i.size ≤ 1000000) (ht0 : z.isTop=false) :
    HSound P o (.bsl i.size e z ln ps):=by
  intro φ H w ts a hR hr K Kp h next Q hn hpp
  obtain ⟨es,cells,h1,h2,h3,h4,h5,h6⟩:=bsl_run (H:=H) hr ht hi hz hc hp hk hk0 hsm ht0 h
  have hold : ∀ b,b < w.heap.size→(w.alloc (.cells cells e)).heap[b]? = w.heap[b]?:=fun b hb=>heap_alloc_old w _ hb
  have hs : Step φ H w φ H (w.alloc (.cells cells e)):=grow_step rfl rfl rfl (by simp) hold
  have hno : ¬ Own φ H w.heap.size:=by
    rintro ⟨id,k,g1,_⟩
    have:=(hR.dom id _ g1).2
    omega
  have hrl : Rl φ (Own φ H) (w.alloc (.cells cells e)) w.heap.size i.size es 0:=by
    refine flat_Rl h3 (Rs_later hs.toLater _ _ _ (AV.idsL_true _) (fun j v hv=>?_) h5)
    unfold memAt
    rw[Nat.zero_add,World.cell?_alloc_at _ _ _ _ rfl]
    exact hv
  refine wp_value (u:=.slice (some ⟨w.heap.size,0,none⟩) ln ln) (w':=w.alloc (.cells cells e)) ?_ (hn _ _ _ _ _ h1 ⟨rfl,_,ln,by rw[h2];rfl,by omega,?_,fun h=>by simp at h,fun _=>⟨_,_,rfl,hno,by simp,hrl⟩,?_,fun h=>by simp at h⟩ (hR.grow (by simp) hold) hs)
  · simp only[execOp,ho,Sem.run_bind,h6,Result.andThen_ok,Sem.run_pure]
  · have : ln * 1 ≤ ln * i.size:=Nat.mul_le_mul_left _ hk0
    unfold maxLen
    omega
  · simp[h2]
theorem hs_bslV {o : Oper} {t e : TypeId} {i : TypeInfo} {zv : Value} {z : AV} {ln : Nat} {parts : Array (Nat × Operand)} {ps : List (Nat × X)} (ho : o.op = .buildSlice t ln parts)
    (ht : P.underlying t=some (.slice e)) (hi : P.info? e=some i) (hz : i.zero=some zv) (hc : ofConst zv=some z) (hp : elPartsOf parts.toList=some ps) (hk : z.ncells=i.size) (hk0 : 0 < i.size) (hsm : ln * i.size ≤ 1000000) (ht0 : z.isTop=false) :
    HSound P o (.bslV i.size e z ln ps):=by
  intro φ H w ts a hR hr K Kp h next Q hn hpp
  obtain ⟨es,cells,h1,h2,h3,h4,h5,h6⟩:=bsl_run (H:=H) hr ht hi hz hc hp hk hk0 hsm ht0 h
  have hmx : ln ≤ maxLen:=by
    have : ln * 1 ≤ ln * i.size:=Nat.mul_le_mul_left _ hk0
    unfold maxLen
    omega
  have hal:=hR.alloc ⟨i.size,es,true,e⟩ hk0 cells ln h4 (by simp[h2]) (fun _=>by simp[h2]) hmx h3 h5
  refine wp_value (u:=.slice (some ⟨w.heap.size,0,none⟩) ln ln) (w':=w.alloc (.cells cells e)) ?_ (hn _ _ _ _ _ h1 ⟨rfl,w.heap.size,ln,cells,e,(0,0),by simp[Phi.add],by simp[cget,Value.cells],Nat.le_refl _,hmx,fun m hm=>by simpa using hm,heap_alloc_new w _,by simpa using h4⟩ hal.1 hal.2)
  simp only[execOp,ho,Sem.run_bind,h6,Result.andThen_ok,Sem.run_pure]
theorem makeSlice_run {t e : TypeId} {i : TypeInfo} {zv : Value} (ht : P.underlying t=some (.slice e)) (hi : P.info? e=some i) (hz : i.zero=some zv) (hby : i.bytes ≤ 1000) {k k' : IntKind} {n m : Int} (h0 : 0 ≤ n) (h1 : n ≤ m) (h2 : m ≤ 100000000) :
    (Instr.makeSlice t (.int k n) (.int k' m)).run P w = .ok (.slice (some ⟨w.heap.size,0,none⟩) n.toNat m.toNat) (w.alloc (.cells ((Array.range (m.toNat * i.size)).map (zv.cells[· % zv.cells.size]!)) e)):=by
  have w1 : IntKind.i64.wrap n=n:=IntWalk.i64_in _ (by omega)
  have w2 : IntKind.i64.wrap m=m:=IntWalk.i64_in _ (by omega)
  have hb : (i.bytes : Int) * m ≤ 1000 * 100000000:=by
    have e1 : (i.bytes : Int) * m ≤ (i.bytes : Int) * 100000000:=Int.mul_le_mul_of_nonneg_left h2 (by omega)
    have e2 : (i.bytes : Int) * 100000000 ≤ 1000 * 100000000:=Int.mul_le_mul_of_nonneg_right (by omega) (by omega)
    omega
  have hb' : (i.bytes : Int) * n ≤ 1000 * 100000000:=by
    have e1 : (i.bytes : Int) * n ≤ (i.bytes : Int) * m:=Int.mul_le_mul_of_nonneg_left h1 (by omega)
    omega
  have c1 : ¬ (m < 0):=by omega
  have c2 : ¬ ((i.bytes : Int) * m > 2 ^ 48):=by omega
  have c3 : ¬ (n < 0):=by omega
  have c4 : ¬ (n > m):=by omega
  have hcond : (decide (m < 0) || decide ((i.bytes : Int) * m > 2 ^ 48) || decide (n < 0) || decide (n > m))=false:=by simp[c1,c2,c3,c4];omega
  by_cases hz0 : m.toNat * i.size=0
  · simp only[Instr.makeSlice,Sem.run_bind,rn_under ht,Result.andThen_ok,asInt,asIntOf,Sem.run_pure,typeInfo,run_program,hi,w1,w2]
    simp[c1,c2,c3,c4,hz0,sizeOf,typeInfo,hi,newRow]
    rw[if_neg (by omega)]
    have hr0 : Array.range 0=#[]:=by simp
    rw[hr0]
    simp
  · simp only[Instr.makeSlice,Sem.run_bind,rn_under ht,Result.andThen_ok,asInt,asIntOf,Sem.run_pure,typeInfo,run_program,hi,w1,w2]
    simp[c1,c2,c3,c4,hz0,sizeOf,typeInfo,hi,newRow,zeroValue,hz]
    intro hbad
    exfalso
    omega
theorem hs_mksl {o : Oper} {t e : TypeId} {i : TypeInfo} {zv : Value} {z : AV} {l c : Operand} {l' c' : X} (ho : o.op = .makeSlice t l c)
    (ht : P.underlying t=some (.slice e)) (hi : P.info? e=some i) (hz : i.zero=some zv) (hc : ofConst zv=some z) (hl : ofX l=some l') (hcc : ofX c=some c') (hk : z.ncells=i.size) (hk0 : 0 < i.size) (hby : i.bytes ≤ 1000) (ht0 : z.isTop=false) :
    HSound P o (.mksl i.size e z l' c'):=by
  intro φ H w ts a hR hr K Kp h next Q hn hpp
  have hv:=ofX_spec hr hl
  have hw:=ofX_spec hr hcc
  simp only[HO.sem] at h
  split at h
  case h_2=>exact h.elim
  rename_i k1 n k2 m he hf
  rw[he] at hv
  rw[hf] at hw
  obtain ⟨⟨h0,h1,h2⟩,h3⟩:=h
  have hzv : VR φ (Own φ H) w z zv:=ofConst_spec hc
  have hzs:=cells_size hzv ht0
  rw[hk] at hzs
  have hks : ∀ x ∈ List.replicate m.toNat z,x.ncells=i.size:=fun x hx=>by rw[List.eq_of_mem_replicate hx];exact hk
  have hinit:=Rs_replicate (zc:=zv.cells) (VR_Rs hzv ht0) hk hk0 m.toNat (fun j=>((Array.range (m.toNat * i.size)).map (zv.cells[· % zv.cells.size]!))[j]?) (fun j hj=>zeros_get hzs hk0 hj)
  have hmx : m.toNat ≤ maxLen:=by unfold maxLen;omega
  have hal:=hR.alloc ⟨i.size,List.replicate m.toNat z,true,e⟩ hk0 ((Array.range (m.toNat * i.size)).map (zv.cells[· % zv.cells.size]!)) m.toNat (by simp) (by simp) (fun _=>by simp) hmx hks hinit
  refine wp_value (u:=.slice (some ⟨w.heap.size,0,none⟩) n.toNat m.toNat) ?_ (hn _ _ _ _ _ h3 ⟨rfl,w.heap.size,m.toNat,_,e,(0,0),by simp[Phi.add],by simp[cget,Value.cells],by omega,hmx,fun q hq=>by simpa using hq,heap_alloc_new w _,by simp⟩ hal.1 hal.2)
  simp only[execOp,ho,VR_sc hv,VR_sc hw,Sem.run_bind,makeSlice_run ht hi hz hby h0 h1 h2,Result.andThen_ok,Sem.run_pure]
end
end Go.Proofs.YtdjnccnecgblmaaGreatDoor
namespace Go.Proofs.YtdjnccnecgblmaaGreatDoor
open Go.RowKit
set_option linter.unusedVariables false
set_option linter.unusedSimpArgs false
section
variable {φ : Phi} {O : Nat→Prop} {w : World}
theorem RE_len : ∀ {l : List AV} {es : List MapEntry},RE φ O w l es→es.length=l.length
  | [],_,h=>by
    have h : _=[]:=h
    rw[h];rfl
  | _ :: _,_,h=>by
    obtain ⟨e,s,rfl,_,h⟩:=h
    simp[RE_len h]
theorem RE_nth : ∀ {l : List AV} {es : List MapEntry} {i : Nat} {x : AV},RE φ O w l es→l[i]? = some x→∃ e,es[i]? = some e ∧ VR φ O w x (.tuple #[e.key,e.val])
  | [],_,_,_,_,h=>by simp at h
  | y :: r,_,i,x,h,hx=>by
    obtain ⟨e,s,rfl,h1,h2⟩:=h
    cases i with
    | zero=>cases hx;exact ⟨e,rfl,h1⟩
    | succ i=>exact RE_nth (i:=i) h2 (by simpa using hx)
theorem RE_app : ∀ {l : List AV} {es : List MapEntry} {x : AV} {e : MapEntry},RE φ O w l es→VR φ O w x (.tuple #[e.key,e.val])→RE φ O w (l ++ [x]) (es ++ [e])
  | [],_,_,e,h,hx=>by
    have h : _=[]:=h
    subst h
    exact ⟨e,[],rfl,hx,rfl⟩
  | _ :: _,_,_,_,h,hx=>by
    obtain ⟨e,s,rfl,h1,h2⟩:=h
    exact ⟨e,_,rfl,h1,RE_app h2 hx⟩
theorem RE_set : ∀ {l : List AV} {es : List MapEntry} {i : Nat} {x : AV} {e : MapEntry},RE φ O w l es→VR φ O w x (.tuple #[e.key,e.val])→RE φ O w (l.set i x) (es.set i e)
  | [],_,i,_,e,h,hx=>by
    have h : _=[]:=h
    subst h
    simp[RE]
  | _ :: _,_,i,_,e',h,hx=>by
    obtain ⟨e,s,rfl,h1,h2⟩:=h
    cases i with
    | zero=>exact ⟨e',s,rfl,hx,h2⟩
    | succ i=>exact ⟨e,_,rfl,h1,RE_set h2 hx⟩
theorem RE_erase : ∀ {l : List AV} {es : List MapEntry} {i : Nat},RE φ O w l es→RE φ O w (l.eraseIdx i) (es.eraseIdx i)
  | [],_,i,h=>by
    have h : _=[]:=h
    subst h
    simp[RE]
  | _ :: _,_,i,h=>by
    obtain ⟨e,s,rfl,h1,h2⟩:=h
    cases i with
    | zero=>exact h2
    | succ i=>exact ⟨e,_,rfl,h1,RE_erase h2⟩
theorem ent_inv {q : Option IntKind} {x : AV} (h : entOk q x=true) : ∃ k v,x = .tup [.sc k,v] ∧ kOk q k=true:=by
  unfold entOk at h
  split at h
  · exact ⟨_,_,rfl,h⟩
  · simp at h
theorem kOk_one {q : Option IntKind} {k : Value} (h : kOk q k=true) : k.oneCell'=true:=by
  unfold kOk at h
  split at h <;> first | rfl | (simp at h)
theorem ent_VR {k : Value} {v : AV} {a b : Value} (h : VR φ O w (.tup [.sc k,v]) (.tuple #[a,b])) : a=k ∧ VR φ O w v b:=by
  obtain ⟨us,h1,h2⟩:=h.2
  have : us=#[a,b]:=by simpa [cget,Value.cells] using h1.symm
  subst this
  obtain ⟨x,s,e1,e2,e3,y,s',e4,e5,e6,e7⟩:=h2
  simp only[List.cons.injEq] at e1 e4
  obtain ⟨rfl,rfl⟩:=e1
  obtain ⟨rfl,rfl⟩:=by simpa using e4
  exact ⟨VR_sc ⟨e2,e3⟩,e5,e6⟩
theorem VR_ent {k : Value} {v : AV} {b : Value} (hk : k.oneCell'=true) (h : VR φ O w v b) : VR φ O w (.tup [.sc k,v]) (.tuple #[k,b]) :=
  have h0:=sc_VR (φ:=φ) (O:=O) (w:=w) hk
  ⟨⟨_,rfl⟩,#[k,b],by simp[cget,Value.cells],k,[b],rfl,h0.1,h0.2,b,[],rfl,h.1,h.2,rfl⟩
def deskey : Option IntKind→TypeDesc
  | none=>.string
  | some q=>.int q
theorem isKey_of {q : Option IntKind} {k : Value} (h : kOk q k=true) : MapKept.IsKey (deskey q) k:=by
  unfold kOk at h
  split at h
  · trivial
  · rename_i x y n
    have e : x=y:=by simpa using h
    exact e.symm
  · simp at h
theorem sameNow_of {q : Option IntKind} {k k' : Value} (h : kOk q k=true) (h' : kOk q k'=true) : Instr.sameNow (deskey q) k k'=some (kSame k k'):=by
  cases q with
  | none =>
    cases k <;> simp[kOk] at h
    cases k' <;> simp[kOk] at h'
    rename_i a b
    simp only[Instr.sameNow,deskey,kSame]
    congr 1
    rw[Bool.eq_iff_iff,MapKept.bytes_beq,decide_eq_true_eq]
  | some q =>
    cases k with
    | int ka a =>
      cases k' with
      | int kb b =>
        have e1 : q=ka:=by simpa [kOk] using h
        have e2 : q=kb:=by simpa [kOk] using h'
        subst e1 e2
        simp only[Instr.sameNow,deskey,kSame,if_true]
        by_cases c : a=b <;> simp[c]
      | _=>simp[kOk] at h'
    | _=>simp[kOk] at h
theorem kSame_eq {q : Option IntKind} {k k' : Value} (h : kOk q k=true) (h' : kOk q k'=true) : kSame k k'=true ↔ k=k':=by
  cases q with
  | none =>
    cases k <;> simp[kOk] at h
    cases k' <;> simp[kOk] at h'
    simp[kSame]
  | some q =>
    cases k with
    | int ka a =>
      cases k' with
      | int kb b =>
        have e1 : q=ka:=by simpa [kOk] using h
        have e2 : q=kb:=by simpa [kOk] using h'
        subst e1 e2
        simp[kSame]
      | _=>simp[kOk] at h'
    | _=>simp[kOk] at h
theorem find_mIdx {q : Option IntKind} {k : Value} (hk : kOk q k=true) : ∀ {l : List AV} {es : List MapEntry} (i : Nat),RE φ O w l es→entsOk q l →
    (mIdx k l < l.length ∧ ∃ e v,es[mIdx k l]? = some e ∧ l[mIdx k l]? = some (.tup [.sc k,v]) ∧ e.key=k ∧ VR φ O w v e.val ∧ Instr.findNow (deskey q) k es i=some (some (i+mIdx k l,e.val))) ∨ (mIdx k l=l.length ∧ Instr.findNow (deskey q) k es i=some none)
  | [],_,i,h,_=>by
    have h : _=[]:=h
    subst h
    exact .inr ⟨rfl,rfl⟩
  | x :: r,_,i,h,ho=>by
    obtain ⟨e,s,rfl,h1,h2⟩:=h
    obtain ⟨k',v,rfl,hk'⟩:=ent_inv (ho x (by simp))
    obtain ⟨e1,e2⟩:=ent_VR h1
    have hs:=sameNow_of hk hk'
    rw[← e1] at hs
    cases hc : kSame k k' with
    | true =>
      have hkk:=(kSame_eq hk hk').1 hc
      have hm : mIdx k (.tup [.sc k',v] :: r)=0:=by simp[mIdx,entHit,hc]
      rw[hm]
      refine .inl ⟨by simp,e,v,rfl,by rw[hkk];rfl,by rw[e1,hkk],e2,?_⟩
      rw[e1,hc] at hs
      simp only[Instr.findNow,e1,hs,Nat.add_zero]
    | false =>
      have hm : mIdx k (.tup [.sc k',v] :: r)=mIdx k r+1:=by simp[mIdx,entHit,hc]
      rw[hm]
      rw[e1,hc] at hs
      rcases find_mIdx hk (i+1) h2 (fun y hy=>ho y (by simp[hy])) with ⟨g1,e',v',g2,g3,g4,g5,g6⟩ | ⟨g1,g2⟩
      · refine .inl ⟨by simpa using g1,e',v',by simpa using g2,by simpa using g3,g4,g5,?_⟩
        simp only[Instr.findNow,e1,hs,g6]
        congr 3
        omega
      · exact .inr ⟨by simp[g1],by simp only[Instr.findNow,e1,hs,g2]⟩
end
theorem Rel.writeM {φ : Phi} {w : World} {H : AHeap} (h : Rel φ H w) {id b : Nat} {blk : ABlk} (hm : φ id=some b) (hf : AHeap.find H id=some blk) (hk : blk.k=0 ∧ blk.ty=0) {ents : Array MapEntry} {clock : Nat} (hb : w.heap[b]? = some (.map ents clock))
    (es' : List AV) (ents' : Array MapEntry) (clock' : Nat) (hb1 : (ents'.toList.map (·.born)).Pairwise (· < ·)) (hb2 : ∀ e ∈ ents'.toList,e.born < clock') (hr : RE φ (Own φ H) w es' ents'.toList) :
    Rel φ (AHeap.set H id (some { blk with es:=es' })) { w with heap:=w.heap.setIfInBounds b (.map ents' clock') } ∧ Step φ H w φ (AHeap.set H id (some { blk with es:=es' })) { w with heap:=w.heap.setIfInBounds b (.map ents' clock') }:=by
  have hid : id < H.length:=AHeap.find_lt hf
  obtain ⟨hn1,hn2⟩:=MapKept.heap_set (o':=.map ents' clock') hb
  have hown : ∀ b',Own φ (AHeap.set H id (some { blk with es:=es' })) b' ↔ Own φ H b':=by
    intro b'
    constructor
    · rintro ⟨i,k,h1,h2⟩
      by_cases e : i=id
      · subst e;exact ⟨i,blk,h1,hf⟩
      · rw[AHeap.find_set_ne e] at h2;exact ⟨i,k,h1,h2⟩
    · rintro ⟨i,k,h1,h2⟩
      by_cases e : i=id
      · subst e;exact ⟨i,_,h1,AHeap.find_set_same hid⟩
      · exact ⟨i,k,h1,by rw[AHeap.find_set_ne e];exact h2⟩
  have hob : Own φ H b:=⟨id,blk,hm,hf⟩
  have hl : Later (fun _=>True) φ φ (Own φ H) (Own φ (AHeap.set H id (some { blk with es:=es' }))) w { w with heap:=w.heap.setIfInBounds b (.map ents' clock') }:=by
    refine ⟨fun _ _ _ h=>h,by simp,fun b' hb' ho ho'=>ho ((hown b').1 ho'),fun b' hb' ho=>hn2 b' (fun e=>ho (e ▸ hob)),fun b' hb'=>?_⟩
    unfold World.shape?
    by_cases e : b'=b
    · subst e
      simp only[hn1,hb]
    · simp only[hn2 b' e]
  refine ⟨⟨h.glob.later hl,fun i b' hi=>?_,fun i j b' hi hj hfi hfj=>?_,fun i b' k h1 h2=>?_⟩,⟨hl,rfl,rfl,rfl,by rw[AHeap.set_length];exact Nat.le_refl _,fun _ _=>rfl⟩⟩
  · rw[AHeap.set_length]
    simpa using h.dom i b' hi
  · have g1 : (AHeap.find H i).isSome:=by
      by_cases e : i=id
      · subst e;rw[hf];rfl
      · rwa [AHeap.find_set_ne e] at hfi
    have g2 : (AHeap.find H j).isSome:=by
      by_cases e : j=id
      · subst e;rw[hf];rfl
      · rwa [AHeap.find_set_ne e] at hfj
    exact h.inj i j b' hi hj g1 g2
  · by_cases e : i=id
    · subst e
      rw[hm] at h1
      cases h1
      rw[AHeap.find_set_same hid] at h2
      cases h2
      exact .inr (.inl ⟨hk.1,hk.2,ents',clock',hn1,hb1,hb2,RE_later hl (AV.idsL_true _) hr⟩)
    · rw[AHeap.find_set_ne e] at h2
      have hne : b' ≠ b:=fun eb=>by
        subst eb
        exact e (h.inj i id b' h1 hm (by rw[h2];rfl) (by rw[hf];rfl))
      exact (h.blk i b' k h1 h2).on hl (hn2 b' hne)
theorem Rel.allocM {φ : Phi} {w : World} {H : AHeap} (h : Rel φ H w) : Rel (φ.add H.length w.heap.size) (some ⟨0,[],true,0⟩ :: H) (w.alloc (.map #[] 0)) ∧ Step φ H w (φ.add H.length w.heap.size) (some ⟨0,[],true,0⟩ :: H) (w.alloc (.map #[] 0)):=by
  obtain ⟨hnew,hold⟩:=MapKept.heap_alloc w (.map #[] 0)
  have hsize : w.heap.size ≤ (w.alloc (.map #[] 0)).heap.size:=by simp
  have hdom : ∀ id b,φ id=some b→id < H.length:=fun id b hm=>(h.dom id b hm).1
  have hl2 : Later (fun _=>True) φ (φ.add H.length w.heap.size) (Own φ H) (Own (φ.add H.length w.heap.size) (some ⟨0,[],true,0⟩ :: H)) w (w.alloc (.map #[] 0)):=by
    refine ⟨fun id b _ hm'=>?_,hsize,fun b hb ho ho'=>?_,fun b hb _=>hold b hb,fun b hb=>by unfold World.shape?;rw[hold b hb]⟩
    · unfold Phi.add
      rw[if_neg (by have:=hdom id b hm';omega)]
      exact hm'
    · rcases own_add hdom ho' with h1 | h1
      · exact ho h1
      · omega
  refine ⟨⟨h.glob.later hl2,fun id b' hm'=>?_,fun i j b' hi hj hfi hfj=>?_,fun id b' k h1 h2=>?_⟩,⟨hl2,rfl,rfl,rfl,by simp,fun id hid=>by unfold Phi.add;rw[if_neg (by omega)]⟩⟩
  · unfold Phi.add at hm'
    split at hm'
    · rename_i e
      cases hm'
      exact ⟨by simp[e],by simp⟩
    · have:=h.dom id b' hm'
      exact ⟨by simp;omega,by simp;omega⟩
  · unfold Phi.add at hi hj
    split at hi <;> split at hj
    · omega
    · cases hi;have:=(h.dom j _ hj).2;omega
    · cases hj;have:=(h.dom i _ hi).2;omega
    · have l1:=(h.dom i b' hi).1
      have l2:=(h.dom j b' hj).1
      rw[AHeap.find_cons l1] at hfi
      rw[AHeap.find_cons l2] at hfj
      exact h.inj i j b' hi hj hfi hfj
  · unfold Phi.add at h1
    split at h1
    · rename_i e
      cases h1
      subst e
      rw[AHeap.find_new] at h2
      cases h2
      exact .inr (.inl ⟨rfl,rfl,#[],0,hnew,by simp,by simp,rfl⟩)
    · have l1:=(h.dom id b' h1).1
      have l2:=(h.dom id b' h1).2
      rw[AHeap.find_cons l1] at h2
      exact (h.blk id b' k h1 h2).on hl2 (hold b' l2)
section
variable {P : Program}
theorem keyK_some {t : TypeId} {q : Option IntKind} {e : TypeId} (h : keyK P t=some (q,e)) : ∃ k,P.underlying t=some (.map k e) ∧ P.underlying k=some (deskey q):=by
  unfold keyK at h
  split at h
  case h_2=>simp at h
  rename_i k e' ht
  split at h
  · cases h;exact ⟨k,ht,by assumption⟩
  · cases h;exact ⟨k,ht,by assumption⟩
  · simp at h
theorem zeroA_some {φ : Phi} {O : Nat→Prop} {w : World} {e : TypeId} {z : AV} (h : zeroA P e=some z) : ∃ zv,(zeroValue e).run P w = .ok zv w ∧ VR φ O w z zv:=by
  unfold zeroA at h
  rw[Option.bind_eq_some_iff] at h
  obtain ⟨zv,h1,h2⟩:=h
  rw[Option.bind_eq_some_iff] at h1
  obtain ⟨i,h3,h4⟩:=h1
  exact ⟨zv,by simp only[zeroValue,typeInfo,Sem.run_bind,run_program,h3,Result.andThen_ok,Sem.run_pure,h4],ofConst_spec h2⟩
theorem own_map {φ : Phi} {w : World} {H : AHeap} (hR : Rel φ H w) {id f j : Nat} {p : List AV→Prop} {v : Value} (hv : VR φ (Own φ H) w (.ptr 0 id j f) v) (hf0 : f=0) (h : mOk H id p) :
    ∃ b blk ents clock,v = .map (some b) ∧ φ id=some b ∧ AHeap.find H id=some blk ∧ (blk.k=0 ∧ blk.ty=0) ∧ p blk.es ∧ mEs H id=blk.es ∧ w.heap[b]? = some (.map ents clock) ∧ (ents.toList.map (·.born)).Pairwise (· < ·) ∧ (∀ e ∈ ents.toList,e.born < clock) ∧ RE φ (Own φ H) w blk.es ents.toList:=by
  unfold mOk at h
  split at h
  case h_2=>exact h.elim
  rename_i blk hf
  obtain ⟨b,h1,h2⟩:=VR_ptr hv
  subst hf0
  rcases hR.blk id b blk h1 hf with ⟨h0,_⟩ | ⟨_,_,ents,clock,a1,a2,a3,a4⟩ | ⟨_,h0,_⟩ | ⟨_,h0,_⟩ | ⟨_,h0,_⟩
  · have:=h.1.1;omega
  · exact ⟨b,blk,ents,clock,h2,h1,hf,h.1,h.2,by unfold mEs;rw[hf],a1,a2,a3,a4⟩
  · rw[h.1.2] at h0;cases h0
  · rw[h.1.2] at h0;cases h0
  · rw[h.1.2] at h0;cases h0
theorem mget_ok {H : AHeap} {q : Option IntKind} {z : AV} {ok : Bool} {l : List AV} (h : GX.ok H (.mget q z ok) l) : ∃ id j k,l=[.ptr 0 id j 0,.sc k] ∧ kOk q k=true ∧ mOk H id (entsOk q):=by
  match l,h with
  | [.ptr 0 id j 0,.sc k],h=>exact ⟨id,j,k,rfl,h⟩
theorem mput_ok {H : AHeap} {q : Option IntKind} {l : List AV} (h : GX.ok H (.mput q) l) : ∃ id j k v,l=[.ptr 0 id j 0,.sc k,v] ∧ kOk q k=true ∧ mOk H id (entsOk q):=by
  match l,h with
  | [.ptr 0 id j 0,.sc k,v],h=>exact ⟨id,j,k,v,rfl,h⟩
theorem mlen_ok {H : AHeap} {l : List AV} (h : GX.ok H .mlen l) : ∃ id j,l=[.ptr 0 id j 0] ∧ mOk H id fun _=>True:=by
  match l,h with
  | [.ptr 0 id j 0],h=>exact ⟨id,j,rfl,h⟩
theorem mdel_ok {H : AHeap} {q : Option IntKind} {l : List AV} (h : GX.ok H (.mdel q) l) : ∃ id j k,l=[.ptr 0 id j 0,.sc k] ∧ kOk q k=true ∧ mOk H id (entsOk q):=by
  match l,h with
  | [.ptr 0 id j 0,.sc k],h=>exact ⟨id,j,k,rfl,h⟩
theorem hs_mkmap {o : Oper} {t : TypeId} (ho : o.op = .makeMap t none) : HSound P o (.gx .mkmap []):=by
  intro φ H w ts a hR hr K Kp h next Q hn hp
  obtain ⟨_,h2⟩:=h
  obtain ⟨r1,r2⟩:=hR.allocM
  refine wp_value (u:=.map (some w.heap.size)) ?_ (hn _ _ _ _ _ h2 ⟨rfl,w.heap.size,by simp[Phi.add],rfl⟩ r1 r2)
  simp only[execOp,ho,Instr.makeMap,Option.map_none,Sem.run_bind,run_newObj,Sem.run_pure,Result.andThen_ok]
  rfl
theorem hs_mget {o : Oper} {t e : TypeId} {q : Option IntKind} {x i : Operand} {x' i' : X} {z : AV} {ok : Bool} (ho : o.op = .lookup t x i ok) (hk : keyK P t=some (q,e)) (hx : ofX x=some x') (hi : ofX i=some i') (hz : zeroA P e=some z) : HSound P o (.gx (.mget q z ok) [x',i']):=by
  intro φ H w ts a hR hr K Kp h next Q hn hp
  have hv:=ofX_spec hr hx
  have hw:=ofX_spec hr hi
  simp only[HO.sem,List.map_cons,List.map_nil] at h
  obtain ⟨h1,h2⟩:=h
  generalize X.ev ts x'=X1 at h1 h2 hv
  generalize X.ev ts i'=X2 at h1 h2 hw
  obtain ⟨id,j,k,hl,hk1,h3⟩:=mget_ok h1
  simp only[List.cons.injEq,and_true] at hl
  obtain ⟨rfl,rfl⟩:=hl
  obtain ⟨b,blk,ents,clock,hvb,m1,m2,m3,m4,m5,m6,m7,m8,m9⟩:=own_map hR hv rfl h3
  obtain ⟨kt,t1,t2⟩:=keyK_some hk
  obtain ⟨zv,z1,z2⟩:=zeroA_some (φ:=φ) (O:=Own φ H) (w:=w) hz
  have hkv:=VR_sc hw
  have hck:=MapKept.run_checkKey (P:=P) (w:=w) t2 (isKey_of hk1) ents.isEmpty 9999
  have hval : ∃ r u,((do
      let es ← (pure ents : Sem (Array MapEntry))
      Instr.checkKey es.isEmpty 10000 kt k
      let (v,ok) ← match ← Instr.findKey kt k es.toList with
        | some (_,v)=>pure (v,true)
        | none=>pure (← zeroValue e,false)
      pure (v,ok)) : Sem (Value × Bool)).run P w = .ok (r,u) w ∧ VR φ (Own φ H) w (mVal k z blk.es) r ∧ u=decide (mIdx k blk.es < blk.es.length):=by
    rcases find_mIdx hk1 0 m9 m4 with ⟨g1,en,v,g2,g3,g4,g5,g6⟩ | ⟨g1,g2⟩
    · refine ⟨en.val,true,?_,?_,by simp[g1]⟩
      · simp only[Sem.run_bind,Sem.run_pure,Result.andThen_ok,hck,MapKept.run_findKey t2 g6]
      · unfold mVal
        rw[if_pos g1,List.getD_eq_getElem?_getD,g3]
        exact g5
    · refine ⟨zv,false,?_,?_,by simp[g1]⟩
      · simp only[Sem.run_bind,Sem.run_pure,Result.andThen_ok,hck,MapKept.run_findKey t2 g2,z1]
      · unfold mVal
        rw[if_neg (by omega)]
        exact z2
  obtain ⟨r,u,hrun,hr1,hr2⟩:=hval
  have hrun2 : (Instr.lookup t (.map (some b)) k ok).run P w = .ok (if ok then .tuple #[r,.bool u] else r) w:=by
    simp only[Sem.run_bind,Sem.run_pure,Result.andThen_ok,hck] at hrun
    unfold Instr.lookup
    simp only[Sem.run_bind,run_underlying t1,Sem.run_pure,Result.andThen_ok,MapKept.run_getObj_map m6,hck]
    revert hrun
    cases hfk : (Instr.findKey kt k ents.toList).run P w with
    | halt _ _=>intro hrun;simp[Result.andThen] at hrun
    | ok y w1 =>
      simp only[Result.andThen_ok]
      cases y with
      | none =>
        simp only[Sem.run_bind]
        cases hzz : (zeroValue e).run P w1 with
        | halt _ _=>intro hrun;simp[Result.andThen] at hrun
        | ok z' w2 =>
          simp only[Result.andThen_ok,Sem.run_pure]
          intro hrun
          simp only[Result.ok.injEq,Prod.mk.injEq] at hrun
          obtain ⟨⟨rfl,rfl⟩,rfl⟩:=hrun
          cases ok <;> simp
      | some y =>
        intro hrun
        have hrun : Result.ok (y.2,true) w1=Result.ok (r,u) w:=hrun
        simp only[Result.ok.injEq,Prod.mk.injEq] at hrun
        obtain ⟨⟨rfl,rfl⟩,rfl⟩:=hrun
        cases ok <;> simp
  have hk2 : K (if ok then .tup [mVal k z blk.es,.sc (.bool u)] else mVal k z blk.es) H:=by
    have : K (if ok then .tup [mVal k z (mEs H id),.sc (.bool (decide (mIdx k (mEs H id) < (mEs H id).length)))] else mVal k z (mEs H id)) H:=h2
    rw[m5,← hr2] at this
    exact this
  refine wp_value (u:=if ok then .tuple #[r,.bool u] else r) ?_ (hn _ _ _ _ _ hk2 ?_ hR (Step.refl _ _ _))
  · simp only[execOp,ho,hvb,hkv,Sem.run_bind,hrun2,Result.andThen_ok,Sem.run_pure]
  · cases ok with
    | false=>exact hr1
    | true=>exact ⟨⟨_,rfl⟩,#[r,.bool u],by simp[cget,Value.cells],r,[.bool u],rfl,hr1.1,hr1.2,.bool u,[],rfl,rfl,rfl,rfl⟩
theorem sameBits_self {q : Option IntKind} {k : Value} (h : kOk q k=true) : Instr.sameBits 10000 k k=true:=by
  cases q <;> cases k <;> simp_all [kOk,Instr.sameBits,MapKept.bytes_beq]
theorem pairwise_set {l : List MapEntry} {i : Nat} {e e' : MapEntry} (h : l[i]? = some e) (hb : e'.born=e.born) : (l.set i e').map (·.born)=l.map (·.born):=by
  apply List.ext_getElem?
  intro j
  rw[List.getElem?_map,List.getElem?_map,List.getElem?_set]
  split
  · rename_i hij
    subst hij
    rw[h]
    have:=(List.getElem?_eq_some_iff.1 h).1
    simp[this,hb]
  · rfl
theorem hs_mput {o : Oper} {t e : TypeId} {q : Option IntKind} {m k v : Operand} {m' k' v' : X} (ho : o.op = .mapUpdate t m k v ∨ o.op = .insert t m k v) (hk : keyK P t=some (q,e)) (hm : ofX m=some m') (hkk : ofX k=some k') (hv : ofX v=some v') : HSound P o (.gx (.mput q) [m',k',v']):=by
  intro φ H w ts a hR hr K Kp h next Q hn hp
  have hv1:=ofX_spec hr hm
  have hv2:=ofX_spec hr hkk
  have hv3:=ofX_spec hr hv
  simp only[HO.sem,List.map_cons,List.map_nil] at h
  obtain ⟨h1,h2⟩:=h
  generalize X.ev ts m'=X1 at h1 h2 hv1
  generalize X.ev ts k'=X2 at h1 h2 hv2
  generalize X.ev ts v'=x3 at h1 h2 hv3
  obtain ⟨id,j,kv,x4,hl,hk1,h3⟩:=mput_ok h1
  simp only[List.cons.injEq,and_true] at hl
  obtain ⟨rfl,rfl,rfl⟩:=hl
  obtain ⟨b,blk,ents,clock,hvb,m1,m2,m3,m4,m5,m6,m7,m8,m9⟩:=own_map hR hv1 rfl h3
  obtain ⟨kt,t1,t2⟩:=keyK_some hk
  have hkv:=VR_sc hv2
  have hck:=MapKept.run_checkKey (P:=P) (w:=w) t2 (isKey_of hk1) false 9999
  have hk2 : K .top (AHeap.set H id (some { blk with es:=mPut kv x3 blk.es })):=by
    have : K .top (mSet H id (mPut kv x3 (mEs H id))):=h2
    unfold mSet at this
    rw[m2,m5] at this
    exact this
  have fin : ∀ {ents' : Array MapEntry} {clock' : Nat},(Instr.mapUpdate t (.map (some b)) kv (a.eval v)).run P w = .ok () { w with heap:=w.heap.setIfInBounds b (.map ents' clock') }→(ents'.toList.map (·.born)).Pairwise (· < ·)→(∀ e ∈ ents'.toList,e.born < clock') →
      RE φ (Own φ H) w (mPut kv x3 blk.es) ents'.toList→o.wp P a w next Q:=by
    intro ents' clock' hrun c1 c2 c3
    obtain ⟨r1,r2⟩:=hR.writeM m1 m2 m3 m6 _ ents' clock' c1 c2 c3
    refine wp_skip' ?_ (hn _ _ _ _ _ hk2 (vr_top _) r1 r2)
    rcases ho with ho | ho <;> simp only[execOp,ho,hvb,hkv,Sem.run_bind,hrun,Result.andThen_ok,Sem.run_pure]
  rcases find_mIdx hk1 0 m9 m4 with ⟨g1,en,vv,g2,g3,g4,g5,g6⟩ | ⟨g1,g2⟩
  · have hi : mIdx kv blk.es < ents.size:=by have:=(List.getElem?_eq_some_iff.1 g2).1;simpa using this
    have hen : ents[mIdx kv blk.es]? = some en:=by rw[← Array.getElem?_toList];exact g2
    have hmod : (ents.modify (mIdx kv blk.es) fun e=>{ e with key:=kv,val:=a.eval v }).toList=ents.toList.set (mIdx kv blk.es) { en with key:=kv,val:=a.eval v }:=by
      apply List.ext_getElem?
      intro j
      rw[Array.getElem?_toList,Array.getElem?_modify,List.getElem?_set]
      by_cases e : mIdx kv blk.es=j
      · subst e
        have hi2 : mIdx kv blk.es < ents.toList.length:=by simpa using hi
        rw[if_pos rfl,if_pos rfl,if_pos hi2,hen]
        rfl
      · rw[if_neg e,if_neg e,Array.getElem?_toList]
    refine fin (ents':=ents.modify (mIdx kv blk.es) fun e=>{ e with key:=kv,val:=a.eval v }) (clock':=clock) ?_ ?_ ?_ ?_
    · unfold Instr.mapUpdate
      rw[Nat.zero_add] at g6
      simp only[Sem.run_bind,run_underlying t1,Sem.run_pure,Result.andThen_ok,MapKept.run_getObj_map m6,hck,MapKept.run_findKey t2 g6,hen,Option.map_some,Option.getD_some,g4,Instr.keyThatStays,sameBits_self hk1,if_true,MapKept.run_setObj_map _ m6]
    · rw[hmod,pairwise_set (e':={ en with key:=kv,val:=a.eval v }) g2 rfl];exact m7
    · rw[hmod]
      intro e he
      rcases List.mem_or_eq_of_mem_set he with he | rfl
      · exact m8 e he
      · exact m8 en (List.mem_of_getElem? g2)
    · rw[hmod]
      unfold mPut
      rw[if_pos g1]
      exact RE_set m9 (VR_ent (kOk_one hk1) hv3)
  · refine fin (ents':=ents.push { key:=kv,val:=a.eval v,born:=clock }) (clock':=clock+1) ?_ ?_ ?_ ?_
    · unfold Instr.mapUpdate
      simp only[Sem.run_bind,run_underlying t1,Sem.run_pure,Result.andThen_ok,MapKept.run_getObj_map m6,hck,MapKept.run_findKey t2 g2,MapKept.run_setObj_map _ m6]
    · rw[Array.toList_push,List.map_append,List.pairwise_append]
      refine ⟨m7,by simp,fun x hx y hy=>?_⟩
      obtain ⟨e,he,rfl⟩:=List.mem_map.1 hx
      simp only[List.map_cons,List.map_nil,List.mem_singleton] at hy
      subst hy
      exact m8 e he
    · intro e he
      rw[Array.toList_push] at he
      rcases List.mem_append.1 he with he | he
      · have:=m8 e he;omega
      · simp at he;subst he;exact Nat.lt_succ_self _
    · rw[Array.toList_push]
      unfold mPut
      rw[if_neg (by omega)]
      exact RE_app m9 (VR_ent (kOk_one hk1) hv3)
theorem hs_mlen {o : Oper} {t k e : TypeId} {x : Operand} {x' : X} {args : Array Operand} {ats : Array TypeId} (ho : o.op = .call { callee:=.builtin .len,args,argTypes:=ats }) (ha : args.toList=[x]) (hat : ats.toList=[t]) (ht : P.underlying t=some (.map k e)) (hx : ofX x=some x') : HSound P o (.gx .mlen [x']):=by
  intro φ H w ts a hR hr K Kp h next Q hn hp
  obtain rfl : args=#[x]:=by apply Array.toList_inj.1;simpa using ha
  obtain rfl : ats=#[t]:=by apply Array.toList_inj.1;simpa using hat
  have hv:=ofX_spec hr hx
  simp only[HO.sem,List.map_cons,List.map_nil] at h
  obtain ⟨h1,h2⟩:=h
  generalize X.ev ts x'=X1 at h1 h2 hv
  obtain ⟨id,j,hl,h3⟩:=mlen_ok h1
  simp only[List.cons.injEq,and_true] at hl
  obtain rfl:=hl
  obtain ⟨b,blk,ents,clock,hvb,m1,m2,m3,m4,m5,m6,m7,m8,m9⟩:=own_map hR hv rfl h3
  have hln:=RE_len m9
  have hk2 : K (.sc (.int .i64 ents.size)) H:=by
    have : K (.sc (.int .i64 (mEs H id).length)) H:=h2
    rw[m5,← hln] at this
    simpa using this
  refine wp_value (u:=.int .i64 ents.size) ?_ (hn _ _ _ _ _ hk2 (sc_VR rfl) hR (Step.refl _ _ _))
  simp only[execOp,ho,resolve,invoke,builtin,Sem.run_bind,Sem.run_pure,Result.andThen_ok,List.map_toArray,List.map_cons,List.map_nil,hvb]
  simp[Builtin.len_,run_underlying ht,MapKept.run_getObj_map m6,goInt,Result.andThen]
theorem hs_mdel {o : Oper} {t e : TypeId} {q : Option IntKind} {m k : Operand} {m' k' : X} {args : Array Operand} {ats : Array TypeId} {rest : List TypeId} (ho : o.op = .call { callee:=.builtin .delete,args,argTypes:=ats }) (ha : args.toList=[m,k]) (hat : ats.toList=t :: rest) (hk : keyK P t=some (q,e)) (hm : ofX m=some m') (hkk : ofX k=some k') : HSound P o (.gx (.mdel q) [m',k']):=by
  intro φ H w ts a hR hr K Kp h next Q hn hp
  obtain rfl : args=#[m,k]:=by apply Array.toList_inj.1;simpa using ha
  have hat0 : ats[0]? = some t:=by rw[← Array.getElem?_toList,hat];rfl
  have hv1:=ofX_spec hr hm
  have hv2:=ofX_spec hr hkk
  simp only[HO.sem,List.map_cons,List.map_nil] at h
  obtain ⟨h1,h2⟩:=h
  generalize X.ev ts m'=X1 at h1 h2 hv1
  generalize X.ev ts k'=X2 at h1 h2 hv2
  obtain ⟨id,j,kv,hl,hk1,h3⟩:=mdel_ok h1
  simp only[List.cons.injEq,and_true] at hl
  obtain ⟨rfl,rfl⟩:=hl
  obtain ⟨b,blk,ents,clock,hvb,m1,m2,m3,m4,m5,m6,m7,m8,m9⟩:=own_map hR hv1 rfl h3
  obtain ⟨kt,t1,t2⟩:=keyK_some hk
  have hkv:=VR_sc hv2
  have hck:=MapKept.run_checkKey (P:=P) (w:=w) t2 (isKey_of hk1) ents.isEmpty 9999
  have hk2 : K (.tup []) (AHeap.set H id (some { blk with es:=mDel kv blk.es })):=by
    have : K (.tup []) (mSet H id (mDel kv (mEs H id))):=h2
    unfold mSet at this
    rw[m2,m5] at this
    exact this
  have fin : ∀ {ents' : Array MapEntry},ents'.toList=ents.toList.eraseIdx (mIdx kv blk.es)→(Builtin.delete_ ats o.type #[.map (some b),kv]).run P w = .ok (.tuple #[]) { w with heap:=w.heap.setIfInBounds b (.map ents' clock) }→o.wp P a w next Q:=by
    intro ents' he hrun
    have hsub : ents'.toList.Sublist ents.toList:=by rw[he];exact List.eraseIdx_sublist _ _
    obtain ⟨r1,r2⟩:=hR.writeM m1 m2 m3 m6 (mDel kv blk.es) ents' clock (List.Pairwise.sublist (hsub.map _) m7) (fun e h=>m8 e (hsub.subset h)) (by rw[he];exact RE_erase m9)
    refine wp_value (u:=.tuple #[]) ?_ (hn _ _ _ _ _ hk2 ⟨⟨_,rfl⟩,#[],rfl,rfl⟩ r1 r2)
    simp only[execOp,ho,resolve,invoke,builtin,Sem.run_bind,Sem.run_pure,Result.andThen_ok,List.map_toArray,List.map_cons,List.map_nil,hvb,hkv,hrun]
  rcases find_mIdx hk1 0 m9 m4 with ⟨g1,en,vv,g2,g3,g4,g5,g6⟩ | ⟨g1,g2⟩
  · have hi : mIdx kv blk.es < ents.size:=by have:=(List.getElem?_eq_some_iff.1 g2).1;simpa using this
    refine fin (ents':=ents.eraseIdxIfInBounds (mIdx kv blk.es)) ?_ ?_
    · unfold Array.eraseIdxIfInBounds
      rw[dif_pos hi]
      simp
    · rw[Nat.zero_add] at g6
      unfold Builtin.delete_
      simp[hat0,run_underlying t1,MapKept.run_getObj_map m6,hck,MapKept.run_findKey t2 g6,MapKept.run_setObj_map _ m6,Result.andThen]
  · refine fin (ents':=ents) ?_ ?_
    · have hln:=RE_len m9
      rw[List.eraseIdx_of_length_le (by omega)]
    · unfold Builtin.delete_
      simp[hat0,run_underlying t1,MapKept.run_getObj_map m6,hck,MapKept.run_findKey t2 g2,MapKept.run_setObj_map _ m6,Result.andThen]
theorem Rel.allocO {φ : Phi} {w : World} {H : AHeap} (h : Rel φ H w) (blk : ABlk) (o : Obj) (hx : Later (fun _=>True) φ (φ.add H.length w.heap.size) (Own φ H) (Own (φ.add H.length w.heap.size) (some blk :: H)) w (w.alloc o)→BlkR (φ.add H.length w.heap.size) (Own (φ.add H.length w.heap.size) (some blk :: H)) (w.alloc o) blk w.heap.size) :
    Rel (φ.add H.length w.heap.size) (some blk :: H) (w.alloc o) ∧ Step φ H w (φ.add H.length w.heap.size) (some blk :: H) (w.alloc o):=by
  obtain ⟨hnew,hold⟩:=MapKept.heap_alloc w o
  have hsize : w.heap.size ≤ (w.alloc o).heap.size:=by simp
  have hdom : ∀ id b,φ id=some b→id < H.length:=fun id b hm=>(h.dom id b hm).1
  have hl2 : Later (fun _=>True) φ (φ.add H.length w.heap.size) (Own φ H) (Own (φ.add H.length w.heap.size) (some blk :: H)) w (w.alloc o):=by
    refine ⟨fun id b _ hm'=>?_,hsize,fun b hb ho ho'=>?_,fun b hb _=>hold b hb,fun b hb=>by unfold World.shape?;rw[hold b hb]⟩
    · unfold Phi.add
      rw[if_neg (by have:=hdom id b hm';omega)]
      exact hm'
    · rcases own_add hdom ho' with h1 | h1
      · exact ho h1
      · omega
  refine ⟨⟨h.glob.later hl2,fun id b' hm'=>?_,fun i j b' hi hj hfi hfj=>?_,fun id b' k h1 h2=>?_⟩,⟨hl2,rfl,rfl,rfl,by simp,fun id hid=>by unfold Phi.add;rw[if_neg (by omega)]⟩⟩
  · unfold Phi.add at hm'
    split at hm'
    · rename_i e
      cases hm'
      exact ⟨by simp[e],by simp⟩
    · have:=h.dom id b' hm'
      exact ⟨by simp;omega,by simp;omega⟩
  · unfold Phi.add at hi hj
    split at hi <;> split at hj
    · omega
    · cases hi;have:=(h.dom j _ hj).2;omega
    · cases hj;have:=(h.dom i _ hi).2;omega
    · have l1:=(h.dom i b' hi).1
      have l2:=(h.dom j b' hj).1
      rw[AHeap.find_cons l1] at hfi
      rw[AHeap.find_cons l2] at hfj
      exact h.inj i j b' hi hj hfi hfj
  · unfold Phi.add at h1
    split at h1
    · rename_i e
      cases h1
      subst e
      rw[AHeap.find_new] at h2
      cases h2
      exact hx hl2
    · have l1:=(h.dom id b' h1).1
      have l2:=(h.dom id b' h1).2
      rw[AHeap.find_cons l1] at h2
      exact (h.blk id b' k h1 h2).on hl2 (hold b' l2)
theorem Rel.writeO {φ : Phi} {w w' : World} {H : AHeap} (h : Rel φ H w) {id b : Nat} {blk : ABlk} (hm : φ id=some b) (hf : AHeap.find H id=some blk) (x : Option ABlk) (hsz : w'.heap.size=w.heap.size) (hoth : ∀ b',b' ≠ b→w'.heap[b']? = w.heap[b']?) (hsh : w'.shape? b=w.shape? b)
    (ho : w'.os=w.os) (htp : w'.tape=w.tape) (hou : w'.output=w.output) (hx : ∀ k,x=some k→Later (fun _=>True) φ φ (Own φ H) (Own φ (AHeap.set H id x)) w w'→BlkR φ (Own φ (AHeap.set H id x)) w' k b) : Rel φ (AHeap.set H id x) w' ∧ Step φ H w φ (AHeap.set H id x) w':=by
  have hid : id < H.length:=AHeap.find_lt hf
  have hown : ∀ b',Own φ (AHeap.set H id x) b'→Own φ H b':=by
    rintro b' ⟨i,k,h1,h2⟩
    by_cases e : i=id
    · subst e;exact ⟨i,blk,h1,hf⟩
    · rw[AHeap.find_set_ne e] at h2;exact ⟨i,k,h1,h2⟩
  have hob : Own φ H b:=⟨id,blk,hm,hf⟩
  have hl : Later (fun _=>True) φ φ (Own φ H) (Own φ (AHeap.set H id x)) w w':=by
    refine ⟨fun _ _ _ h=>h,by omega,fun b' hb' ho ho'=>ho (hown b' ho'),fun b' hb' ho=>hoth b' (fun e=>ho (e ▸ hob)),fun b' hb'=>?_⟩
    by_cases e : b'=b
    · rw[e];exact hsh
    · unfold World.shape?;rw[hoth b' e]
  refine ⟨⟨h.glob.later hl,fun i b' hi=>?_,fun i j b' hi hj hfi hfj=>?_,fun i b' k h1 h2=>?_⟩,⟨hl,ho,htp,hou,by rw[AHeap.set_length];exact Nat.le_refl _,fun _ _=>rfl⟩⟩
  · rw[AHeap.set_length]
    have:=h.dom i b' hi
    exact ⟨this.1,by omega⟩
  · have g : ∀ i,(AHeap.find (AHeap.set H id x) i).isSome→(AHeap.find H i).isSome:=by
      intro i hi
      by_cases e : i=id
      · subst e;rw[hf];rfl
      · rwa [AHeap.find_set_ne e] at hi
    exact h.inj i j b' hi hj (g i hfi) (g j hfj)
  · by_cases e : i=id
    · subst e
      rw[hm] at h1
      cases h1
      rw[AHeap.find_set_same hid] at h2
      exact hx k h2 hl
    · rw[AHeap.find_set_ne e] at h2
      have hne : b' ≠ b:=fun eb=>by
        subst eb
        exact e (h.inj i id b' h1 hm (by rw[h2];rfl) (by rw[hf];rfl))
      exact (h.blk i b' k h1 h2).on hl (hoth b' hne)
theorem natsL_inj : ∀ {l l' : List Nat},l.map (fun (n : Nat)=>Value.int .i64 n)=l'.map (fun (n : Nat)=>Value.int .i64 n)→l=l'
  | [],[],_=>rfl
  | [],_ :: _,h=>by simp at h
  | _ :: _,[],h=>by simp at h
  | a :: r,b :: s,h=>by
    simp only[List.map_cons,List.cons.injEq,Value.int.injEq,true_and] at h
    rw[Int.ofNat_inj.1 h.1,natsL_inj h.2]
theorem natsV_inj {l l' : List Nat} (h : natsV l=natsV l') : l=l':=by
  unfold natsV at h
  simp only[Value.func.injEq,true_and,and_true] at h
  have h:=congrArg Array.toList h
  simp only[List.toList_toArray] at h
  exact natsL_inj h
theorem own_lk {φ : Phi} {w : World} {H : AHeap} (hR : Rel φ H w) {id b clock : Nat} {bs : List Nat} {es : List AV} {ex : Bool} (hm : φ id=some b) (hf : AHeap.find H id=some (lkB clock bs es ex)) :
    ∃ ents : Array MapEntry,w.heap[b]? = some (.map ents clock) ∧ ents.toList.map (·.born)=bs ∧ (ents.toList.map (·.born)).Pairwise (· < ·) ∧ (∀ e ∈ ents.toList,e.born < clock) ∧ RE φ (Own φ H) w es ents.toList:=by
  rcases hR.blk id b _ hm hf with ⟨h0,_⟩ | ⟨_,h0,_⟩ | ⟨_,h0,_⟩ | ⟨_,_,ents,clock',x,r,e,a1,a2,a3,a4,a5⟩ | ⟨_,h0,_⟩
  · exact absurd h0 (by simp[lkB])
  · exact absurd h0 (by simp[lkB])
  · exact absurd h0 (by simp[lkB])
  · simp only[lkB,List.cons.injEq] at e
    obtain ⟨rfl,rfl⟩:=e
    have:=natsV_inj (VR_sc a4)
    simp only[List.cons.injEq] at this
    obtain ⟨rfl,h2⟩:=this
    exact ⟨ents,a1,h2,a2,a3,a5⟩
  · exact absurd h0 (by simp[lkB])
theorem own_it {φ : Phi} {w : World} {H : AHeap} (hR : Rel φ H w) {it id b clock : Nat} {seen : List Nat} (hm : φ it=some b) (hf : AHeap.find H it=some (itB id clock seen)) :
    ∃ bm,φ id=some bm ∧ w.heap[b]? = some (.mapIter (some bm) clock seen.toArray clock):=by
  rcases hR.blk it b _ hm hf with ⟨h0,_⟩ | ⟨_,h0,_⟩ | ⟨_,h0,_⟩ | ⟨_,h0,_⟩ | ⟨_,_,bm,clock',seen',a1,a2⟩
  · exact absurd h0 (by simp[itB])
  · exact absurd h0 (by simp[itB])
  · exact absurd h0 (by simp[itB])
  · exact absurd h0 (by simp[itB])
  · obtain ⟨u1,r1,e1,o1,p1,u2,r2,e2,o2,p2,e3⟩:=a2
    cases e1
    cases e2
    obtain ⟨bm',g1,g2⟩:=VR_ptr (⟨o1,p1⟩ : VR φ (Own φ H) w _ _)
    have g2 : Value.map (some bm) = .map (some bm'):=g2
    cases g2
    have:=natsV_inj (VR_sc (⟨o2,p2⟩ : VR φ (Own φ H) w _ _))
    simp only[List.cons.injEq] at this
    obtain ⟨rfl,h2⟩:=this
    exact ⟨bm,g1,by rw[a1,← h2]⟩
theorem natsV_VR {φ : Phi} {O : Nat→Prop} {w : World} {l : List Nat} : VR φ O w (.sc (natsV l)) (natsV l):=sc_VR rfl
theorem hs_tas {o : Oper} {t xt k e : TypeId} {x : Operand} {x' : X} (ho : o.op = .typeAssert x xt t false) (ht : P.underlying t=some (.map k e)) (hx : ofX x=some x') : HSound P o (.gx (.tas t) [x']):=by
  intro φ H w ts a hR hr K Kp h next Q hn hpp
  have hv:=ofX_spec hr hx
  simp only[HO.sem,List.map_cons,List.map_nil] at h
  obtain ⟨h1,h2⟩:=h
  generalize X.ev ts x'=x1 at h1 h2 hv
  match x1,h1 with
  | .ifc u v,h1 =>
    have h1 : u=t:=h1
    subst h1
    obtain ⟨y,e1,hy⟩:=VR_ifc hv
    refine wp_value (u:=y) ?_ (hn _ _ φ H w h2 hy hR (Step.refl _ _ _))
    simp[execOp,ho,Instr.typeAssert,rn_under ht,e1]
theorem hs_itR {o : Oper} {kd : ItK} {y : X} (hc : compI P o.op=some (.itr kd y)) {φ : Phi} {H : AHeap} {w : World} {ts : List AV} {a : Act} (hR : Rel φ H w) (hr : FR φ (Own φ H) w ts a) {K : AV→AHeap→Prop} (h : itK K H kd (X.ev ts y)) {next : Act→World→Prop} {Q : Exit→Act→World→Prop}
    (hn : ∀ v u φ' H' w',K v H'→VR φ' (Own φ' H') w' v u→Rel φ' H' w'→Step φ H w φ' H' w'→next (a.put o.dst u) w') : o.wp P a w next Q:=by
  unfold compI at hc
  split at hc
  ·
    rename_i t x ho
    split at hc
    case h_2=>simp at hc
    rename_i kt et x' ht hx
    cases hc
    have hv:=ofX_spec hr hx
    generalize X.ev ts y=x1 at h hv
    match x1,h with
    | .ptr 0 id j 0,h =>
      obtain ⟨es,ex,hf,hK⟩:=h
      obtain ⟨b,hm,e1⟩:=VR_ptr hv
      have e1 : a.eval x = .map (some b):=e1
      rcases hR.blk id b _ hm hf with ⟨h0,_⟩ | ⟨_,_,ents,clock,a1,a2,a3,a4⟩ | ⟨_,h0,_⟩ | ⟨_,h0,_⟩ | ⟨_,h0,_⟩
      · exact absurd h0 (by simp)
      · obtain ⟨hR1,hS1⟩:=hR.writeO (w':=w) hm hf (some (lkB clock (ents.toList.map (·.born)) es ex)) rfl (fun _ _=>rfl) rfl rfl rfl rfl (fun k hk hl=>by
          cases hk
          exact .inr (.inr (.inr (.inl ⟨rfl,rfl,ents,clock,_,_,rfl,a1,a2,a3,natsV_VR,RE_later hl (AV.idsL_true _) a4⟩))))
        obtain ⟨hR2,hS2⟩:=hR1.allocO (itB id clock []) (.mapIter (some b) clock #[] clock) (fun hl =>
          .inr (.inr (.inr (.inr ⟨rfl,rfl,b,clock,#[],(MapKept.heap_alloc w _).1,.map (some b),_,rfl,rfl,⟨b,by
            unfold Phi.add
            rw[if_neg (by rw[AHeap.set_length];have:=AHeap.find_lt hf;omega)]
            exact hm,rfl⟩,natsV [clock],[],rfl,rfl,by simp[R,cget,natsV,Value.cells],rfl⟩))))
        rw[AHeap.set_length] at hR2 hS2
        have hk:=hK clock (ents.toList.map (·.born)) (by rw[List.length_map];exact RE_len a4) a2
        refine wp_value (u:=.pointer (some ⟨w.heap.size,0,none⟩)) ?_ (hn _ _ _ _ _ hk ⟨rfl,w.heap.size,by simp[Phi.add],rfl⟩ hR2 (hS1.trans hS2))
        simp only[execOp,ho,e1,Sem.run_bind,run_range_map w t kt et b ents clock ht a1,Result.andThen_ok,Sem.run_pure]
      · exact absurd h0 (by simp)
      · exact absurd h0 (by simp)
      · exact absurd h0 (by simp)
  ·
    rename_i x ho
    rw[Option.map_eq_some_iff] at hc
    obtain ⟨x',hx,hc⟩:=hc
    cases hc
    have hv:=ofX_spec hr hx
    generalize X.ev ts y=x1 at h hv
    match x1,h with
    | .ptr 0 it j 2,h =>
      obtain ⟨id,clock,seen,bs,es,ex,hf1,hf2,hsh,hK0,hK1⟩:=h
      obtain ⟨bi,hmi,e1⟩:=VR_ptr hv
      have e1 : a.eval x = .pointer (some ⟨bi,0,none⟩):=e1
      obtain ⟨bm,hmm,a1⟩:=own_it hR hmi hf1
      obtain ⟨ents,m1,m2,m3,m4,m5⟩:=own_lk hR hmm hf2
      rcases run_next_at (P:=P) w o.type bi bm clock clock seen.toArray ents clock a1 m1 m4 (Nat.le_refl _) with ⟨c1,c2⟩ | ⟨e,c1,w1,c2,c3⟩
      · have hall : ∀ b ∈ bs,b ∈ seen:=by
          intro b hb
          rw[← m2] at hb
          obtain ⟨e,he,rfl⟩:=List.mem_map.1 hb
          have h0 : leftOf ents seen.toArray=#[]:=Array.eq_empty_of_size_eq_zero c1
          unfold leftOf at h0
          rw[Array.filter_eq_empty_iff] at h0
          have:=h0 e (by simpa using he)
          simpa using this
        obtain ⟨hR1,hS1⟩:=hR.writeO (w':=w) hmm hf2 (some ⟨0,es,ex,0⟩) rfl (fun _ _=>rfl) rfl rfl rfl rfl (fun k hk hl=>by
          cases hk
          exact .inr (.inl ⟨rfl,rfl,ents,clock,m1,m3,m4,RE_later hl (AV.idsL_true _) m5⟩))
        refine wp_value (u:=.tuple #[.bool false]) ?_ (hn _ _ _ _ _ (hK0 hall) ⟨⟨_,rfl⟩,#[.bool false],rfl,.bool false,[],rfl,rfl,rfl,rfl⟩ hR1 hS1)
        simp only[execOp,ho,e1,Sem.run_bind,c2,Result.andThen_ok,Sem.run_pure]
      · unfold leftOf at c1
        simp only[Array.toList_filter,List.mem_filter] at c1
        obtain ⟨d1,d2⟩:=c1
        obtain ⟨i,hi,he⟩:=List.getElem_of_mem d1
        have hei : ents.toList[i]? = some e:=by rw[List.getElem?_eq_getElem hi,he]
        have hb : bs[i]? = some e.born:=by rw[← m2,List.getElem?_map,hei];rfl
        have hl : i < es.length:=by rw[← RE_len m5];exact hi
        obtain ⟨k,v,hes⟩:=hsh es[i] (List.getElem_mem hl)
        have hes : es[i]? = some (.tup [.sc k,v]):=by rw[List.getElem?_eq_getElem hl,hes]
        obtain ⟨e',g1,g2⟩:=RE_nth m5 hes
        rw[hei] at g1
        cases g1
        have hns : e.born ∉ seen:=by simpa using d2
        have hK:=hK1 i e.born k v hb hes hns
        have hw1 : w1.heap=w.heap ∧ Rel φ H w1 ∧ Step φ H w φ H w1:=by
          rcases c2 with rfl | rfl
          · exact ⟨rfl,hR,Step.refl _ _ _⟩
          · exact ⟨rfl,drew_rel hR,drew_step φ H w⟩
        obtain ⟨hw1,hR1,hS1⟩:=hw1
        have hlt : bi < w1.heap.size:=by rw[hw1];exact heap_lt a1
        have hsame : (ChangeMaps.setBlock w1 bi (.mapIter (some bm) clock (seen.toArray.push e.born) clock)).heap[bi]? = some (.mapIter (some bm) clock (seen.toArray.push e.born) clock):=by
          unfold ChangeMaps.setBlock
          simp[hlt]
        have hoth : ∀ b',b' ≠ bi→(ChangeMaps.setBlock w1 bi (.mapIter (some bm) clock (seen.toArray.push e.born) clock)).heap[b']? = w1.heap[b']?:=by
          intro b' hne
          unfold ChangeMaps.setBlock
          simp[Ne.symm hne]
        obtain ⟨hR2,hS2⟩:=hR1.writeO (w':=ChangeMaps.setBlock w1 bi (.mapIter (some bm) clock (seen.toArray.push e.born) clock)) hmi hf1 (some (itB id clock (seen ++ [e.born]))) (by unfold ChangeMaps.setBlock;simp) hoth
          (by unfold World.shape?;rw[hsame,hw1,a1]) rfl rfl rfl (fun k hk hl=>by
          cases hk
          exact .inr (.inr (.inr (.inr ⟨rfl,rfl,bm,clock,seen.toArray.push e.born,hsame,.map (some bm),_,rfl,rfl,⟨bm,hmm,rfl⟩,natsV (clock :: (seen.toArray.push e.born).toList),[],rfl,rfl,by simp[R,cget,natsV,Value.cells],rfl⟩))))
        have hS:=hS1.trans hS2
        have hvr:=hS.vr g2
        obtain ⟨us,f1,f2⟩:=VR_tup hvr
        cases f1
        refine wp_value (u:=.tuple #[.bool true,e.key,e.val]) ?_ (hn _ _ _ _ _ hK ⟨⟨_,rfl⟩,#[.bool true,e.key,e.val],rfl,.bool true,[e.key,e.val],rfl,rfl,rfl,f2⟩ hR2 hS)
        simp only[execOp,ho,e1,Sem.run_bind,c3,Result.andThen_ok,Sem.run_pure]
  ·
    rename_i x ho
    rw[Option.map_eq_some_iff] at hc
    obtain ⟨x',hx,hc⟩:=hc
    cases hc
    have hv:=ofX_spec hr hx
    generalize X.ev ts y=x1 at h hv
    match x1,h with
    | .ptr 0 it j 2,h =>
      obtain ⟨id,clock,seen,bs,es,ex,i,b,k,v,hf1,hf2,hb,hes,hK⟩:=h
      obtain ⟨bi,hmi,e1⟩:=VR_ptr hv
      have e1 : a.eval x = .pointer (some ⟨bi,0,none⟩):=e1
      obtain ⟨bm,hmm,a1⟩:=own_it hR hmi hf1
      obtain ⟨ents,m1,m2,m3,m4,m5⟩:=own_lk hR hmm hf2
      obtain ⟨e,g1,g2⟩:=RE_nth m5 hes
      have hbe : e.born=b:=by
        rw[← m2,List.getElem?_map,g1] at hb
        simpa using hb
      subst hbe
      have hn2 : (ents.toList.map (·.born)).Nodup:=m3.imp fun h=>by omega
      have hrun:=run_entry_at (P:=P) w bi bm clock seen.toArray ents clock e (by rw[a1];simp) m1 (List.mem_of_getElem? g1) hn2
      refine wp_value (u:=.tuple #[e.key,e.val]) ?_ (hn _ _ _ _ _ hK g2 hR (Step.refl _ _ _))
      simp only[execOp,ho,e1,Sem.run_bind,hrun,Result.andThen_ok,Sem.run_pure]
  · simp at hc
theorem hs_map {o : Oper} {p : Op} {op : HO} (hp : o.op=p) (h : compM P p=some op) : HSound P o op:=by
  unfold compM at h
  split at h
  · split at h
    · cases h;exact hs_mkmap hp
    · simp at h
  · split at h
    case h_2=>simp at h
    rename_i q e x' i' h1 h2 h3
    rw[Option.map_eq_some_iff] at h
    obtain ⟨z,h4,rfl⟩:=h
    exact hs_mget hp h1 h2 h3 h4
  · split at h
    case h_2=>simp at h
    cases h
    exact hs_mput (.inl hp) (by assumption) (by assumption) (by assumption) (by assumption)
  · split at h
    case h_2=>simp at h
    cases h
    exact hs_tas hp (by assumption) (by assumption)
  · split at h
    case h_2=>simp at h
    cases h
    exact hs_mput (.inr hp) (by assumption) (by assumption) (by assumption) (by assumption)
  · split at h
    case h_2=>simp at h
    rename_i ha hat
    split at h
    case h_2=>simp at h
    cases h
    exact hs_mlen hp ha hat (by assumption) (by assumption)
  · split at h
    case h_2=>simp at h
    rename_i ha hat
    split at h
    case h_2=>simp at h
    cases h
    exact hs_mdel hp ha hat (by assumption) (by assumption) (by assumption)
  · simp at h
end
end Go.Proofs.YtdjnccnecgblmaaGreatDoor
