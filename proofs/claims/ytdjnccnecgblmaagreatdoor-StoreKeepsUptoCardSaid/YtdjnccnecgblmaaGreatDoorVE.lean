import Derived.Test.YtdjnccnecgblmaaGreatDoorVC
import Derived.RangeFuncRecord
import Derived.OrdersIn
namespace Go.Proofs.YtdjnccnecgblmaaGreatDoor
open Go.RowKit
set_option linter.unusedVariables false
set_option linter.unusedSimpArgs false
mutual
def AV.up (n : Nat) : AV→AV
 | .vec k id off m c=>.vec k (n+id) off m c
 | .ptr k id j f=>.ptr k (n+id) j f
 | .agg cs=>.agg (AV.upL n cs)
 | .tup cs=>.tup (AV.upL n cs)
 | x=>x
def AV.upL (n : Nat) : List AV→List AV
 | []=>[]
 | x :: r=>AV.up n x :: AV.upL n r
end
def ABlk.up (n : Nat) (b : ABlk) : ABlk:={ b with es:=AV.upL n b.es }
def AHeap.up (n : Nat) (G : AHeap) : AHeap:=G.map fun b=>b.map (ABlk.up n)
mutual
def AV.op : AV→Bool
 | .sc _=>true
 | .ub=>true
 | .top=>true
 | .lst _ [] none=>true
 | .lst _ [] (some [])=>true
 | .vec _ _ _ _ _=>true
 | .ptr _ _ _ _=>true
 | .agg cs=>AV.opL cs
 | .tup cs=>AV.opL cs
 | _=>false
def AV.opL : List AV→Bool
 | []=>true
 | x :: r=>AV.op x && AV.opL r
end
def AHeap.op (G : AHeap) : Prop:=∀ id b,AHeap.find G id=some b→AV.opL b.es=true
section
variable {φ ψ : Phi} {O O' : Nat→Prop} {w : World} {n : Nat}
end
end Go.Proofs.YtdjnccnecgblmaaGreatDoor
namespace Go.Proofs.YtdjnccnecgblmaaGreatDoor
open Go.RowKit
set_option linter.unusedVariables false
set_option linter.unusedSimpArgs false
def Opened : AV→AV→Prop
 | .vec k i off n none,y=>∃ c,n ≤ c ∧ y = .vec k i off n (some c)
 | x,y=>y=x
inductive OpenedL : List AV→List AV→Prop where
 | nil : OpenedL [] []
 | cons {x y : AV} {r s : List AV} : Opened x y→OpenedL r s→OpenedL (x :: r) (y :: s)
theorem OpenedL.len : ∀ {xs ys : List AV},OpenedL xs ys→ys.length=xs.length
 | _,_,.nil=>rfl
 | _,_,.cons _ h=>by simp[h.len]
theorem OpenedL.get : ∀ {xs ys : List AV},OpenedL xs ys→∀ {j : Nat},j < xs.length→Opened (xs.getD j .top) (ys.getD j .top)
 | _,_,.nil,j,h=>by simp at h
 | _,_,.cons hx hr,0,_=>hx
 | _,_,.cons hx hr,j+1,h=>by
  simp only[List.getD_cons_succ]
  exact hr.get (by simpa using h)
end Go.Proofs.YtdjnccnecgblmaaGreatDoor
namespace Go.Proofs.YtdjnccnecgblmaaGreatDoor
open Go.RowKit
set_option linter.unusedVariables false
set_option linter.unusedSimpArgs false
structure FRow where
 nil : Bool
 n : Nat
 id : Nat
 c : Nat
instance : Inhabited FRow:=⟨⟨true,0,0,0⟩⟩
def nthR (rs : List FRow) (i : Nat) : FRow:=rs.getD i default
def capOK (n c : Nat) (es : List AV) (ex : Bool) : Prop:=(ex=true ∧ c=es.length ∧ n ≤ c) ∨ (ex=false ∧ n ≤ es.length)
structure Shape where
 k : Nat
 ty : TypeId
 ag : Bool
def Shape.is (s : Shape) (x : AV) : Prop:=x.isTop=false ∧ x.ncells=s.k ∧ x.isAgg=s.ag
def RowR (s : Shape) (mk : Nat→AV) (F : AHeap) (id n c m : Nat) : Prop :=
 ∃ es ex,AHeap.find F id=some ⟨s.k,es,ex,s.ty⟩ ∧ capOK n c es ex ∧ (∀ x ∈ es,s.is x) ∧ ∀ i,i < m→es[i]? = some (mk i)
def Reads (k : Nat) (mk : Nat→AV) (F : AHeap) (id m : Nat) : Prop:=∃ blk,AHeap.find F id=some blk ∧ blk.k=k ∧ m ≤ blk.es.length ∧ ∀ i,i < m→blk.es.getD i .top=mk i
section
variable {s : Shape} {mk : Nat→AV} {F G : AHeap} {id n c m : Nat}
theorem capOK_le {es : List AV} {ex : Bool} (h : capOK n c es ex) : n ≤ es.length:=by
 rcases h with ⟨_,h1,h2⟩ | ⟨_,h⟩
 ·omega
 ·exact h
theorem getD_of_some {l : List AV} {i : Nat} {x : AV} (h : l[i]? = some x) : l.getD i .top=x:=by simp[List.getD,h]
theorem RowR.keep (h : RowR s mk F id n c m) (e : AHeap.find G id=AHeap.find F id) : RowR s mk G id n c m:=by
 unfold RowR at h ⊢
 rw[e]
 exact h
theorem Reads.keep {k : Nat} (h : Reads k mk F id m) (e : AHeap.find G id=AHeap.find F id) : Reads k mk G id m:=by
 unfold Reads at h ⊢
 rw[e]
 exact h
theorem RowR.less {m' : Nat} (h : RowR s mk F id n c m) (hm : m' ≤ m) : RowR s mk F id n c m':=by
 obtain ⟨es,ex,h1,h2,h3,h4⟩:=h
 exact ⟨es,ex,h1,h2,h3,fun i hi=>h4 i (by omega)⟩
theorem RowR.reads (h : RowR s mk F id n c m) (hm : m ≤ n) : Reads s.k mk F id m:=by
 obtain ⟨es,ex,h1,h2,h3,h4⟩:=h
 have:=capOK_le h2
 exact ⟨_,h1,rfl,by simp only;omega,fun i hi=>getD_of_some (h4 i hi)⟩
theorem Reads.less {k m' : Nat} (h : Reads k mk F id m) (hm : m' ≤ m) : Reads k mk F id m':=by
 obtain ⟨blk,h1,h2,h3,h4⟩:=h
 exact ⟨blk,h1,h2,by omega,fun i hi=>h4 i (by omega)⟩
theorem RowR.store {es : List AV} {ex : Bool} (hf : AHeap.find F id=some ⟨s.k,es,ex,s.ty⟩) (h2 : capOK n c es ex) (h3 : ∀ x ∈ es,s.is x) (h4 : ∀ i,i < m→es[i]? = some (mk i)) (hm : m < n) (hs : s.is (mk m)) :
  RowR s mk (AHeap.set F id (some ⟨s.k,es.set m (mk m),ex,s.ty⟩)) id n c (m+1):=by
 have hlt:=AHeap.find_lt hf
 have hle:=capOK_le h2
 refine ⟨_,_,AHeap.find_set_same hlt,?_,fun x hx=>?_,fun i hi=>?_⟩
 ·simpa [capOK] using h2
 ·rcases List.mem_or_eq_of_mem_set hx with h | rfl
  ·exact h3 x h
  ·exact hs
 ·rw[List.getElem?_set]
  by_cases e : m=i
  ·subst e;simp;omega
  ·rw[if_neg e];exact h4 i (by omega)
theorem RowR.app {es ys : List AV} {ex : Bool} (hf : AHeap.find F id=some ⟨s.k,es,ex,s.ty⟩) (h2 : capOK n c es ex) (h3 : ∀ x ∈ es,s.is x) (h4 : ∀ i,i < n→es[i]? = some (mk i)) (hr : n+ys.length ≤ c) (hs : ∀ x ∈ ys,s.is x) (hy : ∀ i,i < ys.length→ys[i]? = some (mk (n+i))) :
  RowR s mk (AHeap.set F id (some ⟨s.k,es.take n ++ ys ++ es.drop (n+ys.length),ex,s.ty⟩)) id (n+ys.length) c (n+ys.length):=by
 have hlt:=AHeap.find_lt hf
 have hle:=capOK_le h2
 have hl : (es.take n ++ ys).length=n+ys.length:=by simp;omega
 refine ⟨_,_,AHeap.find_set_same hlt,?_,fun x hx=>?_,fun i hi=>?_⟩
 ·rcases h2 with ⟨e1,e2,e3⟩ | ⟨e1,e2⟩
  ·refine .inl ⟨e1,?_,hr⟩
   simp;omega
  ·refine .inr ⟨e1,?_⟩
   rw[List.length_append,hl];omega
 ·rcases List.mem_append.1 hx with hx | hx
  ·rcases List.mem_append.1 hx with hx | hx
   ·exact h3 x (List.mem_of_mem_take hx)
   ·exact hs x hx
  ·exact h3 x (List.mem_of_mem_drop hx)
 ·rw[List.getElem?_append_left (by omega)]
  by_cases e : i < n
  ·rw[List.getElem?_append_left (by simp;omega),List.getElem?_take_of_lt e]
   exact h4 i e
  ·rw[List.getElem?_append_right (by simp;omega)]
   have : i - (es.take n).length=i - n:=by simp;omega
   rw[this,hy _ (by omega)]
   congr 2
   omega
end
def rowIds (rs : List FRow) : List Nat:=(rs.filter fun r=>!r.nil).map (·.id)
theorem mem_rowIds {rs : List FRow} {k : Nat} (h : k < rs.length) (hn : (nthR rs k).nil=false) : (nthR rs k).id ∈ rowIds rs:=by
 refine List.mem_map.2 ⟨nthR rs k,List.mem_filter.2 ⟨?_,by simp[hn]⟩,rfl⟩
 unfold nthR
 rw[List.getD_eq_getElem?_getD,List.getElem?_eq_getElem h]
 exact List.getElem_mem h
structure RowsOK (s : Shape) (F : AHeap) (rs : List FRow) : Prop where
 nil : ∀ k,k < rs.length→(nthR rs k).nil=true→(nthR rs k).n=0
 blk : ∀ k,k < rs.length→(nthR rs k).nil=false→∃ es ex,AHeap.find F (nthR rs k).id=some ⟨s.k,es,ex,s.ty⟩ ∧ capOK (nthR rs k).n (nthR rs k).c es ex ∧ ∀ x ∈ es,s.is x
 apart : ∀ k l,k < rs.length→l < rs.length→(nthR rs k).nil=false→(nthR rs l).nil=false→(nthR rs k).id=(nthR rs l).id→k=l
 small : ∀ k,k < rs.length→(nthR rs k).n ≤ 10000000
def RowsM (s : Shape) (mk : Nat→Nat→AV) (F : AHeap) (rs : List FRow) (m : Nat→Nat) : Prop :=
 ∀ k,k < rs.length→(nthR rs k).nil=false→RowR s (mk k) F (nthR rs k).id (nthR rs k).n (nthR rs k).c (m k)
def Beside (H F : AHeap) (rs : List FRow) : Prop:=∀ id,id < H.length→id ∉ rowIds rs→AHeap.find F id=AHeap.find H id
def Seconds (k0 : Nat) (mk : Nat→Nat→AV) (F : AHeap) (rs : List FRow) (g0 B : Nat) (gvs : List AV) (K : Nat) (x : Nat→Nat) : Prop :=
 ∀ k,k < K→∃ gid gc,gvs.getD k .top = .vec k0 gid 0 ((nthR rs k).n+64) gc ∧ Reads k0 (mk k) F gid (x k) ∧ ((gid=(nthR rs k).id ∧ (nthR rs k).nil=false) ∨ g0 < gid) ∧ gid < B
section
variable {s : Shape} {mk : Nat→Nat→AV} {H F G : AHeap} {rs : List FRow} {m m' : Nat→Nat}
theorem RowsOK.start (h : RowsOK s H rs) : RowsM s mk H rs (fun _=>0):=fun k hk hn=>by
 obtain ⟨es,ex,h1,h2,h3⟩:=h.blk k hk hn
 exact ⟨es,ex,h1,h2,h3,fun i hi=>absurd hi (Nat.not_lt_zero _)⟩
theorem Beside.refl : Beside H H rs:=fun _ _ _=>rfl
theorem Beside.set (h : Beside H F rs) {K : Nat} {b : Option ABlk} (hK : K < rs.length) (hn : (nthR rs K).nil=false) : Beside H (AHeap.set F (nthR rs K).id b) rs:=fun id hid hni=>by
 have hne : id ≠ (nthR rs K).id:=fun e=>hni (by rw[e];exact mem_rowIds hK hn)
 rw[AHeap.find_set_ne hne]
 exact h id hid hni
theorem Beside.cons (h : Beside H F rs) (hl : H.length ≤ F.length) {b : Option ABlk} : Beside H (b :: F) rs:=fun id hid hni=>by
 rw[AHeap.find_cons (by omega)]
 exact h id hid hni
theorem RowsM.put (h : RowsM s mk F rs m) (ok : RowsOK s H rs) {K : Nat} {b : Option ABlk} (hK : K < rs.length) (hn : (nthR rs K).nil=false) (hr : RowR s (mk K) (AHeap.set F (nthR rs K).id b) (nthR rs K).id (nthR rs K).n (nthR rs K).c (m' K)) (hm : ∀ k,k ≠ K→m' k ≤ m k) :
  RowsM s mk (AHeap.set F (nthR rs K).id b) rs m':=fun k hk hkn=>by
 by_cases e : k=K
 ·subst e;exact hr
 ·exact ((h k hk hkn).less (hm k e)).keep (AHeap.find_set_ne (fun e'=>e (ok.apart k K hk hK hkn hn e')))
theorem RowsM.less (h : RowsM s mk F rs m) (hm : ∀ k,k < rs.length→m' k ≤ m k) : RowsM s mk F rs m':=fun k hk hkn=>(h k hk hkn).less (hm k hk)
theorem RowsM.far (h : RowsM s mk F rs m) (ok : RowsOK s H rs) {i : Nat} {b : Option ABlk} (hi : H.length ≤ i) : RowsM s mk (AHeap.set F i b) rs m:=fun k hk hkn=>by
 obtain ⟨es,ex,h1,_⟩:=ok.blk k hk hkn
 have:=AHeap.find_lt h1
 exact (h k hk hkn).keep (AHeap.find_set_ne (by omega))
theorem RowsM.cons (h : RowsM s mk F rs m) {b : Option ABlk} : RowsM s mk (b :: F) rs m:=fun k hk hkn=>by
 obtain ⟨es,ex,h1,_⟩:=h k hk hkn
 exact (h k hk hkn).keep (AHeap.find_cons (AHeap.find_lt h1))
theorem Seconds.keep {k0 g0 B K : Nat} {gvs : List AV} {x : Nat→Nat} (h : Seconds k0 mk F rs g0 B gvs K x) (h1 : ∀ id,g0 < id→id < B→AHeap.find G id=AHeap.find F id) (h2 : ∀ k,k < K→(nthR rs k).nil=false→AHeap.find G (nthR rs k).id=AHeap.find F (nthR rs k).id) : Seconds k0 mk G rs g0 B gvs K x:=fun k hk=>by
 obtain ⟨gid,gc,a1,a2,a3,a4⟩:=h k hk
 refine ⟨gid,gc,a1,a2.keep ?_,a3,a4⟩
 rcases a3 with ⟨rfl,hn⟩ | h
 ·exact h2 k hk hn
 ·exact h1 gid h a4
theorem Seconds.more {k0 g0 B B' K : Nat} {gvs : List AV} {x : Nat→Nat} (h : Seconds k0 mk F rs g0 B gvs K x) (hB : B ≤ B') : Seconds k0 mk F rs g0 B' gvs K x:=fun k hk=>by
 obtain ⟨gid,gc,a1,a2,a3,a4⟩:=h k hk
 exact ⟨gid,gc,a1,a2,a3,by omega⟩
theorem Seconds.less {k0 g0 B K : Nat} {gvs : List AV} {x y : Nat→Nat} (h : Seconds k0 mk F rs g0 B gvs K x) (hy : ∀ k,k < K→y k ≤ x k) : Seconds k0 mk F rs g0 B gvs K y:=fun k hk=>by
 obtain ⟨gid,gc,a1,a2,a3,a4⟩:=h k hk
 exact ⟨gid,gc,a1,a2.less (hy k hk),a3,a4⟩
theorem Seconds.next {k0 g0 B B' K : Nat} {gvs : List AV} {x : Nat→Nat} {gid : Nat} {gc : Option Nat} (h : Seconds k0 mk F rs g0 B gvs K x) (hB : B ≤ B') (hK : K < gvs.length) (hr : Reads k0 (mk K) F gid (x K)) (ho : (gid=(nthR rs K).id ∧ (nthR rs K).nil=false) ∨ g0 < gid) (hb : gid < B') :
  Seconds k0 mk F rs g0 B' (gvs.set K (.vec k0 gid 0 ((nthR rs K).n+64) gc)) (K+1) x:=fun k hk=>by
 by_cases e : k=K
 ·subst e
  exact ⟨gid,gc,by simp[List.getD,hK],hr,ho,hb⟩
 ·obtain ⟨gid',gc',a1,a2,a3,a4⟩:=h k (by omega)
  refine ⟨gid',gc',?_,a2,a3,by omega⟩
  rw[← a1]
  simp only[List.getD_eq_getElem?_getD]
  rw[List.getElem?_set_ne (by omega)]
theorem Seconds.zero {k0 g0 B : Nat} {gvs : List AV} {x : Nat→Nat} : Seconds k0 mk F rs g0 B gvs 0 x:=fun k hk=>by omega
end
theorem upd_flat {e x : AV} {f : Nat} (h : e.isAgg=false) : AV.upd e f x=x:=by
 cases e <;> first | rfl | (simp[AV.isAgg] at h)
theorem Reads.marks {k : Nat} {mk : Nat→AV} {F : AHeap} {gid n : Nat} {ex : Bool} {ty : TypeId} (h : AHeap.find F gid=some ⟨k,(List.range n).map mk,ex,ty⟩) : Reads k mk F gid n :=
 ⟨_,h,rfl,by simp,fun i hi=>by simp[List.getD,hi]⟩
def Ones (l : List AV) : Prop:=∀ x ∈ l,x.ncells=1 ∧ x.isAgg=false
theorem Ones.get {l : List AV} (h : Ones l) {i : Nat} (hi : i < l.length) : (l.getD i .top).ncells=1 ∧ ∀ f x,AV.upd (l.getD i .top) f x=x:=by
 have e : l.getD i .top=l[i]:=by simp[List.getD,hi]
 have:=h _ (List.getElem_mem hi)
 rw[e]
 exact ⟨this.1,fun f x=>upd_flat this.2⟩
theorem Ones.set {l : List AV} (h : Ones l) {i : Nat} {x : AV} (hx : x.ncells=1 ∧ x.isAgg=false) : Ones (l.set i x):=fun y hy=>by
 rcases List.mem_or_eq_of_mem_set hy with hy | rfl
 ·exact h y hy
 ·exact hx
end Go.Proofs.YtdjnccnecgblmaaGreatDoor
namespace Go.Proofs.YtdjnccnecgblmaaGreatDoor
open Go.RowKit
set_option linter.unusedVariables false
set_option linter.unusedSimpArgs false
theorem find_killO_other {xs : List AV} {id i : Nat} {H : AHeap} (h : xs ≠ []→i ≠ id) : AHeap.find (killO xs id H) i=AHeap.find H i:=by
 cases xs with
 | nil=>rfl
 | cons x r=>exact AHeap.find_set_ne (h (by simp))
theorem idsL_mono' {n m : Nat} (h : n ≤ m) {l : List AV} (hl : AV.idsL (· < n) l) : AV.idsL (· < m) l:=AV.idsL_mono (fun i hi=>Nat.lt_of_lt_of_le hi h) l hl
end Go.Proofs.YtdjnccnecgblmaaGreatDoor
namespace Go.Proofs.YtdjnccnecgblmaaGreatDoor
open Go.RowKit
set_option linter.unusedVariables false
set_option linter.unusedSimpArgs false
def lays : List (Option ABlk)→AHeap→AHeap
 | [],H=>H
 | b :: r,H=>lays r (b :: H)
theorem lays_old : ∀ {bs : List (Option ABlk)} {H : AHeap} {i : Nat},i < H.length→AHeap.find (lays bs H) i=AHeap.find H i
 | [],H,i,h=>rfl
 | b :: r,H,i,h=>by
  simp only[lays]
  rw[lays_old (by simp;omega),AHeap.find_cons h]
theorem lays_new : ∀ {bs : List (Option ABlk)} {H : AHeap} {i : Nat} {b : Option ABlk},bs[i]? = some b→AHeap.find (lays bs H) (H.length+i)=b
 | [],H,i,b,h=>by simp at h
 | x :: r,H,0,b,h=>by
  simp at h
  subst h
  simp only[lays]
  rw[Nat.add_zero,lays_old (by simp),AHeap.find_new]
 | x :: r,H,i+1,b,h=>by
  simp only[lays]
  have:=lays_new (bs:=r) (H:=x :: H) (i:=i) (by simpa using h)
  rw[List.length_cons,show H.length+1+i=H.length+(i+1) from by omega] at this
  exact this
theorem nodup_map {n : Nat} {f : Nat→Nat} (h : ∀ i j,i < j→f i < f j) : ((List.range n).map f).Nodup:=by
 rw[List.nodup_iff_pairwise_ne,List.pairwise_map]
 exact List.pairwise_lt_range.imp fun hab=>Nat.ne_of_lt (h _ _ hab)
theorem GzL.append {H1 : AHeap} {n0 : Nat} {src : List Nat} : ∀ {a b c d : List AV},GzL H1 n0 src a c→GzL H1 n0 src b d→GzL H1 n0 src (a ++ b) (c ++ d)
 | _,_,_,_,.nil,h=>h
 | _,_,_,_,.cons hx hr,h=>.cons hx (GzL.append hr h)
theorem GzL.map {H1 : AHeap} {n0 : Nat} {src : List Nat} {α : Type} {f g : α→AV} : ∀ {l : List α},(∀ x ∈ l,Gz H1 n0 src (f x) (g x))→GzL H1 n0 src (l.map f) (l.map g)
 | [],_=>.nil
 | x :: r,h=>.cons (h x (by simp)) (GzL.map fun y hy=>h y (by simp[hy]))
theorem apAny {H : AHeap} {k : Nat} {ty : TypeId} {xs ys : List AV} {id : Nat} (hf : xs ≠ []→AHeap.find H id=OwnB k ty xs) (hl : xs.length+ys.length ≤ 100000000) :
  ∃ (id' : Nat) (H' : AHeap),apOk H k ty ys (OwnV k xs id) ∧ apV H k ys (OwnV k xs id)=OwnV k (xs ++ ys) id' ∧ apH H k ty ys (OwnV k xs id)=H' ∧ (xs ++ ys ≠ []→AHeap.find H' id'=OwnB k ty (xs ++ ys) ∧ id'=H.length) ∧ H.length ≤ H'.length ∧ (∀ i,i < H.length→(xs ≠ []→i ≠ id)→AHeap.find H' i=AHeap.find H i):=by
 obtain ⟨h1,h2,h3⟩:=apOwn hf hl
 by_cases e : ys ≠ [] ∨ xs ≠ []
 ·obtain ⟨g1,g2⟩:=h2 e
  refine ⟨_,_,h1,g1,g2,fun _=>⟨?_,rfl⟩,by simp[killO_length],fun i hi hne=>?_⟩
  ·have:=AHeap.find_new (H:=killO xs id H) (b:=OwnB k ty (xs ++ ys))
   rwa [killO_length] at this
  ·rw[AHeap.find_cons (by rw[killO_length];exact hi),find_killO_other hne]
 ·have e1 : ys=[]:=Classical.byContradiction fun h=>e (.inl h)
  have e2 : xs=[]:=Classical.byContradiction fun h=>e (.inr h)
  obtain ⟨g1,g2⟩:=h3 e1 e2
  refine ⟨0,H,h1,by rw[g1,e1,e2];rfl,g2,fun h=>by rw[e1,e2] at h;exact (h rfl).elim,Nat.le_refl _,fun _ _ _=>rfl⟩
theorem weak_frz {H F : AHeap} {x y : AV} (h : ∀ id,id < H.length→AHeap.find F id=AHeap.find H id) (hz : Gz F H.length [] x y) : Weak H (.ret x) F (.ret y) H :=
 weak_gen [] (by simp) (by simp) (by simp) (fun id k hid hk=>.inl ⟨hk,by rw[h id hid];exact hk⟩) (fun i s k hs=>by simp at hs) hz
end Go.Proofs.YtdjnccnecgblmaaGreatDoor
namespace Go.Proofs.YtdjnccnecgblmaaGreatDoor
open Go.RowKit
set_option linter.unusedVariables false
set_option linter.unusedSimpArgs false
section
variable {P : Program} {ro : Option Nat} {n : Nat}
def Mk (m : Nat) : Deferred:={ target:=.collected m,args:=#[] }
def MD (n0 : Nat) (φ : Phi) (H : AHeap) (w : World) (ds : List Deferred) : Prop:=∃ ms : List Nat,ds=ms.map Mk ∧ ms.Nodup ∧ ∀ m ∈ ms,n0 ≤ m ∧ w.heap[m]? = some (.deferred (some [])) ∧ ¬ Own φ H m
theorem MD.nil (n0 : Nat) (φ : Phi) (H : AHeap) (w : World) : MD n0 φ H w []:=⟨[],rfl,.nil,fun m h=>by cases h⟩
theorem MD.step {n0 : Nat} {φ φ' : Phi} {H H' : AHeap} {w w' : World} {ds : List Deferred} (hs : Step φ H w φ' H' w') (h : MD n0 φ H w ds) : MD n0 φ' H' w' ds:=by
 obtain ⟨ms,h1,h2,h3⟩:=h
 refine ⟨ms,h1,h2,fun m hm=>?_⟩
 obtain ⟨g1,g2,g3⟩:=h3 m hm
 exact ⟨g1,(hs.same m (heap_lt g2) g3).trans g2,hs.own m (heap_lt g2) g3⟩
def CKY (n0 : Nat) (K : Post) (φ : Phi) (H : AHeap) (w : World) : Exit→Act→World→Prop:=fun e a' w' =>
 ∃ x ts' H' φ',XR φ' (Own φ' H') w' x e ∧ K x ts' H' ∧ FR φ' (Own φ' H') w' ts' a' ∧ Rel φ' H' w' ∧ Step φ H w φ' H' w' ∧ MD n0 φ' H' w' a'.defers
theorem CKY.step {n0 : Nat} {K : Post} {φ φ' : Phi} {H H' : AHeap} {w w' : World} {e : Exit} {a : Act} {w2 : World} (hs : Step φ H w φ' H' w') (h : CKY n0 K φ' H' w' e a w2) : CKY n0 K φ H w e a w2:=by
 obtain ⟨x,ts,H2,φ2,h1,h2,h3,h4,h5,h6⟩:=h
 exact ⟨x,ts,H2,φ2,h1,h2,h3,h4,hs.trans h5,h6⟩
theorem CKY.stays {n0 : Nat} {K : Post} {φ : Phi} {H : AHeap} {w : World} : ¬ LetsOut (CKY n0 K φ H w):=by
 rintro ⟨a,w',x,ts,H2,φ2,h1,_⟩
 cases x <;> exact h1.elim
end
end Go.Proofs.YtdjnccnecgblmaaGreatDoor
namespace Go.Proofs.YtdjnccnecgblmaaGreatDoor
open Go.RowKit
set_option linter.unusedVariables false
set_option linter.unusedSimpArgs false
section
variable {φ : Phi} {O : Nat→Prop} {w w' : World}
end
section
variable {P : Program} {K : Post} {ts : List AV} {H : AHeap}
end
end Go.Proofs.YtdjnccnecgblmaaGreatDoor
