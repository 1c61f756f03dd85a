import Derived.Test.YtfnahogjkgcklaaGreatDoorVE
namespace Go.Proofs.YtfnahogjkgcklaaGreatDoor
open Go.RowKit
set_option linter.unusedVariables false
set_option linter.unusedSimpArgs false
structure GRow where
 nil : Bool
 n : Nat
 id : Nat
 c : Option Nat
instance : Inhabited GRow:=⟨⟨true,0,0,none⟩⟩
def GRow.av (k : Nat) (r : GRow) : AV:=if r.nil then .lst 0 [] (some []) else .vec k r.id 0 r.n r.c
theorem GRow.av_nil {k : Nat} {r : GRow} (h : r.nil=true) : r.av k = .lst 0 [] (some []):=by simp[GRow.av,h]
theorem GRow.av_vec {k : Nat} {r : GRow} (h : r.nil=false) : r.av k = .vec k r.id 0 r.n r.c:=by simp[GRow.av,h]
theorem GRow.av_facts {k : Nat} {r : GRow} : (r.av k).isTop=false ∧ (r.av k).ncells=1 ∧ (r.av k).isAgg=false:=by unfold GRow.av;split <;> exact ⟨rfl,rfl,rfl⟩
def gRows (k : Nat) (rs : List GRow) : List AV:=rs.map (GRow.av k)
theorem gRows_length {k : Nat} {rs : List GRow} : (gRows k rs).length=rs.length:=by simp[gRows]
theorem gRows_append {k : Nat} {a b : List GRow} : gRows k (a ++ b)=gRows k a ++ gRows k b:=by simp[gRows]
def nthG (rs : List GRow) (i : Nat) : GRow:=rs.getD i default
theorem gRows_ne {k : Nat} {rs : List GRow} : gRows k rs ≠ [] ↔ rs ≠ []:=by cases rs <;> simp[gRows]
theorem nthG_mem {rs : List GRow} {k : Nat} (h : k < rs.length) : nthG rs k ∈ rs:=by
 unfold nthG
 rw[List.getD_eq_getElem?_getD,List.getElem?_eq_getElem h]
 exact List.getElem_mem h
def gIds (rs : List GRow) : List Nat:=(rs.filter fun r=>!r.nil).map (·.id)
theorem mem_gIds {rs : List GRow} {k : Nat} (h : k < rs.length) (hn : (nthG rs k).nil=false) : (nthG rs k).id ∈ gIds rs :=
 List.mem_map.2 ⟨nthG rs k,List.mem_filter.2 ⟨nthG_mem h,by simp[hn]⟩,rfl⟩
theorem of_mem_gIds {rs : List GRow} {i : Nat} (h : i ∈ gIds rs) : ∃ k,k < rs.length ∧ (nthG rs k).nil=false ∧ (nthG rs k).id=i:=by
 obtain ⟨o,h1,rfl⟩:=List.mem_map.1 h
 obtain ⟨h2,h3⟩:=List.mem_filter.1 h1
 obtain ⟨k,hk,e⟩:=List.getElem_of_mem h2
 have e2 : nthG rs k=o:=by
  unfold nthG
  rw[List.getD_eq_getElem?_getD,List.getElem?_eq_getElem hk]
  exact e
 exact ⟨k,hk,by rw[e2];simpa using h3,by rw[e2]⟩
def gOK (s : Shape) (H : AHeap) (r : GRow) : Prop:=∃ es ex,AHeap.find H r.id=some ⟨s.k,es,ex,s.ty⟩ ∧ (r.c=none→ex=false ∧ r.n ≤ es.length) ∧ (∀ m,r.c=some m→capOK r.n m es ex) ∧ ∀ x ∈ es,s.is x
structure GRowsOK (s : Shape) (H : AHeap) (rs : List GRow) : Prop where
 zero : ∀ r ∈ rs,r.nil=true→r.n=0
 blk : ∀ r ∈ rs,r.nil=false→gOK s H r
 apart : (gIds rs).Nodup
 small : ∀ r ∈ rs,r.n ≤ 10000000
theorem gIds_inj {rs : List GRow} (h : (gIds rs).Nodup) : ∀ k l,k < rs.length→l < rs.length→(nthG rs k).nil=false→(nthG rs l).nil=false→(nthG rs k).id=(nthG rs l).id→k=l:=by
 induction rs with
 | nil=>intro k l hk;simp at hk
 | cons r t ih =>
  have hmem : ∀ {j : Nat},j < t.length→(nthG t j).nil=false→(nthG t j).id ∈ gIds t:=fun hj hn=>mem_gIds hj hn
  have h2 : (gIds t).Nodup:=by
   unfold gIds at h ⊢
   simp only[List.filter_cons] at h
   split at h
   ·exact (List.nodup_cons.1 h).2
   ·exact h
  have h3 : r.nil=false→r.id ∉ gIds t:=fun hn=>by
   unfold gIds at h ⊢
   rw[List.filter_cons_of_pos (by simp[hn])] at h
   exact (List.nodup_cons.1 h).1
  intro k l hk hl nk nl e
  cases k with
  | zero =>
   cases l with
   | zero=>rfl
   | succ l =>
    have h4 : l < t.length:=by simpa using hl
    exact absurd (show r.id ∈ gIds t from (show r.id=(nthG t l).id from e) ▸ hmem h4 nl) (h3 nk)
  | succ k =>
   have h5 : k < t.length:=by simpa using hk
   cases l with
   | zero=>exact absurd (show r.id ∈ gIds t from (show (nthG t k).id=r.id from e) ▸ hmem h5 nk) (h3 nl)
   | succ l=>rw[ih h2 k l h5 (by simpa using hl) nk nl e]
theorem GRowsOK.lt {s : Shape} {H : AHeap} {rs : List GRow} (h : GRowsOK s H rs) : ∀ i ∈ gIds rs,i < H.length:=fun i hi=>by
 obtain ⟨k,hk,hn,rfl⟩:=of_mem_gIds hi
 obtain ⟨es,ex,h1,_⟩:=h.blk _ (nthG_mem hk) hn
 exact AHeap.find_lt h1
theorem GRowsOK.keep {s : Shape} {H G : AHeap} {rs : List GRow} (h : GRowsOK s H rs) (hk : ∀ i,i ∈ gIds rs→AHeap.find G i=AHeap.find H i) : GRowsOK s G rs :=
 ⟨h.zero,fun r hr hn=>by
  obtain ⟨es,ex,h1,h2⟩:=h.blk r hr hn
  exact ⟨es,ex,(hk _ (List.mem_map.2 ⟨r,List.mem_filter.2 ⟨hr,by simp[hn]⟩,rfl⟩)).trans h1,h2⟩,h.apart,h.small⟩
theorem open_g {k : Nat} : ∀ {os : List GRow} {es : List AV},OpenedL (gRows k os) es →
  ∃ rs : List FRow,es=rowsV k rs ∧ rs.length=os.length ∧ ∀ i,i < os.length→(nthR rs i).n=(nthG os i).n ∧ (nthR rs i).nil=(nthG os i).nil ∧ ((nthG os i).nil=false→(nthR rs i).id=(nthG os i).id ∧ ∀ m,(nthG os i).c=some m→(nthR rs i).c=m)
 | [],es,h=>by
  cases h
  exact ⟨[],rfl,rfl,fun i hi=>by simp at hi⟩
 | o :: r,es,h=>by
  have h' : OpenedL (o.av k :: gRows k r) es:=h
  cases h' with
  | @cons _ y0 _ s0 hx hr =>
   obtain ⟨rs,e1,e2,e3⟩:=open_g hr
   have key : ∀ (f : FRow) (y : AV),y=f.av k→f.n=o.n→f.nil=o.nil→(o.nil=false→f.id=o.id ∧ ∀ m,o.c=some m→f.c=m) →
     ∃ rs' : List FRow,y :: s0=rowsV k rs' ∧ rs'.length=(o :: r).length ∧ ∀ i,i < (o :: r).length→(nthR rs' i).n=(nthG (o :: r) i).n ∧ (nthR rs' i).nil=(nthG (o :: r) i).nil ∧ ((nthG (o :: r) i).nil=false→(nthR rs' i).id=(nthG (o :: r) i).id ∧ ∀ m,(nthG (o :: r) i).c=some m→(nthR rs' i).c=m):=by
    intro f y hy h1 h2 h3
    refine ⟨f :: rs,by rw[hy,e1];rfl,by simp[e2],fun i hi=>?_⟩
    cases i with
    | zero=>exact ⟨h1,h2,h3⟩
    | succ i=>exact e3 i (by simpa using hi)
   cases hn : o.nil with
   | true =>
    rw[GRow.av_nil hn] at hx
    exact key ⟨true,o.n,0,0⟩ _ (show y0=_ from hx) rfl hn.symm (fun h=>by rw[hn] at h;cases h)
   | false =>
    rw[GRow.av_vec hn] at hx
    cases hc : o.c with
    | none =>
     rw[hc] at hx
     obtain ⟨c,_,rfl⟩:=hx
     exact key ⟨false,o.n,o.id,c⟩ _ (by simp[FRow.av]) rfl hn.symm (fun _=>⟨rfl,fun m h=>by rw[hc] at h;cases h⟩)
    | some c =>
     rw[hc] at hx
     exact key ⟨false,o.n,o.id,c⟩ _ (show y0=_ from hx) rfl hn.symm (fun _=>⟨rfl,fun m h=>by rw[hc] at h;cases h;rfl⟩)
theorem flat_g {P : Program} {f : FuncId} (s : Shape) (hcore : ∀ (H : AHeap) (rs : List FRow) (lid : Nat) (exl : Bool) (lty : TypeId) (cl : Option Nat),AHeap.find H lid=some ⟨1,rowsV s.k rs,exl,lty⟩→RowsOK s H rs→lid ∉ rowIds rs→rs.length ≤ 1000000 →
   D P f [.vec 1 lid 0 rs.length cl] H (.ret (.sc (.bool true))) (killIds (rowIds rs) H))
  {H : AHeap} {os : List GRow} {lid : Nat} {exl : Bool} {lty : TypeId} {cl : Option Nat} (hls : AHeap.find H lid=some ⟨1,gRows s.k os,exl,lty⟩) (ok : GRowsOK s H os) (hlid : lid ∉ gIds os) (hN : os.length ≤ 1000000) :
  D P f [.vec 1 lid 0 os.length cl] H (.ret (.sc (.bool true))) (killIds (lid :: gIds os) H):=by
 have hlt:=AHeap.find_lt hls
 refine D_open hls (by rw[killIds_length];exact Nat.le_refl _) fun es hes=>?_
 obtain ⟨rs,rfl,h1,h2⟩:=open_g hes
 have hidne : ∀ k,k < os.length→(nthG os k).nil=false→(nthR rs k).id ≠ lid:=fun k hk hn e=>by
  rw[((h2 k hk).2.2 hn).1] at e
  exact hlid (e ▸ mem_gIds hk hn)
 have ok2 : RowsOK s (AHeap.set H lid (some ⟨1,rowsV s.k rs,exl,lty⟩)) rs:=by
  refine ⟨fun k hk hn=>?_,fun k hk hn=>?_,fun k l hk hl hn hn2 e=>?_,fun k hk=>?_⟩
  ·have hk' : k < os.length:=by omega
   rw[(h2 k hk').1]
   exact ok.zero _ (nthG_mem hk') ((h2 k hk').2.1 ▸ hn)
  ·have hk' : k < os.length:=by omega
   have hn' : (nthG os k).nil=false:=(h2 k hk').2.1 ▸ hn
   obtain ⟨es,ex,b1,b2,b3,b4⟩:=ok.blk _ (nthG_mem hk') hn'
   obtain ⟨c1,c2⟩:=(h2 k hk').2.2 hn'
   refine ⟨es,ex,?_,?_,b4⟩
   ·rw[AHeap.find_set_ne (hidne k hk' hn'),c1]
    exact b1
   ·rw[(h2 k hk').1]
    cases hc : (nthG os k).c with
    | none=>exact .inr (b2 hc)
    | some m=>rw[c2 m hc];exact b3 m hc
  ·have hk' : k < os.length:=by omega
   have hl' : l < os.length:=by omega
   have n1 : (nthG os k).nil=false:=(h2 k hk').2.1 ▸ hn
   have n2 : (nthG os l).nil=false:=(h2 l hl').2.1 ▸ hn2
   refine gIds_inj ok.apart k l hk' hl' n1 n2 ?_
   rw[← ((h2 k hk').2.2 n1).1,← ((h2 l hl').2.2 n2).1]
   exact e
  ·rw[(h2 k (by omega)).1];exact ok.small _ (nthG_mem (by omega))
 have hids : ∀ i,i ∈ rowIds rs→i ∈ gIds os:=fun i hi=>by
  obtain ⟨r,e1,rfl⟩:=List.mem_map.1 hi
  obtain ⟨e2,e3⟩:=List.mem_filter.1 e1
  obtain ⟨k,hk,e⟩:=List.getElem_of_mem e2
  have e4 : nthR rs k=r:=by
   unfold nthR
   rw[List.getD_eq_getElem?_getD,List.getElem?_eq_getElem hk]
   exact e
  have hk' : k < os.length:=by omega
  have hn : (nthG os k).nil=false:=by rw[← (h2 k hk').2.1,e4];simpa using e3
  rw[← e4,((h2 k hk').2.2 hn).1]
  exact mem_gIds hk' hn
 have hD:=hcore (AHeap.set H lid (some ⟨1,rowsV s.k rs,exl,lty⟩)) rs lid exl lty cl (AHeap.find_set_same hlt) ok2 (fun h=>hlid (hids _ h)) (by omega)
 rw[h1] at hD
 refine hD.weak (by rw[killIds_length,AHeap.set_length];exact Nat.le_refl _) ?_
 refine weak_gen [] (by simp[killIds_length,AHeap.set_length]) (by simp) (by simp) (fun id k hid hk=>.inl ?_) (fun i s k hs=>by simp at hs) (.same trivial)
 obtain ⟨g1,g2⟩:=find_killIds hk
 have g3 : id ≠ lid:=fun e=>g1 (by simp[e])
 have g4 : id ∉ gIds os:=fun e=>g1 (by simp[e])
 have g5 : AHeap.find (AHeap.set H lid (some ⟨1,rowsV s.k rs,exl,lty⟩)) id=some k:=by rw[AHeap.find_set_ne g3];exact g2
 exact ⟨g5,by rw[killIds_other (fun e=>g4 (hids _ e))];exact g5⟩
end Go.Proofs.YtfnahogjkgcklaaGreatDoor
