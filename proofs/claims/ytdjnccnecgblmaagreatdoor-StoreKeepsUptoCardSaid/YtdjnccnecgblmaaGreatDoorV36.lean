import Derived.Test.YtdjnccnecgblmaaGreatDoorVE
namespace Go.Proofs.YtdjnccnecgblmaaGreatDoor
open Go.RowKit
set_option linter.unusedVariables false
set_option linter.unusedSimpArgs false
structure GRow where
 nil : Bool
 n : Nat
 id : Nat
 c : Option Nat
instance : Inhabited GRow:=⟨⟨true,0,0,none⟩⟩
def nthG (rs : List GRow) (i : Nat) : GRow:=rs.getD i default
theorem nthG_mem {rs : List GRow} {k : Nat} (h : k < rs.length) : nthG rs k ∈ rs:=by
 unfold nthG
 rw[List.getD_eq_getElem?_getD,List.getElem?_eq_getElem h]
 exact List.getElem_mem h
def gIds (rs : List GRow) : List Nat:=(rs.filter fun r=>!r.nil).map (·.id)
theorem of_mem_gIds {rs : List GRow} {i : Nat} (h : i ∈ gIds rs) : ∃ k,k < rs.length ∧ (nthG rs k).nil=false ∧ (nthG rs k).id=i:=by
 obtain ⟨o,h1,rfl⟩:=List.mem_map.1 h
 obtain ⟨h2,h3⟩:=List.mem_filter.1 h1
 obtain ⟨k,hk,e⟩:=List.getElem_of_mem h2
 have e2 : nthG rs k=o:=by
  unfold nthG
  rw[List.getD_eq_getElem?_getD,List.getElem?_eq_getElem hk]
  exact e
 exact ⟨k,hk,by rw[e2];simpa using h3,by rw[e2]⟩
def gOK (s : Shape) (H : AHeap) (r : GRow) : Prop:=∃ es ex,AHeap.find H r.id=some ⟨s.k,es,ex,s.ty⟩ ∧ (r.c=none→ex=false ∧ r.n ≤ es.length) ∧ (∀ m,r.c=some m→capOK r.n m es ex) ∧ ∀ x ∈ es,s.is x
structure GRowsOK (s : Shape) (H : AHeap) (rs : List GRow) : Prop where
 zero : ∀ r ∈ rs,r.nil=true→r.n=0
 blk : ∀ r ∈ rs,r.nil=false→gOK s H r
 apart : (gIds rs).Nodup
 small : ∀ r ∈ rs,r.n ≤ 10000000
theorem GRowsOK.lt {s : Shape} {H : AHeap} {rs : List GRow} (h : GRowsOK s H rs) : ∀ i ∈ gIds rs,i < H.length:=fun i hi=>by
 obtain ⟨k,hk,hn,rfl⟩:=of_mem_gIds hi
 obtain ⟨es,ex,h1,_⟩:=h.blk _ (nthG_mem hk) hn
 exact AHeap.find_lt h1
theorem GRowsOK.keep {s : Shape} {H G : AHeap} {rs : List GRow} (h : GRowsOK s H rs) (hk : ∀ i,i ∈ gIds rs→AHeap.find G i=AHeap.find H i) : GRowsOK s G rs :=
 ⟨h.zero,fun r hr hn=>by
  obtain ⟨es,ex,h1,h2⟩:=h.blk r hr hn
  exact ⟨es,ex,(hk _ (List.mem_map.2 ⟨r,List.mem_filter.2 ⟨hr,by simp[hn]⟩,rfl⟩)).trans h1,h2⟩,h.apart,h.small⟩
end Go.Proofs.YtdjnccnecgblmaaGreatDoor
