import Derived.Test.YtdjnccnecgblmaaGreatDoorTC
import Derived.Test.YtdjnccnecgblmaaGreatDoorVE
namespace Go.Proofs.YtdjnccnecgblmaaGreatDoor
open Go.RowKit
set_option maxRecDepth 100000
set_option linter.unusedVariables false
set_option linter.unusedSimpArgs false
structure OutW (F : AHeap) (oid : Nat) (xs : List ByteArray) (io : Nat) : Prop where
 box : AHeap.find F oid=some ⟨1,[OwnV 1 (strs xs) io],true,36⟩
 own : xs ≠ []→AHeap.find F io=OwnB 1 9 (strs xs) ∧ io ≠ oid
structure OutQ (F : AHeap) (oid : Nat) (xs : List ByteArray) (io : Nat) (ys : List ByteArray) (io' : Nat) (F' : AHeap) : Prop where
 out : OutW F' oid ys io'
 len : F.length ≤ F'.length
 at_ : ys ≠ []→(xs ≠ [] ∧ io'=io) ∨ F.length ≤ io'
 old : ∀ i,i < F.length→i ≠ oid→(xs ≠ []→i ≠ io)→AHeap.find F' i=AHeap.find F i
theorem strs_ne {xs : List ByteArray} (h : xs ≠ []) : strs xs ≠ []:=fun e=>h (by simpa [strs] using e)
theorem OutQ.none {F : AHeap} {oid : Nat} {xs : List ByteArray} {io : Nat} (h : OutW F oid xs io) : OutQ F oid xs io xs io F :=
 ⟨h,Nat.le_refl _,fun e=>.inl ⟨e,rfl⟩,fun _ _ _ _=>rfl⟩
theorem OutQ.trans {F G K : AHeap} {oid a b c : Nat} {xs ys zs : List ByteArray} (h : OutQ F oid xs a ys b G) (k : OutQ G oid ys b zs c K) : OutQ F oid xs a zs c K:=by
 refine ⟨k.out,Nat.le_trans h.len k.len,fun e=>?_,fun i hi h1 h2=>?_⟩
 ·rcases k.at_ e with ⟨e1,e2⟩ | h3
  ·rcases h.at_ e1 with ⟨g1,g2⟩ | g3
   ·exact .inl ⟨g1,e2.trans g2⟩
   ·exact .inr (by omega)
  ·exact .inr (by have:=h.len;omega)
 ·rw[k.old i (by have:=h.len;omega) h1 (fun e=>?_),h.old i hi h1 h2]
  rcases h.at_ e with ⟨g1,g2⟩ | g3
  ·rw[g2];exact h2 g1
  ·omega
theorem OutW.cons {F : AHeap} {oid io : Nat} {xs : List ByteArray} (b : Option ABlk) (h : OutW F oid xs io) : OutW (b :: F) oid xs io:=by
 refine ⟨by rw[find_past (AHeap.find_lt h.box)];exact h.box,fun e=>⟨?_,(h.own e).2⟩⟩
 have h1:=(h.own e).1
 rw[OwnB_ne (strs_ne e)] at h1 ⊢
 rw[find_past (AHeap.find_lt h1),h1]
theorem OutQ.cons {F : AHeap} {oid io : Nat} {xs : List ByteArray} (b : Option ABlk) (h : OutW F oid xs io) : OutQ F oid xs io xs io (b :: F) :=
 ⟨h.cons b,by simp,fun e=>.inl ⟨e,rfl⟩,fun i hi _ _=>find_past hi⟩
end Go.Proofs.YtdjnccnecgblmaaGreatDoor
namespace Go.Proofs.YtdjnccnecgblmaaGreatDoor
open Go.RowKit
set_option maxRecDepth 100000
set_option linter.unusedVariables false
set_option linter.unusedSimpArgs false
end Go.Proofs.YtdjnccnecgblmaaGreatDoor
