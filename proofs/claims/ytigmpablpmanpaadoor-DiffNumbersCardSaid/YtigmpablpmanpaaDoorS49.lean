/- ApartTexts and ApartHunks tell true of own rows that lie apart. -/
import Derived.Test.YtigmpablpmanpaaDoorS48
namespace Go.Proofs.YtigmpablpmanpaaDoor
open Go.RowKit
set_option maxRecDepth 100000
set_option linter.unusedVariables false
set_option linter.unusedSimpArgs false
theorem OwnsOK.keep {s : Shape} {H G : AHeap} {os : List ORow} (h : OwnsOK s H os) (hk : ∀ i,i ∈ ownIds os → AHeap.find G i = AHeap.find H i) : OwnsOK s G os :=
 ⟨fun k hk' hn => (hk _ (mem_ownIds hk' hn)).trans (h.blk k hk' hn),h.shape,h.apart,h.small⟩
theorem OwnsOK.lt {s : Shape} {H : AHeap} {os : List ORow} (h : OwnsOK s H os) : ∀ i ∈ ownIds os,i < H.length := fun i hi => by
 obtain ⟨k,hk,hn,rfl⟩ := of_mem_ownIds hi
 have := h.blk k hk hn
 rw [OwnB_ne hn] at this
 exact AHeap.find_lt this
end Go.Proofs.YtigmpablpmanpaaDoor
