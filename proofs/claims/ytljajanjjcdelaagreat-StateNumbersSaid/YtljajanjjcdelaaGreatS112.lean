/- Files that were lent, as whoever only reads sees them; how much they are. -/
import Derived.Test.YtljajanjjcdelaaGreatS107
namespace Go.Proofs.YtljajanjjcdelaaGreat
open Go.RowKit
set_option maxRecDepth 100000
set_option linter.unusedVariables false
set_option linter.unusedSimpArgs false
abbrev lentDV (l : List Dc) (id : Nat) : AV := .vec 2 id 0 l.length (some (l.length + 12))
abbrev lentDB (l : List Dc) : Option ABlk := some ⟨2,docs (l ++ mksD 12),true,40⟩
theorem lentD_view {H : AHeap} {l : List Dc} {id : Nat} (hf : AHeap.find H id = lentDB l) : View H (lentDV l id) (.lst 2 (docs l) none) := by
 refine .vec hf rfl (by simp [docs_length]) ?_
 have : List.take l.length (List.drop 0 (docs (l ++ mksD 12))) = docs l := by
  rw [List.drop_zero,docs_append,List.take_append_of_le_length (by rw [docs_length]; exact Nat.le_refl _),List.take_of_length_le (by rw [docs_length]; exact Nat.le_refl _)]
 rw [this]
 exact docs_view
theorem dcnt_ge (most : Int) : ∀ (l : List Dc) (n : Int),n ≤ dcnt l n most
 | [],n => Int.le_refl _
 | d :: r,n => by
  unfold dcnt
  split
  ·have := dcnt_ge most r (n + ((d.1.size + d.2.size) / 8 : Nat))
   omega
  ·exact Int.le_refl _
theorem docsOf_ge (l : List Dc) (most : Int) : (l.length : Int) ≤ docsOf l most := dcnt_ge _ _ _
theorem dcnt_le (most : Int) : ∀ (l : List Dc) (n : Int),(∀ d ∈ l,d.1.size ≤ 100000000 ∧ d.2.size ≤ 100000000) → dcnt l n most ≤ max n (most + 25000000)
 | [],n,_ => by unfold dcnt; omega
 | d :: r,n,h => by
  unfold dcnt
  split
  ·have := dcnt_le most r (n + ((d.1.size + d.2.size) / 8 : Nat)) (fun x hx => h x (List.mem_cons_of_mem _ hx))
   have := h d (by simp)
   omega
  ·omega
theorem docsOf_le {l : List Dc} {most : Int} (h : ShortD l) (hm : most ≤ 1000000) : docsOf l most ≤ 200000000 := by
 have := dcnt_le most l l.length h.2
 have := h.1
 unfold docsOf
 omega
theorem callR_GD {P : Program} {K : List AV → AHeap → Prop} {Kp : AV → List AV → AHeap → Prop} {d : Option Nat} {f : FuncId} {args : List AV} {r : List IO'} {ts : List AV} {H : AHeap} (h : ∀ G,G = H → callR P K Kp d f args r ts G) : callR P K Kp d f args r ts H := h H rfl
end Go.Proofs.YtljajanjjcdelaaGreat
