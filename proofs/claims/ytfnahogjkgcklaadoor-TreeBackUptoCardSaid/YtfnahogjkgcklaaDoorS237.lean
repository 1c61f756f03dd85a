/- strings.Fields of a given text: the shelf's contract, in the walker's words. -/
import Derived.Test.YtfnahogjkgcklaaDoorLZ
import Derived.Test.YtfnahogjkgcklaaDoorS236
namespace Go.Proofs.YtfnahogjkgcklaaDoor
open Go.RowKit Go.Shelf
set_option maxRecDepth 100000
set_option linter.unusedVariables false
theorem tabS_of {φ : Phi} {H : AHeap} {w : World} (h : GOk φ H w) : Lib.TabIs Tryd.prog w "strings.asciiSpace" .u8 Lib.asciiSpaceTab := by
 obtain ⟨⟨e,fr,h1⟩,_⟩ := h _ (List.mem_cons_self ..)
 unfold Lib.TabIs World.var?
 have hg : Tryd.prog.globalNamed "strings.asciiSpace" = some 0 := by kernel_rfl
 rw [hg]
 simp only [Option.bind_some,h1]
 congr 2
theorem Rl_strs {φ : Phi} {O : Nat → Prop} {w : World} {b : Nat} : ∀ (l : List ByteArray) (off : Nat),(∀ j (h : j < l.length),memAt w b (off + j) 0 = some (.string l[j])) → Rl φ O w b 1 (strs l) off
 | [],_,_ => trivial
 | x :: r,off,h => by
  have h0 := h 0 (by simp)
  simp only [Nat.add_zero,List.getElem_cons_zero] at h0
  refine ⟨rfl,fun _ => ⟨_,h0,rfl⟩,h0,Rl_strs r (off + 1) fun j hj => ?_⟩
  have := h (j + 1) (by simp; omega)
  rw [show off + 1 + j = off + (j + 1) by omega]
  simpa using this
theorem fields_d (s : ByteArray) (l : List ByteArray) (hl : (Lib.fields s.data.toList).map (fun x => (⟨x.toArray⟩ : ByteArray)) = l) (hs : s.size < 4294967281) (hascii : ∀ (j : Nat) b,s.data.toList[j]? = some b → b.toNat < 128) (hn : l.length ≤ 1000000) (H : AHeap) : D Tryd.prog 60 [.sc (.string s)] H (.ret (.lst 1 (strs l) none)) H := by
 refine ⟨Nat.le_refl _,fun φ w vs hR ha => ?_⟩
 obtain ⟨a,r,e1,a1,a2,e3⟩ := ha
 have ea : a = .string s := VR_sc ⟨a1,a2⟩
 have e3' : r = [] := e3
 have hvs : vs = #[.string s] := by
  cases vs
  simp only at e1
  rw [e1,ea,e3']
 rw [hvs]
 refine (Any.strings_Fields lays157 (by kernel_rfl) (by kernel_rfl) s w hs hascii (tabS_of hR.glob)).mono fun en w' ⟨he,hw⟩ => ?_
 have hll : (Lib.fields s.data.toList).length = l.length := by rw [← hl]; simp
 have hcells : ((Lib.fields s.data.toList).map fun l => Value.string ⟨l.toArray⟩) = l.map Value.string := by rw [← hl]; simp [Function.comp_def]
 rw [hcells] at hw
 rw [hll] at he
 have hold : ∀ b,b < w.heap.size → w'.heap[b]? = w.heap[b]? := fun b hb => by rw [hw]; exact heap_alloc_old w _ hb
 have hsz : w'.heap.size = w.heap.size + 1 := by rw [hw]; exact World.size_alloc w _
 have hno : ¬ Own φ H w.heap.size := by
  rintro ⟨id,k,g1,_⟩
  have := (hR.dom id _ g1).2
  omega
 refine ⟨φ,?_,hR.grow (by omega) hold,grow_step (by rw [hw]; rfl) (by rw [hw]; rfl) (by rw [hw]; rfl) (by omega) hold⟩
 rw [he]
 refine ⟨rfl,_,l.length,?_,?_,?_,fun h => by simp at h,fun _ => ⟨w.heap.size,0,rfl,hno,by omega,Rl_strs l 0 fun j hj => ?_⟩,trivial⟩
 ·simp [cget,Value.cells,strs]
 ·simp [strs]
 ·unfold maxLen; omega
 ·unfold memAt
  rw [hw,World.cell?_alloc_at _ _ _ _ rfl]
  rw [show 0 + j + 0 = j by omega,List.getElem?_toArray,List.getElem?_map,List.getElem?_eq_getElem hj]
  rfl
end Go.Proofs.YtfnahogjkgcklaaDoor
