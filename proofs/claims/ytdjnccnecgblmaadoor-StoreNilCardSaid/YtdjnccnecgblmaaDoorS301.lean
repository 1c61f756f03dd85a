/- slices.Sort of an own row of texts: the shelf's contract, in the walker's words. -/
import Derived.Test.YtdjnccnecgblmaaDoorS300
import Derived.Test.YtdjnccnecgblmaaDoorLZ
import Derived.Test.YtdjnccnecgblmaaDoorV41
namespace Go.Proofs.YtdjnccnecgblmaaDoor
namespace Srt
open Go.RowKit Go.Shelf Go.Sort
set_option maxRecDepth 100000
set_option linter.unusedVariables false
set_option linter.unusedSimpArgs false
theorem strs_ne {l : List ByteArray} (h : l ≠ []) : strs l ≠ [] := by cases l <;> simp [strs] at h ⊢
theorem Rl_strs {φ : Phi} {O : Nat → Prop} {w : World} {b : Nat} : ∀ (l : List ByteArray) (off : Nat),(∀ j (h : j < l.length),memAt w b (off + j) 0 = some (.string l[j])) → Rl φ O w b 1 (strs l) off
 | [],_,_ => trivial
 | x :: r,off,h => by
  have h0 := h 0 (by simp)
  simp only [Nat.add_zero,List.getElem_cons_zero] at h0
  refine ⟨rfl,fun _ => ⟨_,h0,rfl⟩,h0,Rl_strs r (off + 1) fun j hj => ?_⟩
  have := h (j + 1) (by simp; omega)
  rw [show off + 1 + j = off + (j + 1) by omega]
  simpa using this
def ofL (zs : List (List UInt8)) : List ByteArray := zs.map fun x => ⟨x.toArray⟩
def toL (xs : List ByteArray) : List (List UInt8) := xs.map fun x => x.data.toList
theorem ofL_toL (xs : List ByteArray) : ofL (toL xs) = xs := by
 simp [ofL,toL,Function.comp_def]
theorem toL_length (xs : List ByteArray) : (toL xs).length = xs.length := by simp [toL]
theorem ofL_length (zs : List (List UInt8)) : (ofL zs).length = zs.length := by simp [ofL]
theorem modify_at {w : World} {b : Nat} {cur : Array Value} {e : TypeId} {fr : Nat × Nat} (f : Array Value → Array Value) (h : w.heap[b]? = some (.cells cur e fr)) : (mapBlock w b f).heap[b]? = some (.cells (f cur) e fr) := by
 unfold mapBlock
 simp only [Array.getElem?_modify,if_true,h,Option.map_some,onCells]
theorem modify_else {w : World} {b b' : Nat} (f : Array Value → Array Value) (h : b' ≠ b) : (mapBlock w b f).heap[b']? = w.heap[b']? := by
 unfold mapBlock
 simp only [Array.getElem?_modify,if_neg (fun e => h (Eq.symm e))]
theorem enc_at (zs : List (List UInt8)) (j : Nat) (h : j < zs.length) : encStr zs.toArray[j]! = .string ((ofL zs)[j]'(by rw [ofL_length]; exact h)) := by
 simp [encStr,ofL,h]
theorem row_holds {φ : Phi} {O : Nat → Prop} {w : World} {b : Nat} {xs : List ByteArray} {cur : Array Value} {e : TypeId} (hb : w.heap[b]? = some (.cells cur e (0,0))) (h : Rl φ O w b 1 (strs xs) 0) : Holds encStr w b 0 (toL xs).toArray := by
 intro j hj
 have hj' : j < xs.length := by simpa [toL] using hj
 have hx : (strs xs)[j]? = some (.sc (.string xs[j])) := by simp [strs,hj']
 obtain ⟨b1,b2,b3⟩ := Rl_nth h hx
 have b4 : memAt w b (0 + j * 1) 0 = some (.string xs[j]) := b3
 refine ⟨?_,by simp [World.frozen?,hb]⟩
 unfold memAt at b4
 rw [show 0 + j * 1 + 0 = 0 + j by omega] at b4
 rw [b4,enc_at (toL xs) j (by rw [toL_length]; exact hj')]
 simp [ofL_toL]
theorem putRow_rel {φ : Phi} {H : AHeap} {w : World} (hR : Rel φ H w) {id b : Nat} {xs : List ByteArray} (hm : φ id = some b) (hf : AHeap.find H id = some ⟨1,strs xs,false,9⟩) (zs : List (List UInt8)) (hl : zs.length = xs.length) (n : Nat) (os : Array Obj) :
  Rel φ (AHeap.set H id (some ⟨1,strs (ofL zs),false,9⟩)) (grow (putRow encStr (Sort.ahead w n) b 0 zs.toArray) os) ∧ Step φ H w φ (AHeap.set H id (some ⟨1,strs (ofL zs),false,9⟩)) (grow (putRow encStr (Sort.ahead w n) b 0 zs.toArray) os) := by
 obtain ⟨cur,cap,a1,a2,a3,a4,a5,a6⟩ := (hR.blk id b _ hm hf).cells (by show 0 < 1; omega)
 have a1' : (Sort.ahead w n).heap[b]? = some (.cells cur 9 (0,0)) := a1
 simp only [strs_length] at a3
 simp only [Nat.mul_one] at a2
 have hw1 : (putRow encStr (Sort.ahead w n) b 0 zs.toArray).heap[b]? = some (.cells (putCells encStr 0 zs.toArray cur) 9 (0,0)) := modify_at _ a1'
 have hcs : (putCells encStr 0 zs.toArray cur).size = cur.size := by simp [putCells]
 have h1 := hR.writeO (w' := putRow encStr (Sort.ahead w n) b 0 zs.toArray) hm hf (some ⟨1,strs (ofL zs),false,9⟩) (by simp [Sort.ahead]) (fun b' hb' => modify_else _ hb') (by unfold World.shape?; rw [hw1,a1]; simp [hcs]) rfl rfl rfl (fun k hk hlt => by
  cases hk
  refine .inl ⟨Nat.one_pos,_,cap,hw1,by rw [hcs,a2,Nat.mul_one],by rw [strs_length,ofL_length,hl]; exact a3,fun h => by simp at h,a5,Rl_strs (ofL zs) 0 fun j hj => ?_⟩
  have hj2 : j < zs.length := by rwa [ofL_length] at hj
  unfold memAt World.cell?
  simp only [hw1,Nat.zero_add,Nat.add_zero]
  have hjc : j < cur.size := by omega
  simp only [putCells,Array.getElem?_mapIdx,Array.getElem?_eq_getElem hjc,Option.map_some,Nat.zero_le,true_and,Nat.zero_add,List.size_toArray,if_pos hj2,Nat.sub_zero]
  rw [enc_at zs j hj2]
  rfl)
 have hold : ∀ b',b' < (putRow encStr (Sort.ahead w n) b 0 zs.toArray).heap.size → (grow (putRow encStr (Sort.ahead w n) b 0 zs.toArray) os).heap[b']? = (putRow encStr (Sort.ahead w n) b 0 zs.toArray).heap[b']? := fun b' hb' => by
  unfold grow
  rw [Array.getElem?_append_left hb']
 exact ⟨h1.1.grow (by rw [size_grow]; omega) hold,h1.2.trans (grow_step rfl rfl rfl (by rw [size_grow]; omega) hold)⟩
theorem sort_o (xs : List ByteArray) (hx : xs.length ≤ 100000000) (io : Nat) (H : AHeap) (hf : xs ≠ [] → AHeap.find H io = OwnB 1 9 (strs xs)) : D Tryd.prog 17 [OwnV 1 (strs xs) io] H (.ret (.tup [])) (if xs = [] then H else AHeap.set H io (some ⟨1,strs (ofL ((toL xs).mergeSort fun x y => decide (x ≤ y))),false,9⟩)) := by
 by_cases e : xs = []
 ·subst e
  rw [if_pos rfl]
  refine ⟨Nat.le_refl _,fun φ w vs hR ha => ?_⟩
  obtain ⟨a,r,e1,a1,a2,e3⟩ := ha
  have e3' : r = [] := e3
  obtain ⟨p,c,hv,_⟩ := VR_lst (show VR φ (Own φ H) w (.lst 0 [] (some [])) a from ⟨a1,a2⟩)
  have hvs : vs = #[.slice p 0 c] := by
   cases vs
   simp only at e1
   rw [e1,hv,e3']
   rfl
  rw [hvs]
  refine (Any.slices_Sort_string_none lays190 p c w).mono fun en w' ⟨he,hw⟩ => ?_
  subst hw
  refine ⟨φ,?_,hR,.refl _ _ _⟩
  rw [he]
  exact ⟨⟨_,rfl⟩,⟨_,rfl,rfl⟩⟩
 rw [if_neg e]
 have hf' := hf e
 rw [OwnB_ne (strs_ne e)] at hf'
 refine ⟨by rw [AHeap.set_length]; exact Nat.le_refl _,fun φ w vs hR ha => ?_⟩
 rw [OwnV_ne (strs_ne e)] at ha
 obtain ⟨a,r,e1,a1,a2,e3⟩ := ha
 have e3' : r = [] := e3
 obtain ⟨b,c',cur,et,fr,v1,hv,v3,v4,v5,v6,v7⟩ := VR_vec (show VR φ (Own φ H) w (.vec 1 io 0 (strs xs).length none) a from ⟨a1,a2⟩)
 obtain ⟨cur2,cap,g1,g2,g3,g4,g5,g6⟩ := (hR.blk io b _ v1 hf').cells (by show 0 < 1; omega)
 have hvs : vs = #[.slice (some ⟨b,0,none⟩) (toL xs).length c'] := by
  cases vs
  simp only at e1
  rw [e1,hv,e3',strs_length,toL_length]
 rw [hvs]
 refine (Any.slices_Sort_string lays190 b 0 c' (toL xs) w (row_holds g1 g6) (heap_lt g1) (by rw [toL_length]; omega)).mono fun en w' ⟨he,n,os,hw⟩ => ?_
 obtain ⟨r1,r2⟩ := putRow_rel hR v1 hf' ((toL xs).mergeSort fun x y => decide (x ≤ y)) (by rw [List.length_mergeSort,toL_length]) n os
 rw [← hw] at r1 r2
 refine ⟨φ,?_,r1,r2⟩
 rw [he]
 exact ⟨⟨_,rfl⟩,⟨_,rfl,rfl⟩⟩
end Srt
end Go.Proofs.YtdjnccnecgblmaaDoor
