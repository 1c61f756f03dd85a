/- law02.DiffTells: the walk. -/
import Derived.Test.YtigmpablpmanpaaDoorS158
import Derived.Test.YtigmpablpmanpaaDoorS153
import Derived.Test.YtigmpablpmanpaaDoorS49
import Derived.Test.YtigmpablpmanpaaDoorS31
import Derived.Test.YtigmpablpmanpaaDoorIc24
namespace Go.Proofs.YtigmpablpmanpaaDoor
open Go.RowKit
set_option maxRecDepth 100000
set_option linter.unusedVariables false
set_option linter.unusedSimpArgs false
theorem weak_end {F : AHeap} {v : Value} : Weak [] (.ret (.sc v)) F (.ret (.sc v)) [] :=
 weak_gen [] (by simp) (by simp) (by simp) (fun id k hid hk => by simp at hid) (fun i s k hs => by simp at hs) (.same trivial)
theorem strs_view {H : AHeap} : ∀ {l : List ByteArray},ViewL H (strs l) (strs l)
 | [] => .nil
 | _ :: _ => .cons .sc strs_view
theorem upL_map {n : Nat} {α : Type} (f : α → AV) (hf : ∀ x,AV.up n (f x) = f x) : ∀ (l : List α),AV.upL n (l.map f) = l.map f
 | [] => rfl
 | x :: r => by simp only [List.map_cons,AV.upL,hf,upL_map f hf r]
theorem upL_prs {n : Nat} (l : List (Nat × Nat)) : AV.upL n (prs l) = prs l := upL_map _ (fun x => by simp [AV.up,AV.upL]) l
theorem upL_strs {n : Nat} (l : List ByteArray) : AV.upL n (strs l) = strs l := upL_map _ (fun x => rfl) l
theorem OwnV_len {k id : Nat} {xs ys : List AV} (h : xs.length = ys.length) : OwnV k xs id = OwnV k ys id := by
 cases xs <;> cases ys <;> simp_all [OwnV]
theorem upL_hrs {n : Nat} : ∀ (l : List Hk) (m : Nat),AV.upL n (hrs (plc m l)) = hrs (plc (n + m) l)
 | [],_ => rfl
 | h :: r,m => by
  simp only [plc,hrs,List.map_cons,AV.upL,AV.up]
  rw [OwnV_up,OwnV_up]
  have := upL_hrs (n := n) r (m + 2)
  simp only [hrs] at this
  rw [this,Nat.add_assoc,Nat.add_assoc]
theorem op_strs (l : List ByteArray) : AV.opL (strs l) = true := by
 induction l with
 | nil => rfl
 | cons s r ih => simpa [strs,AV.opL,AV.op] using ih
theorem op_prs (l : List (Nat × Nat)) : AV.opL (prs l) = true := by
 induction l with
 | nil => rfl
 | cons s r ih => simpa [prs,AV.opL,AV.op] using ih
theorem op_hrs : ∀ (l : List HR),AV.opL (hrs l) = true
 | [] => rfl
 | x :: r => by
  have := op_hrs r
  simp only [hrs] at this
  simp only [hrs,List.map_cons,AV.opL,AV.op,OwnV_op,this,Bool.and_self]
theorem up_OwnB {n k : Nat} {ty : TypeId} {xs : List AV} : (OwnB k ty xs).map (ABlk.up n) = OwnB k ty (AV.upL n xs) := by
 cases xs <;> simp [OwnB,ABlk.up,AV.upL]
theorem up_outs {n : Nat} : ∀ (rs : List (List ByteArray)) (G H : AHeap),AHeap.up n (outs rs G) ++ H = outs rs (AHeap.up n G ++ H)
 | [],_,_ => rfl
 | l :: r,G,H => by
  simp only [outs]
  rw [up_outs r (OutB l :: G) H]
  simp only [AHeap.up,List.map_cons,List.cons_append,up_OwnB,upL_strs]
theorem up_hrow (l : List Hk) (H : AHeap) : AHeap.up H.length (hrow l []) ++ H = hrow l H := by
 have h1 := up_outs (n := H.length) (txsH l) [] H
 simp only [AHeap.up,List.map_nil,List.nil_append] at h1
 unfold hrow
 simp only [AHeap.up,List.map_cons,List.cons_append,up_OwnB,upL_hrs,List.length_nil,Nat.add_zero]
 rw [← h1]
theorem up_hrowV (l : List Hk) (n : Nat) : (hrowV l 0).up n = hrowV l n := by
 unfold hrowV
 rw [OwnV_up,OwnV_len (show (hrs (plc 0 l)).length = (hrs (plc n l)).length by rw [hrs_length,hrs_length,plc_length,plc_length]),Nat.zero_add]
theorem op_hrow (l : List Hk) : AHeap.op (hrow l []) := by
 intro id b hb
 have hlt := AHeap.find_lt hb
 rw [hrow_length] at hlt
 by_cases e : id = 2 * l.length
 ·subst e
  have h2 := hrow_row (l := l) (H := [])
  simp only [List.length_nil,Nat.zero_add] at h2
  rw [h2] at hb
  obtain ⟨_,rfl⟩ := OwnB_some hb
  exact op_hrs _
 ·unfold hrow at hb
  simp only [List.length_nil,Nat.zero_add] at hlt
  rw [find_past (by rw [outs_length,txsH_length]; simp; omega)] at hb
  obtain ⟨t,ht⟩ : ∃ t,(txsH l)[id]? = some t := ⟨_,List.getElem?_eq_getElem (by rw [txsH_length]; omega)⟩
  have h3 := outs_new (H := []) ht
  simp only [List.length_nil,Nat.zero_add] at h3
  rw [h3] at hb
  obtain ⟨_,rfl⟩ := OwnB_some hb
  exact op_strs _
theorem common_v {H : AHeap} {a b : List ByteArray} {x y : AV} (hx : View H x (.lst 1 (strs a) none)) (hy : View H y (.lst 1 (strs b) none)) (hla : a.length ≤ 100000) (hlb : b.length ≤ 100000) :
  D Tryd.prog 9 [x,y] H (.ret (OwnV 2 (prs (cmL a b)) H.length)) (OwnB 2 40 (prs (cmL a b)) :: H) := by
 have h := D_viewO (.cons hx (.cons hy .nil)) OwnV_op (fun id k hk => ?_) (common_g a b hla hlb [])
 ·rw [OwnV_up] at h
  simpa [AHeap.up,up_OwnB,upL_prs] using h
 ·rcases id with _ | id
  ·rw [show AHeap.find [OwnB 2 40 (prs (cmL a b))] 0 = OwnB 2 40 (prs (cmL a b)) from rfl] at hk
   obtain ⟨_,rfl⟩ := OwnB_some hk
   exact op_prs _
  ·exact absurd (AHeap.find_lt hk) (by simp)
theorem hunks_v {H : AHeap} {a b : List ByteArray} {x y : AV} (hx : View H x (.lst 1 (strs a) none)) (hy : View H y (.lst 1 (strs b) none)) (hla : a.length ≤ 100000) (hlb : b.length ≤ 100000) :
  D Tryd.prog 10 [x,y] H (.ret (hrowV (difL a b) H.length)) (hrow (difL a b) H) := by
 have h := D_viewO (.cons hx (.cons hy .nil)) OwnV_op (op_hrow _) (hunksO_d a b hla hlb [])
 rwa [up_hrow,List.length_nil,show OwnV 3 (hrs (plc 0 (difL a b))) (0 + 2 * (difL a b).length) = hrowV (difL a b) 0 from rfl,up_hrowV] at h
theorem bet_mem {a b : List ByteArray} : ∀ {l : List (Nat × Nat)} {i j : Nat} {h : Hk},h ∈ bet a b i j l → ∃ i x j y,h.old = (a.take x).drop i ∧ h.new = (b.take y).drop j
 | [],_,_,_,hm => by simp [bet] at hm
 | (x,y) :: r,i,j,h,hm => by
  simp only [bet] at hm
  split at hm
  ·exact bet_mem hm
  ·rcases List.mem_cons.1 hm with rfl | hm
   ·exact ⟨i,x,j,y,rfl,rfl⟩
   ·exact bet_mem hm
theorem difH_few {a b : List ByteArray} (ha : a.length ≤ 300) (hb : b.length ≤ 300) : (difH a b).length ≤ 301 ∧ ∀ h ∈ difH a b,h.old.length ≤ 300 ∧ h.new.length ≤ 300 := by
 have h1 := cmn_le a b 0 0 (Nat.zero_le _)
 have h2 := bet_le a b (cmn a b 0 0 ++ [(a.length,b.length)]) 0 0
 rw [List.length_append,List.length_singleton] at h2
 refine ⟨by unfold difH; omega,fun h hm => ?_⟩
 obtain ⟨i,x,j,y,e1,e2⟩ := bet_mem hm
 rw [e1,e2,List.length_drop,List.length_take,List.length_drop,List.length_take]
 omega
end Go.Proofs.YtigmpablpmanpaaDoor
