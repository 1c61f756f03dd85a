/- Hunks whose texts lie in own rows: told frozen; told under new numbers; what a call hands out. -/
import Derived.Test.YtigmpablpmanpaaDoorS40
import Derived.Test.YtigmpablpmanpaaDoorS155
import Derived.Test.YtigmpablpmanpaaDoorSF
namespace Go.Proofs.YtigmpablpmanpaaDoor
open Go.RowKit
set_option maxRecDepth 100000
set_option linter.unusedVariables false
set_option linter.unusedSimpArgs false
/-- A hunk, and where its texts lie. -/
abbrev HR := Hk × Nat × Nat
def hrs (l : List HR) : List AV := l.map fun x => hkO x.1 x.2.1 x.2.2
theorem hrs_length (l : List HR) : (hrs l).length = l.length := by simp [hrs]
theorem hrs_ne {l : List HR} : hrs l ≠ [] ↔ l ≠ [] := by simp [hrs]
def hids (l : List HR) : List Nat := l.flatMap fun x => [x.2.1,x.2.2]
theorem hids_cons (x : HR) (r : List HR) : hids (x :: r) = x.2.1 :: x.2.2 :: hids r := by simp [hids]
theorem hids_app (a b : List HR) : hids (a ++ b) = hids a ++ hids b := by simp [hids]
theorem hids_length : ∀ l : List HR,(hids l).length = 2 * l.length
 | [] => rfl
 | x :: r => by rw [hids_cons,List.length_cons,List.length_cons,hids_length r,List.length_cons]; omega
/-- Their texts lie so. -/
def HOwn (F : AHeap) (n0 : Nat) (l : List HR) : Prop := ∀ x ∈ l,(x.1.old ≠ [] → AHeap.find F x.2.1 = OutB x.1.old ∧ n0 ≤ x.2.1) ∧ (x.1.new ≠ [] → AHeap.find F x.2.2 = OutB x.1.new ∧ n0 ≤ x.2.2)
theorem HOwn.nil {F : AHeap} {n0 : Nat} : HOwn F n0 [] := fun x hx => by simp at hx
theorem HOwn.keep {F G : AHeap} {n0 : Nat} {l : List HR} (h : HOwn F n0 l) (hk : ∀ id,id ∈ hids l → n0 ≤ id → id < F.length → AHeap.find G id = AHeap.find F id) : HOwn G n0 l := by
 intro x hx
 obtain ⟨h1,h2⟩ := h x hx
 have m1 : x.2.1 ∈ hids l := List.mem_flatMap.2 ⟨x,hx,by simp⟩
 have m2 : x.2.2 ∈ hids l := List.mem_flatMap.2 ⟨x,hx,by simp⟩
 refine ⟨fun e => ?_,fun e => ?_⟩
 ·obtain ⟨a,b⟩ := h1 e
  have hl := AHeap.find_lt (a.trans (OutB_ne e))
  exact ⟨by rw [hk _ m1 b hl]; exact a,b⟩
 ·obtain ⟨a,b⟩ := h2 e
  have hl := AHeap.find_lt (a.trans (OutB_ne e))
  exact ⟨by rw [hk _ m2 b hl]; exact a,b⟩
theorem HOwn.app {F : AHeap} {n0 : Nat} {a b : List HR} (h : HOwn F n0 a) (h' : HOwn F n0 b) : HOwn F n0 (a ++ b) := fun x hx => (List.mem_append.1 hx).elim (h x) (h' x)
theorem HOwn.one {F : AHeap} {n0 : Nat} {x : HR} (h1 : x.1.old ≠ [] → AHeap.find F x.2.1 = OutB x.1.old ∧ n0 ≤ x.2.1) (h2 : x.1.new ≠ [] → AHeap.find F x.2.2 = OutB x.1.new ∧ n0 ≤ x.2.2) : HOwn F n0 [x] := fun y hy => by
 rcases List.mem_singleton.1 hy with rfl
 exact ⟨h1,h2⟩
theorem newId_nil {n0 id : Nat} (h : n0 ≤ id) : newId n0 [] id = none := by
 unfold newId
 rw [if_neg (by omega)]
 rfl
/-- Laid one behind the other. -/
def plc (n : Nat) : List Hk → List HR
 | [] => []
 | h :: r => (h,n,n + 1) :: plc (n + 2) r
theorem plc_length : ∀ (n : Nat) (l : List Hk),(plc n l).length = l.length
 | _,[] => rfl
 | n,h :: r => by simp [plc,plc_length]
theorem plc_fst : ∀ (n : Nat) (l : List Hk),(plc n l).map (·.1) = l
 | _,[] => rfl
 | n,h :: r => by simp [plc,plc_fst]
theorem plc_ids : ∀ (n : Nat) (l : List Hk),hids (plc n l) = List.range' n (2 * l.length)
 | _,[] => rfl
 | n,h :: r => by
  rw [plc,hids_cons,plc_ids]
  simp only [List.length_cons]
  rw [show 2 * (r.length + 1) = 2 * r.length + 1 + 1 by omega,List.range'_succ,List.range'_succ]
def txsH (l : List Hk) : List (List ByteArray) := l.flatMap fun h => [h.old,h.new]
theorem txsH_cons (h : Hk) (r : List Hk) : txsH (h :: r) = h.old :: h.new :: txsH r := by simp [txsH]
theorem txsH_length : ∀ l : List Hk,(txsH l).length = 2 * l.length
 | [] => rfl
 | h :: r => by rw [txsH_cons,List.length_cons,List.length_cons,txsH_length r,List.length_cons]; omega
theorem hids_txs {F : AHeap} {n0 : Nat} : ∀ {l : List HR},HOwn F n0 l → ∀ {i s : Nat} {t : List ByteArray},(hids l)[i]? = some s → (txsH (l.map (·.1)))[i]? = some t → t ≠ [] → AHeap.find F s = OutB t
 | [],_,i,s,t,h,_,_ => by simp [hids] at h
 | x :: r,ho,i,s,t,h,h',hne => by
  rw [hids_cons] at h
  rw [List.map_cons,txsH_cons] at h'
  obtain ⟨h1,h2⟩ := ho x (by simp)
  match i,h,h' with
  | 0,h,h' =>
   simp at h h'
   subst h; subst h'
   exact (h1 hne).1
  | 1,h,h' =>
   simp at h h'
   subst h; subst h'
   exact (h2 hne).1
  | i + 2,h,h' =>
   simp only [List.getElem?_cons_succ] at h h'
   exact hids_txs (fun y hy => ho y (by simp [hy])) h h' hne
/-- What is handed out: texts, then the row. -/
def hrow (l : List Hk) (H : AHeap) : AHeap := OwnB 3 46 (hrs (plc H.length l)) :: outs (txsH l) H
def hrowV (l : List Hk) (n : Nat) : AV := OwnV 3 (hrs (plc n l)) (n + 2 * l.length)
theorem hrow_length (l : List Hk) (H : AHeap) : (hrow l H).length = H.length + 2 * l.length + 1 := by simp [hrow,outs_length,txsH_length]
theorem hrow_old {l : List Hk} {H : AHeap} {id : Nat} (h : id < H.length) : AHeap.find (hrow l H) id = AHeap.find H id := by
 unfold hrow
 rw [find_past (by rw [outs_length]; omega),outs_old h]
theorem hrow_row {l : List Hk} {H : AHeap} : AHeap.find (hrow l H) (H.length + 2 * l.length) = OwnB 3 46 (hrs (plc H.length l)) := find_top (by rw [outs_length,txsH_length])
theorem plc_own : ∀ {l : List Hk} {F : AHeap} {n n0 : Nat},n0 ≤ n → (∀ (i : Nat) (t : List ByteArray),(txsH l)[i]? = some t → AHeap.find F (n + i) = OutB t) → HOwn F n0 (plc n l)
 | [],F,n,n0,_,_ => .nil
 | h :: r,F,n,n0,hn,hf => by
  intro x hx
  rw [txsH_cons] at hf
  rcases List.mem_cons.1 hx with rfl | hx
  ·exact ⟨fun _ => ⟨hf 0 _ (by simp),hn⟩,fun _ => ⟨hf 1 _ (by simp),by simp; omega⟩⟩
  ·exact plc_own (l := r) (n := n + 2) (by omega) (fun i t ht => by rw [show n + 2 + i = n + (i + 2) by omega]; exact hf (i + 2) t (by simpa using ht)) x hx
theorem hrow_own {l : List Hk} {H : AHeap} : HOwn (hrow l H) H.length (plc H.length l) := by
 refine plc_own (Nat.le_refl _) fun i t ht => ?_
 have hi : i < (txsH l).length := (List.getElem?_eq_some_iff.1 ht).1
 unfold hrow
 rw [find_past (by rw [outs_length]; omega)]
 exact outs_new ht
/-- The general step: own hunks, told under new numbers. -/
theorem newId_src {n0 : Nat} {src : List Nat} {i s : Nat} (hn : src.Nodup) (hi : src[i]? = some s) (hs : n0 ≤ s) : newId n0 src s = some (n0 + i) := newId_at hn hi hs
theorem hrs_new {F : AHeap} {n0 : Nat} {src : List Nat} (hn : src.Nodup) : ∀ {l : List HR} {k : Nat},(∀ i s,(hids l)[i]? = some s → src[k + i]? = some s ∧ n0 ≤ s) → GzL F n0 src (hrs l) (hrs (plc (n0 + k) (l.map (·.1))))
 | [],_,_ => .nil
 | x :: r,k,h => by
  rw [hids_cons] at h
  have a0 := h 0 _ (by simp; rfl)
  have a1 := h 1 _ (by simp; rfl)
  refine .cons (.agg (.cons (.same trivial) (.cons (OwnV_gz fun _ => newId_src hn a0.1 a0.2) (.cons (OwnV_gz fun _ => ?_) .nil)))) ?_
  ·rw [newId_src hn a1.1 a1.2]
   rfl
  ·have := hrs_new (F := F) (n0 := n0) hn (l := r) (k := k + 2) fun i s hi => by
    have := h (i + 2) s (by simpa using hi)
    rw [show k + 2 + i = k + (i + 2) by omega]
    exact this
   rw [← Nat.add_assoc] at this
   exact this
structure HMade (H F : AHeap) (l : List HR) (vid : Nat) : Prop where
 own : HOwn F H.length l
 row : l ≠ [] → AHeap.find F vid = some ⟨3,hrs l,false,46⟩ ∧ H.length ≤ vid ∧ vid ∉ hids l
 ids : ∀ i ∈ hids l,H.length ≤ i ∧ i < F.length
 nd : (hids l).Nodup
theorem HMade.src {H F : AHeap} {l : List HR} {vid : Nat} (h : HMade H F l vid) : ∃ src : List Nat,src.length = 2 * l.length + 1 ∧ src.Nodup ∧ (∀ s ∈ src,H.length ≤ s) ∧ (∀ (i s : Nat),(hids l)[i]? = some s → src[i]? = some s) ∧ (l ≠ [] → src[2 * l.length]? = some vid) := by
 by_cases e : l = []
 ·subst e
  exact ⟨[H.length],rfl,by simp,by simp,fun i s h => by simp [hids] at h,fun h => (h rfl).elim⟩
 ·obtain ⟨r1,r2,r3⟩ := h.row e
  refine ⟨hids l ++ [vid],by simp [hids_length],List.nodup_append.2 ⟨h.nd,by simp,fun a ha b hb => by rintro rfl; simp at hb; subst hb; exact r3 ha⟩,fun s hs => ?_,fun i s hs => ?_,fun _ => ?_⟩
  ·rcases List.mem_append.1 hs with hs | hs
   ·exact (h.ids s hs).1
   ·simp at hs
    omega
  ·rw [List.getElem?_append_left (List.getElem?_eq_some_iff.1 hs).1]
   exact hs
  ·rw [← hids_length,List.getElem?_append_right (Nat.le_refl _)]
   simp
theorem HMade.rowV {H F : AHeap} {l : List HR} {vid : Nat} (h : HMade H F l vid) {src : List Nat} (hl : src.length = 2 * l.length + 1) (hn : src.Nodup) (hr : l ≠ [] → src[2 * l.length]? = some vid) : Gz F H.length src (OwnV 3 (hrs l) vid) (hrowV (l.map (·.1)) H.length) := by
 unfold hrowV
 by_cases e : l = []
 ·subst e
  exact .nil0
 ·have e1 : hrs l ≠ [] := hrs_ne.2 e
  have e2 : hrs (plc H.length (l.map (·.1))) ≠ [] := hrs_ne.2 (fun h => e (by have := congrArg List.length h; rw [plc_length,List.length_map] at this; exact List.length_eq_zero_iff.1 this))
  rw [OwnV_ne e1,OwnV_ne e2,hrs_length,hrs_length,plc_length,List.length_map]
  exact .vecR (newId_src hn (hr e) (h.row e).2.1) (.inl rfl)
theorem HMade.new {H F : AHeap} {l : List HR} {vid : Nat} (h : HMade H F l vid) {src : List Nat} (hn : src.Nodup) (hl : src.length = 2 * l.length + 1) (hi : ∀ (i s : Nat),(hids l)[i]? = some s → src[i]? = some s) (hr : l ≠ [] → src[2 * l.length]? = some vid) (H2 : AHeap) (hH : H2.length = H.length) :
  ∀ (i s : Nat) (k : ABlk),src[i]? = some s → AHeap.find (OwnB 3 46 (hrs (plc H.length (l.map (·.1)))) :: outs (txsH (l.map (·.1))) H2) (H.length + i) = some k → ∃ k1,AHeap.find F s = some k1 ∧ BlkZ F H.length src k1 k := by
 intro i s k hs hk
 have htl : (txsH (l.map (·.1))).length = 2 * l.length := by rw [txsH_length,List.length_map]
 have hil : i < 2 * l.length + 1 := by rw [← hl]; exact (List.getElem?_eq_some_iff.1 hs).1
 by_cases e : i < 2 * l.length
 ·rw [find_past (by rw [outs_length,hH]; omega),← hH] at hk
  obtain ⟨t,ht⟩ : ∃ t,(txsH (l.map (·.1)))[i]? = some t := ⟨_,List.getElem?_eq_getElem (by omega)⟩
  rw [outs_new ht] at hk
  have hs2 : (hids l)[i]? = some s := by
   have : i < (hids l).length := by rw [hids_length]; omega
   have h3 := hi i _ (List.getElem?_eq_getElem this)
   rw [hs] at h3
   rw [List.getElem?_eq_getElem this,← Option.some.inj h3]
  obtain ⟨n1,rfl⟩ := OwnB_some hk
  have hne : t ≠ [] := fun e => n1 (by rw [e]; rfl)
  exact ⟨_,by rw [hids_txs h.own hs2 ht hne]; exact hk,rfl,rfl,fun h => h,strs_gzl⟩
 ·obtain rfl : i = 2 * l.length := by omega
  rw [find_top (by rw [outs_length,hH]; omega)] at hk
  obtain ⟨n1,rfl⟩ := OwnB_some hk
  have hne : l ≠ [] := fun e => n1 (by subst e; rfl)
  have hv := hr hne
  rw [hs] at hv
  obtain rfl := Option.some.inj hv
  refine ⟨_,(h.row hne).1,rfl,rfl,fun h => h,?_⟩
  exact hrs_new hn (k := 0) fun i s his => ⟨by rw [Nat.zero_add]; exact hi i s his,(h.ids s (List.mem_of_getElem? his)).1⟩
/-- A row that a function made and hands out. -/
theorem weak_hrow {H F : AHeap} {l : List HR} {vid : Nat} (h : HMade H F l vid) (ho : ∀ id,id < H.length → AHeap.find F id = AHeap.find H id) : Weak H (.ret (OwnV 3 (hrs l) vid)) F (.ret (hrowV (l.map (·.1)) H.length)) (hrow (l.map (·.1)) H) := by
 obtain ⟨src,s1,s2,s3,s4,s5⟩ := h.src
 refine weak_gen src (by rw [hrow_length,s1,List.length_map]; rfl) s2 s3 (fun id k hid hk => .inl ?_) (h.new s2 s1 s4 s5 H rfl) (h.rowV s1 s2 s5)
 rw [hrow_old hid] at hk
 exact ⟨hk,by rw [ho id hid]; exact hk⟩
/-- A row that was made, and lies in a variable. -/
theorem weak_hrowO {H F : AHeap} {l : List HR} {vid oid : Nat} {t : TypeId} (h : HMade H F l vid) (hol : oid < H.length) (ho : ∀ id,id < H.length → id ≠ oid → AHeap.find F id = AHeap.find H id) (hc : AHeap.find F oid = some ⟨1,[OwnV 3 (hrs l) vid],true,t⟩) :
  Weak H (.ret (.tup [])) F (.ret (.tup [])) (OwnB 3 46 (hrs (plc H.length (l.map (·.1)))) :: outs (txsH (l.map (·.1))) (AHeap.set H oid (some ⟨1,[hrowV (l.map (·.1)) H.length],true,t⟩))) := by
 obtain ⟨src,s1,s2,s3,s4,s5⟩ := h.src
 refine weak_gen src (by rw [List.length_cons,outs_length,txsH_length,AHeap.set_length,s1,List.length_map]; omega) s2 s3 (fun id k hid hk => ?_) (h.new s2 s1 s4 s5 _ (AHeap.set_length _ _ _)) (.same trivial)
 rw [find_past (by rw [outs_length,AHeap.set_length]; omega),outs_old (by rw [AHeap.set_length]; exact hid)] at hk
 by_cases e : id = oid
 ·subst e
  rw [AHeap.find_set_same hid] at hk
  cases hk
  exact .inr ⟨_,hc,rfl,rfl,fun h => h,.cons (h.rowV s1 s2 s5) .nil⟩
 ·rw [find_set_other e] at hk
  exact .inl ⟨hk,by rw [ho id hid e]; exact hk⟩
end Go.Proofs.YtigmpablpmanpaaDoor
