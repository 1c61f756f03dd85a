/- An own tree, changed where a path leads. -/
import Derived.Test.YtfnahogjkgcklaaDoorS258
namespace Go.Proofs.YtfnahogjkgcklaaDoor
open Go.RowKit
set_option maxRecDepth 100000
set_option linter.unusedVariables false
set_option linter.unusedSimpArgs false
/-- A tree with another one where a path leads. -/
def withN : Nd → Nd → List Int → Nd
 | _,kid,[] => kid
 | t,kid,k :: r => ⟨t.kind,t.text,t.num,t.kids.set k.toNat (withN (nthN t.kids k.toNat) kid r)⟩
theorem size_at {l : List Nd} {k : Nat} (h : k < l.length) : Nd.sizeL (l.take k) + (nthN l k).size ≤ Nd.sizeL l := by
 have h1 := sizeL_take h
 have h2 := sizeL_le l (k + 1)
 omega
theorem size_lt {l : List Nd} {m q : Nat} (h : m < q) (hm : m < l.length) : Nd.sizeL (l.take m) + (nthN l m).size ≤ Nd.sizeL (l.take q) := by
 have h1 := sizeL_take hm
 have h2 := sizeL_le (l.take q) (m + 1)
 rw [List.take_take,Nat.min_eq_left (by omega)] at h2
 omega
theorem posO_in {t : Nd} {id j a i m : Nat} {q : Int} {r : List Int} (h : posO t id j a (q :: r) = some (i,m)) : a ≤ i ∧ i < a + t.size := by
 induction r generalizing t id j a q with
 | nil =>
  simp only [posO] at h
  split at h
  ·simp only [Option.some.injEq,Prod.mk.injEq] at h
   have := t.size_pos
   omega
  ·cases h
 | cons q2 r ih =>
  rw [posO] at h
  split at h
  ·rename_i hk
   have h1 := ih h
   have h2 := size_at (l := t.kids) (k := q.toNat) (by omega)
   have h3 := Nd.size_eq t
   omega
  ·cases h
theorem viewL_of {H : AHeap} : ∀ {xs ys : List AV},xs.length = ys.length → (∀ (m : Nat) (x y : AV),xs[m]? = some x → ys[m]? = some y → View H x y) → ViewL H xs ys
 | [],[],_,_ => .nil
 | x :: r,y :: s,hl,h => .cons (h 0 x y rfl rfl) (viewL_of (by simpa using hl) fun m x y hx hy => h (m + 1) x y (by simpa using hx) (by simpa using hy))
 | [],_ :: _,hl,_ => by simp at hl
 | _ :: _,[],hl,_ => by simp at hl
theorem gzL_of {F : AHeap} {n0 : Nat} {src : List Nat} : ∀ {xs ys : List AV},xs.length = ys.length → (∀ (m : Nat) (x y : AV),xs[m]? = some x → ys[m]? = some y → Gz F n0 src x y) → GzL F n0 src xs ys
 | [],[],_,_ => .nil
 | x :: r,y :: s,hl,h => .cons (h 0 x y rfl rfl) (gzL_of (by simpa using hl) fun m x y hx hy => h (m + 1) x y (by simpa using hx) (by simpa using hy))
 | [],_ :: _,hl,_ => by simp at hl
 | _ :: _,[],hl,_ => by simp at hl
theorem ndL_idx {l : List Nd} {m : Nat} (h : m < l.length) : (ndL l)[m]? = some (ndA (nthN l m)) := by
 rw [ndL_map,nthN_eq h]
 simp [h]
/-- What a relation of values must know, to go over a changed tree. -/
structure RelT (G : AHeap) (n0 : Nat) (R : AV → AV → Prop) : Prop where
 same : ∀ {t : Nd} {a : Nat},n0 ≤ a → LiesO G t a → R (cpV t a) (ndA t)
 node : ∀ {k n : Int} {s : ByteArray} {xs xs' : List AV} {ys : List AV} {a : Nat},n0 ≤ a → xs.length = xs'.length → (xs' ≠ [] → AHeap.find G a = some ⟨4,xs',false,25⟩) → xs'.length = ys.length → (∀ (m : Nat) (x y : AV),xs'[m]? = some x → ys[m]? = some y → R x y) → R (.agg [.sc (.int .u8 k),.sc (.string s),.sc (.int .i64 n),OwnV 4 xs a]) (.agg [.sc (.int .u8 k),.sc (.string s),.sc (.int .i64 n),.lst 4 ys none])
theorem relT_view {G : AHeap} : RelT G 0 (View G) := by
 refine ⟨fun _ h => cpV_view _ h,fun _ h1 h2 h3 h4 => ?_⟩
 rw [OwnV_len h1]
 exact .agg (.cons .sc (.cons .sc (.cons .sc (.cons (ViewL.own (fun e => by rw [h2 e,OwnB_ne e]) (viewL_of h3 h4)) .nil))))
theorem relT_gz {G : AHeap} {n0 : Nat} : RelT G n0 (Gz G n0 []) := by
 refine ⟨fun hn h => cpV_frz _ hn h,fun hn h1 h2 h3 h4 => ?_⟩
 rw [OwnV_len h1]
 exact .agg (.cons (.same trivial) (.cons (.same trivial) (.cons (.same trivial) (.cons (OwnV_fz (fun _ => by unfold newId; rw [if_neg (by omega)]; rfl) (fun e => by rw [h2 e,OwnB_ne e]) (gzL_of h3 h4)) .nil))))
theorem nth_set {l : List Nd} {k m : Nat} {x : Nd} (hk : k < l.length) : nthN (l.set k x) m = if m = k then x else nthN l m := by
 unfold nthN
 rw [List.getD_eq_getElem?_getD,List.getElem?_set,List.getD_eq_getElem?_getD]
 by_cases e : k = m
 ·subst e
  simp [hk]
 ·rw [if_neg e,if_neg (fun h => e h.symm)]
/-- The changed tree. -/
theorem changed {F G : AHeap} {n0 : Nat} {R : AV → AV → Prop} (hR : RelT G n0 R) {kid : Nd} {b : Nat} (hkid : R (cpV kid b) (ndA kid)) (r : List Int) : ∀ {t : Nd} {id j a i m : Nat} {q : Int} {es : List AV},n0 ≤ a → LiesO F t a → posO t id j a (q :: r) = some (i,m) → AHeap.find F i = some ⟨4,es,false,25⟩ → AHeap.find G i = some ⟨4,es.set m (cpV kid b),false,25⟩ → (∀ x,a ≤ x → x < a + t.size → x ≠ i → AHeap.find G x = AHeap.find F x) → R (cpV t a) (ndA (withN t kid (q :: r))) := by
 induction r with
 | nil =>
  intro t id j a i m q es hn hl hp hf hg ho
  simp only [posO] at hp
  split at hp
  case isFalse => cases hp
  rename_i hq
  simp only [Option.some.injEq,Prod.mk.injEq] at hp
  obtain ⟨rfl,rfl⟩ := hp
  have hqn : q.toNat < t.kids.length := by omega
  have hne : cpL t.kids (a + 1) ≠ [] := fun e => by have := cpL_length t.kids (a + 1); rw [e] at this; simp at this; omega
  have hes : es = cpL t.kids (a + 1) := by
   have := hl.head
   rw [hf,OwnB_ne hne] at this
   simpa using this
  subst hes
  rw [cpV_eq,ndA_eq]
  show R (.agg [.sc (.int .u8 t.kind),.sc (.string t.text),.sc (.int .i64 t.num),OwnV 4 (cpL t.kids (a + 1)) a]) (.agg [.sc (.int .u8 t.kind),.sc (.string t.text),.sc (.int .i64 t.num),.lst 4 (ndL (t.kids.set q.toNat kid)) none])
  refine hR.node hn (xs' := (cpL t.kids (a + 1)).set q.toNat (cpV kid b)) (by simp) (fun _ => hg) (by rw [List.length_set,cpL_length,ndL_length,List.length_set]) (fun m x y hx hy => ?_)
  have hml : m < t.kids.length := by
   have := (List.getElem?_eq_some_iff.1 hx).1
   rwa [List.length_set,cpL_length] at this
  rw [ndL_idx (by rw [List.length_set]; exact hml),nth_set hqn] at hy
  cases hy
  rw [List.getElem?_set] at hx
  by_cases e : q.toNat = m
  ·rw [if_pos e,if_pos (by rw [cpL_length]; omega)] at hx
   cases hx
   rw [if_pos e.symm]
   exact hkid
  ·rw [if_neg e,cpV_idx _ _ _ hml] at hx
   cases hx
   rw [if_neg (fun h => e h.symm)]
   have hsz := size_at hml
   have hse := Nd.size_eq t
   exact hR.same (by omega) ((hl.kids.at_ hml).of fun x h1 h2 => ho x (by omega) (by omega) (by omega))
 | cons q2 r ih =>
  intro t id j a i m q es hn hl hp hf hg ho
  rw [posO] at hp
  split at hp
  case isFalse => cases hp
  rename_i hq
  have hqn : q.toNat < t.kids.length := by omega
  have hin := posO_in hp
  have hne : cpL t.kids (a + 1) ≠ [] := fun e => by have := cpL_length t.kids (a + 1); rw [e] at this; simp at this; omega
  have hsz := size_at hqn
  have hse := Nd.size_eq t
  have hG : AHeap.find G a = some ⟨4,cpL t.kids (a + 1),false,25⟩ := by
   rw [ho a (by omega) (by omega) (by omega),hl.head,OwnB_ne hne]
  have h1 := ih (by omega) (hl.kids.at_ hqn) hp hf hg (fun x h1 h2 h3 => ho x (by omega) (by omega) h3)
  rw [cpV_eq,ndA_eq]
  show R (.agg [.sc (.int .u8 t.kind),.sc (.string t.text),.sc (.int .i64 t.num),OwnV 4 (cpL t.kids (a + 1)) a]) (.agg [.sc (.int .u8 t.kind),.sc (.string t.text),.sc (.int .i64 t.num),.lst 4 (ndL (t.kids.set q.toNat (withN (nthN t.kids q.toNat) kid (q2 :: r)))) none])
  refine hR.node hn (xs' := cpL t.kids (a + 1)) rfl (fun _ => hG) (by rw [cpL_length,ndL_length,List.length_set]) (fun m x y hx hy => ?_)
  have hml : m < t.kids.length := by
   have := (List.getElem?_eq_some_iff.1 hx).1
   rwa [cpL_length] at this
  rw [ndL_idx (by rw [List.length_set]; exact hml),nth_set hqn] at hy
  cases hy
  rw [cpV_idx _ _ _ hml] at hx
  cases hx
  by_cases e : q.toNat = m
  ·subst e
   rw [if_pos rfl]
   exact h1
  ·rw [if_neg (fun h => e h.symm)]
   have hsm := size_at hml
   refine hR.same (by omega) ((hl.kids.at_ hml).of fun x h1 h2 => ho x (by omega) (by omega) ?_)
   rcases Nat.lt_or_gt_of_ne e with g | g
   ·have := size_lt g (by omega : q.toNat < t.kids.length)
    omega
   ·have := size_lt g hml
    omega
end Go.Proofs.YtfnahogjkgcklaaDoor
