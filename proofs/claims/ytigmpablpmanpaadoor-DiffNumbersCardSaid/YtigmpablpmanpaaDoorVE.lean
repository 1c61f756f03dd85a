/- Several texts in one: what each is for stands ahead of it. -/
import Derived.Test.YtigmpablpmanpaaDoorVC
import Derived.RangeFuncRecord
import Derived.OrdersIn
/- A callee that only reads may be lent own memory, and what it lays comes on top of that. Nothing of the program is named here. -/
namespace Go.Proofs.YtigmpablpmanpaaDoor
open Go.RowKit
set_option linter.unusedVariables false
set_option linter.unusedSimpArgs false
mutual
/-- A value, its blocks' numbers n higher. -/
def AV.up (n : Nat) : AV → AV
 | .vec k id off m c => .vec k (n + id) off m c
 | .ptr k id j f => .ptr k (n + id) j f
 | .agg cs => .agg (AV.upL n cs)
 | .tup cs => .tup (AV.upL n cs)
 | x => x
def AV.upL (n : Nat) : List AV → List AV
 | [] => []
 | x :: r => AV.up n x :: AV.upL n r
end
def ABlk.up (n : Nat) (b : ABlk) : ABlk := { b with es := AV.upL n b.es }
def AHeap.up (n : Nat) (G : AHeap) : AHeap := G.map fun b => b.map (ABlk.up n)
mutual
/-- Values that name own memory alone. -/
def AV.op : AV → Bool
 | .sc _ => true
 | .ub => true
 | .top => true
 | .lst _ [] none => true
 | .lst _ [] (some []) => true
 | .vec _ _ _ _ _ => true
 | .ptr _ _ _ _ => true
 | .agg cs => AV.opL cs
 | .tup cs => AV.opL cs
 | _ => false
def AV.opL : List AV → Bool
 | [] => true
 | x :: r => AV.op x && AV.opL r
end
def AHeap.op (G : AHeap) : Prop := ∀ id b,AHeap.find G id = some b → AV.opL b.es = true
theorem AV.upL_length {n : Nat} : ∀ {l : List AV},(AV.upL n l).length = l.length
 | [] => rfl
 | _ :: r => by simp [AV.upL,AV.upL_length (l := r)]
theorem AV.up_isAgg {n : Nat} (x : AV) : (x.up n).isAgg = x.isAgg := by cases x <;> simp [AV.up,AV.isAgg]
theorem AV.up_ncells {n : Nat} (x : AV) : (x.up n).ncells = x.ncells := by cases x <;> simp [AV.up,AV.ncells,AV.upL_length]
theorem AV.up_okA {n : Nat} {x : AV} {u : Value} (h : okA x u) : okA (x.up n) u := by
 cases x <;> first | exact h | skip
 obtain ⟨us,h1,h2⟩ := h
 exact ⟨us,h1,by rw [h2,AV.upL_length]⟩
section
variable {φ ψ : Phi} {O O' : Nat → Prop} {w : World} {n : Nat}
mutual
theorem R_up (hm : ∀ id b,φ id = some b → ψ (n + id) = some b) : ∀ {x : AV} {g : Nat → Option Value},x.op = true → R φ O w x g → R ψ O' w (x.up n) g
 | .sc _,_,_,h => h
 | .ub,_,_,h => h
 | .top,_,_,_ => trivial
 | .lst _ [] none,_,_,h => by
  obtain ⟨a,c,h1,h2,h3,h4,h5,h6⟩ := h
  exact ⟨a,c,h1,h2,h3,h4,fun hp => by simp at hp,trivial⟩
 | .lst _ [] (some []),_,_,h => by
  obtain ⟨a,c,h1,h2,h3,h4,h5,h6⟩ := h
  exact ⟨a,c,h1,h2,h3,h4,fun hp => by simp at hp,⟨h6.1,fun hp => by simp at hp⟩⟩
 | .lst _ [] (some (_ :: _)),_,ho,_ => by simp [AV.op] at ho
 | .lst _ (_ :: _) _,_,ho,_ => by simp [AV.op] at ho
 | .lp _ _,_,ho,_ => by simp [AV.op] at ho
 | .fn _ _ _,_,ho,_ => by simp [AV.op] at ho
 | .ifc _ _,_,ho,_ => by simp [AV.op] at ho
 | .rcd _,_,ho,_ => by simp [AV.op] at ho
 | .vec k id off m c,_,_,h => by
  obtain ⟨b,c',cur,e,fr,v1,v2⟩ := h
  exact ⟨b,c',cur,e,fr,hm _ _ v1,v2⟩
 | .ptr k id j f,_,_,h => by
  obtain ⟨b,g1,g2⟩ := h
  exact ⟨b,hm _ _ g1,g2⟩
 | .agg cs,_,ho,h => Rs_up hm (by simpa [AV.op] using ho) h
 | .tup cs,_,ho,h => by
  obtain ⟨us,h1,h2⟩ := h
  exact ⟨us,h1,Rt_up hm (by simpa [AV.op] using ho) h2⟩
theorem Rs_up (hm : ∀ id b,φ id = some b → ψ (n + id) = some b) : ∀ {l : List AV} {g : Nat → Option Value},AV.opL l = true → Rs φ O w l g → Rs ψ O' w (AV.upL n l) g
 | [],_,_,_ => trivial
 | x :: r,_,ho,h => by
  simp only [AV.opL,Bool.and_eq_true] at ho
  exact ⟨by rw [AV.up_isAgg]; exact h.1,R_up hm ho.1 h.2.1,h.2.2.1,Rs_up hm ho.2 h.2.2.2⟩
theorem Rt_up (hm : ∀ id b,φ id = some b → ψ (n + id) = some b) : ∀ {l : List AV} {us : List Value},AV.opL l = true → Rt φ O w l us → Rt ψ O' w (AV.upL n l) us
 | [],_,_,h => h
 | x :: r,us,ho,h => by
  simp only [AV.opL,Bool.and_eq_true] at ho
  obtain ⟨v,s,h1,h2,h3,h4⟩ := h
  exact ⟨v,s,h1,AV.up_okA h2,R_up hm ho.1 h3,Rt_up hm ho.2 h4⟩
end
theorem Rl_up (hm : ∀ id b,φ id = some b → ψ (n + id) = some b) {b k : Nat} : ∀ {l : List AV} {off : Nat},AV.opL l = true → Rl φ O w b k l off → Rl ψ O' w b k (AV.upL n l) off
 | [],_,_,_ => trivial
 | x :: r,off,ho,h => by
  simp only [AV.opL,Bool.and_eq_true] at ho
  exact ⟨by rw [AV.up_ncells]; exact h.1,by rw [AV.up_isAgg]; exact h.2.1,R_up hm ho.1 h.2.2.1,Rl_up hm ho.2 h.2.2.2⟩
end
theorem RE_up {φ ψ : Phi} {O O' : Nat → Prop} {w : World} {n : Nat} (hm : ∀ id b,φ id = some b → ψ (n + id) = some b) : ∀ {l : List AV} {es : List MapEntry},AV.opL l = true → RE φ O w l es → RE ψ O' w (AV.upL n l) es
 | [],_,_,h => h
 | x :: r,_,ho,h => by
  simp only [AV.opL,Bool.and_eq_true] at ho
  obtain ⟨e,s,h1,h2,h3⟩ := h
  exact ⟨e,s,h1,⟨AV.up_okA h2.1,R_up hm ho.1 h2.2⟩,RE_up hm ho.2 h3⟩
theorem AHeap.find_high {A H : AHeap} {i : Nat} : AHeap.find (A ++ H) (H.length + i) = AHeap.find A i := by
 induction A with
 | nil => rw [List.nil_append,AHeap.find_ge (by omega)]; rfl
 | cons b r ih =>
  simp only [List.cons_append,AHeap.find,List.length_append]
  by_cases e : i = r.length
  ·rw [if_pos e,if_pos (by omega)]
  ·rw [if_neg e,if_neg (by omega),ih]
theorem AHeap.up_length {n : Nat} {G : AHeap} : (AHeap.up n G).length = G.length := by simp [AHeap.up]
theorem AHeap.find_up {n : Nat} {G : AHeap} {i : Nat} : AHeap.find (AHeap.up n G) i = (AHeap.find G i).map (ABlk.up n) := by
 induction G with
 | nil => rfl
 | cons b r ih =>
  show AHeap.find (b.map (ABlk.up n) :: AHeap.up n r) i = _
  simp only [AHeap.find,AHeap.up_length]
  split
  ·rfl
  ·exact ih
/-- What a callee tells, and lays, that is lent own memory and reads it. -/
theorem D_viewO {P : Program} {f : FuncId} {args args' : List AV} {v : AV} {H G : AHeap} (hv : ViewL H args args') (hp : v.op = true) (hg : AHeap.op G) (h : D P f args' [] (.ret v) G) : D P f args H (.ret (v.up H.length)) (AHeap.up H.length G ++ H) := by
 refine ⟨by simp,fun φ w vs hR ha => (h.2 phi0 w vs (rel0 w) (hv.Rt hR ha)).mono fun en w' ⟨χ,h1,h2,h3⟩ => ?_⟩
 have hblk : ∀ b,b < w.heap.size → w'.heap[b]? = w.heap[b]? := fun b hb => h3.same b hb own0
 have hown : ∀ b,b < w.heap.size → ¬ Own χ G b := fun b hb => h3.own b hb own0
 let ψ : Phi := fun id => if id < H.length then φ id else χ (id - H.length)
 have p1 : ∀ id,id < H.length → ψ id = φ id := fun id hi => if_pos hi
 have p2 : ∀ id,ψ (H.length + id) = χ id := fun id => by
  show (if _ then _ else _) = _
  rw [if_neg (by omega),show H.length + id - H.length = id from by omega]
 have q1 : ∀ id,id < H.length → AHeap.find (AHeap.up H.length G ++ H) id = AHeap.find H id := fun id hi => AHeap.find_append hi
 have q2 : ∀ id,AHeap.find (AHeap.up H.length G ++ H) (H.length + id) = (AHeap.find G id).map (ABlk.up H.length) := fun id => by rw [AHeap.find_high,AHeap.find_up]
 have o1 : ∀ b,Own ψ (AHeap.up H.length G ++ H) b → Own φ H b ∨ Own χ G b := by
  rintro b ⟨id,blk,e1,e2⟩
  by_cases hi : id < H.length
  ·rw [p1 id hi] at e1
   rw [q1 id hi] at e2
   exact .inl ⟨id,blk,e1,e2⟩
  ·obtain ⟨j,rfl⟩ : ∃ j,id = H.length + j := ⟨id - H.length,by omega⟩
   rw [p2] at e1
   rw [q2] at e2
   cases hf : AHeap.find G j with
   | none => rw [hf] at e2; simp at e2
   | some k => exact .inr ⟨j,k,e1,hf⟩
 have hm : ∀ id b,φ id = some b → ψ id = some b := fun id b e => by rw [p1 id (hR.dom id b e).1]; exact e
 have hl : Later (fun _ => True) φ ψ (Own φ H) (Own ψ (AHeap.up H.length G ++ H)) w w' := by
  refine ⟨fun id b _ e => hm id b e,h3.size,fun b hb hn ho => ?_,fun b hb _ => hblk b hb,fun b hb => h3.shape b hb⟩
  rcases o1 b ho with e | e
  ·exact hn e
  ·exact hown b hb e
 have hu : ∀ id b,χ id = some b → ψ (H.length + id) = some b := fun id b e => by rw [p2]; exact e
 refine ⟨ψ,?_,⟨fun id b e => ?_,fun i j b e1 e2 s1 s2 => ?_,fun id b k e1 e2 => ?_⟩,⟨hl,h3.os,h3.tape,h3.output,by simp,fun id hi => p1 id hi⟩⟩
 ·cases en with
  | returned u => exact ⟨AV.up_okA h1.1,R_up hu hp h1.2⟩
  | _ => exact h1.elim
 ·by_cases hi : id < H.length
  ·rw [p1 id hi] at e
   have := hR.dom id b e
   have h9 := h3.size
   exact ⟨by simp; omega,by omega⟩
  ·obtain ⟨j,rfl⟩ : ∃ j,id = H.length + j := ⟨id - H.length,by omega⟩
   rw [p2] at e
   have := h2.dom j b e
   exact ⟨by simp [AHeap.up_length]; omega,this.2⟩
 ·by_cases hi : i < H.length
  ·rw [p1 i hi] at e1
   rw [q1 i hi] at s1
   have hb := (hR.dom i b e1).2
   by_cases hj : j < H.length
   ·rw [p1 j hj] at e2
    rw [q1 j hj] at s2
    exact hR.inj i j b e1 e2 s1 s2
   ·obtain ⟨t,rfl⟩ : ∃ t,j = H.length + t := ⟨j - H.length,by omega⟩
    rw [p2] at e2
    rw [q2] at s2
    cases hf : AHeap.find G t with
    | none => rw [hf] at s2; simp at s2
    | some k => exact (hown b hb ⟨t,k,e2,hf⟩).elim
  ·obtain ⟨s,rfl⟩ : ∃ s,i = H.length + s := ⟨i - H.length,by omega⟩
   rw [p2] at e1
   rw [q2] at s1
   by_cases hj : j < H.length
   ·rw [p1 j hj] at e2
    have hb := (hR.dom j b e2).2
    cases hf : AHeap.find G s with
    | none => rw [hf] at s1; simp at s1
    | some k => exact (hown b hb ⟨s,k,e1,hf⟩).elim
   ·obtain ⟨t,rfl⟩ : ∃ t,j = H.length + t := ⟨j - H.length,by omega⟩
    rw [p2] at e2
    rw [q2] at s2
    have := h2.inj s t b e1 e2 (by simpa using s1) (by simpa using s2)
    omega
 ·by_cases hi : id < H.length
  ·rw [p1 id hi] at e1
   rw [q1 id hi] at e2
   have hb := (hR.dom id b e1).2
   exact (hR.blk id b k e1 e2).on hl (hblk b hb)
  ·obtain ⟨j,rfl⟩ : ∃ j,id = H.length + j := ⟨id - H.length,by omega⟩
   rw [p2] at e1
   rw [q2] at e2
   cases hf : AHeap.find G j with
   | none => rw [hf] at e2; simp at e2
   | some k0 =>
    rw [hf] at e2
    simp at e2
    subst e2
    rcases h2.blk j b k0 e1 hf with ⟨h0,cur,cap,a1,a2,a3,a4,a5,a6⟩ | ⟨h0,hty,ents,clock,a1,a2,a3,a4⟩ | ⟨h0,hty,r,ts,tm,e,_⟩
    ·exact .inl ⟨h0,cur,cap,a1,a2,by simpa [ABlk.up,AV.upL_length] using a3,by simpa [ABlk.up,AV.upL_length] using a4,a5,Rl_up hu (hg j k0 hf) a6⟩
    ·exact .inr (.inl ⟨h0,hty,ents,clock,a1,a2,a3,RE_up hu (hg j k0 hf) a4⟩)
    ·have := hg j k0 hf; rw [e] at this; simp [AV.opL,AV.op] at this
theorem OwnV_up {n k id : Nat} {xs : List AV} : (OwnV k xs id).up n = OwnV k xs (n + id) := by cases xs <;> rfl
theorem OwnV_op {k id : Nat} {xs : List AV} : (OwnV k xs id).op = true := by cases xs <;> rfl
end Go.Proofs.YtigmpablpmanpaaDoor
/- Slices of own rows whose room is not known are told at each room that they may have; own memory told in other words. Nothing of the program is named here. -/
namespace Go.Proofs.YtigmpablpmanpaaDoor
open Go.RowKit
set_option linter.unusedVariables false
set_option linter.unusedSimpArgs false
/-- A slice of unknown room, and one of a room that is known. -/
def Opened : AV → AV → Prop
 | .vec k i off n none,y => ∃ c,n ≤ c ∧ y = .vec k i off n (some c)
 | x,y => y = x
inductive OpenedL : List AV → List AV → Prop where
 | nil : OpenedL [] []
 | cons {x y : AV} {r s : List AV} : Opened x y → OpenedL r s → OpenedL (x :: r) (y :: s)
theorem OpenedL.len : ∀ {xs ys : List AV},OpenedL xs ys → ys.length = xs.length
 | _,_,.nil => rfl
 | _,_,.cons _ h => by simp [h.len]
theorem OpenedL.get : ∀ {xs ys : List AV},OpenedL xs ys → ∀ {j : Nat},j < xs.length → Opened (xs.getD j .top) (ys.getD j .top)
 | _,_,.nil,j,h => by simp at h
 | _,_,.cons hx hr,0,_ => hx
 | _,_,.cons hx hr,j + 1,h => by
  simp only [List.getD_cons_succ]
  exact hr.get (by simpa using h)
end Go.Proofs.YtigmpablpmanpaaDoor
/- Own rows that are marked, grown and looked at: what is known of them in own memory. Nothing of the program is named here. -/
namespace Go.Proofs.YtigmpablpmanpaaDoor
open Go.RowKit
set_option linter.unusedVariables false
set_option linter.unusedSimpArgs false
/-- A row that was handed out: nil, or a slice of an own block, with a room. -/
structure FRow where
 nil : Bool
 n : Nat
 id : Nat
 c : Nat
instance : Inhabited FRow := ⟨⟨true,0,0,0⟩⟩
def nthR (rs : List FRow) (i : Nat) : FRow := rs.getD i default
/-- What is asked of a row's block: its room; its elements' shape; how many of its elements are marked. -/
def capOK (n c : Nat) (es : List AV) (ex : Bool) : Prop := (ex = true ∧ c = es.length ∧ n ≤ c) ∨ (ex = false ∧ n ≤ es.length)
structure Shape where
 k : Nat
 ty : TypeId
 ag : Bool
def Shape.is (s : Shape) (x : AV) : Prop := x.isTop = false ∧ x.ncells = s.k ∧ x.isAgg = s.ag
def RowR (s : Shape) (mk : Nat → AV) (F : AHeap) (id n c m : Nat) : Prop :=
 ∃ es ex,AHeap.find F id = some ⟨s.k,es,ex,s.ty⟩ ∧ capOK n c es ex ∧ (∀ x ∈ es,s.is x) ∧ ∀ i,i < m → es[i]? = some (mk i)
/-- A block whose first elements are known. -/
def Reads (k : Nat) (mk : Nat → AV) (F : AHeap) (id m : Nat) : Prop := ∃ blk,AHeap.find F id = some blk ∧ blk.k = k ∧ m ≤ blk.es.length ∧ ∀ i,i < m → blk.es.getD i .top = mk i
section
variable {s : Shape} {mk : Nat → AV} {F G : AHeap} {id n c m : Nat}
theorem capOK_le {es : List AV} {ex : Bool} (h : capOK n c es ex) : n ≤ es.length := by
 rcases h with ⟨_,h1,h2⟩ | ⟨_,h⟩
 ·omega
 ·exact h
theorem getD_of_some {l : List AV} {i : Nat} {x : AV} (h : l[i]? = some x) : l.getD i .top = x := by simp [List.getD,h]
theorem RowR.keep (h : RowR s mk F id n c m) (e : AHeap.find G id = AHeap.find F id) : RowR s mk G id n c m := by
 unfold RowR at h ⊢
 rw [e]
 exact h
theorem Reads.keep {k : Nat} (h : Reads k mk F id m) (e : AHeap.find G id = AHeap.find F id) : Reads k mk G id m := by
 unfold Reads at h ⊢
 rw [e]
 exact h
theorem RowR.less {m' : Nat} (h : RowR s mk F id n c m) (hm : m' ≤ m) : RowR s mk F id n c m' := by
 obtain ⟨es,ex,h1,h2,h3,h4⟩ := h
 exact ⟨es,ex,h1,h2,h3,fun i hi => h4 i (by omega)⟩
theorem RowR.reads (h : RowR s mk F id n c m) (hm : m ≤ n) : Reads s.k mk F id m := by
 obtain ⟨es,ex,h1,h2,h3,h4⟩ := h
 have := capOK_le h2
 exact ⟨_,h1,rfl,by simp only; omega,fun i hi => getD_of_some (h4 i hi)⟩
theorem Reads.less {k m' : Nat} (h : Reads k mk F id m) (hm : m' ≤ m) : Reads k mk F id m' := by
 obtain ⟨blk,h1,h2,h3,h4⟩ := h
 exact ⟨blk,h1,h2,by omega,fun i hi => h4 i (by omega)⟩
/-- One mark more is stored. -/
theorem RowR.store {es : List AV} {ex : Bool} (hf : AHeap.find F id = some ⟨s.k,es,ex,s.ty⟩) (h2 : capOK n c es ex) (h3 : ∀ x ∈ es,s.is x) (h4 : ∀ i,i < m → es[i]? = some (mk i)) (hm : m < n) (hs : s.is (mk m)) :
  RowR s mk (AHeap.set F id (some ⟨s.k,es.set m (mk m),ex,s.ty⟩)) id n c (m + 1) := by
 have hlt := AHeap.find_lt hf
 have hle := capOK_le h2
 refine ⟨_,_,AHeap.find_set_same hlt,?_,fun x hx => ?_,fun i hi => ?_⟩
 ·simpa [capOK] using h2
 ·rcases List.mem_or_eq_of_mem_set hx with h | rfl
  ·exact h3 x h
  ·exact hs
 ·rw [List.getElem?_set]
  by_cases e : m = i
  ·subst e; simp; omega
  ·rw [if_neg e]; exact h4 i (by omega)
/-- Marks are appended in place. -/
theorem RowR.app {es ys : List AV} {ex : Bool} (hf : AHeap.find F id = some ⟨s.k,es,ex,s.ty⟩) (h2 : capOK n c es ex) (h3 : ∀ x ∈ es,s.is x) (h4 : ∀ i,i < n → es[i]? = some (mk i)) (hr : n + ys.length ≤ c) (hs : ∀ x ∈ ys,s.is x) (hy : ∀ i,i < ys.length → ys[i]? = some (mk (n + i))) :
  RowR s mk (AHeap.set F id (some ⟨s.k,es.take n ++ ys ++ es.drop (n + ys.length),ex,s.ty⟩)) id (n + ys.length) c (n + ys.length) := by
 have hlt := AHeap.find_lt hf
 have hle := capOK_le h2
 have hl : (es.take n ++ ys).length = n + ys.length := by simp; omega
 refine ⟨_,_,AHeap.find_set_same hlt,?_,fun x hx => ?_,fun i hi => ?_⟩
 ·rcases h2 with ⟨e1,e2,e3⟩ | ⟨e1,e2⟩
  ·refine .inl ⟨e1,?_,hr⟩
   simp; omega
  ·refine .inr ⟨e1,?_⟩
   rw [List.length_append,hl]; omega
 ·rcases List.mem_append.1 hx with hx | hx
  ·rcases List.mem_append.1 hx with hx | hx
   ·exact h3 x (List.mem_of_mem_take hx)
   ·exact hs x hx
  ·exact h3 x (List.mem_of_mem_drop hx)
 ·rw [List.getElem?_append_left (by omega)]
  by_cases e : i < n
  ·rw [List.getElem?_append_left (by simp; omega),List.getElem?_take_of_lt e]
   exact h4 i e
  ·rw [List.getElem?_append_right (by simp; omega)]
   have : i - (es.take n).length = i - n := by simp; omega
   rw [this,hy _ (by omega)]
   congr 2
   omega
end
/-- The rows' numbers. -/
def rowIds (rs : List FRow) : List Nat := (rs.filter fun r => !r.nil).map (·.id)
theorem mem_rowIds {rs : List FRow} {k : Nat} (h : k < rs.length) (hn : (nthR rs k).nil = false) : (nthR rs k).id ∈ rowIds rs := by
 refine List.mem_map.2 ⟨nthR rs k,List.mem_filter.2 ⟨?_,by simp [hn]⟩,rfl⟩
 unfold nthR
 rw [List.getD_eq_getElem?_getD,List.getElem?_eq_getElem h]
 exact List.getElem_mem h
/-- Rows that lie apart. -/
structure RowsOK (s : Shape) (F : AHeap) (rs : List FRow) : Prop where
 nil : ∀ k,k < rs.length → (nthR rs k).nil = true → (nthR rs k).n = 0
 blk : ∀ k,k < rs.length → (nthR rs k).nil = false → ∃ es ex,AHeap.find F (nthR rs k).id = some ⟨s.k,es,ex,s.ty⟩ ∧ capOK (nthR rs k).n (nthR rs k).c es ex ∧ ∀ x ∈ es,s.is x
 apart : ∀ k l,k < rs.length → l < rs.length → (nthR rs k).nil = false → (nthR rs l).nil = false → (nthR rs k).id = (nthR rs l).id → k = l
 small : ∀ k,k < rs.length → (nthR rs k).n ≤ 10000000
/-- Rows in own memory, each marked as far as is said. -/
def RowsM (s : Shape) (mk : Nat → Nat → AV) (F : AHeap) (rs : List FRow) (m : Nat → Nat) : Prop :=
 ∀ k,k < rs.length → (nthR rs k).nil = false → RowR s (mk k) F (nthR rs k).id (nthR rs k).n (nthR rs k).c (m k)
/-- What is not one of the rows lies as it lay. -/
def Beside (H F : AHeap) (rs : List FRow) : Prop := ∀ id,id < H.length → id ∉ rowIds rs → AHeap.find F id = AHeap.find H id
/-- Other slices of the rows, up to the K-th: where they lie; what is read there. -/
def Seconds (k0 : Nat) (mk : Nat → Nat → AV) (F : AHeap) (rs : List FRow) (g0 B : Nat) (gvs : List AV) (K : Nat) (x : Nat → Nat) : Prop :=
 ∀ k,k < K → ∃ gid gc,gvs.getD k .top = .vec k0 gid 0 ((nthR rs k).n + 64) gc ∧ Reads k0 (mk k) F gid (x k) ∧ ((gid = (nthR rs k).id ∧ (nthR rs k).nil = false) ∨ g0 < gid) ∧ gid < B
section
variable {s : Shape} {mk : Nat → Nat → AV} {H F G : AHeap} {rs : List FRow} {m m' : Nat → Nat}
theorem RowsOK.start (h : RowsOK s H rs) : RowsM s mk H rs (fun _ => 0) := fun k hk hn => by
 obtain ⟨es,ex,h1,h2,h3⟩ := h.blk k hk hn
 exact ⟨es,ex,h1,h2,h3,fun i hi => absurd hi (Nat.not_lt_zero _)⟩
theorem Beside.refl : Beside H H rs := fun _ _ _ => rfl
theorem Beside.set (h : Beside H F rs) {K : Nat} {b : Option ABlk} (hK : K < rs.length) (hn : (nthR rs K).nil = false) : Beside H (AHeap.set F (nthR rs K).id b) rs := fun id hid hni => by
 have hne : id ≠ (nthR rs K).id := fun e => hni (by rw [e]; exact mem_rowIds hK hn)
 rw [AHeap.find_set_ne hne]
 exact h id hid hni
theorem Beside.cons (h : Beside H F rs) (hl : H.length ≤ F.length) {b : Option ABlk} : Beside H (b :: F) rs := fun id hid hni => by
 rw [AHeap.find_cons (by omega)]
 exact h id hid hni
/-- One row is written. -/
theorem RowsM.put (h : RowsM s mk F rs m) (ok : RowsOK s H rs) {K : Nat} {b : Option ABlk} (hK : K < rs.length) (hn : (nthR rs K).nil = false) (hr : RowR s (mk K) (AHeap.set F (nthR rs K).id b) (nthR rs K).id (nthR rs K).n (nthR rs K).c (m' K)) (hm : ∀ k,k ≠ K → m' k ≤ m k) :
  RowsM s mk (AHeap.set F (nthR rs K).id b) rs m' := fun k hk hkn => by
 by_cases e : k = K
 ·subst e; exact hr
 ·exact ((h k hk hkn).less (hm k e)).keep (AHeap.find_set_ne (fun e' => e (ok.apart k K hk hK hkn hn e')))
theorem RowsM.less (h : RowsM s mk F rs m) (hm : ∀ k,k < rs.length → m' k ≤ m k) : RowsM s mk F rs m' := fun k hk hkn => (h k hk hkn).less (hm k hk)
theorem RowsM.far (h : RowsM s mk F rs m) (ok : RowsOK s H rs) {i : Nat} {b : Option ABlk} (hi : H.length ≤ i) : RowsM s mk (AHeap.set F i b) rs m := fun k hk hkn => by
 obtain ⟨es,ex,h1,_⟩ := ok.blk k hk hkn
 have := AHeap.find_lt h1
 exact (h k hk hkn).keep (AHeap.find_set_ne (by omega))
theorem RowsM.cons (h : RowsM s mk F rs m) {b : Option ABlk} : RowsM s mk (b :: F) rs m := fun k hk hkn => by
 obtain ⟨es,ex,h1,_⟩ := h k hk hkn
 exact (h k hk hkn).keep (AHeap.find_cons (AHeap.find_lt h1))
theorem Seconds.keep {k0 g0 B K : Nat} {gvs : List AV} {x : Nat → Nat} (h : Seconds k0 mk F rs g0 B gvs K x) (h1 : ∀ id,g0 < id → id < B → AHeap.find G id = AHeap.find F id) (h2 : ∀ k,k < K → (nthR rs k).nil = false → AHeap.find G (nthR rs k).id = AHeap.find F (nthR rs k).id) : Seconds k0 mk G rs g0 B gvs K x := fun k hk => by
 obtain ⟨gid,gc,a1,a2,a3,a4⟩ := h k hk
 refine ⟨gid,gc,a1,a2.keep ?_,a3,a4⟩
 rcases a3 with ⟨rfl,hn⟩ | h
 ·exact h2 k hk hn
 ·exact h1 gid h a4
theorem Seconds.more {k0 g0 B B' K : Nat} {gvs : List AV} {x : Nat → Nat} (h : Seconds k0 mk F rs g0 B gvs K x) (hB : B ≤ B') : Seconds k0 mk F rs g0 B' gvs K x := fun k hk => by
 obtain ⟨gid,gc,a1,a2,a3,a4⟩ := h k hk
 exact ⟨gid,gc,a1,a2,a3,by omega⟩
theorem Seconds.less {k0 g0 B K : Nat} {gvs : List AV} {x y : Nat → Nat} (h : Seconds k0 mk F rs g0 B gvs K x) (hy : ∀ k,k < K → y k ≤ x k) : Seconds k0 mk F rs g0 B gvs K y := fun k hk => by
 obtain ⟨gid,gc,a1,a2,a3,a4⟩ := h k hk
 exact ⟨gid,gc,a1,a2.less (hy k hk),a3,a4⟩
theorem Seconds.next {k0 g0 B B' K : Nat} {gvs : List AV} {x : Nat → Nat} {gid : Nat} {gc : Option Nat} (h : Seconds k0 mk F rs g0 B gvs K x) (hB : B ≤ B') (hK : K < gvs.length) (hr : Reads k0 (mk K) F gid (x K)) (ho : (gid = (nthR rs K).id ∧ (nthR rs K).nil = false) ∨ g0 < gid) (hb : gid < B') :
  Seconds k0 mk F rs g0 B' (gvs.set K (.vec k0 gid 0 ((nthR rs K).n + 64) gc)) (K + 1) x := fun k hk => by
 by_cases e : k = K
 ·subst e
  exact ⟨gid,gc,by simp [List.getD,hK],hr,ho,hb⟩
 ·obtain ⟨gid',gc',a1,a2,a3,a4⟩ := h k (by omega)
  refine ⟨gid',gc',?_,a2,a3,by omega⟩
  rw [← a1]
  simp only [List.getD_eq_getElem?_getD]
  rw [List.getElem?_set_ne (by omega)]
theorem Seconds.zero {k0 g0 B : Nat} {gvs : List AV} {x : Nat → Nat} : Seconds k0 mk F rs g0 B gvs 0 x := fun k hk => by omega
end
theorem upd_flat {e x : AV} {f : Nat} (h : e.isAgg = false) : AV.upd e f x = x := by
 cases e <;> first | rfl | (simp [AV.isAgg] at h)
theorem Reads.marks {k : Nat} {mk : Nat → AV} {F : AHeap} {gid n : Nat} {ex : Bool} {ty : TypeId} (h : AHeap.find F gid = some ⟨k,(List.range n).map mk,ex,ty⟩) : Reads k mk F gid n :=
 ⟨_,h,rfl,by simp,fun i hi => by simp [List.getD,hi]⟩
/-- Cells that are no aggregates. -/
def Ones (l : List AV) : Prop := ∀ x ∈ l,x.ncells = 1 ∧ x.isAgg = false
theorem Ones.get {l : List AV} (h : Ones l) {i : Nat} (hi : i < l.length) : (l.getD i .top).ncells = 1 ∧ ∀ f x,AV.upd (l.getD i .top) f x = x := by
 have e : l.getD i .top = l[i] := by simp [List.getD,hi]
 have := h _ (List.getElem_mem hi)
 rw [e]
 exact ⟨this.1,fun f x => upd_flat this.2⟩
theorem Ones.set {l : List AV} (h : Ones l) {i : Nat} {x : AV} (hx : x.ncells = 1 ∧ x.isAgg = false) : Ones (l.set i x) := fun y hy => by
 rcases List.mem_or_eq_of_mem_set hy with hy | rfl
 ·exact h y hy
 ·exact hx
end Go.Proofs.YtigmpablpmanpaaDoor
/- Rows that calls hand out, flat: from rows of a known room to own rows. Nothing of the program is named here. -/
namespace Go.Proofs.YtigmpablpmanpaaDoor
open Go.RowKit
set_option linter.unusedVariables false
set_option linter.unusedSimpArgs false
theorem find_killO_other {xs : List AV} {id i : Nat} {H : AHeap} (h : xs ≠ [] → i ≠ id) : AHeap.find (killO xs id H) i = AHeap.find H i := by
 cases xs with
 | nil => rfl
 | cons x r => exact AHeap.find_set_ne (h (by simp))
theorem idsL_mono' {n m : Nat} (h : n ≤ m) {l : List AV} (hl : AV.idsL (· < n) l) : AV.idsL (· < m) l := AV.idsL_mono (fun i hi => Nat.lt_of_lt_of_le hi h) l hl
/-- Own rows: elements, and where they lie. -/
abbrev ORow := List AV × Nat
def nthO (os : List ORow) (i : Nat) : ORow := os.getD i ([],0)
def ownIds (os : List ORow) : List Nat := (os.filter fun o => !o.1.isEmpty).map (·.2)
theorem mem_ownIds {os : List ORow} {k : Nat} (h : k < os.length) (hn : (nthO os k).1 ≠ []) : (nthO os k).2 ∈ ownIds os := by
 refine List.mem_map.2 ⟨nthO os k,List.mem_filter.2 ⟨?_,by simpa using hn⟩,rfl⟩
 unfold nthO
 rw [List.getD_eq_getElem?_getD,List.getElem?_eq_getElem h]
 exact List.getElem_mem h
theorem of_mem_ownIds {os : List ORow} {i : Nat} (h : i ∈ ownIds os) : ∃ k,k < os.length ∧ (nthO os k).1 ≠ [] ∧ (nthO os k).2 = i := by
 obtain ⟨o,h1,rfl⟩ := List.mem_map.1 h
 obtain ⟨h2,h3⟩ := List.mem_filter.1 h1
 obtain ⟨k,hk,e⟩ := List.getElem_of_mem h2
 have e2 : nthO os k = o := by
  unfold nthO
  rw [List.getD_eq_getElem?_getD,List.getElem?_eq_getElem hk]
  exact e
 exact ⟨k,hk,by rw [e2]; simpa using h3,by rw [e2]⟩
/-- Own rows that lie apart. -/
structure OwnsOK (s : Shape) (H : AHeap) (os : List ORow) : Prop where
 blk : ∀ k,k < os.length → (nthO os k).1 ≠ [] → AHeap.find H (nthO os k).2 = OwnB s.k s.ty (nthO os k).1
 shape : ∀ k,k < os.length → ∀ x ∈ (nthO os k).1,s.is x
 apart : ∀ k l,k < os.length → l < os.length → (nthO os k).1 ≠ [] → (nthO os l).1 ≠ [] → (nthO os k).2 = (nthO os l).2 → k = l
 small : ∀ k,k < os.length → (nthO os k).1.length ≤ 10000000
end Go.Proofs.YtigmpablpmanpaaDoor
/- Blocks that a call lays and hands out, one behind the other. Nothing of the program is named here. -/
namespace Go.Proofs.YtigmpablpmanpaaDoor
open Go.RowKit
set_option linter.unusedVariables false
set_option linter.unusedSimpArgs false
/-- Blocks, one laid after the other. -/
def lays : List (Option ABlk) → AHeap → AHeap
 | [],H => H
 | b :: r,H => lays r (b :: H)
theorem GzL.append {H1 : AHeap} {n0 : Nat} {src : List Nat} : ∀ {a b c d : List AV},GzL H1 n0 src a c → GzL H1 n0 src b d → GzL H1 n0 src (a ++ b) (c ++ d)
 | _,_,_,_,.nil,h => h
 | _,_,_,_,.cons hx hr,h => .cons hx (GzL.append hr h)
theorem GzL.map {H1 : AHeap} {n0 : Nat} {src : List Nat} {α : Type} {f g : α → AV} : ∀ {l : List α},(∀ x ∈ l,Gz H1 n0 src (f x) (g x)) → GzL H1 n0 src (l.map f) (l.map g)
 | [],_ => .nil
 | x :: r,h => .cons (h x (by simp)) (GzL.map fun y hy => h y (by simp [hy]))
/-- An append to an own row, whatever it is. -/
theorem apAny {H : AHeap} {k : Nat} {ty : TypeId} {xs ys : List AV} {id : Nat} (hf : xs ≠ [] → AHeap.find H id = OwnB k ty xs) (hl : xs.length + ys.length ≤ 100000000) :
  ∃ (id' : Nat) (H' : AHeap),apOk H k ty ys (OwnV k xs id) ∧ apV H k ys (OwnV k xs id) = OwnV k (xs ++ ys) id' ∧ apH H k ty ys (OwnV k xs id) = H' ∧ (xs ++ ys ≠ [] → AHeap.find H' id' = OwnB k ty (xs ++ ys) ∧ id' = H.length) ∧ H.length ≤ H'.length ∧ (∀ i,i < H.length → (xs ≠ [] → i ≠ id) → AHeap.find H' i = AHeap.find H i) := by
 obtain ⟨h1,h2,h3⟩ := apOwn hf hl
 by_cases e : ys ≠ [] ∨ xs ≠ []
 ·obtain ⟨g1,g2⟩ := h2 e
  refine ⟨_,_,h1,g1,g2,fun _ => ⟨?_,rfl⟩,by simp [killO_length],fun i hi hne => ?_⟩
  ·have := AHeap.find_new (H := killO xs id H) (b := OwnB k ty (xs ++ ys))
   rwa [killO_length] at this
  ·rw [AHeap.find_cons (by rw [killO_length]; exact hi),find_killO_other hne]
 ·have e1 : ys = [] := Classical.byContradiction fun h => e (.inl h)
  have e2 : xs = [] := Classical.byContradiction fun h => e (.inr h)
  obtain ⟨g1,g2⟩ := h3 e1 e2
  refine ⟨0,H,h1,by rw [g1,e1,e2]; rfl,g2,fun h => by rw [e1,e2] at h; exact (h rfl).elim,Nat.le_refl _,fun _ _ _ => rfl⟩
theorem weak_frz {H F : AHeap} {x y : AV} (h : ∀ id,id < H.length → AHeap.find F id = AHeap.find H id) (hz : Gz F H.length [] x y) : Weak H (.ret x) F (.ret y) H :=
 weak_gen [] (by simp) (by simp) (by simp) (fun id k hid hk => .inl ⟨hk,by rw [h id hid]; exact hk⟩) (fun i s k hs => by simp at hs) hz
end Go.Proofs.YtigmpablpmanpaaDoor
/- Rounds: ranges over functions, from the code's words to the model's. Nothing of the program is named here. -/
namespace Go.Proofs.YtigmpablpmanpaaDoor
open Go.RowKit
set_option linter.unusedVariables false
set_option linter.unusedSimpArgs false
/-- The fence that lets all in; in a round, or in none. -/
def Fv : Option Nat → Fence
 | none => Fence.wide
 | some l => Fence.wide.inRound l
section
variable {P : Program} {ro : Option Nat} {n : Nat}
theorem Fv_fn (f : FuncId) : (Fv ro).fn f := by cases ro <;> trivial
theorem Fv_depth : (Fv ro).depth.isSome = true → 1 ≤ n := by cases ro <;> (intro h; cases h)
theorem callsV {f : FuncId} {args : Array Value} {w : World} {R : Ending → World → Prop} (h : Calls P f args w R) : CallsIn (Fv ro) n P f args w R := by
 cases ro with
 | none => exact callsIn_wide.2 h
 | some l => exact (callsIn_wide.2 h : CallsIn Fence.wide n P f args w R)
theorem rowsF {row : String} {args : Array Value} {w : World} {R : Value → World → Prop} (h : Rows P row args w R) : RowsIn (Fv ro) n P row args w R := by
 intro c cs _
 obtain ⟨v,w',r,s⟩ := h c cs
 refine ⟨v,w',r,?_⟩
 cases ro with
 | none => exact stepsIn_wide.2 s
 | some l => exact stepsIn_wide.2 s
def notDefer : Op → Bool
 | .defer _ => false
 | _ => true
theorem op_in {o : Oper} (hnd : notDefer o.op = true) {a : Act} {w : World} {next : Act → World → Prop} {Q : Exit → Act → World → Prop} (h : o.wp P a w next Q) : o.wpIn (Fv ro) 0 P a w next Q := by
 refine ⟨fun f _ => Fv_fn f,?_⟩
 rw [Oper.semAt_eq _ _ _ (fun c e => by rw [e] at hnd; cases hnd)]
 unfold Oper.wp at h
 revert h
 cases (execOp a.eval o).run P w with
 | ok nx w' =>
  cases nx <;> intro h <;> first | exact h.elim | exact h | exact ⟨Fv_depth,callsV h⟩ | exact ⟨Fv_depth,rowsF h⟩
 | halt hl w' => cases hl <;> intro h <;> first | exact h.elim | exact h
theorem ops_in {ops : Array Oper} (hnd : ∀ o ∈ ops.toList,notDefer o.op = true) {Q : Exit → Act → World → Prop} (hq : ¬ LetsOut Q) : ∀ (l : List Nat) (a : Act) (w : World),wpOps P ops Q l a w → wpOpsIn (Fv ro) 0 P ops Q l a w
 | [],a,w,h => h
 | i :: rest,a,w,h => by
  simp only [wpOps] at h
  simp only [wpOpsIn]
  split
  ·rename_i ho; simp only [ho] at h; exact ops_in hnd hq rest a w h
  ·rename_i o ho
   simp only [ho] at h
   have hm : o ∈ ops.toList := by rw [← Array.getElem?_toList] at ho; exact List.mem_of_getElem? ho
   split
   ·rename_i hw
    rw [if_pos hw] at h
    rcases h with h | h
    ·exact op_in (hnd o hm) (Oper.wp_mono (fun a w h => ops_in hnd hq rest a w h) h)
    ·exact (hq h.2).elim
   ·rename_i hw
    rw [if_neg hw] at h
    exact ⟨fun f _ => Fv_fn f,ops_in hnd hq rest _ w h⟩
theorem any_in {md : Region.Mode} {ops : Array Oper} (hnd : ∀ o ∈ ops.toList,notDefer o.op = true) {Q : Exit → Act → World → Prop} (hq : ¬ LetsOut Q) : ∀ (fuel : Nat) (L : Array Bool) (a : Act) (w : World),wpAny P md ops Q fuel L a w → wpAnyIn (Fv ro) 0 P md ops Q fuel L a w
 | 0,L,a,w,h => h
 | fuel + 1,L,a,w,h => by
  refine ⟨h.1,fun i hi => ?_⟩
  have := h.2 i hi
  unfold wpOp at this
  unfold wpOpIn
  split
  ·rename_i ho; simp only [ho] at this; exact any_in hnd hq fuel _ a w this
  ·rename_i o ho
   simp only [ho] at this
   have hm : o ∈ ops.toList := by rw [← Array.getElem?_toList] at ho; exact List.mem_of_getElem? ho
   split
   ·rename_i hw
    rw [if_pos hw] at this
    rcases this with h | h
    ·exact op_in (hnd o hm) (Oper.wp_mono (fun a w h => any_in hnd hq fuel _ a w h) h)
    ·exact (hq h.2).elim
   ·rename_i hw
    rw [if_neg hw] at this
    exact ⟨fun f _ => Fv_fn f,any_in hnd hq fuel _ _ w this⟩
/-! ### Own records -/
/-- A new own block that is no cells. -/
theorem Rel.allocO {φ : Phi} {w : World} {H : AHeap} (h : Rel φ H w) (blk : ABlk) (o : Obj) (hx : Later (fun _ => True) φ (φ.add H.length w.heap.size) (Own φ H) (Own (φ.add H.length w.heap.size) (some blk :: H)) w (w.alloc o) → BlkR (φ.add H.length w.heap.size) (Own (φ.add H.length w.heap.size) (some blk :: H)) (w.alloc o) blk w.heap.size) :
  Rel (φ.add H.length w.heap.size) (some blk :: H) (w.alloc o) ∧ Step φ H w (φ.add H.length w.heap.size) (some blk :: H) (w.alloc o) := by
 obtain ⟨hnew,hold⟩ := MapKept.heap_alloc w o
 have hsize : w.heap.size ≤ (w.alloc o).heap.size := by simp
 have hdom : ∀ id b,φ id = some b → id < H.length := fun id b hm => (h.dom id b hm).1
 have hl2 : Later (fun _ => True) φ (φ.add H.length w.heap.size) (Own φ H) (Own (φ.add H.length w.heap.size) (some blk :: H)) w (w.alloc o) := by
  refine ⟨fun id b _ hm' => ?_,hsize,fun b hb ho ho' => ?_,fun b hb _ => hold b hb,fun b hb => by unfold World.shape?; rw [hold b hb]⟩
  ·unfold Phi.add
   rw [if_neg (by have := hdom id b hm'; omega)]
   exact hm'
  ·rcases own_add hdom ho' with h1 | h1
   ·exact ho h1
   ·omega
 refine ⟨⟨fun id b' hm' => ?_,fun i j b' hi hj hfi hfj => ?_,fun id b' k h1 h2 => ?_⟩,⟨hl2,rfl,rfl,rfl,by simp,fun id hid => by unfold Phi.add; rw [if_neg (by omega)]⟩⟩
 ·unfold Phi.add at hm'
  split at hm'
  ·rename_i e
   cases hm'
   exact ⟨by simp [e],by simp⟩
  ·have := h.dom id b' hm'
   exact ⟨by simp; omega,by simp; omega⟩
 ·unfold Phi.add at hi hj
  split at hi <;> split at hj
  ·omega
  ·cases hi; have := (h.dom j _ hj).2; omega
  ·cases hj; have := (h.dom i _ hi).2; omega
  ·have l1 := (h.dom i b' hi).1
   have l2 := (h.dom j b' hj).1
   rw [AHeap.find_cons l1] at hfi
   rw [AHeap.find_cons l2] at hfj
   exact h.inj i j b' hi hj hfi hfj
 ·unfold Phi.add at h1
  split at h1
  ·rename_i e
   cases h1
   subst e
   rw [AHeap.find_new] at h2
   cases h2
   exact hx hl2
  ·have l1 := (h.dom id b' h1).1
   have l2 := (h.dom id b' h1).2
   rw [AHeap.find_cons l1] at h2
   exact (h.blk id b' k h1 h2).on hl2 (hold b' l2)
theorem Rt_of {φ : Phi} {O : Nat → Prop} {w : World} : ∀ {ts : List AV} {us : List Value},us.length = ts.length → (∀ i,i < ts.length → VR φ O w (ts.getD i .top) (us.getD i undef)) → Rt φ O w ts us
 | [],us,hl,_ => by cases us <;> first | rfl | simp at hl
 | x :: r,[],hl,_ => by simp at hl
 | x :: r,v :: s,hl,h => by
  have h0 := h 0 (by simp)
  exact ⟨v,s,rfl,h0.1,h0.2,Rt_of (by simpa using hl) fun i hi => by have := h (i + 1) (by simp; omega); simpa using this⟩
theorem FR_Rt {φ : Phi} {O : Nat → Prop} {w : World} {ts : List AV} {a : Act} (h : FR φ O w ts a) : Rt φ O w ts a.tmps.toList := by
 refine Rt_of (by simpa using h.1) fun i hi => ?_
 have := h.2 i
 rwa [show a.tmps.toList.getD i undef = a.tmps.getD i undef from by rw [Array.getD_eq_getD_getElem?,List.getD,Array.getElem?_toList]]
theorem Rt_FR {φ : Phi} {O : Nat → Prop} {w : World} {ts : List AV} {us : Array Value} (h : Rt φ O w ts us.toList) (ds : List Deferred) : FR φ O w ts { tmps := us,defers := ds } := by
 have hl := Rt_len h
 refine ⟨by simpa using hl,fun i => ?_⟩
 by_cases hi : i < ts.length
 ·obtain ⟨u,g1,g2⟩ := Rt_nth h (i := i) (x := ts[i]) (by simp [hi])
  rw [Array.getElem?_toList] at g1
  rw [show ts.getD i .top = ts[i] from by simp [List.getD,hi],show us.getD i undef = u from by rw [Array.getD_eq_getD_getElem?,g1]; rfl]
  exact g2
 ·rw [show ts.getD i .top = .top from by simp [List.getD,List.getElem?_eq_none (Nat.le_of_not_lt hi)]]
  exact vr_top _
/-- What is known of an own record. -/
theorem own_rec {φ : Phi} {w : World} {H : AHeap} (hR : Rel φ H w) {id b : Nat} {r : Loop} {ts : List AV} (hm : φ id = some b) (hf : AHeap.find H id = some (lpB r ts)) : ∃ tm : Array Value,w.heap[b]? = some (.loop { r with tmps := tm }) ∧ Rt φ (Own φ H) w ts tm.toList := by
 rcases hR.blk id b _ hm hf with ⟨h0,_⟩ | ⟨_,h0,_⟩ | ⟨_,_,r',ts',tm,e,a1,a2⟩
 ·exact absurd h0 (by simp [lpB])
 ·exact absurd h0 (by simp [lpB])
 ·simp only [lpB,List.cons.injEq,AV.rcd.injEq] at e
  obtain ⟨rfl,rfl⟩ := e
  exact ⟨tm,a1,a2⟩
theorem shape_loop {w : World} {b : Nat} {r : Loop} (h : w.heap[b]? = some (.loop r)) : w.shape? b = none := by unfold World.shape?; rw [h]
/-- An own record is written. -/
theorem Rel.writeL {φ : Phi} {w : World} {H : AHeap} (h : Rel φ H w) {id b : Nat} {r : Loop} {ts : List AV} {tm : Array Value} (hm : φ id = some b) (hf : AHeap.find H id = some (lpB r ts)) (hb : w.heap[b]? = some (.loop { r with tmps := tm })) (ht : Rt φ (Own φ H) w ts tm.toList) (r' : Loop) :
  Rel φ (AHeap.set H id (some (lpB r' ts))) (w.putObj b (.loop { r' with tmps := tm })) ∧ Step φ H w φ (AHeap.set H id (some (lpB r' ts))) (w.putObj b (.loop { r' with tmps := tm })) := by
 have hlt := heap_lt hb
 refine h.writeO hm hf _ World.putObj_size (fun b' hne => World.putObj_heap_other hne) (by rw [shape_loop hb,shape_loop (World.putObj_heap_same hlt)]) rfl rfl rfl fun k hk hl => ?_
 cases hk
 exact .inr (.inr ⟨rfl,rfl,r',ts,tm,rfl,World.putObj_heap_same hlt,Rt_later hl _ _ (AV.idsL_true _) ht⟩)
/-- An own record is given up. -/
theorem Rel.killL {φ : Phi} {w : World} {H : AHeap} (h : Rel φ H w) {id b : Nat} {r r' : Loop} {blk : ABlk} (hm : φ id = some b) (hf : AHeap.find H id = some blk) (hb : w.heap[b]? = some (.loop r)) :
  Rel φ (AHeap.set H id none) (w.putObj b (.loop r')) ∧ Step φ H w φ (AHeap.set H id none) (w.putObj b (.loop r')) :=
 h.writeO hm hf _ World.putObj_size (fun b' hne => World.putObj_heap_other hne) (by rw [shape_loop hb,shape_loop (World.putObj_heap_same (heap_lt hb))]) rfl rfl rfl fun k hk => by cases hk
/-! ### The marks that such loops leave among the deferred calls -/
def Mk (m : Nat) : Deferred := { target := .collected m,args := #[] }
def MD (n0 : Nat) (φ : Phi) (H : AHeap) (w : World) (ds : List Deferred) : Prop := ∃ ms : List Nat,ds = ms.map Mk ∧ ms.Nodup ∧ ∀ m ∈ ms,n0 ≤ m ∧ w.heap[m]? = some (.deferred (some [])) ∧ ¬ Own φ H m
theorem MD.nil (n0 : Nat) (φ : Phi) (H : AHeap) (w : World) : MD n0 φ H w [] := ⟨[],rfl,.nil,fun m h => by cases h⟩
theorem MD.step {n0 : Nat} {φ φ' : Phi} {H H' : AHeap} {w w' : World} {ds : List Deferred} (hs : Step φ H w φ' H' w') (h : MD n0 φ H w ds) : MD n0 φ' H' w' ds := by
 obtain ⟨ms,h1,h2,h3⟩ := h
 refine ⟨ms,h1,h2,fun m hm => ?_⟩
 obtain ⟨g1,g2,g3⟩ := h3 m hm
 exact ⟨g1,(hs.same m (heap_lt g2) g3).trans g2,hs.own m (heap_lt g2) g3⟩
/-! ### Regions that call the way into a round -/
def splitY : List Oper → Option (List Oper × Oper × Tmp × Array Operand × List Oper)
 | [] => none
 | o :: r => match o.op with
  | .call { callee := .value (.tmp t),args,.. } => some ([],o,t,args,r)
  | _ => (splitY r).map fun x => (o :: x.1,x.2.1,x.2.2.1,x.2.2.2.1,x.2.2.2.2)
theorem splitY_spec : ∀ {l a : List Oper} {o : Oper} {t : Tmp} {as : Array Operand} {c : List Oper},splitY l = some (a,o,t,as,c) → l = a ++ o :: c ∧ ∃ ats,o.op = .call { callee := .value (.tmp t),args := as,argTypes := ats }
 | [],a,o,t,as,c,h => by simp [splitY] at h
 | x :: r,a,o,t,as,c,h => by
  unfold splitY at h
  split at h
  ·rename_i t' args' ats e
   simp only [Option.some.injEq,Prod.mk.injEq] at h
   obtain ⟨rfl,rfl,rfl,rfl,rfl⟩ := h
   exact ⟨rfl,ats,e⟩
  ·simp only [Option.map_eq_some_iff,Prod.mk.injEq] at h
   obtain ⟨⟨a',o',t',as',c'⟩,h1,rfl,rfl,rfl,rfl,rfl⟩ := h
   obtain ⟨h2,h3⟩ := splitY_spec h1
   exact ⟨by rw [h2]; rfl,h3⟩
def compYld (P : Program) (b : Bool) (ops : Array Oper) : Option IC := match splitY ops.toList with
 | some (a,o,t,as,c) => match compOps P b ops a,compG ops o.guard,ofXs as,compOps P b ops c with
  | some l1,some g,some xs,some l2 => some (.yld l1 g (.t t) xs o.dst l2)
  | _,_,_,_ => none
 | none => none
theorem runOps_partY {b : Bool} {ops : Array Oper} (hnd : ∀ o ∈ ops.toList,notDefer o.op = true) {Q : Exit → Act → World → Prop} {K : List AV → AHeap → Prop} {Kp : AV → List AV → AHeap → Prop} {tail : List Nat} : ∀ (n i : Nat) (l : List IO') (ts : List AV) (H : AHeap) (φ : Phi) (w : World) (a : Act),
  i + n ≤ ops.size → compOps P b ops ((ops.toList.drop i).take n) = some l → Rel φ H w → FR φ (Own φ H) w ts a → runOps P K Kp l ts H →
  (∀ ts' a' φ' H' w',K ts' H' → FR φ' (Own φ' H') w' ts' a' → Rel φ' H' w' → Step φ H w φ' H' w' → a'.defers = a.defers → wpOpsIn (Fv ro) 0 P ops Q tail a' w') → PanOk Q Kp φ H w a.defers → wpOpsIn (Fv ro) 0 P ops Q (List.range' i n ++ tail) a w
 | 0,i,l,ts,H,φ,w,a,hi,hc,hR,hF,h,hk,hp => by
  simp [compOps] at hc
  subst hc
  exact hk _ _ _ _ _ h hF hR (Step.refl _ _ _) rfl
 | n + 1,i,l,ts,H,φ,w,a,hi,hc,hR,hF,h,hk,hp => by
  have hlt : i < ops.toList.length := by simp; omega
  rw [List.drop_eq_getElem_cons hlt,List.take_succ_cons] at hc
  unfold compOps at hc
  split at hc
  case h_2 => simp at hc
  rename_i x s hx hs
  cases hc
  have hoi : ops[i]? = some (ops.toList[i]) := by simp at hlt; simp [hlt]
  obtain ⟨hd,hg⟩ := compO_dst hx
  simp only [runOps] at h
  have hcont : ∀ φ' H' w',Step φ H w φ' H' w' → ∀ a' : Act,a'.defers = a.defers → (∀ ts2 a2 φ2 H2 w2,K ts2 H2 → FR φ2 (Own φ2 H2) w2 ts2 a2 → Rel φ2 H2 w2 → Step φ' H' w' φ2 H2 w2 → a2.defers = a'.defers → wpOpsIn (Fv ro) 0 P ops Q tail a2 w2) ∧ PanOk Q Kp φ' H' w' a'.defers := by
   intro φ' H' w' hst a' ha
   exact ⟨fun ts2 a2 φ2 H2 w2 k1 k2 k3 k4 k5 => hk ts2 a2 φ2 H2 w2 k1 k2 k3 (hst.trans k4) (by rw [k5,ha]),fun v u ts2 a2 φ2 H2 w2 k1 k2 k3 k4 k5 k6 => hp v u ts2 a2 φ2 H2 w2 k1 k2 k3 k4 (hst.trans k5) (by rw [k6,ha])⟩
  rw [show List.range' i (n + 1) ++ tail = i :: (List.range' (i + 1) n ++ tail) from rfl]
  simp only [wpOpsIn,hoi]
  rcases guard_wanted hg hF h with ⟨hw,hy⟩ | ⟨hw,hno⟩
  ·rw [if_pos hw]
   refine op_in (hnd _ (List.getElem_mem hlt)) (op_wp hx hR hF hy (fun v u φ' H' w' k1 k2 k3 k4 => ?_) (fun v u φ' H' w' k1 k2 k3 k4 => ?_))
   ·have hF' := (FR.step k4 hF).put (ops.toList[i]).dst k2
    rw [hd] at k1
    have := hcont φ' H' w' k4 (a.put (ops.toList[i]).dst u) (put_defers _ _ _)
    exact runOps_partY hnd n (i + 1) s _ H' φ' w' _ (by omega) hs k3 hF' k1 this.1 this.2
   ·exact hp v u ts a φ' H' w' k1 k2 (FR.step k4 hF) k3 k4 rfl
  ·rw [if_neg (by rw [hw]; simp)]
   refine ⟨fun f _ => Fv_fn f,?_⟩
   have hF' := hF.put (ops.toList[i]).dst (vr_undef (φ := φ) (O := Own φ H) (w := w))
   rw [hd] at hno
   have := hcont φ H w (Step.refl _ _ _) (a.put (ops.toList[i]).dst undef) (put_defers _ _ _)
   exact runOps_partY hnd n (i + 1) s _ H φ w _ (by omega) hs hR hF' hno this.1 this.2
/-- The call of the way in. -/
theorem yop_in {o : Oper} {t : Tmp} {as : Array Operand} {ats : Array TypeId} {xs : List X} (ho : o.op = .call { callee := .value (.tmp t),args := as,argTypes := ats }) (hxs : ofXs as = some xs) {φ : Phi} {H : AHeap} {w : World} {ts : List AV} {a : Act} (hR : Rel φ H w) (hF : FR φ (Own φ H) w ts a) {K Kp : AV → AHeap → Prop}
  (h : yldK P K Kp (xs.map (X.ev ts)) H ((X.t t).ev ts)) {next : Act → World → Prop} {Q : Exit → Act → World → Prop}
  (hn : ∀ v u φ' H' w',K v H' → VR φ' (Own φ' H') w' v u → Rel φ' H' w' → Step φ H w φ' H' w' → next (a.put o.dst u) w')
  (hp : ∀ v u φ' H' w',Kp v H' → ChR φ' (Own φ' H') w' v u → Rel φ' H' w' → Step φ H w φ' H' w' → Q (.panic u) a w') : o.wpIn (Fv ro) 0 P a w next Q := by
 refine ⟨fun f _ => Fv_fn f,?_⟩
 rw [Oper.semAt_eq _ _ _ (fun c e => by rw [ho] at e; cases e)]
 have hv : VR φ (Own φ H) w ((X.t t).ev ts) (a.eval (.tmp t)) := ofX_spec hF rfl
 unfold yldK at h
 split at h
 case h_2 => exact h.elim
 rename_i k id j f he
 obtain ⟨⟨rfl,rfl⟩,e,H',hD,hK⟩ := h
 rw [he] at hv
 obtain ⟨b,g1,g2⟩ := VR_ptr hv
 obtain ⟨f,tmps,asg,body,hy,hr⟩ := hD.2 φ w b (as.map a.eval) hR g1 (by simpa using Rt_map hF hxs)
 have hrun : (execOp a.eval o).run P w = .ok (.round b f tmps asg body) w := by
  have e1 : a.eval (.tmp t) = .func (.yield b) #[] #[] := g2
  simp only [execOp,ho,resolve,e1,Deferred.ofValue,invoke,Sem.run_bind,Sem.run_pure,Result.andThen_ok,Array.empty_append]
  exact hy
 rw [hrun,Oper.uponIn_round]
 refine ⟨Fv_depth,?_⟩
 have hrn : RoundIn (Fv ro) (0 - 1) P b f tmps asg body w fun en w' => ∃ φ',EndR φ' (Own φ' H') w' e en ∧ Rel φ' H' w' ∧ Step φ H w φ' H' w' := by
  cases ro with
  | none => exact hr
  | some l => exact hr
 refine hrn.mono ?_
 rintro en w' ⟨φ',h1,h2,h3⟩
 cases e with
 | ret v =>
  cases en with
  | returned u => exact hn _ _ _ _ _ hK h1 h2 h3
  | panicked c => exact h1.elim
  | outgrown => exact h1.elim
 | pan v =>
  cases en with
  | returned u => exact h1.elim
  | panicked c => exact hp _ _ _ _ _ hK h1 h2 h3
  | outgrown => exact h1.elim
theorem region_yld {b : Bool} {id : Nat} {ops : Array Oper} (hnd : ∀ o ∈ ops.toList,notDefer o.op = true) {ic : IC} (hc : compYld P b ops = some ic) {Q : Exit → Act → World → Prop} {K : Post} {φ : Phi} {H : AHeap} {w : World} {ts : List AV} {a : Act}
  (hR : Rel φ H w) (hF : FR φ (Own φ H) w ts a) (h : E P ic K ts H) (hk : ContOk Q (K .normal) φ H w a.defers) (hp : PanOk Q (fun v ts' H' => K (.pan v) ts' H') φ H w a.defers) : (Code.region id ops false).wpIn (Fv ro) 0 P Q a w := by
 unfold compYld at hc
 split at hc
 case h_2 => simp at hc
 rename_i la o t as lc hsp
 split at hc
 case h_2 => simp at hc
 rename_i l1 g xs l2 h1 h2 h3 h4
 cases hc
 obtain ⟨hops,ats,ho⟩ := splitY_spec hsp
 have hsz : ops.size = la.length + (1 + lc.length) := by rw [← Array.length_toList,hops]; simp; omega
 have htk : (ops.toList.drop 0).take la.length = la := by rw [hops]; simp
 have hdr : (ops.toList.drop (la.length + 1)).take lc.length = lc := by
  rw [hops,show la ++ o :: lc = (la ++ [o]) ++ lc by simp,List.drop_left' (by simp)]
  simp
 have hoi : ops[la.length]? = some o := by rw [← Array.getElem?_toList,hops]; simp
 refine wpIn_region ?_
 have hrange : List.range ops.size = List.range' 0 la.length ++ (la.length :: (List.range' (la.length + 1) lc.length ++ [])) := by
  rw [hsz,List.range_eq_range',← List.range'_append_1,List.append_nil]
  congr 1
  rw [Nat.add_comm 1,List.range'_succ,Nat.zero_add]
 rw [hrange]
 have fin : ∀ {d : Option Nat} {v : AV} {ts1 : List AV} {a1 : Act} {φ1 : Phi} {H1 : AHeap} {w1 : World},runOps P (K .normal) (fun v ts' H' => K (.pan v) ts' H') l2 ts1 H1 → FR φ1 (Own φ1 H1) w1 ts1 a1 → Rel φ1 H1 w1 → Step φ H w φ1 H1 w1 → a1.defers = a.defers → wpOpsIn (Fv ro) 0 P ops Q (List.range' (la.length + 1) lc.length ++ []) a1 w1 := by
  intro d v ts1 a1 φ1 H1 w1 k1 k2 k3 k4 k5
  refine runOps_partY hnd lc.length (la.length + 1) l2 ts1 H1 φ1 w1 a1 (by omega) (by rw [hdr]; exact h4) k3 k2 k1 (fun ts2 a2 φ2 H2 w2 m1 m2 m3 m4 m5 => ?_) (fun v u ts2 a2 φ2 H2 w2 m1 m2 m3 m4 m5 m6 => hp v u ts2 a2 φ2 H2 w2 m1 m2 m3 m4 (k4.trans m5) (by rw [m6,k5]))
  exact hk ts2 a2 φ2 H2 w2 m1 m2 m3 (k4.trans m4) (by rw [m5,k5])
 refine runOps_partY hnd la.length 0 l1 ts H φ w a (by omega) (by rw [htk]; exact h1) hR hF h (fun ts1 a1 φ1 H1 w1 k1 k2 k3 k4 k5 => ?_) hp
 simp only [wpOpsIn,hoi]
 rcases guard_wanted h2 k2 k1 with ⟨hw,hy⟩ | ⟨hw,hno⟩
 ·rw [if_pos hw]
  refine yop_in ho h3 k3 k2 hy (fun v u φ2 H2 w2 m1 m2 m3 m4 => ?_) (fun v u φ2 H2 w2 m1 m2 m3 m4 => ?_)
  ·exact fin (d := none) (v := .top) m1 ((FR.step m4 k2).put o.dst m2) m3 (k4.trans m4) (by rw [put_defers,k5])
  ·exact hp v u ts1 a1 φ2 H2 w2 m1 m2 (FR.step m4 k2) m3 (k4.trans m4) k5
 ·rw [if_neg (by rw [hw]; simp)]
  exact ⟨fun f _ => Fv_fn f,fin (d := none) (v := .top) hno (k2.put o.dst vr_undef) k3 k4 (by rw [put_defers,k5])⟩
/-! ### Code -/
def opsOkY (ops : Array Oper) : Bool := ops.toList.all fun o => notDefer o.op
theorem opsOkY_spec {ops : Array Oper} (h : opsOkY ops = true) : ∀ o ∈ ops.toList,notDefer o.op = true := fun o ho => List.all_eq_true.1 h o ho
def compY (top : Bool) (P : Program) (vecs ys : List Nat) : Code → Option IC
 | .skip => some .skip
 | .label _ => some .skip
 | .region id ops draw => if opsOkY ops then (if ys.contains id then (if draw then none else compYld P (vecs.contains id) ops) else compC P vecs (.region id ops draw)) else none
 | .seq a b => match compY top P vecs ys a,compY top P vecs ys b with
  | some x,some y => some (.seq x y)
  | _,_ => none
 | .cond c a b => match ofX c,compY top P vecs ys a,compY top P vecs ys b with
  | some c,some x,some y => some (.cond c x y)
  | _,_,_ => none
 | .block id c => (compY top P vecs ys c).map (.block id)
 | .loop c => (compY top P vecs ys c).map .loop
 | .exit id => some (.exit id)
 | .ret => some .ret
 | .refuse _ => some deadC
 | .rangeFunc g ps asg body => if top then (ofX g).map fun x => .rng x ps asg body else none
 | _ => none
/-- Where the code comes out. -/
def CKY (n0 : Nat) (K : Post) (φ : Phi) (H : AHeap) (w : World) : Exit → Act → World → Prop := fun e a' w' =>
 ∃ x ts' H' φ',XR φ' (Own φ' H') w' x e ∧ K x ts' H' ∧ FR φ' (Own φ' H') w' ts' a' ∧ Rel φ' H' w' ∧ Step φ H w φ' H' w' ∧ MD n0 φ' H' w' a'.defers
theorem CKY.step {n0 : Nat} {K : Post} {φ φ' : Phi} {H H' : AHeap} {w w' : World} {e : Exit} {a : Act} {w2 : World} (hs : Step φ H w φ' H' w') (h : CKY n0 K φ' H' w' e a w2) : CKY n0 K φ H w e a w2 := by
 obtain ⟨x,ts,H2,φ2,h1,h2,h3,h4,h5,h6⟩ := h
 exact ⟨x,ts,H2,φ2,h1,h2,h3,h4,hs.trans h5,h6⟩
theorem CKY.stays {n0 : Nat} {K : Post} {φ : Phi} {H : AHeap} {w : World} : ¬ LetsOut (CKY n0 K φ H w) := by
 rintro ⟨a,w',x,ts,H2,φ2,h1,_⟩
 cases x <;> exact h1.elim
theorem region_Y {vecs : List Nat} {id : Nat} {ops : Array Oper} {draw : Bool} (hnd : ∀ o ∈ ops.toList,notDefer o.op = true) {ic : IC} (hc : compC P vecs (.region id ops draw) = some ic) {Q : Exit → Act → World → Prop} (hq : ¬ LetsOut Q) {K : Post} {φ : Phi} {H : AHeap} {w : World} {ts : List AV} {a : Act}
  (hR : Rel φ H w) (hF : FR φ (Own φ H) w ts a) (h : E P ic K ts H) (hk : ContOk Q (K .normal) φ H w a.defers) (hp : PanOk Q (fun v ts' H' => K (.pan v) ts' H') φ H w a.defers) : (Code.region id ops draw).wpIn (Fv ro) 0 P Q a w := by
 simp only [compC] at hc
 split at hc
 ·simp at hc
 rename_i l hl
 cases draw with
 | false =>
  simp only [Bool.false_eq_true,if_false] at hc
  cases hc
  refine wpIn_region (ops_in hnd hq _ _ _ ?_)
  rw [List.range_eq_range']
  exact runOps_sound ops.size 0 l ts H φ w a (by omega) (by simpa using hl) hR hF h hk hp
 | true =>
  simp only [if_true] at hc
  split at hc
  case isFalse =>
   unfold hoistC at hc
   simp only at hc
   split at hc
   ·simp at hc
   rename_i l2 hl2
   split at hc
   case isFalse => simp at hc
   rename_i hcond
   simp only [Bool.and_eq_true] at hcond
   cases hc
   exact wpIn_region_any hcond.2 (any_in hnd hq _ _ _ _ (region_hoistA hcond.2 hcond.1.1.1 hl2 hcond.1.1.2 hcond.1.2 hR hF h hk hp))
  rename_i hcond
  simp only [Bool.and_eq_true] at hcond
  cases hc
  exact wpIn_region_any hcond.2 (any_in hnd hq _ _ _ _ (region_any hl hcond.1.1 hcond.1.2 hR hF h hk hp))
/-- A range over a function, entered. -/
theorem rng_in {g : Operand} {x : X} {ps : Array Tmp} {asg body : Code} (hx : ofX g = some x) {K : Post} {φ : Phi} {H : AHeap} {w : World} {ts : List AV} {a : Act} {n0 : Nat} (hR : Rel φ H w) (hF : FR φ (Own φ H) w ts a) (hM : MD n0 φ H w a.defers) (hn : n0 ≤ w.heap.size) (h : rngK P ps asg body K ts H (x.ev ts)) :
  (Code.rangeFunc g ps asg body).wpIn (Fv none) 0 P (CKY n0 K φ H w) a w := by
 have hv := ofX_spec hF hx
 unfold rngK at h
 split at h
 case h_2 => exact h.elim
 rename_i f caps he
 rw [he] at hv
 obtain ⟨us,ws,hu,hus,hws⟩ := VR_fn hv
 have hus' : us = #[] := by
  have : us.toList = [] := hus
  cases us; simp_all
 subst hus'
 obtain ⟨hcl,h⟩ := h
 obtain ⟨fn',c1,c2,c3⟩ := callable_spec hcl
 refine wpIn_rangeFunc fun fn _ => ?_
 obtain ⟨v,H',r,ts',hD,hf,hbusy,hj⟩ := h fn w.heap.size
 -- the block for deferred calls; the record
 obtain ⟨hnew0,hold0⟩ := MapKept.heap_alloc w (.deferred (some []))
 have hR0 : Rel φ H (w.alloc (.deferred (some []))) := hR.grow (by simp) hold0
 have hS0 : Step φ H w φ H (w.alloc (.deferred (some []))) := grow_step rfl rfl rfl (by simp) hold0
 have hF0 := FR.step hS0 hF
 obtain ⟨w0,hw0⟩ : ∃ w0,w0 = w.alloc (.deferred (some [])) := ⟨_,rfl⟩
 rw [← hw0] at hR0 hS0 hF0 hnew0
 have hz0 : w0.heap.size = w.heap.size + 1 := by rw [hw0]; simp
 obtain ⟨hR1,hS1⟩ := hR0.allocO (lpB (recB fn w.heap.size ps asg body) ts) (.loop { state := .ready,pending := none,fn,tmps := a.tmps,params := ps,assign := asg,body,defers := w.heap.size }) fun hl =>
  .inr (.inr ⟨rfl,rfl,recB fn w.heap.size ps asg body,ts,a.tmps,rfl,(MapKept.heap_alloc w0 _).1,Rt_later hl _ _ (AV.idsL_true _) (FR_Rt hF0)⟩)
 obtain ⟨hnew1,hold1⟩ := MapKept.heap_alloc w0 (.loop { state := .ready,pending := none,fn,tmps := a.tmps,params := ps,assign := asg,body,defers := w.heap.size })
 obtain ⟨w1,hw1⟩ : ∃ w1,w1 = w0.alloc (.loop { state := .ready,pending := none,fn,tmps := a.tmps,params := ps,assign := asg,body,defers := w.heap.size }) := ⟨_,rfl⟩
 rw [← hw1] at hR1 hS1 hnew1 hold1
 obtain ⟨φ1,hφ1⟩ : ∃ φ1,φ1 = φ.add H.length w0.heap.size := ⟨_,rfl⟩
 rw [← hφ1] at hR1 hS1
 have hid : φ1 H.length = some (w.heap.size + 1) := by rw [hφ1,hz0]; simp [Phi.add]
 have hb1 : w1.heap[w.heap.size]? = some (.deferred (some [])) := by rw [hold1 _ (by omega)]; exact hnew0
 have hno : ¬ Own φ1 (some (lpB (recB fn w.heap.size ps asg body) ts) :: H) w.heap.size := by
  intro ho
  rw [hφ1] at ho
  rcases own_add (fun id b hm => (hR.dom id b hm).1) ho with h1 | h1
  ·obtain ⟨i,k,g1,g2⟩ := h1
   have := (hR.dom i _ g1).2
   omega
  ·omega
 refine ⟨w.heap.size + 1,[Mk w.heap.size],w1,{ target := .fn (.func f) ws,args := #[.func (.yield (w.heap.size + 1)) #[] #[]] },w1,f,#[.func (.yield (w.heap.size + 1)) #[] #[]] ++ ws,w1,?_,?_,fun f' _ => Fv_fn f',?_,Fv_depth,?_⟩
 ·rw [hw1,hw0]; exact run_enterLoop_outer _ _ _ _ _
 ·simp only [resolve,hu]
  simp [go_sem]
 ·simp only [invoke]
  exact callFunc_run c1 c2 c3 _ _
 ·refine callsV (ro := none) ((hD.2 φ1 w1 _ hR1 ?_).mono ?_)
  ·have hp := ptr_VR (O := Own φ1 (some (lpB (recB fn w.heap.size ps asg body) ts) :: H)) (w := w1) (k := 0) (j := 0) (f := 1) hid
   have hc := Rt_later (hS0.trans hS1).toLater _ _ (AV.idsL_true _) hws
   exact ⟨ptrV 0 0 1 (w.heap.size + 1),ws.toList,by simp [ptrV],hp.1,hp.2,hc⟩
  rintro en w3 ⟨φ3,he3,hR3,hS3⟩
  cases en with
  | panicked c => exact he3.elim
  | outgrown => exact he3.elim
  | returned u =>
   have hid3 : φ3 H.length = some (w.heap.size + 1) := hS3.map _ _ trivial hid
   obtain ⟨tm,hl3,ht3⟩ := own_rec hR3 hid3 hf
   obtain ⟨hR4,hS4⟩ := hR3.killL (r' := { r with tmps := tm,state := .exhausted }) hid3 hf hl3
   obtain ⟨w4,hw4⟩ : ∃ w4,w4 = w3.putObj (w.heap.size + 1) (.loop { r with tmps := tm,state := .exhausted }) := ⟨_,rfl⟩
   rw [← hw4] at hR4 hS4
   have hend : (Instr.endLoop (w.heap.size + 1)).run P w3 = .ok r.pending w4 := by rw [hw4]; exact run_endLoop hl3 hbusy
   have hS := ((hS0.trans hS1).trans hS3).trans hS4
   have hM3 : MD n0 φ3 H' w3 ([Mk w.heap.size] ++ a.defers) := by
    refine MD.step hS3 ?_
    obtain ⟨ms,e1,e2,e3⟩ := (hM.step (hS0.trans hS1))
    have hold : ∀ m ∈ ms,m < w.heap.size := by
     obtain ⟨ms',e1',e2',e3'⟩ := hM
     have : ms' = ms := by
      have h0 := e1'.symm.trans e1
      have inj : ∀ {l l' : List Nat},l.map Mk = l'.map Mk → l = l' := by
       intro l
       induction l with
       | nil => intro l' h; cases l' <;> first | rfl | simp at h
       | cons x r ih =>
        intro l' h
        cases l' with
        | nil => simp at h
        | cons y s =>
         simp only [List.map_cons,List.cons.injEq,Mk,Deferred.mk.injEq,Target.collected.injEq,and_true] at h
         rw [h.1,ih h.2]
      exact inj h0
     subst this
     exact fun m hm => heap_lt (e3' m hm).2.1
    refine ⟨w.heap.size :: ms,by rw [e1]; rfl,List.nodup_cons.2 ⟨fun hm => by have := hold _ hm; omega,e2⟩,fun m hm => ?_⟩
    rcases List.mem_cons.1 hm with rfl | hm
    ·exact ⟨hn,hb1,hno⟩
    ·exact e3 m hm
   have hM4 := hM3.step hS4
   have hF4 : FR φ3 (Own φ3 (AHeap.set H' H.length none)) w4 ts { a with defers := [Mk w.heap.size] ++ a.defers } := FR.step hS hF
   refine ⟨r.pending,_,hend,?_⟩
   unfold jmpK at hj
   split at hj
   ·rename_i hpe
    rw [hpe]
    exact ⟨.normal,ts,_,φ3,trivial,hj,hF4,hR4,hS,hM4⟩
   ·rename_i hpe
    rw [hpe]
    exact wpIn_ret ⟨.ret,ts,_,φ3,trivial,hj,hF4,hR4,hS,hM4⟩
   ·rename_i i hpe
    rw [hpe]
    exact wpIn_exit ⟨.exit i,ts,_,φ3,rfl,hj,hF4,hR4,hS,hM4⟩
   ·exact hj.elim
end
end Go.Proofs.YtigmpablpmanpaaDoor
/- Code that ranges over functions, or that calls its way into a round: sound; what such functions tell. Nothing of the program is named here. -/
namespace Go.Proofs.YtigmpablpmanpaaDoor
open Go.RowKit
set_option linter.unusedVariables false
set_option linter.unusedSimpArgs false
theorem E_soundY {P : Program} {ro : Option Nat} {top : Bool} {vecs ys : List Nat} (htop : top = true → ro = none) {n0 : Nat} : ∀ (c : Code) (ic : IC),compY top P vecs ys c = some ic → ∀ (K : Post) (φ : Phi) (H : AHeap) (w : World) (ts : List AV) (a : Act),Rel φ H w → FR φ (Own φ H) w ts a → MD n0 φ H w a.defers → n0 ≤ w.heap.size → E P ic K ts H → c.wpIn (Fv ro) 0 P (CKY n0 K φ H w) a w := by
 intro c
 induction c with
 | skip =>
  intro ic hc K φ H w ts a hR hF hM hn h
  cases hc
  exact wpIn_skip ⟨.normal,ts,H,φ,trivial,h,hF,hR,Step.refl _ _ _,hM⟩
 | label l =>
  intro ic hc K φ H w ts a hR hF hM hn h
  cases hc
  exact wpIn_label ⟨.normal,ts,H,φ,trivial,h,hF,hR,Step.refl _ _ _,hM⟩
 | region id ops draw =>
  intro ic hc K φ H w ts a hR hF hM hn h
  simp only [compY] at hc
  split at hc
  case isFalse => simp at hc
  rename_i hnd
  have hnd := opsOkY_spec hnd
  have hk : ContOk (CKY n0 K φ H w) (K .normal) φ H w a.defers := fun ts' a' φ' H' w' k1 k2 k3 k4 k5 => ⟨.normal,ts',H',φ',trivial,k1,k2,k3,k4,by rw [k5]; exact hM.step k4⟩
  have hp : PanOk (CKY n0 K φ H w) (fun v ts' H' => K (.pan v) ts' H') φ H w a.defers := fun v u ts' a' φ' H' w' k1 k2 k3 k4 k5 k6 => ⟨.pan v,ts',H',φ',k2,k1,k3,k4,k5,by rw [k6]; exact hM.step k5⟩
  split at hc
  ·cases draw with
   | true => simp at hc
   | false =>
    simp only [Bool.false_eq_true,if_false] at hc
    exact region_yld hnd hc hR hF h hk hp
  ·exact region_Y hnd hc CKY.stays hR hF h hk hp
 | seq x y ihx ihy =>
  intro ic hc K φ H w ts a hR hF hM hn h
  simp only [compY] at hc
  split at hc
  case h_2 => simp at hc
  rename_i ix iy h1 h2
  cases hc
  refine wpIn_seq (wpIn_mono (ihx ix h1 _ φ H w ts a hR hF hM hn h) ?_)
  rintro e a' w' ⟨x',ts',H',φ',k1,k2,k3,k4,k5,k6⟩
  cases x' with
  | normal =>
   cases e <;> try exact k1.elim
   show y.wpIn (Fv ro) 0 P _ a' w'
   exact wpIn_mono (ihy iy h2 K φ' H' w' ts' a' k4 k3 k6 (Nat.le_trans hn k5.size) k2) fun e a2 w2 hc => hc.step k5
  | exit i =>
   cases e <;> try exact k1.elim
   exact ⟨_,ts',H',φ',k1,k2,k3,k4,k5,k6⟩
  | ret =>
   cases e <;> try exact k1.elim
   exact ⟨.ret,ts',H',φ',k1,k2,k3,k4,k5,k6⟩
  | pan v =>
   cases e <;> try exact k1.elim
   exact ⟨_,ts',H',φ',k1,k2,k3,k4,k5,k6⟩
 | cond c x y ihx ihy =>
  intro ic hc K φ H w ts a hR hF hM hn h
  simp only [compY] at hc
  split at hc
  case h_2 => simp at hc
  rename_i c' ix iy h0 h1 h2
  cases hc
  have hv := ofX_spec hF h0
  simp only [E] at h
  split at h
  ·rename_i t he
   rw [he] at hv
   have hu := VR_sc hv
   refine wpIn_cond hu ?_
   cases t with
   | true => exact ihx ix h1 K φ H w ts a hR hF hM hn (h.1 rfl)
   | false => exact ihy iy h2 K φ H w ts a hR hF hM hn (h.2 rfl)
  ·rename_i he
   rw [he] at hv
   obtain ⟨t,ht⟩ := hv.2
   have hu : a.eval c = .bool t := by
    have h1 := hv.1
    revert ht h1
    cases a.eval c <;> intro ht h1 <;> first | (simp [cget,Value.cells] at ht; first | exact congrArg Value.bool ht | done) | (exact absurd h1 (by simp [okA,Value.oneCell']))
   refine wpIn_cond hu ?_
   cases t with
   | true => exact ihx ix h1 K φ H w ts a hR hF hM hn h.1
   | false => exact ihy iy h2 K φ H w ts a hR hF hM hn h.2
  ·exact h.elim
 | block id c ih =>
  intro ic hc K φ H w ts a hR hF hM hn h
  simp only [compY,Option.map_eq_some_iff] at hc
  obtain ⟨ix,h1,rfl⟩ := hc
  refine wpIn_block (wpIn_mono (ih ix h1 _ φ H w ts a hR hF hM hn h) ?_)
  rintro e a' w' ⟨x',ts',H',φ',k1,k2,k3,k4,k5,k6⟩
  cases x' with
  | normal =>
   cases e <;> try exact k1.elim
   exact ⟨.normal,ts',H',φ',k1,k2,k3,k4,k5,k6⟩
  | exit i =>
   cases e <;> try exact k1.elim
   rename_i j
   have : i = j := k1
   subst this
   simp only [blockK] at k2
   simp only [Exit.inBlock]
   split
   ·rename_i e2
    rw [if_pos e2] at k2
    exact ⟨.normal,ts',H',φ',trivial,k2,k3,k4,k5,k6⟩
   ·rename_i e2
    rw [if_neg e2] at k2
    exact ⟨.exit i,ts',H',φ',rfl,k2,k3,k4,k5,k6⟩
  | ret =>
   cases e <;> try exact k1.elim
   exact ⟨.ret,ts',H',φ',k1,k2,k3,k4,k5,k6⟩
  | pan v =>
   cases e <;> try exact k1.elim
   exact ⟨.pan v,ts',H',φ',k1,k2,k3,k4,k5,k6⟩
 | loop c ih =>
  intro ic hc K φ H w ts a hR hF hM hn h
  simp only [compY,Option.map_eq_some_iff] at hc
  obtain ⟨ix,h1,rfl⟩ := hc
  obtain ⟨I,μ,h2,h3⟩ := h
  intro b k cs hro hb hr
  have key : ∀ n ts1 H1 φ1 w1 a1,μ ts1 H1 = n → I ts1 H1 → FR φ1 (Own φ1 H1) w1 ts1 a1 → Rel φ1 H1 w1 → Step φ H w φ1 H1 w1 → MD n0 φ1 H1 w1 a1.defers →
    ∃ e a' w',CKY n0 K φ H w e a' w' ∧ ArrivesIn (Machine.fenced P (Fv ro)) P (lone (b.atR a1 (.code c :: .inLoop c :: k)) cs w1) b k cs e a' w' := by
   intro n
   induction n using Nat.strongRecOn with
   | _ n ihn =>
    intro ts1 H1 φ1 w1 a1 hn1 hI hF1 hR1 hS1 hM1
    obtain ⟨e,a2,w2,⟨x',ts',H',φ',k1,k2,k3,k4,k5,k6⟩,harr⟩ := ih ix h1 _ φ1 H1 w1 ts1 a1 hR1 hF1 hM1 (Nat.le_trans hn hS1.size) (h3 ts1 H1 hI) b (.inLoop c :: k) cs hro hb hr
    cases x' with
    | normal =>
     cases e <;> try exact k1.elim
     obtain ⟨g1,g2⟩ := k2
     obtain ⟨e3,a3,w3,hq3,harr3⟩ := ihn (μ ts' H') (hn1 ▸ g2) ts' H' φ' w2 a2 rfl g1 k3 k4 (hS1.trans k5) k6
     exact ⟨e3,a3,w3,hq3,.of_steps (StepsIn.trans harr (.one (fenced_calm hb hr rfl) stepR_inLoop)) harr3⟩
    | exit i =>
     cases e <;> try exact k1.elim
     exact ⟨_,a2,w2,⟨.exit i,ts',H',φ',k1,k2,k3,k4,hS1.trans k5,k6⟩,.pass (x := .inLoop c) rfl (fun _ _ => .inl (by simp)) harr⟩
    | ret =>
     cases e <;> try exact k1.elim
     exact ⟨_,a2,w2,⟨.ret,ts',H',φ',k1,k2,k3,k4,hS1.trans k5,k6⟩,.pass (x := .inLoop c) rfl (fun _ _ => .inl (by simp)) harr⟩
    | pan v =>
     cases e <;> try exact k1.elim
     exact ⟨_,a2,w2,⟨.pan v,ts',H',φ',k1,k2,k3,k4,hS1.trans k5,k6⟩,.pass (x := .inLoop c) rfl (fun _ _ => .inl (by simp)) harr⟩
  obtain ⟨e,a',w',hq,harr⟩ := key _ ts H φ w a rfl h2 hF hR (Step.refl _ _ _) hM
  exact ⟨e,a',w',hq,.of_steps (.one (fenced_calm hb hr rfl) stepR_loop) harr⟩
 | exit id =>
  intro ic hc K φ H w ts a hR hF hM hn h
  cases hc
  exact wpIn_exit ⟨.exit id,ts,H,φ,rfl,h,hF,hR,Step.refl _ _ _,hM⟩
 | ret =>
  intro ic hc K φ H w ts a hR hF hM hn h
  cases hc
  exact wpIn_ret ⟨.ret,ts,H,φ,trivial,h,hF,hR,Step.refl _ _ _,hM⟩
 | refuse s =>
  intro ic hc K φ H w ts a hR hF hM hn h
  cases hc
  exact False.elim h
 | rangeFunc g ps asg body _ _ =>
  intro ic hc K φ H w ts a hR hF hM hn h
  simp only [compY] at hc
  split at hc
  case isFalse => simp at hc
  rename_i ht
  rw [htop ht]
  rw [Option.map_eq_some_iff] at hc
  obtain ⟨x,hx,rfl⟩ := hc
  exact rng_in hx hR hF hM hn h
 | _ => intro ic hc; simp [compY] at hc
/-! ### A round -/
/-- The parameters' slots. -/
def putPs : List Tmp → List AV → List AV → List AV
 | t :: r,x :: s,ts => putPs r s (ts.set t x)
 | _,_,ts => ts
theorem zip_FR {φ : Phi} {O : Nat → Prop} {w : World} {ds : List Deferred} : ∀ {ps : List Tmp} {args : List AV} {vs : List Value} {ts : List AV} {tm : Array Value},Rt φ O w args vs → FR φ O w ts { tmps := tm,defers := ds } → FR φ O w (putPs ps args ts) { tmps := (ps.zip vs).foldl (fun t x => t.setIfInBounds x.1 x.2) tm,defers := ds }
 | [],args,vs,ts,tm,ha,hF => by cases args <;> simpa [putPs] using hF
 | p :: ps,[],vs,ts,tm,ha,hF => by have : vs = [] := ha; subst this; simpa [putPs] using hF
 | p :: ps,x :: args,vs,ts,tm,ha,hF => by
  obtain ⟨v,s,rfl,h1,h2,h3⟩ := ha
  simp only [putPs,List.zip_cons_cons,List.foldl_cons]
  exact zip_FR h3 (FR.put hF (some p) ⟨h1,h2⟩)
/-- How a round ends: the record, and what its call hands back. -/
def rndK (id : Nat) (Kr : AEnd → AHeap → Prop) : Post
 | .normal,_,H => ∃ r ts,AHeap.find H id = some (lpB r ts) ∧ Kr (.ret (.sc (.bool true))) (AHeap.set H id (some (lpB { r with state := .ready,pending := none } ts)))
 | .ret,_,H => ∃ r ts,AHeap.find H id = some (lpB r ts) ∧ Kr (.ret (.sc (.bool false))) (AHeap.set H id (some (lpB { r with state := .done,pending := some .ret } ts)))
 | .exit i,_,H => ∃ r ts,AHeap.find H id = some (lpB r ts) ∧ Kr (.ret (.sc (.bool false))) (AHeap.set H id (some (lpB { r with state := .done,pending := some (.exit i) } ts)))
 | .pan _,_,_ => False
/-- A round, told before anything is dropped. -/
def DKY (P : Program) (id : Nat) (args : List AV) (H : AHeap) (Kr : AEnd → AHeap → Prop) : Prop :=
 ∀ (φ : Phi) (w : World) (b : Nat) (vs : Array Value),Rel φ H w → φ id = some b → Rt φ (Own φ H) w args vs.toList →
  ∃ f tmps asg body,(Instr.yield b vs).run P w = .ok (.round b f tmps asg body) w ∧
   RoundIn Fence.wide 0 P b f tmps asg body w fun en w' => ∃ e H' φ',EndR φ' (Own φ' H') w' e en ∧ Kr e H' ∧ Rel φ' H' w' ∧ Step φ H w φ' H' w'
theorem DY_of_DKY {P : Program} {id : Nat} {args : List AV} {H : AHeap} {e : AEnd} {H' : AHeap} (hl : H.length ≤ H'.length) (h : DKY P id args H fun e1 H1 => Weak H e1 H1 e H') : DY P id args H e H' := by
 refine ⟨hl,fun φ w b vs hR hb ha => ?_⟩
 obtain ⟨f,tmps,asg,body,h1,h2⟩ := h φ w b vs hR hb ha
 exact ⟨f,tmps,asg,body,h1,h2.mono fun en w' ⟨e1,H1,φ1,g1,g2,g3,g4⟩ => g2 φ w φ1 w' en hR g1 g3 g4⟩
/-- What stands between the parameters' assignment and the body. -/
def asgK (P : Program) (id : Nat) (r : Loop) (ts0 : List AV) (ib : IC) (Kr : AEnd → AHeap → Prop) : Post
 | .normal,ts,H => AHeap.find H id = some (lpB r ts0) ∧ E P ib (rndK id Kr) ts (AHeap.set H id (some (lpB { r with state := .busy } ts0)))
 | _,_,_ => False
theorem DKY_of_body {P : Program} {id : Nat} {r : Loop} {ts0 args : List AV} {H : AHeap} {vecs : List Nat} {ia ib : IC} {Kr : AEnd → AHeap → Prop} (hf : AHeap.find H id = some (lpB r ts0)) (hs : r.state = .ready) (hn : args.length = r.params.size)
  (ha : compY false P vecs [] r.assign = some ia) (hb : compY false P vecs [] r.body = some ib) (h : E P ia (asgK P id r ts0 ib Kr) (putPs r.params.toList args ts0) H) : DKY P id args H Kr := by
 intro φ w b vs hR hb0 hvs
 obtain ⟨tm,hl,ht⟩ := own_rec hR hb0 hf
 have hlt := heap_lt hl
 have hsz : vs.size = args.length := by have := Rt_len hvs; simpa using this
 refine ⟨_,_,_,_,run_yield hl (by show vs.size = r.params.size; rw [hsz,hn]),?_⟩
 refine roundIn_of_wpIn (F := Fence.wide) trivial ?_
 have hF0 : FR φ (Own φ H) w (putPs r.params.toList args ts0) { tmps := (r.params.zip vs).foldl (fun t x => t.setIfInBounds x.1 x.2) tm,defers := [] } := by
  have := zip_FR (ps := r.params.toList) hvs (Rt_FR ht [])
  rwa [show (r.params.zip vs).foldl (fun t x => t.setIfInBounds x.1 x.2) tm = (r.params.toList.zip vs.toList).foldl (fun t x => t.setIfInBounds x.1 x.2) tm from by rw [← Array.foldl_toList,Array.toList_zip]]
 have h1 := E_soundY (ro := some b) (top := false) (vecs := vecs) (ys := []) (by simp) (n0 := 0) r.assign ia ha _ φ H w _ _ hR hF0 (MD.nil _ _ _ _) (Nat.zero_le _) h
 refine wpIn_mono h1 ?_
 rintro e a1 w1 ⟨x1,ts1,H1,φ1,k1,k2,k3,k4,k5,k6⟩
 cases x1 with
 | exit i => exact k2.elim
 | ret => exact k2.elim
 | pan v => exact k2.elim
 | normal =>
  cases e <;> try exact k1.elim
  obtain ⟨m1,m2⟩ := k2
  have hb1 : φ1 id = some b := k5.map _ _ trivial hb0
  obtain ⟨tm1,hl1,ht1⟩ := own_rec k4 hb1 m1
  obtain ⟨hR2,hS2⟩ := k4.writeL hb1 m1 hl1 ht1 { r with state := .busy }
  refine ⟨_,run_beginRound hl1 hs,?_⟩
  have h2 := E_soundY (ro := some b) (top := false) (vecs := vecs) (ys := []) (by simp) (n0 := 0) r.body ib hb _ φ1 _ _ ts1 a1 hR2 (FR.step hS2 k3) (k6.step hS2) (Nat.zero_le _) m2
  refine wpIn_mono h2 ?_
  rintro e a3 w3 ⟨x3,ts3,H3,φ3,g1,g2,g3,g4,g5,g6⟩
  have hb3 : φ3 id = some b := g5.map _ _ trivial hb1
  have hS := (k5.trans hS2).trans g5
  cases x3 with
  | normal =>
   cases e <;> try exact g1.elim
   obtain ⟨r3,t3,q1,q2⟩ := g2
   obtain ⟨tm3,hl3,ht3⟩ := own_rec g4 hb3 q1
   obtain ⟨hR4,hS4⟩ := g4.writeL hb3 q1 hl3 ht3 { r3 with state := .ready,pending := none }
   exact ⟨_,_,run_endRound none hl3,.ret (.sc (.bool true)),_,φ3,sc_VR rfl,q2,hR4,hS.trans hS4⟩
  | ret =>
   cases e <;> try exact g1.elim
   obtain ⟨r3,t3,q1,q2⟩ := g2
   obtain ⟨tm3,hl3,ht3⟩ := own_rec g4 hb3 q1
   obtain ⟨hR4,hS4⟩ := g4.writeL hb3 q1 hl3 ht3 { r3 with state := .done,pending := some .ret }
   exact ⟨_,_,run_endRound (some .ret) hl3,.ret (.sc (.bool false)),_,φ3,sc_VR rfl,q2,hR4,hS.trans hS4⟩
  | exit i =>
   cases e <;> try exact g1.elim
   rename_i j
   have : i = j := g1
   subst this
   obtain ⟨r3,t3,q1,q2⟩ := g2
   obtain ⟨tm3,hl3,ht3⟩ := own_rec g4 hb3 q1
   obtain ⟨hR4,hS4⟩ := g4.writeL hb3 q1 hl3 ht3 { r3 with state := .done,pending := some (.exit i) }
   exact ⟨_,_,run_endRound (some (.exit i)) hl3,.ret (.sc (.bool false)),_,φ3,sc_VR rfl,q2,hR4,hS.trans hS4⟩
  | pan v => exact g2.elim
/-! ### A block that is no cells is turned: what is known of values stays -/
def SameC (w w' : World) : Prop := ∀ (b : Nat) (cur : Array Value) (e : TypeId) (fr : Nat × Nat),w.heap[b]? = some (.cells cur e fr) → w'.heap[b]? = some (.cells cur e fr)
section
variable {φ : Phi} {O : Nat → Prop} {w w' : World}
mutual
theorem R_shut (hz : w'.heap.size = w.heap.size) (hc : SameC w w') : ∀ (x : AV) (g g' : Nat → Option Value),(∀ i v,g i = some v → g' i = some v) → R φ O w x g → R φ O w' x g'
 | .sc v,g,g',hg,hr => hg _ _ hr
 | .lst k xs room,g,g',hg,hr => by
  obtain ⟨a,c,h1,h2,h3,h4,h5,h6⟩ := hr
  refine ⟨a,c,hg _ _ h1,h2,h3,h4,fun hn => ?_,?_⟩
  ·obtain ⟨b,off,ha,ho,hb,hl⟩ := h5 hn
   exact ⟨b,off,ha,ho,by omega,Rl_shut hz hc b k xs off hl⟩
  ·cases room with
   | none => trivial
   | some ys =>
    refine ⟨h6.1,fun hn => ?_⟩
    obtain ⟨b,off,ha,ho,hb,hl⟩ := h6.2 hn
    exact ⟨b,off,ha,ho,by omega,Rl_shut hz hc b k ys _ hl⟩
 | .vec k id off n c,g,g',hg,hr => by
  obtain ⟨b,c',cur,e,fr,h1,h2,h3,h4,h5,h6,h7⟩ := hr
  exact ⟨b,c',cur,e,fr,h1,hg _ _ h2,h3,h4,h5,hc _ _ _ _ h6,h7⟩
 | .ptr k id j f,g,g',hg,hr => by
  obtain ⟨b,h1,h2⟩ := hr
  exact ⟨b,h1,hg _ _ h2⟩
 | .lp x f,g,g',hg,hr => by
  obtain ⟨b,off,h1,ho,hb,h3,h2⟩ := hr
  have hm := memAt_shut hc b off
  refine ⟨b,off,hg _ _ h1,ho,by omega,fun hx => ?_,R_shut hz hc x _ _ hm h2⟩
  obtain ⟨u,h4,h5⟩ := h3 hx
  exact ⟨u,hm _ _ h4,h5⟩
 | .agg cs,g,g',hg,hr => Rs_shut hz hc cs g g' hg hr
 | .tup vs,g,g',hg,hr => by
  obtain ⟨us,h1,h2⟩ := hr
  exact ⟨us,hg _ _ h1,Rt_shut hz hc vs _ h2⟩
 | .fn f a b,g,g',hg,hr => by
  obtain ⟨us,ws,h1,h2,h3⟩ := hr
  exact ⟨us,ws,hg _ _ h1,Rt_shut hz hc a _ h2,Rt_shut hz hc b _ h3⟩
 | .ifc t x,g,g',hg,hr => by
  obtain ⟨u,h1,h2,h3⟩ := hr
  exact ⟨u,hg _ _ h1,h2,R_shut hz hc x _ _ (fun _ _ h => h) h3⟩
 | .ub,g,g',hg,hr => by
  obtain ⟨b,h1⟩ := hr
  exact ⟨b,hg _ _ h1⟩
 | .top,_,_,_,_ => trivial
 | .rcd _,_,_,_,hr => hr.elim
theorem memAt_shut (hc : SameC w w') (b off : Nat) : ∀ i v,memAt w b off i = some v → memAt w' b off i = some v := fun i v hv => by
 unfold memAt at hv ⊢
 cases ho : w.heap[b]? with
 | none => unfold World.cell? at hv; rw [ho] at hv; simp at hv
 | some o =>
  cases o with
  | cells cur e fr => rw [World.cell?_of_block ((hc _ _ _ _ ho).trans ho.symm)]; exact hv
  | _ => unfold World.cell? at hv; rw [ho] at hv; simp at hv
theorem Rl_shut (hz : w'.heap.size = w.heap.size) (hc : SameC w w') (b k : Nat) : ∀ (l : List AV) (off : Nat),Rl φ O w b k l off → Rl φ O w' b k l off
 | [],_,_ => trivial
 | x :: r,off,hr => by
  have hm := memAt_shut hc b off
  refine ⟨hr.1,fun hx => ?_,R_shut hz hc x _ _ hm hr.2.2.1,Rl_shut hz hc b k r _ hr.2.2.2⟩
  obtain ⟨u,h1,h2⟩ := hr.2.1 hx
  exact ⟨u,hm _ _ h1,h2⟩
theorem Rs_shut (hz : w'.heap.size = w.heap.size) (hc : SameC w w') : ∀ (l : List AV) (g g' : Nat → Option Value),(∀ i v,g i = some v → g' i = some v) → Rs φ O w l g → Rs φ O w' l g'
 | [],_,_,_,_ => trivial
 | x :: r,g,g',hg,hr => ⟨hr.1,R_shut hz hc x _ _ hg hr.2.1,by
   obtain ⟨u,h1,h2⟩ := hr.2.2.1
   exact ⟨u,hg _ _ h1,h2⟩,Rs_shut hz hc r _ _ (fun i v => hg (i + 1) v) hr.2.2.2⟩
theorem Rt_shut (hz : w'.heap.size = w.heap.size) (hc : SameC w w') : ∀ (l : List AV) (us : List Value),Rt φ O w l us → Rt φ O w' l us
 | [],_,hr => hr
 | x :: r,us,hr => by
  obtain ⟨v,s,h1,h2,h3,h4⟩ := hr
  exact ⟨v,s,h1,h2,R_shut hz hc x _ _ (fun _ _ h => h) h3,Rt_shut hz hc r _ h4⟩
end
theorem VR_shut (hz : w'.heap.size = w.heap.size) (hc : SameC w w') {x : AV} {v : Value} (h : VR φ O w x v) : VR φ O w' x v := ⟨h.1,R_shut hz hc x _ _ (fun _ _ h => h) h.2⟩
theorem RE_shut (hz : w'.heap.size = w.heap.size) (hc : SameC w w') : ∀ {l : List AV} {es : List MapEntry},RE φ O w l es → RE φ O w' l es
 | [],_,hr => hr
 | _ :: _,_,hr => by
  obtain ⟨e,s,h1,h2,h3⟩ := hr
  exact ⟨e,s,h1,VR_shut hz hc h2,RE_shut hz hc h3⟩
end
/-- A block for deferred calls is shut. -/
theorem shut_one {φ : Phi} {H : AHeap} {w : World} {m : Nat} {d : Option (List Deferred)} (hR : Rel φ H w) (hm : w.heap[m]? = some (.deferred d)) (ho : ¬ Own φ H m) (d' : Option (List Deferred)) :
  Rel φ H (w.putObj m (.deferred d')) ∧ (∀ x v,VR φ (Own φ H) w x v → VR φ (Own φ H) (w.putObj m (.deferred d')) x v) ∧ ∀ {φ0 : Phi} {H0 : AHeap} {w0 : World},Step φ0 H0 w0 φ H w → w0.heap.size ≤ m → Step φ0 H0 w0 φ H (w.putObj m (.deferred d')) := by
 have hz : (w.putObj m (.deferred d')).heap.size = w.heap.size := World.putObj_size
 have hoth : ∀ b,b ≠ m → (w.putObj m (.deferred d')).heap[b]? = w.heap[b]? := fun b hb => World.putObj_heap_other hb
 have hc : SameC w (w.putObj m (.deferred d')) := fun b cur e fr hb => by
  rw [hoth b (fun e => by rw [e,hm] at hb; cases hb)]; exact hb
 refine ⟨⟨fun id b h => by rw [hz]; exact hR.dom id b h,hR.inj,fun id b k h1 h2 => ?_⟩,fun x v h => VR_shut hz hc h,fun hS hle => ⟨⟨hS.map,by rw [hz]; exact hS.size,hS.own,fun b hb hn => ?_,fun b hb => ?_⟩,hS.os,hS.tape,hS.output,hS.len,hS.old⟩⟩
 ·have hb : b ≠ m := fun e => ho (e ▸ ⟨id,k,h1,h2⟩)
  rcases hR.blk id b k h1 h2 with ⟨h0,c1,c2,a1,a2,a3,a4,a5,a6⟩ | ⟨h0,ht,ents,clock,a1,a2,a3,a4⟩ | ⟨h0,ht,r,ts,tm,e,a1,a2⟩
  ·exact .inl ⟨h0,c1,c2,by rw [hoth b hb]; exact a1,a2,a3,a4,a5,Rl_shut hz hc _ _ _ _ a6⟩
  ·exact .inr (.inl ⟨h0,ht,ents,clock,by rw [hoth b hb]; exact a1,a2,a3,RE_shut hz hc a4⟩)
  ·exact .inr (.inr ⟨h0,ht,r,ts,tm,e,by rw [hoth b hb]; exact a1,Rt_shut hz hc _ _ a2⟩)
 ·rw [hoth b (by omega)]; exact hS.same b hb hn
 ·unfold World.shape?
  rw [hoth b (by omega)]
  exact hS.shape b hb
theorem leavesY {P : Program} {fn : Func} {tmps : Array Value} {Rr : Ending → World → Prop} {u : FrameMode} (hu : u ≠ .run) {φ0 φ : Phi} {H0 H : AHeap} {w0 : World} : ∀ (ms : List Nat) (w : World),Rel φ H w → Step φ0 H0 w0 φ H w → ms.Nodup → (∀ m ∈ ms,w0.heap.size ≤ m ∧ w.heap[m]? = some (.deferred (some [])) ∧ ¬ Own φ H m) →
  (∀ w2,Rel φ H w2 → Step φ0 H0 w0 φ H w2 → (∀ x v,VR φ (Own φ H) w x v → VR φ (Own φ H) w2 x v) → LeavesIn Fence.wide 0 P fn tmps Rr [] u w2) → LeavesInM Fence.wide 0 P fn tmps Rr (ms.map Mk) u w
 | [],w,hR,hS,_,_,h => h w hR hS fun _ _ h => h
 | m :: ms,w,hR,hS,hn,hm,h => by
  obtain ⟨g1,g2,g3⟩ := hm m (by simp)
  obtain ⟨s1,s2,s3⟩ := shut_one hR g2 g3 none
  refine ⟨hu,.inl ⟨m,_,rfl,run_takeDeferred g2,?_⟩⟩
  have hnd := List.nodup_cons.1 hn
  refine leavesY hu ms _ s1 (s3 hS g1) hnd.2 (fun m' hm' => ?_) fun w2 k1 k2 k3 => h w2 k1 k2 fun x v hv => k3 x v (s2 x v hv)
  obtain ⟨e1,e2,e3⟩ := hm m' (by simp [hm'])
  exact ⟨e1,by rw [World.putObj_heap_other (fun e => hnd.1 (by rw [← e]; exact hm'))]; exact e2,e3⟩
/-- From the body to the call. -/
theorem DK_of_bodyY {P : Program} {f : FuncId} {fn : Func} {c : Code} {ic : IC} {rs : List RV} {vecs ys : List Nat} (hf : P.funcs[f]? = some fn) (hb : fn.body = some c) (hc : compY true P vecs ys c = some ic) (hr : compR P fn.results.toList = some rs) {args : List AV} {H : AHeap} {Kr : AEnd → AHeap → Prop}
  (h : E P ic (bodyK rs Kr) (args ++ List.replicate (fn.ntmps - args.length) (.tup [])) H) : DK P f args H Kr := by
 intro φ w vs hR ha
 refine (callsIn_wide (n := 0)).1 (callsIn_of_wp_marks (F := Fence.wide) hf hb trivial ?_)
 refine wpIn_mono (E_soundY (ro := none) (fun _ => rfl) (n0 := w.heap.size) c ic hc _ φ H w _ _ hR (FR_enter ha) (MD.nil _ _ _ _) (Nat.le_refl _) h) ?_
 rintro e a' w' ⟨x,ts',H',φ',k1,k2,k3,k4,k5,ms,k6,k7,k8⟩
 have hret : (resL rs ts' H' fun l => Kr (.ret (oneOf l)) H') → LeavesInM Fence.wide 0 P fn a'.tmps (fun en w' => ∃ e H' φ',EndR φ' (Own φ' H') w' e en ∧ Kr e H' ∧ Rel φ' H' w' ∧ Step φ H w φ' H' w') a'.defers .returning w' := by
  intro hl
  rw [k6]
  refine leavesY (by simp) ms w' k4 k5 k7 k8 fun w2 m1 m2 m3 => ?_
  obtain ⟨y,v,g1,g2,g3⟩ := results_run m1 (show FR φ' (Own φ' H') w2 ts' a' from ⟨k3.1,fun i => m3 _ _ (k3.2 i)⟩) hr (K := fun x => Kr (.ret x) H') hl
  exact ⟨v,g3,.ret y,H',φ',g2,g1,m1,m2⟩
 cases x with
 | normal =>
  cases e <;> try exact k1.elim
  exact hret k2
 | ret =>
  cases e <;> try exact k1.elim
  exact hret k2
 | exit i => exact k2.elim
 | pan v =>
  cases e <;> try exact k1.elim
  show LeavesInM Fence.wide 0 P fn a'.tmps _ a'.defers (.panicking _) w'
  rw [k6]
  refine leavesY (by simp) ms w' k4 k5 k7 k8 fun w2 m1 m2 m3 => ?_
  obtain ⟨v',older,e1,e2,e3⟩ := k1
  exact ⟨.pan v,H',φ',⟨v',older,e1,e2,m3 _ _ e3⟩,k2,m1,m2⟩
/-- The form that is printed. -/
theorem dk_ofY {P : Program} {f : FuncId} {fn : Func} {ic : IC} {rs : List RV} (ys : List Nat) (hf : P.funcs[f]? = some fn) (hb : fn.body = some (fn.body.getD .skip)) (hc : compY true P [] ys (fn.body.getD .skip) = some ic) (hr : compR P fn.results.toList = some rs) : Dk P f ic rs fn.ntmps :=
 fun h => DK_of_bodyY hf hb hc hr h
/-- The ranges over functions in a text, in order. -/
def rngs : Code → List (Array Tmp × Code × Code)
 | .seq a b => rngs a ++ rngs b
 | .cond _ a b => rngs a ++ rngs b
 | .block _ c => rngs c
 | .loop c => rngs c
 | .rangeFunc _ ps asg body => [(ps,asg,body)]
 | _ => []
def rcA (fn : Func) (i : Nat) : Code := ((rngs (fn.body.getD .skip))[i]?.map fun x => x.2.1).getD .skip
def rcB (fn : Func) (i : Nat) : Code := ((rngs (fn.body.getD .skip))[i]?.map fun x => x.2.2).getD .skip
section
variable {P : Program} {K : Post} {ts : List AV} {H : AHeap}
theorem ES_yld {l1 : List IO'} {g : Option (Nat × Bool)} {y : X} {args : List X} {d : Option Nat} {l2 : List IO'} : ES P (.yld l1 g y args d l2) K ts H = runS P (fun ts1 H1 => guardK ts1 (yldK P (fun v H2 => runS P (K .normal) (fun v ts' H' => K (.pan v) ts' H') l2 (putT ts1 d v) H2) (fun v H2 => K (.pan v) ts1 H2) (args.map (X.ev ts1)) H1 (y.ev ts1)) (runS P (K .normal) (fun v ts' H' => K (.pan v) ts' H') l2 (putT ts1 d (.tup [])) H1) g) (fun v ts' H' => K (.pan v) ts' H') l1 ts H := rfl
theorem ES_rng {g : X} {ps : Array Tmp} {asg body : Code} : ES P (.rng g ps asg body) K ts H = rngK P ps asg body K ts H (g.ev ts) := rfl
theorem guardK_n {yes no : Prop} : guardK ts yes no none = yes := rfl
theorem yldK_ret {K Kp : AV → AHeap → Prop} {args : List AV} {H H' : AHeap} {id j : Nat} {v : AV} (h : DY P id args H (.ret v) H') (hk : K v H') : yldK P K Kp args H (.ptr 0 id j 1) := ⟨⟨rfl,rfl⟩,_,_,h,hk⟩
theorem rngK_of {ps : Array Tmp} {asg body : Code} {f : FuncId} {caps : List AV} (hc : callable P f = true) (h : ∀ fn db,∃ v H' r ts',D P f (.ptr 0 H.length 0 1 :: caps) (some (lpB (recB fn db ps asg body) ts) :: H) (.ret v) H' ∧ AHeap.find H' H.length = some (lpB r ts') ∧ r.state ≠ .busy ∧ jmpK K ts (AHeap.set H' H.length none) r.pending) : rngK P ps asg body K ts H (.fn (.func f) [] caps) := ⟨hc,h⟩
end
/-- A round, as it is evaluated. -/
def asgS (P : Program) (id : Nat) (r : Loop) (ts0 : List AV) (ib : IC) (Kr : AEnd → AHeap → Prop) : Post
 | .normal,ts,H => AHeap.find H id = some (lpB r ts0) ∧ ES P ib (rndK id Kr) ts (AHeap.set H id (some (lpB { r with state := .busy } ts0)))
 | _,_,_ => False
theorem DKY_of_ES {P : Program} {id : Nat} {r : Loop} {ts0 args : List AV} {H : AHeap} {ia ib : IC} {Kr : AEnd → AHeap → Prop} (ha : compY false P [] [] r.assign = some ia) (hb : compY false P [] [] r.body = some ib) (hf : AHeap.find H id = some (lpB r ts0)) (hs : r.state = .ready) (hn : args.length = r.params.size)
  (h : ES P ia (asgS P id r ts0 ib Kr) (putPs r.params.toList args ts0) H) : DKY P id args H Kr :=
 DKY_of_body hf hs hn ha hb (ES_E (ES_mono (fun x ts H h => by
  cases x <;> first | exact ⟨h.1,ES_E h.2⟩ | exact h.elim) h))
end Go.Proofs.YtigmpablpmanpaaDoor
