/- Evaluation: what the walk of abstract code comes to, as equations for simp. -/
import Derived.Test.YtddhdlfafaobhaaV21
namespace Go.Proofs.Ytddhdlfafaobhaa
open Go.RowKit
set_option linter.unusedVariables false
set_option linter.unusedSimpArgs false

def bndV (ev : X → AV) (d : Nat) : Option X → Nat
  | none => d
  | some x => match ev x with
    | .sc (.int _ n) => n.toNat
    | _ => 0
def bndOk (ev : X → AV) : Option X → Prop
  | none => True
  | some x => match ev x with
    | .sc (.int _ n) => 0 ≤ n
    | _ => False

def fillV (ev : X → AV) : List AV → List (Nat × Nat × X) → List AV
  | zs, [] => zs
  | zs, (off, n, x) :: r => fillV ev (zs.take off ++ (ev x).cells ++ zs.drop (off + n)) r
def fillOk (ev : X → AV) : List AV → List (Nat × Nat × X) → Prop
  | _, [] => True
  | zs, (off, n, x) :: r => ((ev x).isTop = false ∧ (ev x).ncells = n ∧ off + n ≤ zs.length) ∧ fillOk ev (zs.take off ++ (ev x).cells ++ zs.drop (off + n)) r

theorem fillA_iff {ev : X → AV} {K : List AV → Prop} : ∀ {ps : List (Nat × Nat × X)} {zs : List AV}, fillA ev zs ps K ↔ fillOk ev zs ps ∧ K (fillV ev zs ps)
  | [], zs => by simp [fillA, fillOk, fillV]
  | (o, n, x) :: r, zs => by simp only [fillA, fillOk, fillV, fillA_iff (ps := r), and_assoc]

theorem bnd_iff {ev : X → AV} {d : Nat} {K : Nat → Prop} {o : Option X} : bnd ev d o K ↔ bndOk ev o ∧ K (bndV ev d o) := by
  cases o with
  | none => simp [bnd, bndOk, bndV]
  | some x =>
    simp only [bnd, bndOk, bndV]
    cases ev x with
    | sc v => cases v <;> simp
    | _ => simp

/-- The value that an operator makes. -/
def binF (op : BinOp) : AV → AV → AV
  | .sc u, .sc v => match binV op u v with
    | some r => .sc r
    | none => .top
  | _, _ => .top
def binOk (op : BinOp) : AV → AV → Prop
  | .sc u, .sc v => (binV op u v).isSome = true
  | _, _ => False
def shF (op : BinOp) : AV → AV → AV
  | .sc u, .sc v => match shV op u v with
    | some r => .sc r
    | none => .top
  | _, _ => .top
def shOk (op : BinOp) : AV → AV → Prop
  | .sc u, .sc v => (shV op u v).isSome = true
  | _, _ => False
def unF (op : UnOp) : AV → AV
  | .sc u => match unV op u with
    | some r => .sc r
    | none => .top
  | _ => .top
def unOk (op : UnOp) : AV → Prop
  | .sc u => (unV op u).isSome = true
  | _ => False
def eqBF (pos : Bool) : AV → AV → AV
  | .sc (.bool a), .sc (.bool b) => .sc (.bool (if pos then a == b else !(a == b)))
  | _, _ => .top
def eqBOk : AV → AV → Prop
  | .sc (.bool _), .sc (.bool _) => True
  | _, _ => False
def eqNF (pos : Bool) : AV → AV
  | .sc .nilIface => .sc (.bool pos)
  | .ifc _ _ => .sc (.bool !pos)
  | _ => .top
def eqNOk : AV → Prop
  | .sc .nilIface => True
  | .ifc _ _ => True
  | _ => False
def nilSF (pos : Bool) : AV → AV
  | .lst _ [] _ => .ub
  | .lst _ (_ :: _) _ => .sc (.bool !pos)
  | .vec _ _ _ _ _ => .sc (.bool !pos)
  | _ => .top
def nilSOk : AV → Prop
  | .lst _ _ _ => True
  | .vec _ _ _ _ _ => True
  | _ => False
def pickF : AV → AV → AV → AV
  | .sc (.bool true), a, _ => a
  | .sc (.bool false), _, b => b
  | _, _, _ => .top
def pickOk : AV → Prop
  | .sc (.bool _) => True
  | _ => False
def convF (k : IntKind) : AV → AV
  | .sc (.int _ n) => .sc (.int k (k.wrap n))
  | _ => .top
def convOk : AV → Prop
  | .sc (.int _ _) => True
  | _ => False
def nilckOk : AV → Prop
  | .ptr .. => True
  | .lp .. => True
  | .fn (.func _) _ _ => True
  | _ => False
def faddrF (off : Nat) : AV → AV
  | .ptr k id j f => .ptr k id j (f + off)
  | .lp y f => .lp y (f + off)
  | _ => .top
def faddrOk : AV → Prop
  | .ptr .. => True
  | .lp .. => True
  | _ => False
def fieldOk (off n : Nat) (ag : Bool) : AV → Prop
  | .agg cs => AV.subOk (.agg cs) off n ag
  | _ => False
def iaddrF (k : Nat) : AV → AV → AV
  | .lst _ xs _, .sc (.int _ n) => .lp (xs.getD n.toNat .top) 0
  | .vec _ id off _ _, .sc (.int _ n) => .ptr k id (off + n.toNat) 0
  | _, _ => .top
def iaddrOk (k : Nat) : AV → AV → Prop
  | .lst k' xs _, .sc (.int _ n) => 0 ≤ n ∧ n < (xs.length : Int) ∧ k' = k
  | .vec k' _ _ m _, .sc (.int _ n) => 0 ≤ n ∧ n < (m : Int) ∧ k' = k
  | _, _ => False
def iaddrAF (k : Nat) : AV → AV → AV
  | .ptr k' id j f, .sc (.int _ n) => .ptr k' id j (f + n.toNat * k)
  | .lp y f, .sc (.int _ n) => .lp y (f + n.toNat * k)
  | _, _ => .top
def iaddrAOk (ln : Nat) : AV → AV → Prop
  | .ptr _ _ _ _, .sc (.int _ n) => 0 ≤ n ∧ n < (ln : Int)
  | .lp _ _, .sc (.int _ n) => 0 ≤ n ∧ n < (ln : Int)
  | _, _ => False
def idxSF : AV → AV → AV
  | .sc (.string s), .sc (.int _ n) => .sc (.int .u8 ((s.data.getD n.toNat 0).toNat : Int))
  | _, _ => .top
def idxSOk : AV → AV → Prop
  | .sc (.string s), .sc (.int _ n) => 0 ≤ n ∧ n < (s.size : Int)
  | _, _ => False
def idxAF (n : Nat) (ag : Bool) : AV → AV → AV
  | .agg cs, .sc (.int _ m) => AV.sub (.agg cs) (m.toNat * n) n ag
  | _, _ => .top
def idxAOk (ln n : Nat) (ag : Bool) : AV → AV → Prop
  | .agg cs, .sc (.int _ m) => (0 ≤ m ∧ m < (ln : Int)) ∧ AV.subOk (.agg cs) (m.toNat * n) n ag
  | _, _ => False
def slcF (k : Nat) (mx : Option Nat) (h l : Nat) : AV → AV
  | .lst _ xs room => match mx with
    | some m => .lst k ((xs.take h).drop l) (some ((xs.take m).drop h))
    | none => match room with
      | none => .lst k ((xs.take h).drop l) none
      | some ys => .lst k (((xs ++ ys).take h).drop l) (some ((xs ++ ys).drop h))
  | .vec _ id off _ c => if l < h then .vec k id (off + l) (h - l) (c.map (· - l)) else .lst k [] none
  | _ => .top
def slcOk (k : Nat) (mx : Option Nat) (hs : Bool) (h l : Nat) : AV → Prop
  | .lst k' xs room => (k' = k ∨ xs = [] ∧ room = some []) ∧ match mx with
    | some m => hs = true ∧ l ≤ h ∧ h ≤ m ∧ m ≤ xs.length
    | none => match room with
      | none => l ≤ h ∧ h ≤ xs.length
      | some ys => l ≤ h ∧ h ≤ xs.length + ys.length
  | .vec k' _ _ n c => k' = k ∧ mx.isNone = true ∧ l ≤ h ∧ h ≤ c.getD n
  | _ => False
def lenN : AV → Nat
  | .lst _ xs _ => xs.length
  | .vec _ _ _ n _ => n
  | _ => 0
def lenOk : AV → Prop
  | .lst _ _ _ => True
  | .vec .. => True
  | _ => False
def strOk : AV → Prop
  | .sc (.string _) => True
  | _ => False
def strV : AV → ByteArray
  | .sc (.string s) => s
  | _ => ByteArray.empty
def mmF (mx : Bool) : AV → AV → AV
  | .sc (.int k a), .sc (.int _ b) => .sc (.int k (if mx then (if b > a then b else a) else (if b < a then b else a)))
  | _, _ => .top
def mmOk : AV → AV → Prop
  | .sc (.int _ _), .sc (.int _ _) => True
  | _, _ => False
def extF (i : Nat) : AV → AV
  | .tup vs => vs.getD i .top
  | _ => .top
def extOk (i : Nat) : AV → Prop
  | .tup vs => i < vs.length
  | _ => False
def tassF (t : TypeId) (z : AV) : AV → AV
  | .ifc u v => if u = t then .tup [v, .sc (.bool true)] else .tup [z, .sc (.bool false)]
  | .sc .nilIface => .tup [z, .sc (.bool false)]
  | _ => .top
def tassOk : AV → Prop
  | .ifc _ _ => True
  | .sc .nilIface => True
  | _ => False

def PO.ok (ev : X → AV) : PO → Prop
  | .mv _ => True
  | .pick c _ _ => pickOk (ev c)
  | .bin op x y => binOk op (ev x) (ev y)
  | .shf op x y => shOk op (ev x) (ev y)
  | .eqB _ x y => eqBOk (ev x) (ev y)
  | .eqN _ x => eqNOk (ev x)
  | .nilS _ x => nilSOk (ev x)
  | .un op x => unOk op (ev x)
  | .conv _ x => convOk (ev x)
  | .nilck x => nilckOk (ev x)
  | .faddr _ x => faddrOk (ev x)
  | .field off n ag x => fieldOk off n ag (ev x)
  | .iaddr k x i => iaddrOk k (ev x) (ev i)
  | .iaddrA ln _ x i => iaddrAOk ln (ev x) (ev i)
  | .idxS x i => idxSOk (ev x) (ev i)
  | .idxA ln n ag x i => idxAOk ln n ag (ev x) (ev i)
  | .slc k x lo hi mx => bndOk ev lo ∧ bndOk ev hi ∧ bndOk ev mx ∧ slcOk k (match mx with | none => none | some m => some (bndV ev 0 (some m))) hi.isSome (bndV ev (match mx with | none => lenN (ev x) | some _ => 0) hi) (bndV ev 0 lo) (ev x)
  | .slcS x lo hi => strOk (ev x) ∧ bndOk ev lo ∧ bndOk ev hi ∧ bndV ev 0 lo ≤ bndV ev (strV (ev x)).size hi ∧ bndV ev (strV (ev x)).size hi ≤ (strV (ev x)).size
  | .len x => lenOk (ev x)
  | .lenS x => strOk (ev x)
  | .mm _ x y => mmOk (ev x) (ev y)
  | .ext x i => extOk i (ev x)
  | .mkfn _ _ _ => True
  | .mkif _ _ => True
  | .tass _ _ x => tassOk (ev x)
  | .build zs ps => fillOk ev zs ps

def PO.val (ev : X → AV) : PO → AV
  | .mv x => ev x
  | .pick c a b => pickF (ev c) (ev a) (ev b)
  | .bin op x y => binF op (ev x) (ev y)
  | .shf op x y => shF op (ev x) (ev y)
  | .eqB pos x y => eqBF pos (ev x) (ev y)
  | .eqN pos x => eqNF pos (ev x)
  | .nilS pos x => nilSF pos (ev x)
  | .un op x => unF op (ev x)
  | .conv k x => convF k (ev x)
  | .nilck x => ev x
  | .faddr off x => faddrF off (ev x)
  | .field off n ag x => AV.sub (ev x) off n ag
  | .iaddr k x i => iaddrF k (ev x) (ev i)
  | .iaddrA _ k x i => iaddrAF k (ev x) (ev i)
  | .idxS x i => idxSF (ev x) (ev i)
  | .idxA _ n ag x i => idxAF n ag (ev x) (ev i)
  | .slc k x lo hi mx => slcF k (match mx with | none => none | some m => some (bndV ev 0 (some m))) (bndV ev (match mx with | none => lenN (ev x) | some _ => 0) hi) (bndV ev 0 lo) (ev x)
  | .slcS x lo hi => .sc (.string ((strV (ev x)).extract (bndV ev 0 lo) (bndV ev (strV (ev x)).size hi)))
  | .len x => .sc (.int .i64 (lenN (ev x)))
  | .lenS x => .sc (.int .i64 (strV (ev x)).size)
  | .mm mx x y => mmF mx (ev x) (ev y)
  | .ext x i => extF i (ev x)
  | .mkfn f a b => .fn f (a.map ev) (b.map ev)
  | .mkif t x => .ifc t (ev x)
  | .tass t z x => tassF t z (ev x)
  | .build zs ps => .agg (fillV ev zs ps)

theorem ex_some {α : Type} {o : Option α} {K : α → Prop} : (∃ r, o = some r ∧ K r) ↔ o.isSome = true ∧ ∀ r, o = some r → K r := by
  cases o <;> simp

theorem PO.sem_of {ev : X → AV} {K : AV → Prop} : ∀ {q : PO}, q.ok ev → K (q.val ev) → PO.sem ev K q := by
  intro q h hk
  cases q with
  | build zs ps => exact fillA_iff.2 ⟨h, hk⟩
  | pick c a b =>
    simp only [PO.ok, PO.val, PO.sem] at *
    cases hc : ev c <;> rw [hc] at h hk <;> try exact h.elim
    rename_i v
    cases v <;> try exact h.elim
    rename_i t
    cases t
    · exact ⟨fun h => by simp at h, fun _ => hk⟩
    · exact ⟨fun _ => hk, fun h => by simp at h⟩
  | bin op x y =>
    simp only [PO.ok, PO.val, PO.sem] at *
    cases hx : ev x <;> cases hy : ev y <;> rw [hx, hy] at h hk <;> try exact h.elim
    simp only [binOk, binF] at h hk ⊢
    cases hb : binV op _ _ with
    | none => rw [hb] at h; simp at h
    | some r => rw [hb] at hk; exact ⟨r, rfl, hk⟩
  | shf op x y =>
    simp only [PO.ok, PO.val, PO.sem] at *
    cases hx : ev x <;> cases hy : ev y <;> rw [hx, hy] at h hk <;> try exact h.elim
    simp only [shOk, shF] at h hk ⊢
    cases hb : shV op _ _ with
    | none => rw [hb] at h; simp at h
    | some r => rw [hb] at hk; exact ⟨r, rfl, hk⟩
  | un op x =>
    simp only [PO.ok, PO.val, PO.sem] at *
    cases hx : ev x <;> rw [hx] at h hk <;> try exact h.elim
    simp only [unOk, unF] at h hk ⊢
    cases hb : unV op _ with
    | none => rw [hb] at h; simp at h
    | some r => rw [hb] at hk; exact ⟨r, rfl, hk⟩
  | slcS x lo hi =>
    simp only [PO.ok, PO.val, PO.sem] at *
    cases hx : ev x <;> rw [hx] at h hk <;> try exact h.1.elim
    rename_i v
    cases v <;> try exact h.1.elim
    obtain ⟨_, h1, h2, h3, h4⟩ := h
    exact bnd_iff.2 ⟨h2, bnd_iff.2 ⟨h1, ⟨h3, h4⟩, hk⟩⟩
  | slc k x lo hi mx =>
    simp only [PO.ok, PO.val, PO.sem] at *
    obtain ⟨h1, h2, h3, h4⟩ := h
    cases hx : ev x <;> rw [hx] at h4 hk <;> try exact h4.elim
    · rename_i k' xs room
      refine ⟨h4.1, ?_⟩
      cases mx with
      | some m => exact bnd_iff.2 ⟨h3, bnd_iff.2 ⟨h2, bnd_iff.2 ⟨h1, h4.2, hk⟩⟩⟩
      | none =>
        cases room with
        | none => exact bnd_iff.2 ⟨h2, bnd_iff.2 ⟨h1, h4.2, hk⟩⟩
        | some ys => exact bnd_iff.2 ⟨h2, bnd_iff.2 ⟨h1, h4.2, hk⟩⟩
    · rename_i k' id off n c
      obtain ⟨g1, g2, g3, g4⟩ := h4
      cases mx with
      | some m => simp at g2
      | none =>
        have hk2 : K (if bndV ev 0 lo < bndV ev n hi then .vec k id (off + bndV ev 0 lo) (bndV ev n hi - bndV ev 0 lo) (c.map (· - bndV ev 0 lo)) else .lst k [] none) := hk
        refine ⟨g1, rfl, bnd_iff.2 ⟨h2, bnd_iff.2 ⟨h1, ⟨g3, g4⟩, fun e => ?_, fun e => ?_⟩⟩⟩
        · rw [if_pos e] at hk2
          exact hk2
        · rw [if_neg (by omega)] at hk2
          exact hk2
  | tass t z x =>
    simp only [PO.ok, PO.val, PO.sem] at *
    cases hx : ev x <;> rw [hx] at h hk <;> try exact h.elim
    · rename_i v
      cases v <;> first | exact h.elim | exact hk
    · simp only [tassF] at hk
      exact ⟨fun e => by rw [if_pos e] at hk; exact hk, fun e => by rw [if_neg e] at hk; exact hk⟩
  | mv x => exact hk
  | mkfn f a b => exact hk
  | mkif t x => exact hk
  | eqB pos x y =>
    simp only [PO.ok, PO.val, PO.sem, eqBOk] at *
    split at h
    · rename_i e1 e2
      rw [e1, e2] at hk
      rw [e1, e2]
      exact hk
    · exact h.elim
  | iaddr k x i =>
    simp only [PO.ok, PO.val, PO.sem, iaddrOk] at *
    split at h
    · rename_i e1 e2
      rw [e1, e2] at hk
      rw [e1, e2]
      exact ⟨h, hk⟩
    · rename_i e1 e2
      rw [e1, e2] at hk
      rw [e1, e2]
      exact ⟨h, hk⟩
    · exact h.elim
  | iaddrA ln k x i =>
    simp only [PO.ok, PO.val, PO.sem, iaddrAOk] at *
    split at h
    · rename_i e1 e2
      rw [e1, e2] at hk
      rw [e1, e2]
      exact ⟨h, hk⟩
    · rename_i e1 e2
      rw [e1, e2] at hk
      rw [e1, e2]
      exact ⟨h, hk⟩
    · exact h.elim
  | idxS x i =>
    simp only [PO.ok, PO.val, PO.sem, idxSOk] at *
    split at h
    · rename_i e1 e2
      rw [e1, e2] at hk
      rw [e1, e2]
      exact ⟨h, hk⟩
    · exact h.elim
  | idxA ln n ag x i =>
    simp only [PO.ok, PO.val, PO.sem, idxAOk] at *
    split at h
    · rename_i e1 e2
      rw [e1, e2] at hk
      rw [e1, e2]
      exact ⟨h.1, h.2, by rw [e1] at *; exact hk⟩
    · exact h.elim
  | mm mx x y =>
    simp only [PO.ok, PO.val, PO.sem, mmOk] at *
    split at h
    · rename_i e1 e2
      rw [e1, e2] at hk
      rw [e1, e2]
      exact hk
    · exact h.elim
  | eqN pos x =>
    simp only [PO.ok, PO.val, PO.sem] at *
    cases hx : ev x <;> rw [hx] at h hk <;> try exact h.elim
    · rename_i v; cases v <;> first | exact h.elim | exact hk
    · exact hk
  | nilS pos x =>
    simp only [PO.ok, PO.val, PO.sem] at *
    cases hx : ev x <;> rw [hx] at h hk <;> try exact h.elim
    · rename_i k xs room; cases xs <;> exact hk
    · exact hk
  | conv k x =>
    simp only [PO.ok, PO.val, PO.sem] at *
    cases hx : ev x <;> rw [hx] at h hk <;> try exact h.elim
    rename_i v; cases v <;> first | exact h.elim | exact hk
  | nilck x =>
    simp only [PO.ok, PO.val, PO.sem] at *
    cases hx : ev x <;> rw [hx] at h hk <;> first | exact h.elim | exact hk | skip
    rename_i f a b; cases f <;> first | exact h.elim | exact hk
  | faddr off x =>
    simp only [PO.ok, PO.val, PO.sem] at *
    cases hx : ev x <;> rw [hx] at h hk <;> first | exact h.elim | exact hk
  | field off n ag x =>
    simp only [PO.ok, PO.val, PO.sem] at *
    cases hx : ev x <;> rw [hx] at h hk <;> first | exact h.elim | exact ⟨h, hk⟩
  | len x =>
    simp only [PO.ok, PO.val, PO.sem] at *
    cases hx : ev x <;> rw [hx] at h hk <;> first | exact h.elim | exact hk
  | lenS x =>
    simp only [PO.ok, PO.val, PO.sem] at *
    cases hx : ev x <;> rw [hx] at h hk <;> try exact h.elim
    rename_i v; cases v <;> first | exact h.elim | exact hk
  | ext x i =>
    simp only [PO.ok, PO.val, PO.sem] at *
    cases hx : ev x <;> rw [hx] at h hk <;> first | exact h.elim | exact ⟨h, hk⟩

end Go.Proofs.Ytddhdlfafaobhaa
