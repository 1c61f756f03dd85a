/- The operations that only compute, as a small language of their own; each is what the model's operation does. -/
import Derived.Test.YtddhdlfafaobhaaV3
namespace Go.Proofs.Ytddhdlfafaobhaa
open Go.RowKit
set_option linter.unusedVariables false

inductive PO where
  | mv (x : X)
  | pick (c a b : X)
  | bin (op : BinOp) (x y : X)
  | shf (op : BinOp) (x y : X)
  | eqB (pos : Bool) (x y : X)
  | eqN (pos : Bool) (x : X)
  | nilS (pos : Bool) (x : X)
  | un (op : UnOp) (x : X)
  | conv (k : IntKind) (x : X)
  | nilck (x : X)
  | faddr (off : Nat) (x : X)
  | field (off n : Nat) (ag : Bool) (x : X)
  | iaddr (k : Nat) (x i : X)
  | iaddrA (len k : Nat) (x i : X)
  | idxS (x i : X)
  | idxA (len n : Nat) (ag : Bool) (x i : X)
  | slc (k : Nat) (x : X) (lo hi mx : Option X)
  | slcS (x : X) (lo hi : Option X)
  | len (x : X)
  | lenS (x : X)
  | mm (mx : Bool) (x y : X)
  | ext (x : X) (i : Nat)
  | mkfn (f : Fn) (first caps : List X)
  | mkif (t : TypeId) (x : X)
  | tass (t : TypeId) (z : AV) (x : X)
  | build (zs : List AV) (parts : List (Nat × Nat × X))

def fillA (ev : X → AV) : List AV → List (Nat × Nat × X) → (List AV → Prop) → Prop
  | zs, [], K => K zs
  | zs, (off, n, x) :: r, K => ((ev x).isTop = false ∧ (ev x).ncells = n ∧ off + n ≤ zs.length) ∧ fillA ev (zs.take off ++ (ev x).cells ++ zs.drop (off + n)) r K

def bnd (ev : X → AV) (d : Nat) : Option X → (Nat → Prop) → Prop
  | none, K => K d
  | some x, K => match ev x with
    | .sc (.int _ n) => 0 ≤ n ∧ K n.toNat
    | _ => False

def PO.sem (ev : X → AV) (K : AV → Prop) : PO → Prop
  | .mv x => K (ev x)
  | .pick c a b => match ev c with
    | .sc (.bool t) => (t = true → K (ev a)) ∧ (t = false → K (ev b))
    | _ => False
  | .bin op x y => match ev x, ev y with
    | .sc u, .sc v => ∃ r, binV op u v = some r ∧ K (.sc r)
    | _, _ => False
  | .shf op x y => match ev x, ev y with
    | .sc u, .sc v => ∃ r, shV op u v = some r ∧ K (.sc r)
    | _, _ => False
  | .eqB pos x y => match ev x, ev y with
    | .sc (.bool a), .sc (.bool b) => K (.sc (.bool (if pos then a == b else !(a == b))))
    | _, _ => False
  | .eqN pos x => match ev x with
    | .sc .nilIface => K (.sc (.bool pos))
    | .ifc _ _ => K (.sc (.bool !pos))
    | _ => False
  | .nilS pos x => match ev x with
    | .lst _ [] _ => K .ub
    | .lst _ (_ :: _) _ => K (.sc (.bool !pos))
    | .vec _ _ _ _ _ => K (.sc (.bool !pos))
    | _ => False
  | .un op x => match ev x with
    | .sc u => ∃ r, unV op u = some r ∧ K (.sc r)
    | _ => False
  | .conv k x => match ev x with
    | .sc (.int _ n) => K (.sc (.int k (k.wrap n)))
    | _ => False
  | .nilck x => match ev x with
    | .ptr k id j f => K (.ptr k id j f)
    | .lp y f => K (.lp y f)
    | .fn (.func f) a b => K (.fn (.func f) a b)
    | _ => False
  | .faddr off x => match ev x with
    | .ptr k id j f => K (.ptr k id j (f + off))
    | .lp y f => K (.lp y (f + off))
    | _ => False
  | .field off n ag x => match ev x with
    | .agg cs => AV.subOk (.agg cs) off n ag ∧ K (AV.sub (.agg cs) off n ag)
    | _ => False
  | .iaddr k x i => match ev x, ev i with
    | .lst k' xs _, .sc (.int _ n) => (0 ≤ n ∧ n < (xs.length : Int) ∧ k' = k) ∧ K (.lp (xs.getD n.toNat .top) 0)
    | .vec k' id off m _, .sc (.int _ n) => (0 ≤ n ∧ n < (m : Int) ∧ k' = k) ∧ K (.ptr k id (off + n.toNat) 0)
    | _, _ => False
  | .iaddrA ln k x i => match ev x, ev i with
    | .ptr k' id j f, .sc (.int _ n) => (0 ≤ n ∧ n < (ln : Int)) ∧ K (.ptr k' id j (f + n.toNat * k))
    | .lp y f, .sc (.int _ n) => (0 ≤ n ∧ n < (ln : Int)) ∧ K (.lp y (f + n.toNat * k))
    | _, _ => False
  | .idxS x i => match ev x, ev i with
    | .sc (.string s), .sc (.int _ n) => (0 ≤ n ∧ n < (s.size : Int)) ∧ K (.sc (.int .u8 ((s.data.getD n.toNat 0).toNat : Int)))
    | _, _ => False
  | .idxA ln n ag x i => match ev x, ev i with
    | .agg cs, .sc (.int _ m) => (0 ≤ m ∧ m < (ln : Int)) ∧ AV.subOk (.agg cs) (m.toNat * n) n ag ∧ K (AV.sub (.agg cs) (m.toNat * n) n ag)
    | _, _ => False
  | .slc k x lo hi mx => match ev x with
    | .lst k' xs room => (k' = k ∨ xs = [] ∧ room = some []) ∧
      match mx with
      | some m => bnd ev 0 (some m) fun m => bnd ev 0 hi fun h => bnd ev 0 lo fun l => (hi.isSome ∧ l ≤ h ∧ h ≤ m ∧ m ≤ xs.length) ∧ K (.lst k ((xs.take h).drop l) (some ((xs.take m).drop h)))
      | none => match room with
        | none => bnd ev xs.length hi fun h => bnd ev 0 lo fun l => (l ≤ h ∧ h ≤ xs.length) ∧ K (.lst k ((xs.take h).drop l) none)
        | some ys => bnd ev xs.length hi fun h => bnd ev 0 lo fun l => (l ≤ h ∧ h ≤ xs.length + ys.length) ∧ K (.lst k (((xs ++ ys).take h).drop l) (some ((xs ++ ys).drop h)))
    | .vec k' id off n c => k' = k ∧ mx.isNone ∧ bnd ev n hi fun h => bnd ev 0 lo fun l => (l ≤ h ∧ h ≤ c.getD n) ∧
        (l < h → K (.vec k id (off + l) (h - l) (c.map (· - l)))) ∧ (l = h → K (.lst k [] none))
    | _ => False
  | .slcS x lo hi => match ev x with
    | .sc (.string s) => bnd ev s.size hi fun h => bnd ev 0 lo fun l => (l ≤ h ∧ h ≤ s.size) ∧ K (.sc (.string (s.extract l h)))
    | _ => False
  | .len x => match ev x with
    | .lst _ xs _ => K (.sc (.int .i64 xs.length))
    | .vec _ _ _ n _ => K (.sc (.int .i64 n))
    | _ => False
  | .lenS x => match ev x with
    | .sc (.string s) => K (.sc (.int .i64 s.size))
    | _ => False
  | .mm mx x y => match ev x, ev y with
    | .sc (.int k a), .sc (.int _ b) => K (.sc (.int k (if mx then (if b > a then b else a) else (if b < a then b else a))))
    | _, _ => False
  | .ext x i => match ev x with
    | .tup vs => i < vs.length ∧ K (vs.getD i .top)
    | _ => False
  | .mkfn f first caps => K (.fn f (first.map ev) (caps.map ev))
  | .mkif t x => K (.ifc t (ev x))
  | .tass t z x => match ev x with
    | .ifc u v => (u = t → K (.tup [v, .sc (.bool true)])) ∧ (u ≠ t → K (.tup [z, .sc (.bool false)]))
    | .sc .nilIface => K (.tup [z, .sc (.bool false)])
    | _ => False
  | .build zs parts => fillA ev zs parts fun cs => K (.agg cs)

def isAggT : TypeDesc → Bool
  | .struct _ | .array _ _ => true
  | _ => false

/-- The type's size, and whether it is a struct or an array. -/
def sizeAgg (P : Program) (t : TypeId) : Option (Nat × Bool) :=
  match P.underlying t, P.info? t with
  | some d, some i => some (i.size, isAggT d)
  | _, _ => none

def ofXs (l : Array Operand) : Option (List X) := l.toList.mapM ofX

def ofXo : Option Operand → Option (Option X)
  | none => some none
  | some o => (ofX o).map some

def placesOf (P : Program) (fs : List Field) : Option (List (Nat × Nat)) := fs.mapM fun f => (P.info? f.type).map fun i => (f.offset, i.size)

def partsOf (pl : Nat → Option (Nat × Nat)) : List (Nat × Operand) → Option (List (Nat × Nat × X))
  | [] => some []
  | (i, o) :: r => match pl i, ofX o, partsOf pl r with
    | some (off, n), some x, some s => some ((off, n, x) :: s)
    | _, _, _ => none

def compBin (P : Program) (op : BinOp) (t : TypeId) (x y : Operand) : Option PO :=
  match ofX x, ofX y with
  | some x', some y' =>
    match op with
    | .shl | .shr => some (.shf op x' y')
    | _ =>
      match P.underlying t with
      | some .bool => (match op with | .eql => some (.eqB true x' y') | .neq => some (.eqB false x' y') | _ => none)
      | some (.interface _) => (match op, y with | .eql, .const .nilIface => some (.eqN true x') | .neq, .const .nilIface => some (.eqN false x') | _, _ => none)
      | some (.slice _) => (match op, y with | .eql, .const (.slice none 0 0) => some (.nilS true x') | .neq, .const (.slice none 0 0) => some (.nilS false x') | _, _ => none)
      | some (.int _) | some .string => some (.bin op x' y')
      | _ => none
  | _, _ => none

def compP (P : Program) (o : Oper) : Option PO :=
  match o.op with
  | .move x | .assign x => (ofX x).map .mv
  | .pick c a b => match ofX c, ofX a, ofX b with
    | some c, some a, some b => some (.pick c a b)
    | _, _, _ => none
  | .binOp op t x y _ => compBin P op t x y
  | .unOp op _ x => (ofX x).map (.un op)
  | .convert s d x => match P.underlying s, P.underlying d, ofX x with
    | some (.int _), some (.int k), some x => some (.conv k x)
    | some .string, some .string, some x => some (.slcS x none none)
    | _, _, _ => none
  | .nilCheck x => (ofX x).map .nilck
  | .fieldAddr s x f => match P.underlying s, ofX x with
    | some (.struct fs), some x => match fs[f]? with
      | some fd => match P.info? fd.type with
        | some i => if i.size = 0 then none else some (.faddr fd.offset x)
        | none => none
      | none => none
    | _, _ => none
  | .field t x f => match P.underlying t, ofX x with
    | some (.struct fs), some x => match fs[f]? with
      | some fd => match sizeAgg P fd.type with
        | some (n, ag) => some (.field fd.offset n ag x)
        | none => none
      | none => none
    | _, _ => none
  | .indexAddr t x i => match P.underlying t, ofX x, ofX i with
    | some (.slice e), some x, some i => (P.info? e).map fun inf => .iaddr inf.size x i
    | some (.array ln e), some x, some i => (P.info? e).map fun inf => .iaddrA ln inf.size x i
    | _, _, _ => none
  | .index t x i => match P.underlying t, ofX x, ofX i with
    | some .string, some x, some i => some (.idxS x i)
    | some (.array ln e), some x, some i => (sizeAgg P e).map fun (n, ag) => .idxA ln n ag x i
    | _, _, _ => none
  | .slice t x lo hi mx => match P.underlying t, ofX x, ofXo lo, ofXo hi, ofXo mx with
    | some (.slice e), some x, some lo, some hi, some mx => (P.info? e).map fun inf => .slc inf.size x lo hi mx
    | some .string, some x, some lo, some hi, some none => some (.slcS x lo hi)
    | _, _, _, _, _ => none
  | .extract x i => (ofX x).map (.ext · i)
  | .makeFunc f a b => match ofXs a, ofXs b with
    | some a, some b => some (.mkfn f a b)
    | _, _ => none
  | .makeInterface t x => match P.underlying t, ofX x with
    | some (.interface _), _ => none
    | some _, some x => some (.mkif t x)
    | _, _ => none
  | .typeAssert x _ t true => match P.underlying t, P.info? t, ofX x with
    | some (.interface _), _, _ => none
    | some _, some i, some x => (i.zero.bind ofConst).map fun z => .tass t z x
    | _, _, _ => none
  | .build t parts => match P.underlying t, (P.info? t).bind (·.zero) with
    | some (.struct fs), some (.agg zs) => match placesOf P fs.toList, ofCells zs.toList with
      | some pl, some cs => (partsOf (fun i => pl[i]?) parts.toList).map fun ps => .build cs ps
      | _, _ => none
    | some (.array _ e), some (.agg zs) => match P.info? e, ofCells zs.toList with
      | some inf, some cs => (partsOf (fun i => some (i * inf.size, inf.size)) parts.toList).map fun ps => .build cs ps
      | _, _ => none
    | _, _ => none
  | .call { callee := .builtin .len, args, argTypes } => match args.toList, argTypes.toList with
    | [x], [t] => match P.underlying t, ofX x with
      | some (.slice _), some x => some (.len x)
      | some .string, some x => some (.lenS x)
      | some (.array n _), some _ => some (.mv (.k (.sc (.int .i64 n))))
      | _, _ => none
    | _, _ => none
  | .call { callee := .builtin .min, args, .. } => match args.toList with
    | [x, y] => match ofX x, ofX y with
      | some x, some y => some (.mm false x y)
      | _, _ => none
    | _ => none
  | .call { callee := .builtin .max, args, .. } => match args.toList with
    | [x, y] => match ofX x, ofX y with
      | some x, some y => some (.mm true x y)
      | _, _ => none
    | _ => none
  | _ => none

end Go.Proofs.Ytddhdlfafaobhaa
