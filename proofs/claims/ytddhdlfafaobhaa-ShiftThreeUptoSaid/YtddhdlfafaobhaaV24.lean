/- The evaluation form as rules for simp: what is not yet known of a call, a branch or a guard stays as it is. -/
import Derived.Test.YtddhdlfafaobhaaV23
namespace Go.Proofs.Ytddhdlfafaobhaa
open Go.RowKit
set_option linter.unusedVariables false
set_option linter.unusedSimpArgs false

/-- A guard's value. -/
def guardV (want : Bool) (yes no : Prop) : AV → Prop
  | .sc (.bool b) => (b = want → yes) ∧ (b ≠ want → no)
  | .tup _ => no
  | _ => False
theorem guardK_V {ts : List AV} {yes no : Prop} {g : Nat} {want : Bool} : guardK ts yes no (some (g, want)) = guardV want yes no (ts.getD g .top) := by
  simp only [guardK]
  generalize ts.getD g .top = v
  cases v with
  | sc v => cases v <;> rfl
  | _ => rfl

/-- A call that waits for its contract. -/
def callR (P : Program) (K : List AV → AHeap → Prop) (Kp : AV → List AV → AHeap → Prop) (d : Option Nat) (f : FuncId) (args : List AV) (r : List IO') (ts : List AV) (H : AHeap) : Prop :=
  ∃ e H', D P f args H e H' ∧ AEnd.post (fun v H' => runS P K Kp r (putT ts d v) H') (fun v H' => Kp v ts H') H' e
theorem callR_ret {P : Program} {K : List AV → AHeap → Prop} {Kp : AV → List AV → AHeap → Prop} {d : Option Nat} {f : FuncId} {args : List AV} {r : List IO'} {ts : List AV} {H H' : AHeap} {v : AV} (h : D P f args H (.ret v) H') (hk : runS P K Kp r (putT ts d v) H') : callR P K Kp d f args r ts H := ⟨_, _, h, hk⟩
theorem callR_pan {P : Program} {K : List AV → AHeap → Prop} {Kp : AV → List AV → AHeap → Prop} {d : Option Nat} {f : FuncId} {args : List AV} {r : List IO'} {ts : List AV} {H H' : AHeap} {v : AV} (h : D P f args H (.pan v) H') (hk : Kp v ts H') : callR P K Kp d f args r ts H := ⟨_, _, h, hk⟩

/-- A call of a function value. -/
def callW (P : Program) (K : List AV → AHeap → Prop) (Kp : AV → List AV → AHeap → Prop) (d : Option Nat) (f : AV) (args : List AV) (r : List IO') (ts : List AV) (H : AHeap) : Prop :=
  match f with
  | .fn (.func g) a b => callable P g = true ∧ callR P K Kp d g (a ++ args ++ b) r ts H
  | _ => False

/-- A guard that waits for its value. -/
def grdR (P : Program) (K : List AV → AHeap → Prop) (Kp : AV → List AV → AHeap → Prop) (d : Option Nat) (op : IOp) (want : Bool) (r : List IO') (ts : List AV) (H : AHeap) (v : AV) : Prop :=
  match v with
  | .sc (.bool b) => (b = want → runS P K Kp (⟨d, none, op⟩ :: r) ts H) ∧ (b ≠ want → runS P K Kp r (putT ts d (.tup [])) H)
  | .tup _ => runS P K Kp r (putT ts d (.tup [])) H
  | _ => False

section
variable {P : Program} {K : List AV → AHeap → Prop} {Kp : AV → List AV → AHeap → Prop} {d : Option Nat} {r : List IO'} {ts : List AV} {H : AHeap}

theorem runS_nil : runS P K Kp [] ts H = K ts H := rfl
theorem runS_p {q : PO} : runS P K Kp (⟨d, none, .p q⟩ :: r) ts H = (q.ok (X.ev ts) ∧ runS P K Kp r (putT ts d (q.val (X.ev ts))) H) := rfl
theorem runS_load {n : Nat} {ag : Bool} {a : X} : runS P K Kp (⟨d, none, .h (.load n ag a)⟩ :: r) ts H = (ldOk H n ag (a.ev ts) ∧ runS P K Kp r (putT ts d (ldV H n ag (a.ev ts))) H) := rfl
theorem runS_alloc {z : AV} {ty : TypeId} : runS P K Kp (⟨d, none, .h (.alloc z ty)⟩ :: r) ts H = runS P K Kp r (putT ts d (.ptr z.ncells H.length 0 0)) (some ⟨z.ncells, [z], true, ty⟩ :: H) := by
  show (True ∧ _) = _; rw [true_and]; rfl
theorem runS_box {k : Nat} {ty : TypeId} {x : X} : runS P K Kp (⟨d, none, .h (.box k ty x)⟩ :: r) ts H = (((x.ev ts).isTop = false ∧ (x.ev ts).ncells = k) ∧ runS P K Kp r (putT ts d (.ptr k H.length 0 0)) (some ⟨k, [x.ev ts], true, ty⟩ :: H)) := rfl
theorem runS_bsl {k : Nat} {ty : TypeId} {z : AV} {ln : Nat} {ps : List (Nat × X)} : runS P K Kp (⟨d, none, .h (.bsl k ty z ln ps)⟩ :: r) ts H = (elsOk (X.ev ts) k (List.replicate ln z) ps ∧ runS P K Kp r (putT ts d (.lst k (elsV (X.ev ts) (List.replicate ln z) ps) (some []))) H) := rfl
theorem runS_bslV {k : Nat} {ty : TypeId} {z : AV} {ln : Nat} {ps : List (Nat × X)} : runS P K Kp (⟨d, none, .h (.bslV k ty z ln ps)⟩ :: r) ts H = (elsOk (X.ev ts) k (List.replicate ln z) ps ∧ runS P K Kp r (putT ts d (.vec k H.length 0 ln (some ln))) (some ⟨k, elsV (X.ev ts) (List.replicate ln z) ps, true, ty⟩ :: H)) := rfl
theorem runS_store {n : Nat} {a x : X} : runS P K Kp (⟨d, none, .h (.store n a x)⟩ :: r) ts H = (stOk H n (a.ev ts) (x.ev ts) ∧ runS P K Kp r (putT ts d .top) (stH H (a.ev ts) (x.ev ts))) := rfl
theorem runS_mksl {k : Nat} {ty : TypeId} {z : AV} {l c : X} : runS P K Kp (⟨d, none, .h (.mksl k ty z l c)⟩ :: r) ts H = ((isIntV (l.ev ts) ∧ isIntV (c.ev ts) ∧ 0 ≤ intV (l.ev ts) ∧ intV (l.ev ts) ≤ intV (c.ev ts) ∧ intV (c.ev ts) ≤ 100000000) ∧ runS P K Kp r (putT ts d (.vec k H.length 0 (intV (l.ev ts)).toNat (some (intV (c.ev ts)).toNat))) (some ⟨k, List.replicate (intV (c.ev ts)).toNat z, true, ty⟩ :: H)) := rfl
theorem runS_app {k : Nat} {ty : TypeId} {s x : X} : runS P K Kp (⟨d, none, .h (.app k ty s x)⟩ :: r) ts H = ((lsOk H k (x.ev ts) ∧ apOk H k ty (lsV H (x.ev ts)) (s.ev ts)) ∧ runS P K Kp r (putT ts d (apV H k (lsV H (x.ev ts)) (s.ev ts))) (apH H k ty (lsV H (x.ev ts)) (s.ev ts))) := rfl
theorem runS_call {f : FuncId} {as : List X} : runS P K Kp (⟨d, none, .h (.call f as)⟩ :: r) ts H = callR P K Kp d f (as.map (X.ev ts)) r ts H := rfl
theorem runS_callv {f : X} {as : List X} : runS P K Kp (⟨d, none, .h (.callv f as)⟩ :: r) ts H = callW P K Kp d (f.ev ts) (as.map (X.ev ts)) r ts H := by
  show (match f.ev ts with
    | .fn (.func g) a b => callable P g = true ∧ ∃ e H', D P g (a ++ as.map (X.ev ts) ++ b) H e H' ∧ AEnd.post _ _ H' e
    | _ => False) = _
  unfold callW
  cases f.ev ts <;> rfl
theorem callW_func {g : FuncId} {a b as : List AV} : callW P K Kp d (.fn (.func g) a b) as r ts H = (callable P g = true ∧ callR P K Kp d g (a ++ as ++ b) r ts H) := rfl
theorem runS_pan {x : X} {t : TypeId} {v : AV} (h : x.ev ts = .ifc t v) : runS P K Kp (⟨d, none, .h (.pan x)⟩ :: r) ts H = Kp (.ifc t v) ts H := by
  show (match x.ev ts with | .ifc t v => _ | _ => False) = _
  rw [h]
theorem runS_grd {g : Nat} {want : Bool} {op : IOp} : runS P K Kp (⟨d, some (g, want), op⟩ :: r) ts H = grdR P K Kp d op want r ts H (ts.getD g .top) := by
  have hg : ∀ {yes no : Prop} {v : AV}, guardV want yes no v = (match v with
    | .sc (.bool b) => (b = want → yes) ∧ (b ≠ want → no)
    | .tup _ => no
    | _ => False) := fun {_ _} {v} => by cases v <;> rfl
  exact guardK_V.trans hg
theorem grdR_tt {op : IOp} : grdR P K Kp d op true r ts H (.sc (.bool true)) = runS P K Kp (⟨d, none, op⟩ :: r) ts H := by simp [grdR]
theorem grdR_ff {op : IOp} : grdR P K Kp d op false r ts H (.sc (.bool false)) = runS P K Kp (⟨d, none, op⟩ :: r) ts H := by simp [grdR]
theorem grdR_tf {op : IOp} : grdR P K Kp d op true r ts H (.sc (.bool false)) = runS P K Kp r (putT ts d (.tup [])) H := by simp [grdR]
theorem grdR_ft {op : IOp} : grdR P K Kp d op false r ts H (.sc (.bool true)) = runS P K Kp r (putT ts d (.tup [])) H := by simp [grdR]
theorem grdR_tup {op : IOp} {want : Bool} {vs : List AV} : grdR P K Kp d op want r ts H (.tup vs) = runS P K Kp r (putT ts d (.tup [])) H := rfl
theorem grdR_of {op : IOp} {want b : Bool} (h1 : b = want → runS P K Kp (⟨d, none, op⟩ :: r) ts H) (h2 : b = !want → runS P K Kp r (putT ts d (.tup [])) H) : grdR P K Kp d op want r ts H (.sc (.bool b)) :=
  ⟨h1, fun e => h2 (by cases b <;> cases want <;> simp_all)⟩
end

/-- Drawn regions: what is checked beside. -/
def callD (P : Program) (A : List (List Nat)) (n : Nat) (K : List AV → AHeap → Prop) (Kp : AV → AHeap → Prop) (i : Nat) (d : Option Nat) (f : FuncId) (args : List AV) (r : List IO') (ts : List AV) (H : AHeap) (ld : List (Nat × Nat)) (hs : List (Nat × AHeap × AHeap)) : Prop :=
  ∃ e H', D P f args H e H' ∧ AEnd.post (fun v H' => chS A i ld H H' ∧ runDS P A n K Kp (i + 1) r (putT ts d v) H' ld ((i, H, H') :: hs)) (fun v H' => lastB A n i = true ∧ Kp v H') H' e
def callE (P : Program) (A : List (List Nat)) (n : Nat) (K : List AV → AHeap → Prop) (Kp : AV → AHeap → Prop) (i : Nat) (d : Option Nat) (f : AV) (args : List AV) (r : List IO') (ts : List AV) (H : AHeap) (ld : List (Nat × Nat)) (hs : List (Nat × AHeap × AHeap)) : Prop :=
  match f with
  | .fn (.func g) a b => callable P g = true ∧ callD P A n K Kp i d g (a ++ args ++ b) r ts H ld hs
  | _ => False
def grdD (P : Program) (A : List (List Nat)) (n : Nat) (K : List AV → AHeap → Prop) (Kp : AV → AHeap → Prop) (i : Nat) (d : Option Nat) (op : IOp) (want : Bool) (r : List IO') (ts : List AV) (H : AHeap) (ld : List (Nat × Nat)) (hs : List (Nat × AHeap × AHeap)) (v : AV) : Prop :=
  match v with
  | .sc (.bool b) => (b = want → runDS P A n K Kp i (⟨d, none, op⟩ :: r) ts H ld hs) ∧ (b ≠ want → runDS P A n K Kp (i + 1) r (putT ts d (.tup [])) H ld hs)
  | .tup _ => runDS P A n K Kp (i + 1) r (putT ts d (.tup [])) H ld hs
  | _ => False

section
variable {P : Program} {A : List (List Nat)} {n i : Nat} {K : List AV → AHeap → Prop} {Kp : AV → AHeap → Prop} {d : Option Nat} {r : List IO'} {ts : List AV} {H : AHeap} {ld : List (Nat × Nat)} {hs : List (Nat × AHeap × AHeap)}

theorem callD_ret {f : FuncId} {args : List AV} {H' : AHeap} {v : AV} (h : D P f args H (.ret v) H') (hc : chS A i ld H H') (hk : runDS P A n K Kp (i + 1) r (putT ts d v) H' ld ((i, H, H') :: hs)) : callD P A n K Kp i d f args r ts H ld hs := ⟨_, _, h, hc, hk⟩
theorem chS_same : chS A i ld H H = True := by simp [chS]
theorem callD_same {f : FuncId} {args : List AV} {v : AV} (h : D P f args H (.ret v) H) (hk : runDS P A n K Kp (i + 1) r (putT ts d v) H ld ((i, H, H) :: hs)) : callD P A n K Kp i d f args r ts H ld hs := ⟨_, _, h, by simp [chS], hk⟩
theorem chS_grow {G : AHeap} (h : ∀ l ∈ ld, l.2 < H.length) : chS A i ld H (G ++ H) := fun l hl _ => AHeap.find_append (h l hl)
theorem runDS_nil : runDS P A n K Kp i [] ts H ld hs = K ts H := rfl
theorem runDS_p {q : PO} : runDS P A n K Kp i (⟨d, none, .p q⟩ :: r) ts H ld hs = (q.ok (X.ev ts) ∧ runDS P A n K Kp (i + 1) r (putT ts d (q.val (X.ev ts))) H ld hs) := rfl
theorem runDS_load {m : Nat} {ag : Bool} {a : X} : runDS P A n K Kp i (⟨d, none, .h (.load m ag a)⟩ :: r) ts H ld hs = (ldS A i hs (a.ev ts) ∧ ldOk H m ag (a.ev ts) ∧ runDS P A n K Kp (i + 1) r (putT ts d (ldV H m ag (a.ev ts))) H (ldN i ld (a.ev ts)) hs) := rfl
theorem runDS_alloc {z : AV} {ty : TypeId} : runDS P A n K Kp i (⟨d, none, .h (.alloc z ty)⟩ :: r) ts H ld hs = runDS P A n K Kp (i + 1) r (putT ts d (.ptr z.ncells H.length 0 0)) (some ⟨z.ncells, [z], true, ty⟩ :: H) ld hs := by
  show (True ∧ _) = _; rw [true_and]; rfl
theorem runDS_box {k : Nat} {ty : TypeId} {x : X} : runDS P A n K Kp i (⟨d, none, .h (.box k ty x)⟩ :: r) ts H ld hs = (((x.ev ts).isTop = false ∧ (x.ev ts).ncells = k) ∧ runDS P A n K Kp (i + 1) r (putT ts d (.ptr k H.length 0 0)) (some ⟨k, [x.ev ts], true, ty⟩ :: H) ld hs) := rfl
theorem runDS_bsl {k : Nat} {ty : TypeId} {z : AV} {ln : Nat} {ps : List (Nat × X)} : runDS P A n K Kp i (⟨d, none, .h (.bsl k ty z ln ps)⟩ :: r) ts H ld hs = (elsOk (X.ev ts) k (List.replicate ln z) ps ∧ runDS P A n K Kp (i + 1) r (putT ts d (.lst k (elsV (X.ev ts) (List.replicate ln z) ps) (some []))) H ld hs) := rfl
theorem runDS_bslV {k : Nat} {ty : TypeId} {z : AV} {ln : Nat} {ps : List (Nat × X)} : runDS P A n K Kp i (⟨d, none, .h (.bslV k ty z ln ps)⟩ :: r) ts H ld hs = (elsOk (X.ev ts) k (List.replicate ln z) ps ∧ runDS P A n K Kp (i + 1) r (putT ts d (.vec k H.length 0 ln (some ln))) (some ⟨k, elsV (X.ev ts) (List.replicate ln z) ps, true, ty⟩ :: H) ld hs) := rfl
theorem runDS_store {m : Nat} {a x : X} : runDS P A n K Kp i (⟨d, none, .h (.store m a x)⟩ :: r) ts H ld hs = (stOk H m (a.ev ts) (x.ev ts) ∧ chS A i ld H (stH H (a.ev ts) (x.ev ts)) ∧ runDS P A n K Kp (i + 1) r (putT ts d .top) (stH H (a.ev ts) (x.ev ts)) ld ((i, H, stH H (a.ev ts) (x.ev ts)) :: hs)) := rfl
theorem runDS_mksl {k : Nat} {ty : TypeId} {z : AV} {l c : X} : runDS P A n K Kp i (⟨d, none, .h (.mksl k ty z l c)⟩ :: r) ts H ld hs = ((isIntV (l.ev ts) ∧ isIntV (c.ev ts) ∧ 0 ≤ intV (l.ev ts) ∧ intV (l.ev ts) ≤ intV (c.ev ts) ∧ intV (c.ev ts) ≤ 100000000) ∧ runDS P A n K Kp (i + 1) r (putT ts d (.vec k H.length 0 (intV (l.ev ts)).toNat (some (intV (c.ev ts)).toNat))) (some ⟨k, List.replicate (intV (c.ev ts)).toNat z, true, ty⟩ :: H) ld hs) := rfl
theorem runDS_app {k : Nat} {ty : TypeId} {s x : X} : runDS P A n K Kp i (⟨d, none, .h (.app k ty s x)⟩ :: r) ts H ld hs = ((lsOk H k (x.ev ts) ∧ apOk H k ty (lsV H (x.ev ts)) (s.ev ts)) ∧ chS A i ld H (apH H k ty (lsV H (x.ev ts)) (s.ev ts)) ∧ runDS P A n K Kp (i + 1) r (putT ts d (apV H k (lsV H (x.ev ts)) (s.ev ts))) (apH H k ty (lsV H (x.ev ts)) (s.ev ts)) ld ((i, H, apH H k ty (lsV H (x.ev ts)) (s.ev ts)) :: hs)) := rfl
theorem runDS_call {f : FuncId} {as : List X} : runDS P A n K Kp i (⟨d, none, .h (.call f as)⟩ :: r) ts H ld hs = callD P A n K Kp i d f (as.map (X.ev ts)) r ts H ld hs := rfl
theorem runDS_callv {f : X} {as : List X} : runDS P A n K Kp i (⟨d, none, .h (.callv f as)⟩ :: r) ts H ld hs = callE P A n K Kp i d (f.ev ts) (as.map (X.ev ts)) r ts H ld hs := by
  show (match f.ev ts with
    | .fn (.func g) a b => callable P g = true ∧ ∃ e H', D P g (a ++ as.map (X.ev ts) ++ b) H e H' ∧ AEnd.post _ _ H' e
    | _ => False) = _
  unfold callE
  cases f.ev ts <;> rfl
theorem callE_func {g : FuncId} {a b as : List AV} : callE P A n K Kp i d (.fn (.func g) a b) as r ts H ld hs = (callable P g = true ∧ callD P A n K Kp i d g (a ++ as ++ b) r ts H ld hs) := rfl
theorem runDS_grd {g : Nat} {want : Bool} {op : IOp} : runDS P A n K Kp i (⟨d, some (g, want), op⟩ :: r) ts H ld hs = grdD P A n K Kp i d op want r ts H ld hs (ts.getD g .top) := by
  have hg : ∀ {yes no : Prop} {v : AV}, guardV want yes no v = (match v with
    | .sc (.bool b) => (b = want → yes) ∧ (b ≠ want → no)
    | .tup _ => no
    | _ => False) := fun {_ _} {v} => by cases v <;> rfl
  exact guardK_V.trans hg
theorem grdD_tt {op : IOp} : grdD P A n K Kp i d op true r ts H ld hs (.sc (.bool true)) = runDS P A n K Kp i (⟨d, none, op⟩ :: r) ts H ld hs := by simp [grdD]
theorem grdD_ff {op : IOp} : grdD P A n K Kp i d op false r ts H ld hs (.sc (.bool false)) = runDS P A n K Kp i (⟨d, none, op⟩ :: r) ts H ld hs := by simp [grdD]
theorem grdD_tf {op : IOp} : grdD P A n K Kp i d op true r ts H ld hs (.sc (.bool false)) = runDS P A n K Kp (i + 1) r (putT ts d (.tup [])) H ld hs := by simp [grdD]
theorem grdD_ft {op : IOp} : grdD P A n K Kp i d op false r ts H ld hs (.sc (.bool true)) = runDS P A n K Kp (i + 1) r (putT ts d (.tup [])) H ld hs := by simp [grdD]
theorem grdD_tup {op : IOp} {want : Bool} {vs : List AV} : grdD P A n K Kp i d op want r ts H ld hs (.tup vs) = runDS P A n K Kp (i + 1) r (putT ts d (.tup [])) H ld hs := rfl
theorem grdD_of {op : IOp} {want b : Bool} (h1 : b = want → runDS P A n K Kp i (⟨d, none, op⟩ :: r) ts H ld hs) (h2 : b = !want → runDS P A n K Kp (i + 1) r (putT ts d (.tup [])) H ld hs) : grdD P A n K Kp i d op want r ts H ld hs (.sc (.bool b)) :=
  ⟨h1, fun e => h2 (by cases b <;> cases want <;> simp_all)⟩
end

/-- A branch that waits for its value. -/
def condR (P : Program) (a b : IC) (K : Post) (ts : List AV) (H : AHeap) (v : AV) : Prop :=
  match v with
  | .sc (.bool t) => (t = true → ES P a K ts H) ∧ (t = false → ES P b K ts H)
  | .ub => ES P a K ts H ∧ ES P b K ts H
  | _ => False

section
variable {P : Program} {K : Post} {ts : List AV} {H : AHeap}
theorem ES_skip : ES P .skip K ts H = K .normal ts H := rfl
theorem ES_ops {l : List IO'} : ES P (.ops l) K ts H = runS P (K .normal) (fun v ts' H' => K (.pan v) ts' H') l ts H := rfl
theorem ES_dops {l : List IO'} {A : List (List Nat)} : ES P (.dops l A) K ts H = runDS P A l.length (K .normal) (fun v H' => K (.pan v) (blankT l ts) H') 0 l ts H [] [] := rfl
theorem ES_seq {a b : IC} : ES P (.seq a b) K ts H = ES P a (thenK (ES P b K) K) ts H := rfl
theorem ES_cond {c : X} {a b : IC} : ES P (.cond c a b) K ts H = condR P a b K ts H (c.ev ts) := by
  simp only [ES]
  generalize c.ev ts = v
  cases v with
  | sc v => cases v <;> rfl
  | _ => rfl
theorem ES_block {id : Nat} {c : IC} : ES P (.block id c) K ts H = ES P c (blockK id K) ts H := rfl
theorem ES_exit {id : Nat} : ES P (.exit id) K ts H = K (.exit id) ts H := rfl
theorem ES_ret : ES P .ret K ts H = K .ret ts H := rfl
theorem condR_t {a b : IC} : condR P a b K ts H (.sc (.bool true)) = ES P a K ts H := by simp [condR]
theorem condR_f {a b : IC} : condR P a b K ts H (.sc (.bool false)) = ES P b K ts H := by simp [condR]
theorem condR_u {a b : IC} (h1 : ES P a K ts H) (h2 : ES P b K ts H) : condR P a b K ts H .ub := ⟨h1, h2⟩
theorem condR_of {a b : IC} {t : Bool} (h1 : t = true → ES P a K ts H) (h2 : t = false → ES P b K ts H) : condR P a b K ts H (.sc (.bool t)) := ⟨h1, h2⟩
theorem condR_if {a b : IC} {p : Prop} [Decidable p] (h1 : p → ES P a K ts H) (h2 : ¬ p → ES P b K ts H) : condR P a b K ts H (.sc (.bool (decide p))) := ⟨fun e => h1 (of_decide_eq_true e), fun e => h2 (of_decide_eq_false e)⟩
theorem thenK_n {next : List AV → AHeap → Prop} : thenK next K .normal ts H = next ts H := rfl
theorem thenK_e {next : List AV → AHeap → Prop} {i : Nat} : thenK next K (.exit i) ts H = K (.exit i) ts H := rfl
theorem thenK_r {next : List AV → AHeap → Prop} : thenK next K .ret ts H = K .ret ts H := rfl
theorem thenK_p {next : List AV → AHeap → Prop} {v : AV} : thenK next K (.pan v) ts H = K (.pan v) ts H := rfl
theorem blockK_n {id : Nat} : blockK id K .normal ts H = K .normal ts H := rfl
theorem blockK_e {id i : Nat} : blockK id K (.exit i) ts H = if i = id then K .normal ts H else K (.exit i) ts H := rfl
theorem blockK_r {id : Nat} : blockK id K .ret ts H = K .ret ts H := rfl
theorem blockK_p {id : Nat} {v : AV} : blockK id K (.pan v) ts H = K (.pan v) ts H := rfl
/-- A loop: what holds at its head, and what sinks. -/
theorem ES_loop {c : IC} (I : List AV → AHeap → Prop) (μ : List AV → AHeap → Nat) (h0 : I ts H) (h : ∀ ts H, I ts H → ES P c (thenK (fun ts' H' => I ts' H' ∧ μ ts' H' < μ ts H) K) ts H) : ES P (.loop c) K ts H := ⟨I, μ, h0, h⟩
end

/-- The results. -/
def resOk : List RV → List AV → AHeap → Prop
  | [], _, _ => True
  | .t _ :: r, ts, H => resOk r ts H
  | .c a n ag :: r, ts, H => (match ts.getD a .top with
    | .ptr k id j f => ldOk H n ag (.ptr k id j f)
    | _ => False) ∧ resOk r ts H
def resV : List RV → List AV → AHeap → List AV
  | [], _, _ => []
  | .t n :: r, ts, H => ts.getD n .top :: resV r ts H
  | .c a n ag :: r, ts, H => ldV H n ag (ts.getD a .top) :: resV r ts H
theorem resL_of : ∀ {rs : List RV} {ts : List AV} {H : AHeap} {K : List AV → Prop}, resOk rs ts H → K (resV rs ts H) → resL rs ts H K
  | [], _, _, _, _, hk => hk
  | .t n :: r, ts, H, K, h, hk => resL_of (rs := r) h hk
  | .c a n ag :: r, ts, H, K, h, hk => by
    obtain ⟨h1, h2⟩ := h
    simp only [resV] at hk
    simp only [resL]
    cases he : ts.getD a .top <;> rw [he] at h1 hk <;> try exact h1.elim
    simp only [ldOk, ldV] at h1 hk
    cases hf : AHeap.find H _ with
    | none => rw [hf] at h1; exact h1.elim
    | some blk =>
      rw [hf] at h1 hk
      exact ⟨blk, _, hf, getElem_of h1.2.1, ⟨h1.1, h1.2.2⟩, resL_of h2 hk⟩
/-- The end of a body, as simp takes it. -/
def bodyS (rs : List RV) (Kr : AEnd → AHeap → Prop) : Post
  | .normal, ts, H => resOk rs ts H ∧ Kr (.ret (oneOf (resV rs ts H))) H
  | .ret, ts, H => resOk rs ts H ∧ Kr (.ret (oneOf (resV rs ts H))) H
  | .pan v, ts, H => Kr (.pan v) H
  | .exit _, _, _ => False
theorem bodyS_bodyK {rs : List RV} {Kr : AEnd → AHeap → Prop} : ∀ x ts H, bodyS rs Kr x ts H → bodyK rs Kr x ts H
  | .normal, _, _, h => resL_of h.1 h.2
  | .ret, _, _, h => resL_of h.1 h.2
  | .pan _, _, _, h => h
  | .exit _, _, _, h => h
section
variable {rs : List RV} {Kr : AEnd → AHeap → Prop} {ts : List AV} {H : AHeap}
theorem bodyS_n : bodyS rs Kr .normal ts H = (resOk rs ts H ∧ Kr (.ret (oneOf (resV rs ts H))) H) := rfl
theorem bodyS_r : bodyS rs Kr .ret ts H = (resOk rs ts H ∧ Kr (.ret (oneOf (resV rs ts H))) H) := rfl
theorem bodyS_p {v : AV} : bodyS rs Kr (.pan v) ts H = Kr (.pan v) H := rfl
end
theorem E_of_ES {P : Program} {ic : IC} {rs : List RV} {Kr : AEnd → AHeap → Prop} {ts : List AV} {H : AHeap} (h : ES P ic (bodyS rs Kr) ts H) : E P ic (bodyK rs Kr) ts H := ES_E (ES_mono bodyS_bodyK h)

/-- Numbers that stay within their kind. -/
theorem wrap_i64 {n : Int} (h1 : -9223372036854775808 ≤ n) (h2 : n ≤ 9223372036854775807) : IntKind.i64.wrap n = n := by
  unfold IntKind.wrap
  simp [IntKind.signed, IntKind.bits]
  omega
end Go.Proofs.Ytddhdlfafaobhaa
