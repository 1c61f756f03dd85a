/- Several texts in one: what each is for stands ahead of it. -/
import Derived.Test.YtijnpkpcoeeioaaGreatSA
import Derived.Test.YtijnpkpcoeeioaaGreatIc3
import Derived.Test.YtijnpkpcoeeioaaGreatVC
import Derived.KernelRfl
/- hunk.Sorted, must, put.add. -/
namespace Go.Proofs.YtijnpkpcoeeioaaGreat
open Go.RowKit
set_option maxRecDepth 100000
set_option linter.unusedVariables false
set_option linter.unusedSimpArgs false

def hks (l : List Hk) : List AV := l.map hk
theorem hks_length (l : List Hk) : (hks l).length = l.length := by simp [hks]
def nthH (l : List Hk) (k : Nat) : Hk := l.getD k ⟨0, [], []⟩
theorem nthH_eq {l : List Hk} {k : Nat} (h : k < l.length) : nthH l k = l[k] := by simp [nthH, List.getD, h]
theorem hks_get {l : List Hk} {k : Nat} (h : k < l.length) : (hks l).getD k .top = hk (nthH l k) := by simp [hks, nthH, List.getD, h]

def sortedB : Int → List Hk → Bool
  | _, [] => true
  | least, h :: r => rightB h && (!decide (h.at_ < least) && sortedB (h.at_ + h.old.length + 1) r)

def AllShort (l : List Hk) : Prop := l.length ≤ 100000000 ∧ ∀ h ∈ l, h.short
theorem AllShort.nth {l : List Hk} (h : AllShort l) {k : Nat} (hk : k < l.length) : (nthH l k).short := by
  rw [nthH_eq hk]; exact h.2 _ (List.getElem_mem _)
theorem rightB_at {h : Hk} (hr : rightB h = true) : 0 ≤ h.at_ ∧ h.at_ ≤ 1099511627776 := by
  simp only [rightB, Bool.and_eq_true, decide_eq_true_eq] at hr
  exact ⟨hr.1, hr.2.1⟩

end Go.Proofs.YtijnpkpcoeeioaaGreat

/- put.add: lines are put behind what was put. -/
namespace Go.Proofs.YtijnpkpcoeeioaaGreat
open Go.RowKit
set_option maxRecDepth 100000
set_option linter.unusedVariables false
set_option linter.unusedSimpArgs false

abbrev OutV (l : List ByteArray) (id : Nat) : AV := OwnV 1 (strs l) id
abbrev OutB (l : List ByteArray) : Option ABlk := OwnB 1 9 (strs l)
abbrev killT (l : List ByteArray) (id : Nat) (H : AHeap) : AHeap := killO (strs l) id H
theorem strs_ne {l : List ByteArray} (h : l ≠ []) : strs l ≠ [] := by cases l <;> simp [strs] at h ⊢
end Go.Proofs.YtijnpkpcoeeioaaGreat

/- text.swap: a hunk's lines are exchanged. -/
namespace Go.Proofs.YtijnpkpcoeeioaaGreat
open Go.RowKit
set_option maxRecDepth 100000
set_option linter.unusedVariables false
set_option linter.unusedSimpArgs false

theorem callD_pan {P : Program} {A : List (List Nat)} {n i : Nat} {K : List AV → AHeap → Prop} {Kp : AV → AHeap → Prop} {d : Option Nat} {r : List IO'} {ts : List AV} {H H' : AHeap} {ld : List (Nat × Nat)} {hs : List (Nat × AHeap × AHeap)} {f : FuncId} {args : List AV} {v : AV} (h : D P f args H (.pan v) H') (hb : lastB A n i = true) (hk : Kp v H') : callD P A n K Kp i d f args r ts H ld hs := ⟨_, _, h, hb, hk⟩

theorem over_gen {H G : AHeap} {x y : AV} (h : Over H G) (hz : Gz G H.length [] x y) : Weak H (.pan x) G (.pan y) H := by
  obtain ⟨A, rfl⟩ := h.split
  exact weak_gen [] (by simp) (by simp) (by simp) (fun id k hid hk => .inl ⟨hk, by rw [AHeap.find_append hid]; exact hk⟩) (fun i s k hs => by simp at hs) hz

abbrev errno (e : Int) : AV := .ifc 28 (.sc (.int .i64 e))

theorem strs_gz {H : AHeap} {n : Nat} {src : List Nat} : ∀ {l : List ByteArray}, GzL H n src (strs l) (strs l)
  | [] => .nil
  | _ :: _ => .cons (.same trivial) strs_gz
theorem strs_part (l : List ByteArray) (a b : Nat) : ((strs l).take b).drop a = strs ((l.take b).drop a) := by simp [strs, List.map_drop, List.map_take]

end Go.Proofs.YtijnpkpcoeeioaaGreat

/- hunk.Apply: what it makes. -/
namespace Go.Proofs.YtijnpkpcoeeioaaGreat
open Go.RowKit
set_option maxRecDepth 100000
set_option linter.unusedVariables false
set_option linter.unusedSimpArgs false

def applyGo (l : List ByteArray) : List Hk → Nat → List ByteArray → Int × Nat × List ByteArray
  | [], a, out => (0, a, out)
  | h :: r, a, out =>
    if h.old.length ≤ l.length ∧ h.at_ ≤ (l.length : Int) - h.old.length then
      if (l.drop h.at_.toNat).take h.old.length = h.old then applyGo l r (h.at_ + h.old.length).toNat (out ++ (l.take h.at_.toNat).drop a ++ h.new)
      else (121, a, out)
    else (6, a, out)

def applyR (l : List ByteArray) (hs : List Hk) : List ByteArray × Int :=
  if linesB l = true ∧ sortedB 0 hs = true then
    if (applyGo l hs 0 []).1 = 0 then
      if linesB ((applyGo l hs 0 []).2.2 ++ l.drop (applyGo l hs 0 []).2.1) then ((applyGo l hs 0 []).2.2 ++ l.drop (applyGo l hs 0 []).2.1, 0) else ([], 4)
    else ([], (applyGo l hs 0 []).1)
  else ([], 4)

def newLen : List Hk → Nat
  | [] => 0
  | h :: r => h.new.length + newLen r
theorem newLen_drop {l : List Hk} {k : Nat} (h : k < l.length) : newLen (l.drop k) = (nthH l k).new.length + newLen (l.drop (k + 1)) := by
  rw [List.drop_eq_getElem_cons h, nthH_eq h]; rfl
theorem newLen_drop_le (l : List Hk) : ∀ k, newLen (l.drop k) ≤ newLen l := by
  induction l with
  | nil => simp
  | cons x r ih =>
    intro k
    cases k with
    | zero => exact Nat.le_refl _
    | succ k => simp only [List.drop_succ_cons, newLen]; have := ih k; omega

theorem match_iff {l old : List ByteArray} {n : Nat} (h : n + old.length ≤ l.length) : (l.drop n).take old.length = old ↔ ∀ j, j < old.length → nthS l (n + j) = nthS old j := by
  constructor
  · intro e j hj
    rw [nthS_eq (by omega), nthS_eq hj]
    have : ((l.drop n).take old.length)[j]? = old[j]? := by rw [e]
    rw [List.getElem?_take, if_pos hj, List.getElem?_drop, List.getElem?_eq_getElem (by omega), List.getElem?_eq_getElem hj] at this
    exact Option.some.inj this
  · intro e
    refine nthS_ext (by simp; omega) fun i hi => ?_
    have hi' : i < old.length := by simp at hi; omega
    rw [← e i hi', nthS_eq hi, nthS_eq (by omega)]
    simp

theorem Short.app {a b : List ByteArray} (ha : Short a) (hb : Short b) (h : a.length + b.length ≤ 100000000) : Short (a ++ b) := by
  refine ⟨by simpa using h, fun s hs => ?_⟩
  rcases List.mem_append.1 hs with hs | hs
  · exact ha.2 s hs
  · exact hb.2 s hs
theorem Short.drop {a : List ByteArray} (ha : Short a) (n : Nat) : Short (a.drop n) := ⟨by have := ha.1; simp; omega, fun s hs => ha.2 s (List.mem_of_mem_drop hs)⟩
theorem Short.take {a : List ByteArray} (ha : Short a) (n : Nat) : Short (a.take n) := ⟨by have := ha.1; simp; omega, fun s hs => ha.2 s (List.mem_of_mem_take hs)⟩
theorem Short.nil : Short [] := ⟨by simp, by simp⟩

theorem apply_weak {H F : AHeap} {s : Nat} {out : List ByteArray} {e : Int} (hs : H.length ≤ s) (h1 : ∀ id, id < H.length → AHeap.find F id = AHeap.find H id) (h3 : out ≠ [] → AHeap.find F s = OutB out) :
    Weak H (.ret (.tup [OutV out s, .sc (.int .i64 e)])) F (.ret (.tup [OutV out H.length, .sc (.int .i64 e)])) (OutB out :: H) := by
  refine weak_gen [s] (by simp) (by simp) (by simpa using hs) (fun id k hid hk => ?_) (fun i t k ht hk => ?_) (.tup (.cons (OwnV_gz fun _ => newId_one hs) (.cons (.same trivial) .nil)))
  · rw [find_past hid] at hk
    exact .inl ⟨hk, by rw [h1 id hid]; exact hk⟩
  · have : i = 0 := by
      have := (List.getElem?_eq_some_iff.1 ht).1
      simpa using this
    subst this
    simp at ht
    subst ht
    rw [find_top (by simp)] at hk
    obtain ⟨n1, rfl⟩ := OwnB_some hk
    have n2 : out ≠ [] := fun e => n1 (by rw [e]; rfl)
    exact ⟨_, by rw [h3 n2]; exact hk, rfl, rfl, fun h => h, strs_gz⟩

end Go.Proofs.YtijnpkpcoeeioaaGreat

/- Small functions of law03: one, abc, great, two; Invert; Apply where what it makes is only read. -/
namespace Go.Proofs.YtijnpkpcoeeioaaGreat
open Go.RowKit
set_option maxRecDepth 100000
set_option linter.unusedVariables false
set_option linter.unusedSimpArgs false

theorem le_hkr (h : Hk) (a b : Option (List AV)) : Le (hkr h a b) (hk h) := .agg (.cons .refl (.cons (.lst LeL.refl) (.cons (.lst LeL.refl) .nil)))
theorem le_one (h : Hk) (a b r : Option (List AV)) : Le (.lst 3 [hkr h a b] r) (.lst 3 (hks [h]) none) := .lst (.cons (le_hkr h a b) .nil)
theorem le_txt (l : List ByteArray) (r : Option (List AV)) : Le (.lst 1 (strs l) r) (.lst 1 (strs l) none) := .lst LeL.refl

def tx (l : List Nat) : ByteArray := ⟨(l.map fun n => n.toUInt8).toArray⟩
abbrev abcL : List ByteArray := [⟨#[97, 10]⟩, ⟨#[98, 10]⟩, ⟨#[99, 10]⟩]
theorem copyTexts_d (l : List ByteArray) (r : Option (List AV)) (H : AHeap) (hl : l.length ≤ 100000000) : D Tryz.prog 42 [.lst 1 (strs l) r] H (.ret (.lst 1 (strs l) none)) H := by
  refine D_of_DK (Nat.le_refl _) (dk42 (E_of_ES ?_))
  cases l with
  | nil =>
    simp -implicitDefEqProofs (maxSteps := 99999999) (disch := omega) only [ic42, strs_nil, va, vs, vh, Nat.reduceMul, ite_true, ite_false, eq_self, forall_const, implies_true, Nat.reduceAdd, Nat.reduceSub, Nat.reduceLT, Nat.reduceLeDiff, ↓reduceIte, reduceCtorEq, Int.reduceEq, Int.reduceLT, Int.reduceLE, Int.reduceGT, Int.reduceGE, Int.reduceAdd, Int.reduceSub, Int.reduceNeg, Int.reduceToNat, Nat.reduceBEq, Nat.reduceEqDiff]
    exact weak_over .refl .nil
  | cons s l =>
    simp only [List.length_cons] at hl
    simp -implicitDefEqProofs (maxSteps := 99999999) (disch := omega) only [ic42, strs_cons, strs_length, va, vs, vh, Nat.reduceMul, ite_true, ite_false, eq_self, forall_const, implies_true, Nat.reduceAdd, Nat.reduceSub, Nat.reduceLT, Nat.reduceLeDiff, ↓reduceIte, reduceCtorEq, Int.reduceEq, Int.reduceLT, Int.reduceLE, Int.reduceGT, Int.reduceGE, Int.reduceAdd, Int.reduceSub, Int.reduceNeg, Int.reduceToNat, Nat.reduceBEq, Nat.reduceEqDiff]
    refine ⟨by omega, weak_over (.cons .refl) (fz_fresh (ty := 0) (l := s :: l) (AHeap.find_new ..) rfl rfl (by simp) (Nat.le_refl _))⟩
def Hk.inv (h : Hk) : Hk := ⟨h.at_, h.new, h.old⟩
theorem sameTexts_t (a : List ByteArray) {x y : AV} (hx : Le x (.lst 1 (strs a) none)) (hy : Le y (.lst 1 (strs a) none)) (H : AHeap) (hl : a.length ≤ 100000000) : D Tryz.prog 33 [x, y] H (.ret (.sc (.bool true))) H := by
  have := sameTexts_d a a none none H hl
  rw [decide_eq_true rfl] at this
  exact D_le (.cons hx (.cons hy .nil)) this
theorem short1 {h : Hk} (hs : h.short) : AllShort [h] := ⟨by simp, by simpa using hs⟩

def k1 : Hk := ⟨1, [⟨#[98, 10]⟩], [⟨#[120, 10]⟩, ⟨#[121, 10]⟩]⟩
def k2 : Hk := ⟨1, [⟨#[99, 10]⟩], [⟨#[120, 10]⟩]⟩
def k3 : Hk := ⟨3, [⟨#[99, 10]⟩], []⟩
def k4 : Hk := ⟨2, [⟨#[99, 10]⟩], [⟨#[100]⟩]⟩
def k5 : Hk := ⟨0, [⟨#[97, 10]⟩], [⟨#[100]⟩]⟩
theorem sk1 : k1.short := ⟨short_lit rfl, short_lit rfl⟩
theorem sk2 : k2.short := ⟨short_lit rfl, short_lit rfl⟩
theorem sk3 : k3.short := ⟨short_lit rfl, short_lit rfl⟩
theorem sk4 : k4.short := ⟨short_lit rfl, short_lit rfl⟩
theorem sk5 : k5.short := ⟨short_lit rfl, short_lit rfl⟩
theorem sAbc : Short abcL := short_lit rfl
abbrev r1 : List ByteArray := [⟨#[97, 10]⟩, ⟨#[120, 10]⟩, ⟨#[121, 10]⟩, ⟨#[99, 10]⟩]
abbrev r4 : List ByteArray := [⟨#[97, 10]⟩, ⟨#[98, 10]⟩, ⟨#[100]⟩]
theorem av1 : applyR abcL [k1] = (r1, 0) := by kernel_rfl
theorem av2 : applyR abcL [k2] = ([], 121) := by kernel_rfl
theorem av3 : applyR abcL [k3] = ([], 6) := by kernel_rfl
theorem av4 : applyR abcL [k4] = (r4, 0) := by kernel_rfl
theorem av5 : applyR abcL [k5] = ([], 4) := by kernel_rfl

end Go.Proofs.YtijnpkpcoeeioaaGreat
