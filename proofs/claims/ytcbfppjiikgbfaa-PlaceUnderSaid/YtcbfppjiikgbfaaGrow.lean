/- A rule for a region that draws its order and whose operations may make memory: each operation is met once, in whatever world that has grown from the region's first; what is told of a value stays true as the world grows. Nothing of the program is named here. -/
import Derived.Test.YtcbfppjiikgbfaaBase
import Derived.Orders
namespace Go.Proofs.Ytcbfppjiikgbfaa
open Go.RowKit

/-- What is told of the value that an operation puts: which it is, or what it satisfies in a world. -/
inductive VSpec where
  | is (v : Value)
  | sat (p : Value → World → Prop)

def VSpec.holds : VSpec → Value → World → Prop
  | .is c, v, _ => v = c
  | .sat p, v, w => p v w

def VSpec.mono : VSpec → Prop
  | .is _ => True
  | .sat p => ∀ (v : Value) (w w' : World), Below w.heap.size w w' → p v w → p v w'

theorem VSpec.mono_holds {s : VSpec} (h : s.mono) {v : Value} {w w' : World} (hb : Below w.heap.size w w') (hs : s.holds v w) : s.holds v w' := by
  cases s with
  | is c => exact hs
  | sat p => exact h _ _ _ hb hs



def StepVal (P : Program) (o : Oper) (ev : Operand → Value) (w : World) (R : Value → World → Prop) : Prop :=
  match (execOp ev o).run P w with
  | .ok (.value v) w' => R v w'
  | .ok (.enter f args) w' => Calls P f args w' fun e w'' => ∃ v, e = .returned v ∧ R v w''
  | _ => False

theorem StepVal.wp {P : Program} {o : Oper} {a : Act} {w : World} {R : Value → World → Prop} {K : Act → World → Prop} {Q : Exit → Act → World → Prop}
    (h : StepVal P o a.eval w R) (hk : ∀ v w', R v w' → K (a.put o.dst v) w') : o.wp P a w K Q := by
  unfold StepVal at h
  unfold Oper.wp
  generalize (execOp a.eval o).run P w = r at h
  cases r with
  | ok n w' =>
    cases n <;> simp only at h
    · exact hk _ _ h
    · simp only [Oper.upon_enter]
      refine h.mono ?_
      rintro e w'' ⟨v, rfl, hr⟩
      exact hk _ _ hr
  | halt x w' => exact h.elim

def upd (f : Nat → Value) (i : Nat) (v : Value) : Nat → Value := fun j => if j = i then v else f j

def frm (vs : Nat → Value) : Nat → List Oper → Act → Act
  | _, [], a => a
  | k, o :: r, a => frm vs (k + 1) r (a.put o.dst (vs k))

theorem frm_congr {f g : Nat → Value} : ∀ (l : List Oper) (k : Nat) (a : Act), (∀ j, k ≤ j → f j = g j) → frm f k l a = frm g k l a
  | [], _, _, _ => rfl
  | o :: r, k, a, h => by
    simp only [frm]
    rw [h k (Nat.le_refl _)]
    exact frm_congr r (k + 1) _ fun j hj => h j (by omega)

def freeOf (d : Option Tmp) (l : List Oper) : Bool := l.all fun o => d == none || o.dst != d

theorem frm_put_free {f : Nat → Value} {d : Option Tmp} {v : Value} : ∀ (l : List Oper) (k : Nat) (a : Act), freeOf d l = true → (frm f k l a).put d v = frm f k l (a.put d v)
  | [], _, _, _ => rfl
  | o :: r, k, a, h => by
    simp only [freeOf, List.all_cons, Bool.and_eq_true] at h
    simp only [frm]
    rw [frm_put_free r (k + 1) _ h.2]
    congr 1
    refine Act.put_comm a _ _ fun e he hd => ?_
    have h1 := h.1
    simp [he, hd] at h1

theorem put_put (a : Act) (d : Option Tmp) (x v : Value) : (a.put d x).put d v = a.put d v := by
  cases d with
  | none => rfl
  | some d => simp [Act.put]

def dstsApart : List Oper → Bool
  | [] => true
  | o :: r => freeOf o.dst r && dstsApart r

theorem frm_put {f : Nat → Value} {v : Value} : ∀ (l : List Oper) (k i : Nat) (o : Oper) (a : Act), dstsApart l = true → l[i]? = some o →
    (frm f k l a).put o.dst v = frm (upd f (k + i) v) k l a
  | [], _, _, _, _, _, h => by simp at h
  | o :: r, k, 0, o', a, hd, h => by
    simp only [dstsApart, Bool.and_eq_true] at hd
    simp at h
    subst h
    simp only [frm]
    rw [frm_put_free r (k + 1) _ hd.1, put_put]
    have e : upd f (k + 0) v k = v := by simp [upd]
    rw [e]
    refine (frm_congr r (k + 1) _ fun j hj => ?_)
    have hne : j ≠ k := by omega
    simp [upd, hne]
  | o :: r, k, i + 1, o', a, hd, h => by
    simp only [dstsApart, Bool.and_eq_true] at hd
    simp only [List.getElem?_cons_succ] at h
    simp only [frm]
    rw [frm_put r (k + 1) i o' _ hd.2 h]
    have e : k + 1 + i = k + (i + 1) := by omega
    rw [e]
    have e2 : upd f (k + (i + 1)) v k = f k := by simp only [upd]; rw [if_neg (by omega)]
    rw [e2]

theorem put_same (a : Act) (d : Option Tmp) : ∃ v, a.put d v = a := by
  cases d with
  | none => exact ⟨undef, rfl⟩
  | some d =>
    refine ⟨a.tmps.getD d undef, ?_⟩
    cases a with
    | mk t ds =>
      simp only [Act.put, Act.mk.injEq, and_true]
      apply Array.ext_getElem?
      intro i
      rw [Array.getElem?_setIfInBounds]
      by_cases h : d = i
      · subst h
        by_cases hs : d < t.size
        · simp [hs]
        · simp [hs]
      · simp [h]

theorem frm_start : ∀ (l : List Oper) (k : Nat) (a : Act), ∃ f, frm f k l a = a
  | [], _, _ => ⟨fun _ => undef, rfl⟩
  | o :: r, k, a => by
    obtain ⟨f, hf⟩ := frm_start r (k + 1) a
    obtain ⟨v, hv⟩ := put_same a o.dst
    refine ⟨upd f k v, ?_⟩
    simp only [frm]
    have e : upd f k v k = v := by simp [upd]
    rw [e, hv]
    rw [frm_congr (g := f) r (k + 1) a fun j hj => by simp only [upd]; rw [if_neg (by omega)]]
    exact hf

def edgeFact (S : List VSpec) (vs : Nat → Value) (w : World) (e : Edge) : Prop :=
  match S[e.on]? with
  | some s => s.holds (vs e.on) w
  | none => True

def depFacts (S : List VSpec) (vs : Nat → Value) (w : World) : List Edge → Prop
  | [] => True
  | e :: r => (Region.binds .any e = true → edgeFact S vs w e) ∧ depFacts S vs w r

theorem depFacts_of {S : List VSpec} {vs : Nat → Value} {w : World} : ∀ (l : List Edge), (∀ e ∈ l, Region.binds .any e = true → ∀ s, S[e.on]? = some s → s.holds (vs e.on) w) → depFacts S vs w l
  | [], _ => trivial
  | e :: r, h => ⟨fun hb => by
      unfold edgeFact
      split
      · rename_i s hs
        exact h e (by simp) hb s hs
      · trivial, depFacts_of r fun e' he' => h e' (by simp [he'])⟩

/-- The guard says yes. -/
def gYes (S : List VSpec) (o : Oper) : Prop :=
  match o.guard with
  | none => True
  | some (j, want) => S[j]? = some (.is (.bool want))

def gNo (S : List VSpec) (o : Oper) : Prop :=
  match o.guard with
  | none => False
  | some (j, want) => S[j]? = some (.is (.bool !want)) ∨ S[j]? = some (.is undef)

def stepGoal (P : Program) (l : List Oper) (S : List VSpec) (a0 : Act) (w0 : World) (s : VSpec) (o : Oper) : Prop :=
  (gYes S o ∧ ∀ (vs : Nat → Value) (w : World), Below w0.heap.size w0 w → depFacts S vs w o.after.toList →
    StepVal P o (frm vs 0 l a0).eval w fun v w' => Below w.heap.size w w' ∧ s.holds v w') ∨
  (gNo S o ∧ s = .is undef)

def steps (P : Program) (l : List Oper) (S : List VSpec) (a0 : Act) (w0 : World) : List Oper → List VSpec → Prop
  | o :: r, s :: ss => stepGoal P l S a0 w0 s o ∧ steps P l S a0 w0 r ss
  | [], [] => True
  | _, _ => False

theorem steps_get {P : Program} {l : List Oper} {S : List VSpec} {a0 : Act} {w0 : World} : ∀ (r : List Oper) (ss : List VSpec), steps P l S a0 w0 r ss →
    r.length = ss.length ∧ ∀ (i : Nat) (o : Oper) (s : VSpec), r[i]? = some o → ss[i]? = some s → stepGoal P l S a0 w0 s o
  | [], [], _ => ⟨rfl, fun i o s h _ => by simp at h⟩
  | o :: r, s :: ss, h => by
    obtain ⟨h1, h2⟩ := steps_get r ss h.2
    refine ⟨by simp [h1], fun i o' s' ho hs => ?_⟩
    cases i with
    | zero => simp at ho hs; subst ho; subst hs; exact h.1
    | succ i => simp at ho hs; exact h2 i o' s' ho hs
  | [], _ :: _, h => h.elim
  | _ :: _, [], h => h.elim

def fin (Q : Act → World → Prop) (w0 : World) : List Oper → List VSpec → Act → (World → Prop) → Prop
  | o :: r, .is c :: ss, a, C => fin Q w0 r ss (a.put o.dst c) C
  | o :: r, .sat p :: ss, a, C => ∀ v, fin Q w0 r ss (a.put o.dst v) fun w => C w ∧ p v w
  | _, _, a, C => ∀ w, Below w0.heap.size w0 w → C w → Q a w

theorem fin_sound {Q : Act → World → Prop} {w0 : World} {vs : Nat → Value} {w : World} (hx : Below w0.heap.size w0 w) : ∀ (l : List Oper) (S : List VSpec) (k : Nat) (a : Act) (C : World → Prop),
    l.length = S.length → fin Q w0 l S a C → C w → (∀ (i : Nat) (s : VSpec), S[i]? = some s → s.holds (vs (k + i)) w) → Q (frm vs k l a) w
  | [], [], _, _, _, _, hf, hc, _ => hf w hx hc
  | o :: r, .is c :: ss, k, a, C, hl, hf, hc, hs => by
    have h0 := hs 0 (.is c) (by simp)
    simp only [VSpec.holds, Nat.add_zero] at h0
    simp only [frm]
    rw [h0]
    exact fin_sound hx r ss (k + 1) _ C (by simpa using hl) hf hc fun i s hi => by
      have := hs (i + 1) s (by simpa using hi)
      rwa [show k + 1 + i = k + (i + 1) from by omega]
  | o :: r, .sat p :: ss, k, a, C, hl, hf, hc, hs => by
    have h0 := hs 0 (.sat p) (by simp)
    simp only [VSpec.holds, Nat.add_zero] at h0
    simp only [frm]
    exact fin_sound hx r ss (k + 1) _ _ (by simpa using hl) (hf (vs k)) ⟨hc, h0⟩ fun i s hi => by
      have := hs (i + 1) s (by simpa using hi)
      rwa [show k + 1 + i = k + (i + 1) from by omega]
  | [], _ :: _, _, _, _, hl, _, _, _ => by simp at hl
  | _ :: _, [], _, _, _, hl, _, _, _ => by simp at hl

def monos : List VSpec → Prop
  | [] => True
  | s :: r => s.mono ∧ monos r

theorem monos_get : ∀ (S : List VSpec), monos S → ∀ (i : Nat) (s : VSpec), S[i]? = some s → s.mono
  | [], _, i, s, h => by simp at h
  | s :: r, hm, i, s', h => by
    cases i with
    | zero => simp at h; subst h; exact hm.1
    | succ i => simp at h; exact monos_get r hm.2 i s' h

/-- The region's form: the slots that are written are distinct; edges lead back; a guard is among the edges and has a slot. -/
def formed (l : List Oper) : Bool :=
  dstsApart l && l.zipIdx.all fun (o, i) =>
    (o.after.toList.all fun e => decide (e.on < i) || !Region.binds .any e) &&
    (match o.guard with
     | none => true
     | some (j, _) => (o.after.toList.any fun e => e.on == j && Region.binds .any e) && ((l[j]?).bind (·.dst)).isSome)

theorem eval_frm {f : Nat → Value} : ∀ (l : List Oper) (k i : Nat) (o : Oper) (a : Act) (d : Tmp), dstsApart l = true → l[i]? = some o → o.dst = some d → d < a.tmps.size →
    (frm f k l a).tmps[d]? = some (f (k + i))
  | [], _, _, _, _, _, _, h, _, _ => by simp at h
  | o :: r, k, 0, o', a, d, hd, h, hdst, hlt => by
    simp only [dstsApart, Bool.and_eq_true] at hd
    simp at h
    subst h
    simp only [frm]
    rw [hdst]
    rw [← frm_put_free r (k + 1) a (by rw [← hdst]; exact hd.1)]
    have hsz : ∀ (l : List Oper) (k : Nat) (a : Act), (frm f k l a).tmps.size = a.tmps.size := by
      intro l
      induction l with
      | nil => intro k a; rfl
      | cons o l ih => intro k a; simp only [frm]; rw [ih]; cases o.dst <;> simp [Act.put]
    simp [Act.put, hsz, hlt]
  | o :: r, k, i + 1, o', a, d, hd, h, hdst, hlt => by
    simp only [dstsApart, Bool.and_eq_true] at hd
    simp only [List.getElem?_cons_succ] at h
    simp only [frm]
    rw [eval_frm r (k + 1) i o' _ d hd.2 h hdst (by cases o.dst <;> simpa [Act.put] using hlt)]
    congr 2
    omega

theorem frm_none {f : Nat → Value} : ∀ (l : List Oper) (k : Nat) (a : Act) (d : Tmp), a.tmps.size ≤ d → (frm f k l a).tmps[d]? = none
  | [], _, a, d, h => by simp [frm, h]
  | o :: r, k, a, d, h => by
    simp only [frm]
    exact frm_none r (k + 1) _ d (by cases o.dst <;> simpa [Act.put] using h)

theorem formed_spec {l : List Oper} (h : formed l = true) (i : Nat) (o : Oper) (ho : l[i]? = some o) :
    (∀ e ∈ o.after.toList, Region.binds .any e = true → e.on < i) ∧
    (∀ j want, o.guard = some (j, want) → (∃ e ∈ o.after.toList, e.on = j ∧ Region.binds .any e = true) ∧ ∃ oj d, l[j]? = some oj ∧ oj.dst = some d) := by
  unfold formed at h
  simp only [Bool.and_eq_true, List.all_eq_true] at h
  have hm : (o, i) ∈ l.zipIdx := by
    rw [List.mem_zipIdx_iff_getElem?]
    exact ho
  obtain ⟨h1, h2⟩ := h.2 _ hm
  refine ⟨fun e he hb => ?_, fun j want hg => ?_⟩
  · have := h1 e he
    simpa [hb] using this
  · simp only [hg, Bool.and_eq_true, List.any_eq_true] at h2
    obtain ⟨⟨e, he, hee⟩, h3⟩ := h2
    simp at hee
    refine ⟨⟨e, he, hee.1, hee.2⟩, ?_⟩
    rw [Option.isSome_iff_exists] at h3
    obtain ⟨d, hd⟩ := h3
    rw [Option.bind_eq_some_iff] at hd
    obtain ⟨oj, h4, h5⟩ := hd
    exact ⟨oj, d, h4, h5⟩

theorem mem_ready' {ops : Array Oper} {j : Nat} {listed : Array Bool} (h : j ∈ Region.ready .any ops listed) :
    j < ops.size ∧ listed.getD j true = false ∧ ∀ o, ops[j]? = some o → ∀ e ∈ o.after.toList, Region.binds .any e = true → listed.getD e.on false = true := by
  unfold Region.ready at h
  simp only [List.mem_filter, List.mem_range, Bool.and_eq_true, Bool.not_eq_true'] at h
  obtain ⟨h1, h2, h3⟩ := h
  refine ⟨h1, h2, fun o ho e he hb => ?_⟩
  rw [ho] at h3
  simp only [Option.map_some, Option.getD_some, Array.all_eq_true_iff_forall_mem] at h3
  have := h3 e (by simpa using he)
  simpa [hb] using this

/-- How many are listed. -/
def cnt (listed : Array Bool) : Nat := listed.toList.count true

theorem cnt_set {listed : Array Bool} {i : Nat} (hi : i < listed.size) (h : listed.getD i true = false) : cnt (listed.setIfInBounds i true) = cnt listed + 1 := by
  unfold cnt
  rw [Array.toList_setIfInBounds]
  have h' : listed.toList[i]'(by simpa using hi) = false := by
    simpa [Array.getD, hi] using h
  rw [List.count_set (by simpa using hi)]
  simp [h']

theorem all_of_cnt {listed : Array Bool} (h : cnt listed = listed.size) (i : Nat) (hi : i < listed.size) : listed.getD i false = true := by
  unfold cnt at h
  rw [← Array.length_toList] at h
  have := List.count_eq_length.1 h
  have hm := this (listed.toList[i]'(by simpa using hi)) (List.getElem_mem _)
  simpa [Array.getD, hi] using hm.symm

def inRange (n : Nat) (l : List Oper) : Bool := l.all fun o => match o.dst with
  | some d => decide (d < n)
  | none => true

attribute [irreducible] StepVal

theorem wp_region_grow {P : Program} {l : List Oper} {id : Nat} {Q : Exit → Act → World → Prop} {a0 : Act} {w0 : World} (S : List VSpec)
    (n : Nat) (hm : P.follows .mixedOrders = true) (hf : formed l = true) (hn : a0.tmps.size = n) (hrg : inRange n l = true) (hS : monos S) (hst : steps P l S a0 w0.drew l S)
    (hfin : fin (Q .normal) w0.drew l S a0 fun _ => True) : (Code.region id l.toArray true).wp P Q a0 w0 := by
  obtain ⟨hlen, hget⟩ := steps_get l S hst
  have hd : dstsApart l = true := by unfold formed at hf; simp only [Bool.and_eq_true] at hf; exact hf.1
  apply wp_region_any hm
  have key : ∀ (fuel : Nat) (listed : Array Bool) (vs : Nat → Value) (w : World), listed.size = l.length → l.length ≤ cnt listed + fuel → Below w0.drew.heap.size w0.drew w →
      (∀ (i : Nat) (s : VSpec), S[i]? = some s → listed.getD i false = true → s.holds (vs i) w) → wpAny P .any l.toArray Q fuel listed (frm vs 0 l a0) w := by
    have done : ∀ (listed : Array Bool) (vs : Nat → Value) (w : World), listed.size = l.length → Below w0.drew.heap.size w0.drew w →
        (∀ (i : Nat) (s : VSpec), S[i]? = some s → listed.getD i false = true → s.holds (vs i) w) → Region.ready .any l.toArray listed = [] → Q .normal (frm vs 0 l a0) w := by
      intro listed vs w hsz hx hs hr
      have hall : ∀ n i, i < n → i < l.length → listed.getD i false = true := by
        intro n
        induction n with
        | zero => intro i hi; omega
        | succ n ih =>
          intro i hi hil
          by_cases hin : i < n
          · exact ih i hin hil
          · have hin' : i = n := by omega
            subst hin'
            apply Classical.byContradiction
            intro hno
            have : i ∈ Region.ready .any l.toArray listed := by
              unfold Region.ready
              simp only [List.mem_filter, List.mem_range, Bool.and_eq_true, Bool.not_eq_true', List.size_toArray]
              refine ⟨hil, ?_, ?_⟩
              · have h1 : i < listed.size := by omega
                simp [Array.getD, h1] at hno ⊢
                exact hno
              · have ho : l.toArray[i]? = some l[i] := by simp [hil]
                rw [ho]
                simp only [Option.map_some, Option.getD_some, Array.all_eq_true_iff_forall_mem]
                intro e he
                have := (formed_spec hf i l[i] (by simp [hil])).1 e (by simpa using he)
                cases hb : Region.binds .any e with
                | false => simp
                | true =>
                  have hlt := this hb
                  simp [ih e.on hlt (by omega)]
            rw [hr] at this
            simp at this
      refine fin_sound hx l S 0 a0 _ hlen hfin trivial fun i s hi => ?_
      have : i < S.length := by
        rcases Nat.lt_or_ge i S.length with h | h
        · exact h
        · rw [List.getElem?_eq_none h] at hi; simp at hi
      rw [Nat.zero_add]
      exact hs i s hi (hall l.length i (by omega) (by omega))
    intro fuel
    induction fuel with
    | zero =>
      intro listed vs w hsz hc hx hs
      have hle : cnt listed ≤ listed.size := by unfold cnt; rw [← Array.length_toList]; exact List.count_le_length
      have hall := all_of_cnt (listed := listed) (by omega)
      have hr : Region.ready .any l.toArray listed = [] := by
        rw [List.eq_nil_iff_forall_not_mem]
        intro i hi
        obtain ⟨h1, h2, _⟩ := mem_ready' hi
        have h1' : i < listed.size := by simp at h1; omega
        have := hall i h1'
        simp [Array.getD, h1'] at this h2
        rw [this] at h2
        simp at h2
      exact ⟨hr, done listed vs w hsz hx hs hr⟩
    | succ fuel ih =>
      intro listed vs w hsz hc hx hs
      refine ⟨done listed vs w hsz hx hs, fun i hi => ?_⟩
      obtain ⟨h1, h2, h3⟩ := mem_ready' hi
      have hil : i < l.length := by simpa using h1
      have hil' : i < listed.size := by omega
      have hoi : l[i]? = some l[i] := by simp [hil]
      have hoi' : l.toArray[i]? = some l[i] := by simp [hil]
      obtain ⟨s, hsi⟩ : ∃ s, S[i]? = some s := ⟨S[i]'(by omega), by simp [show i < S.length by omega]⟩
      have hdeps : ∀ e ∈ (l[i]).after.toList, Region.binds .any e = true → ∀ s, S[e.on]? = some s → s.holds (vs e.on) w := fun e he hb s' hs' => hs e.on s' hs' (h3 _ hoi' e he hb)
      have hnext : ∀ v w', Below w.heap.size w w' → s.holds v w' → wpAny P .any l.toArray Q fuel (listed.setIfInBounds i true) ((frm vs 0 l a0).put (l[i]).dst v) w' := by
        intro v w' hb hv
        rw [frm_put l 0 i l[i] a0 hd hoi]
        have hcs := cnt_set hil' h2
        refine ih _ _ _ (by simpa using hsz) (by omega) (ext_trans hx hb) fun j s' hj hl => ?_
        by_cases hji : j = 0 + i
        · have e : j = i := by omega
          subst e
          rw [hsi] at hj
          cases hj
          simp only [upd, Nat.zero_add, if_true]
          exact hv
        · have hne : i ≠ j := by omega
          rw [getD_set_ne false hne] at hl
          simp only [upd, if_neg hji]
          exact VSpec.mono_holds (monos_get S hS j s' hj) hb (hs j s' hj hl)
      unfold wpOp
      rw [hoi']
      simp only
      have hguard : ∀ j want, (l[i]).guard = some (j, want) → ∀ c, S[j]? = some (.is c) → ∃ d oj, l[j]? = some oj ∧ oj.dst = some d ∧ (frm vs 0 l a0).tmps[d]? = some c := by
        intro j want hg c hc
        obtain ⟨⟨e, he, hej, hb⟩, oj, d, hoj, hdj⟩ := (formed_spec hf i l[i] hoi).2 j want hg
        have hh := hdeps e he hb (.is c) (by rw [hej]; exact hc)
        rw [hej] at hh
        simp only [VSpec.holds] at hh
        refine ⟨d, oj, hoj, hdj, ?_⟩
        have hlt : d < a0.tmps.size := by
          rw [hn]
          unfold inRange at hrg
          rw [List.all_eq_true] at hrg
          have := hrg oj (List.mem_of_getElem? hoj)
          simpa [hdj] using this
        rw [eval_frm l 0 j oj a0 d hd hoj hdj hlt, Nat.zero_add, hh]
      rcases hget i l[i] s hoi hsi with ⟨hy, hstep⟩ | ⟨hno, hu⟩
      · have hsv := hstep vs w hx (depFacts_of _ hdeps)
        have hw : Region.wanted (l[i]) (yielded l.toArray (frm vs 0 l a0).tmps) = true := by
          unfold Region.wanted
          cases hg : (l[i]).guard with
          | none => rfl
          | some jw =>
            obtain ⟨j, want⟩ := jw
            simp only
            unfold gYes at hy
            rw [hg] at hy
            simp only at hy
            obtain ⟨d, oj, hoj, hdj, h⟩ := hguard j want hg _ hy
            unfold yielded
            have hoj' : l.toArray[j]? = some oj := by simpa using hoj
            rw [hoj']
            simp only [Option.bind_some, hdj]
            rw [h]
            simp
        rw [if_pos hw]
        left
        exact hsv.wp fun v w' ⟨hb, hv⟩ => hnext v w' hb hv
      · have hw : Region.wanted (l[i]) (yielded l.toArray (frm vs 0 l a0).tmps) = false := by
          unfold Region.wanted
          cases hg : (l[i]).guard with
          | none => simp [gNo, hg] at hno
          | some jw =>
            obtain ⟨j, want⟩ := jw
            simp only
            unfold gNo at hno
            rw [hg] at hno
            simp only at hno
            unfold yielded
            rcases hno with hno | hno
            · obtain ⟨d, oj, hoj, hdj, h⟩ := hguard j want hg _ hno
              have hoj' : l.toArray[j]? = some oj := by simpa using hoj
              rw [hoj']
              simp only [Option.bind_some, hdj]
              rw [h]
              cases want <;> simp
            · obtain ⟨d, oj, hoj, hdj, h⟩ := hguard j want hg _ hno
              have hoj' : l.toArray[j]? = some oj := by simpa using hoj
              rw [hoj']
              simp only [Option.bind_some, hdj]
              rw [h]
              simp [undef]
        rw [if_neg (by rw [hw]; simp)]
        exact hnext undef w (Below.refl _ _) (by rw [hu]; rfl)
  obtain ⟨f, hf0⟩ := frm_start l 0 a0
  have := key l.length (Array.replicate l.length false) f w0.drew (by simp) (by omega) (Below.refl _ _) (fun i s hi hl => by
    simp [Array.getD] at hl)
  rw [hf0] at this
  simpa using this

end Go.Proofs.Ytcbfppjiikgbfaa
