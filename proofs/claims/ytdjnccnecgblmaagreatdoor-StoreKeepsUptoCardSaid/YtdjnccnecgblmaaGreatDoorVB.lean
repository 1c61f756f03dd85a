import Derived.Test.YtdjnccnecgblmaaGreatDoorVD
import Derived.RangeFuncRecord
namespace Go.Proofs.YtdjnccnecgblmaaGreatDoor
open Go.RowKit
set_option linter.unusedVariables false
set_option linter.unusedSimpArgs false
inductive IOp where
  | p (q : PO)
  | h (q : HO)
structure IO' where
  dst : Option Nat
  guard : Option (Nat × Bool)
  op : IOp
def opK (P : Program) (ev : X→AV) (H : AHeap) (K Kp : AV→AHeap→Prop) : IOp→Prop
  | .p q=>PO.sem ev (fun v=>K v H) q
  | .h q=>HO.sem P ev H K Kp q
def opR (P : Program) (ev : X→AV) (H : AHeap) (K Kp : AV→AHeap→Prop) : IOp→Prop
  | .p q=>PO.sem ev (fun v=>K v H) q
  | .h q=>HO.semR P ev H K Kp q
def guardK (ts : List AV) (yes no : Prop) : Option (Nat × Bool)→Prop
  | none=>yes
  | some (d,want)=>match ts.getD d .top with
    | .sc (.bool b)=>(b=want→yes) ∧ (b ≠ want→no)
    | .tup _=>no
    | _=>False
def runOps (P : Program) (K : List AV→AHeap→Prop) (Kp : AV→List AV→AHeap→Prop) : List IO'→List AV→AHeap→Prop
  | [],ts,H=>K ts H
  | o :: r,ts,H=>guardK ts (opR P (X.ev ts) H (fun v H'=>runOps P K Kp r (putT ts o.dst v) H') (fun v H'=>Kp v ts H') o.op) (runOps P K Kp r (putT ts o.dst (.tup [])) H) o.guard
def compG (ops : Array Oper) : Option (Nat × Bool)→Option (Option (Nat × Bool))
  | none=>some none
  | some (j,want)=>match (ops[j]?).bind (·.dst) with
    | some d=>some (some (d,want))
    | none=>none
def compO (P : Program) (vecs : Bool) (ops : Array Oper) (o : Oper) : Option IO' :=
  match compG ops o.guard with
  | none=>none
  | some g=>match compP P o with
    | some q=>some ⟨o.dst,g,.p q⟩
    | none=>match compH P vecs o with
      | some q=>some ⟨o.dst,g,.h q⟩
      | none=>some ⟨o.dst,g,.p (.un .not (.k .top))⟩
def compOps (P : Program) (vecs : Bool) (ops : Array Oper) : List Oper→Option (List IO')
  | []=>some []
  | o :: r=>match compO P vecs ops o,compOps P vecs ops r with
    | some x,some s=>some (x :: s)
    | _,_=>none
section
variable {P : Program}
theorem vr_undef {φ : Phi} {O : Nat→Prop} {w : World} : VR φ O w (.tup []) undef:=⟨⟨#[],rfl⟩,⟨#[],rfl,rfl⟩⟩
theorem op_wp {b : Bool} {ops : Array Oper} {o : Oper} {x : IO'} (hc : compO P b ops o=some x) {φ : Phi} {H : AHeap} {w : World} {ts : List AV} {a : Act} (hR : Rel φ H w) (hF : FR φ (Own φ H) w ts a) {K Kp : AV→AHeap→Prop} (h : opK P (X.ev ts) H K Kp x.op)
    {next : Act→World→Prop} {Q : Exit→Act→World→Prop}
    (hn : ∀ v u φ' H' w',K v H'→VR φ' (Own φ' H') w' v u→Rel φ' H' w'→Step φ H w φ' H' w'→next (a.put o.dst u) w')
    (hp : ∀ v u φ' H' w',Kp v H'→ChR φ' (Own φ' H') w' v u→Rel φ' H' w'→Step φ H w φ' H' w'→Q (.panic u) a w') : o.wp P a w next Q:=by
  unfold compO at hc
  split at hc
  · simp at hc
  split at hc
  · rename_i q hq
    cases hc
    obtain ⟨v,u,h1,h2,h3⟩:=compP_sound hq φ (Own φ H) w ts a hF (fun v=>K v H) h
    exact wp_value h3 (hn _ _ _ _ _ h1 h2 hR (Step.refl _ _ _))
  · split at hc
    · rename_i q hq
      cases hc
      exact compH_sound hq φ H w ts a hR hF K Kp h next Q hn hp
    · cases hc
      exact False.elim h
theorem compO_dst {b : Bool} {ops : Array Oper} {o : Oper} {x : IO'} (hc : compO P b ops o=some x) : x.dst=o.dst ∧ compG ops o.guard=some x.guard:=by
  unfold compO at hc
  split at hc
  · simp at hc
  rename_i g hg
  split at hc
  · cases hc;exact ⟨rfl,hg⟩
  · split at hc
    · cases hc;exact ⟨rfl,hg⟩
    · cases hc;exact ⟨rfl,hg⟩
theorem guard_wanted {ops : Array Oper} {o : Oper} {g : Option (Nat × Bool)} (hg : compG ops o.guard=some g) {φ : Phi} {O : Nat→Prop} {w : World} {ts : List AV} {a : Act} (hF : FR φ O w ts a) {yes no : Prop} (h : guardK ts yes no g) :
    (Region.wanted o (yielded ops a.tmps)=true ∧ yes) ∨ (Region.wanted o (yielded ops a.tmps)=false ∧ no):=by
  unfold compG at hg
  unfold Region.wanted
  split at hg
  · rename_i e
    cases hg
    rw[e]
    exact .inl ⟨rfl,h⟩
  · rename_i j want e
    split at hg
    case h_2=>simp at hg
    rename_i d hd
    cases hg
    rw[e]
    have hv:=hF.2 d
    have hy : yielded ops a.tmps j=match a.tmps[d]? with | some (.bool b)=>some b | _=>none:=by
      unfold yielded
      rw[hd]
      rfl
    simp only[guardK] at h
    split at h
    · rename_i b hb
      rw[hb] at hv
      have hu:=VR_sc hv
      have hsz : d < a.tmps.size:=by
        rcases Nat.lt_or_ge d a.tmps.size with hl | hl
        · exact hl
        · rw[Array.getD_eq_getD_getElem?,Array.getElem?_eq_none hl] at hu
          simp[undef] at hu
      have hg' : a.tmps[d]? = some (.bool b):=by
        rw[Array.getD_eq_getD_getElem?,Array.getElem?_eq_getElem hsz] at hu
        rw[Array.getElem?_eq_getElem hsz]
        exact congrArg some hu
      simp only[hy,hg']
      by_cases hbw : b=want
      · exact .inl ⟨by simp[hbw],h.1 hbw⟩
      · exact .inr ⟨by simp[hbw],h.2 hbw⟩
    · rename_i vs hb
      rw[hb] at hv
      obtain ⟨us,hu,_⟩:=VR_tup hv
      refine .inr ⟨?_,h⟩
      simp only[hy]
      rw[Array.getD_eq_getD_getElem?] at hu
      cases hg' : a.tmps[d]? with
      | none=>rfl
      | some v =>
        rw[hg'] at hu
        simp at hu
        subst hu
        rfl
    · exact h.elim
theorem compH0_call {P : Program} {b : Bool} {o : Oper} {f : FuncId} {as : List X} (h : compH0 P b o=some (.call f as)) : ∃ args ats,o.op = .call { callee:=.value (.func f),args,argTypes:=ats } ∧ callable P f=true ∧ ofXs args=some as:=by
  unfold compH0 at h
  split at h
  all_goals try (repeat' split at h)
  all_goals try (cases h;done)
  all_goals try (simp[Option.map_eq_some_iff] at h;done)
  all_goals try (obtain ⟨g,xs,e⟩:=compM_gx h;cases e;done)
  all_goals try (unfold compZ at h;repeat' split at h)
  all_goals try (cases h;done)
  all_goals try (unfold extH at h;repeat' split at h)
  all_goals try (cases h;done)
  rename_i ho hc
  rw[Option.map_eq_some_iff] at h
  obtain ⟨as',h1,h2⟩:=h
  cases h2
  exact ⟨_,_,ho,hc,h1⟩
theorem compH0_callv {P : Program} {b : Bool} {o : Oper} {f : X} {as : List X} (h : compH0 P b o=some (.callv f as)) : ∃ t args ats,f = .t t ∧ o.op = .call { callee:=.value (.tmp t),args,argTypes:=ats } ∧ ofXs args=some as:=by
  unfold compH0 at h
  split at h
  all_goals try (repeat' split at h)
  all_goals try (cases h;done)
  all_goals try (simp[Option.map_eq_some_iff] at h;done)
  all_goals try (obtain ⟨g,xs,e⟩:=compM_gx h;cases e;done)
  all_goals try (unfold compZ at h;repeat' split at h)
  all_goals try (cases h;done)
  all_goals try (unfold extH at h;repeat' split at h)
  all_goals try (cases h;done)
  rename_i ho
  rw[Option.map_eq_some_iff] at h
  obtain ⟨as',h1,h2⟩:=h
  cases h2
  exact ⟨_,_,_,rfl,ho,h1⟩
theorem compO_h {b : Bool} {ops : Array Oper} {o : Oper} {x : IO'} {q : HO} (hc : compO P b ops o=some x) (hx : x.op = .h q) : compH P b o=some q:=by
  unfold compO at hc
  split at hc
  · simp at hc
  split at hc
  · cases hc;cases hx
  · split at hc
    · rename_i q' hq
      cases hc
      cases hx
      exact hq
    · cases hc;cases hx
theorem compH_0 {b : Bool} {o : Oper} {q : HO} (h : compH P b o=some q) (hq : ∀ g xs,q ≠ .gx g xs) (hq2 : ∀ kd x,q ≠ .itr kd x) : compH0 P b o=some q:=by
  unfold compH at h
  split at h
  · rename_i q' h1
    rw[h1,h]
  · rcases compU2_gx h with ⟨g,xs,e⟩ | ⟨kd,x,e⟩
    · exact absurd e (hq g xs)
    · exact absurd e (hq2 kd x)
theorem compH0_itr {P : Program} {b : Bool} {o : Oper} {kd : ItK} {x : X} (h : compH0 P b o=some (.itr kd x)) : False:=by
  unfold compH0 at h
  split at h
  all_goals try (repeat' split at h)
  all_goals try (cases h;done)
  all_goals try (simp[Option.map_eq_some_iff] at h;done)
  all_goals try (obtain ⟨g,xs,e⟩:=compM_gx h;cases e;done)
  all_goals try (unfold compZ at h;repeat' split at h)
  all_goals try (cases h;done)
  all_goals try (unfold extH at h;repeat' split at h)
  all_goals try (cases h;done)
theorem compH_I {b : Bool} {o : Oper} {kd : ItK} {x : X} (h : compH P b o=some (.itr kd x)) : compI P o.op=some (.itr kd x):=by
  unfold compH at h
  split at h
  · rename_i h0;cases h;exact (compH0_itr h0).elim
  · unfold compU2 at h
    split at h
    · rename_i h1;cases h;obtain ⟨g,xs,e⟩:=compU_gx h1;cases e
    · exact h
theorem op_wpR {b : Bool} {ops : Array Oper} {o : Oper} {x : IO'} (hc : compO P b ops o=some x) {φ : Phi} {H : AHeap} {w : World} {ts : List AV} {a : Act} (hR : Rel φ H w) (hF : FR φ (Own φ H) w ts a) {K Kp : AV→AHeap→Prop} (h : opR P (X.ev ts) H K Kp x.op)
    {next : Act→World→Prop} {Q : Exit→Act→World→Prop}
    (hn : ∀ v u φ' H' w',K v H'→VR φ' (Own φ' H') w' v u→Rel φ' H' w'→Step φ H w φ' H' w'→next (a.put o.dst u) w')
    (hp : ∀ v u φ' H' w',Kp v H'→ChR φ' (Own φ' H') w' v u→Rel φ' H' w'→Step φ H w φ' H' w'→Q (.panic u) a w') : o.wp P a w next Q:=by
  cases hx : x.op with
  | p q=>exact op_wp hc hR hF (by rw[hx] at h ⊢;exact h) hn hp
  | h q =>
    rw[hx] at h
    cases q with
    | call f as =>
      obtain ⟨args,ats,h1,h2,h3⟩:=compH0_call (compH_0 (compO_h hc hx) (fun g xs e=>by cases e) (fun g xs e=>by cases e))
      exact hs_callR h1 h2 h3 hR hF h hn hp
    | callv f as =>
      obtain ⟨t,args,ats,rfl,h1,h3⟩:=compH0_callv (compH_0 (compO_h hc hx) (fun g xs e=>by cases e) (fun g xs e=>by cases e))
      exact hs_callvR h1 h3 hR hF h hn hp
    | itr kd y=>exact hs_itR (compH_I (compO_h hc hx)) hR hF h hn
    | _=>exact op_wp hc hR hF (by rw[hx];exact h) hn hp
theorem putT_length (ts : List AV) (d : Option Nat) (v : AV) : (putT ts d v).length=ts.length:=by
  cases d <;> simp[putT]
def ContOk (Q : Exit→Act→World→Prop) (K : List AV→AHeap→Prop) (φ : Phi) (H : AHeap) (w : World) (ds : List Deferred) : Prop :=
  ∀ ts' a' φ' H' w',K ts' H'→FR φ' (Own φ' H') w' ts' a'→Rel φ' H' w'→Step φ H w φ' H' w'→a'.defers=ds→Q .normal a' w'
def PanOk (Q : Exit→Act→World→Prop) (Kp : AV→List AV→AHeap→Prop) (φ : Phi) (H : AHeap) (w : World) (ds : List Deferred) : Prop :=
  ∀ v u ts' a' φ' H' w',Kp v ts' H'→ChR φ' (Own φ' H') w' v u→FR φ' (Own φ' H') w' ts' a'→Rel φ' H' w'→Step φ H w φ' H' w'→a'.defers=ds→Q (.panic u) a' w'
theorem put_defers (a : Act) (d : Option Tmp) (v : Value) : (a.put d v).defers=a.defers:=by cases d <;> rfl
theorem runOps_sound {b : Bool} {ops : Array Oper} {Q : Exit→Act→World→Prop} {K : List AV→AHeap→Prop} {Kp : AV→List AV→AHeap→Prop} : ∀ (n i : Nat) (l : List IO') (ts : List AV) (H : AHeap) (φ : Phi) (w : World) (a : Act),
    i+n=ops.size→compOps P b ops (ops.toList.drop i)=some l→Rel φ H w→FR φ (Own φ H) w ts a→runOps P K Kp l ts H→ContOk Q K φ H w a.defers→PanOk Q Kp φ H w a.defers→wpOps P ops Q (List.range' i n) a w
  | 0,i,l,ts,H,φ,w,a,hi,hc,hR,hF,h,hk,hp=>by
    have : ops.toList.drop i=[]:=List.drop_of_length_le (by simp;omega)
    rw[this] at hc
    simp[compOps] at hc
    subst hc
    exact hk _ _ _ _ _ h hF hR (Step.refl _ _ _) rfl
  | n+1,i,l,ts,H,φ,w,a,hi,hc,hR,hF,h,hk,hp=>by
    have hlt : i < ops.toList.length:=by simp;omega
    rw[List.drop_eq_getElem_cons hlt] at hc
    unfold compOps at hc
    split at hc
    case h_2=>simp at hc
    rename_i x s hx hs
    cases hc
    have hoi : ops[i]? = some (ops.toList[i]):=by simp at hlt;simp[hlt]
    obtain ⟨hd,hg⟩:=compO_dst hx
    simp only[runOps] at h
    have hcont : ∀ φ' H' w',Step φ H w φ' H' w'→∀ a' : Act,a'.defers=a.defers→ContOk Q K φ' H' w' a'.defers ∧ PanOk Q Kp φ' H' w' a'.defers:=by
      intro φ' H' w' hst a' ha
      exact ⟨fun ts2 a2 φ2 H2 w2 k1 k2 k3 k4 k5=>hk ts2 a2 φ2 H2 w2 k1 k2 k3 (hst.trans k4) (by rw[k5,ha]),fun v u ts2 a2 φ2 H2 w2 k1 k2 k3 k4 k5 k6=>hp v u ts2 a2 φ2 H2 w2 k1 k2 k3 k4 (hst.trans k5) (by rw[k6,ha])⟩
    rw[show List.range' i (n+1)=i :: List.range' (i+1) n from rfl]
    simp only[wpOps,hoi]
    rcases guard_wanted hg hF h with ⟨hw,hy⟩ | ⟨hw,hno⟩
    · rw[if_pos hw]
      left
      refine op_wpR hx hR hF hy (fun v u φ' H' w' k1 k2 k3 k4=>?_) (fun v u φ' H' w' k1 k2 k3 k4=>?_)
      · have hF':=(FR.step k4 hF).put (ops.toList[i]).dst k2
        rw[hd] at k1
        have:=hcont φ' H' w' k4 (a.put (ops.toList[i]).dst u) (put_defers _ _ _)
        exact runOps_sound n (i+1) s _ H' φ' w' _ (by omega) hs k3 hF' k1 this.1 this.2
      · exact hp v u ts a φ' H' w' k1 k2 (FR.step k4 hF) k3 k4 rfl
    · rw[if_neg (by rw[hw];simp)]
      have hF':=hF.put (ops.toList[i]).dst (vr_undef (φ:=φ) (O:=Own φ H) (w:=w))
      rw[hd] at hno
      have:=hcont φ H w (Step.refl _ _ _) (a.put (ops.toList[i]).dst undef) (put_defers _ _ _)
      exact runOps_sound n (i+1) s _ H φ w _ (by omega) hs hR hF' hno this.1 this.2
theorem region_seq {b : Bool} {id : Nat} {ops : Array Oper} {l : List IO'} (hc : compOps P b ops ops.toList=some l) {Q : Exit→Act→World→Prop} {K : List AV→AHeap→Prop} {Kp : AV→List AV→AHeap→Prop} {φ : Phi} {H : AHeap} {w : World} {ts : List AV} {a : Act}
    (hR : Rel φ H w) (hF : FR φ (Own φ H) w ts a) (h : runOps P K Kp l ts H) (hk : ContOk Q K φ H w a.defers) (hp : PanOk Q Kp φ H w a.defers) : (Code.region id ops false).wp P Q a w:=by
  refine wp_region ?_
  rw[List.range_eq_range']
  exact runOps_sound ops.size 0 l ts H φ w a (by omega) (by simpa using hc) hR hF h hk hp
end
end Go.Proofs.YtdjnccnecgblmaaGreatDoor
namespace Go.Proofs.YtdjnccnecgblmaaGreatDoor
open Go.RowKit
set_option linter.unusedVariables false
set_option linter.unusedSimpArgs false
section inv
theorem mem_ready' {ops : Array Oper} {j : Nat} {listed : Array Bool} (h : j ∈ Region.ready .any ops listed) :
    j < ops.size ∧ listed.getD j true=false ∧ ∀ o,ops[j]? = some o→∀ e ∈ o.after.toList,Region.binds .any e=true→listed.getD e.on false=true:=by
  unfold Region.ready at h
  simp only[List.mem_filter,List.mem_range,Bool.and_eq_true,Bool.not_eq_true'] at h
  obtain ⟨h1,h2,h3⟩:=h
  refine ⟨h1,h2,fun o ho e he hb=>?_⟩
  rw[ho] at h3
  simp only[Option.map_some,Option.getD_some,Array.all_eq_true_iff_forall_mem] at h3
  have:=h3 e (by simpa using he)
  simpa [hb] using this
def cnt (listed : Array Bool) : Nat:=listed.toList.count true
theorem cnt_set {listed : Array Bool} {i : Nat} (hi : i < listed.size) (h : listed.getD i true=false) : cnt (listed.setIfInBounds i true)=cnt listed+1:=by
  unfold cnt
  rw[Array.toList_setIfInBounds]
  have h' : listed.toList[i]'(by simpa using hi)=false:=by
    simpa [Array.getD,hi] using h
  rw[List.count_set (by simpa using hi)]
  simp[h']
theorem all_of_cnt {listed : Array Bool} (h : cnt listed=listed.size) (i : Nat) (hi : i < listed.size) : listed.getD i false=true:=by
  unfold cnt at h
  rw[← Array.length_toList] at h
  have:=List.count_eq_length.1 h
  have hm:=this (listed.toList[i]'(by simpa using hi)) (List.getElem_mem _)
  simpa [Array.getD,hi] using hm.symm
theorem wpAny_inv {P : Program} {ops : Array Oper} {Q : Exit→Act→World→Prop} (I : Array Bool→Act→World→Prop)
    (hsz : ∀ listed a w,I listed a w→listed.size=ops.size) (hdone : ∀ listed a w,I listed a w→Region.ready .any ops listed=[]→Q .normal a w)
    (hstep : ∀ listed a w i,I listed a w→i ∈ Region.ready .any ops listed→wpOp P ops Q i (fun a' w'=>I (listed.setIfInBounds i true) a' w') a w) :
    ∀ (fuel : Nat) (listed : Array Bool) (a : Act) (w : World),I listed a w→ops.size ≤ cnt listed+fuel→wpAny P .any ops Q fuel listed a w
  | 0,listed,a,w,hI,hf=>by
    have h0:=hsz _ _ _ hI
    have hle : cnt listed ≤ listed.size:=by unfold cnt;rw[← Array.length_toList];exact List.count_le_length
    have hall:=all_of_cnt (listed:=listed) (by omega)
    have hr : Region.ready .any ops listed=[]:=by
      rw[List.eq_nil_iff_forall_not_mem]
      intro i hi
      obtain ⟨h1,h2,_⟩:=mem_ready' hi
      have h1' : i < listed.size:=by omega
      have:=hall i h1'
      simp[Array.getD,h1'] at this h2
      rw[this] at h2
      simp at h2
    exact ⟨hr,hdone _ _ _ hI hr⟩
  | fuel+1,listed,a,w,hI,hf=>by
    refine ⟨hdone _ _ _ hI,fun i hi=>?_⟩
    obtain ⟨h1,h2,_⟩:=mem_ready' hi
    have h0:=hsz _ _ _ hI
    refine wpOp_mono (fun a' w' hI'=>?_) (hstep listed a w i hI hi)
    refine wpAny_inv I hsz hdone hstep fuel _ a' w' hI' ?_
    rw[cnt_set (by omega) h2]
    omega
end inv
def PO.xs : PO→List X
  | .mv x=>[x]
  | .pick c a b=>[c,a,b]
  | .bin _ x y=>[x,y]
  | .shf _ x y=>[x,y]
  | .eqB _ x y=>[x,y]
  | .eqN _ x=>[x]
  | .nilS _ x=>[x]
  | .un _ x=>[x]
  | .conv _ x=>[x]
  | .convB x=>[x]
  | .nilck x=>[x]
  | .faddr _ x=>[x]
  | .field _ _ _ x=>[x]
  | .iaddr _ x i=>[x,i]
  | .iaddrA _ _ x i=>[x,i]
  | .idxS x i=>[x,i]
  | .idxA _ _ _ x i=>[x,i]
  | .slc _ x lo hi mx=>x :: (lo.toList ++ hi.toList ++ mx.toList)
  | .slcS x lo hi=>x :: (lo.toList ++ hi.toList)
  | .len x=>[x]
  | .lenS x=>[x]
  | .mm _ x y=>[x,y]
  | .ext x _=>[x]
  | .mkfn _ a b=>a ++ b
  | .mkif _ x=>[x]
  | .tass _ _ x=>[x]
  | .build _ ps=>ps.map fun (_,_,x)=>x
def HO.xs : HO→List X
  | .load _ _ a=>[a]
  | .alloc _ _=>[]
  | .box _ _ x=>[x]
  | .bsl _ _ _ _ ps=>ps.map fun (_,x)=>x
  | .bslV _ _ _ _ ps=>ps.map fun (_,x)=>x
  | .store _ a x=>[a,x]
  | .mksl _ _ _ l c=>[l,c]
  | .app _ _ s x=>[s,x]
  | .gx _ xs=>xs
  | .itr _ x=>[x]
  | .call _ as=>as
  | .callv f as=>f :: as
  | .pan x=>[x]
theorem bnd_congr {ev ev' : X→AV} {d : Nat} {K : Nat→Prop} {o : Option X} (h : ∀ x ∈ o.toList,ev x=ev' x) : bnd ev d o K=bnd ev' d o K:=by
  cases o with
  | none=>rfl
  | some x=>simp only[bnd];rw[h x (by simp)]
theorem fillA_congr {ev ev' : X→AV} {K : List AV→Prop} : ∀ {ps : List (Nat × Nat × X)} {zs : List AV},(∀ x ∈ ps.map (fun (_,_,x)=>x),ev x=ev' x)→fillA ev zs ps K=fillA ev' zs ps K
  | [],_,_=>rfl
  | (o,n,x) :: r,zs,h=>by
    simp only[fillA]
    rw[h x (by simp),fillA_congr (ps:=r) fun y hy=>h y (by simp only[List.map_cons,List.mem_cons];exact .inr hy)]
theorem elsA_congr {ev ev' : X→AV} {k : Nat} {K : List AV→Prop} : ∀ {ps : List (Nat × X)} {es : List AV},(∀ x ∈ ps.map (fun (_,x)=>x),ev x=ev' x)→elsA ev k es ps K=elsA ev' k es ps K
  | [],_,_=>rfl
  | (o,x) :: r,es,h=>by
    simp only[elsA]
    rw[h x (by simp),elsA_congr (ps:=r) fun y hy=>h y (by simp only[List.map_cons,List.mem_cons];exact .inr hy)]
theorem PO.sem_congr {ev ev' : X→AV} {K : AV→Prop} : ∀ {q : PO},(∀ x ∈ q.xs,ev x=ev' x)→PO.sem ev K q=PO.sem ev' K q:=by
  intro q h
  cases q with
  | slc k x lo hi mx =>
    have hx:=h x (by simp[PO.xs])
    have hb : ∀ (o : Option X),(∀ y ∈ o.toList,y ∈ (PO.slc k x lo hi mx).xs)→∀ d (L : Nat→Prop),bnd ev d o L=bnd ev' d o L:=fun o ho d L=>bnd_congr fun y hy=>h y (ho y hy)
    have h1:=hb lo (fun y hy=>by simp[PO.xs] at hy ⊢;exact .inr (.inl hy))
    have h2:=hb hi (fun y hy=>by simp[PO.xs] at hy ⊢;exact .inr (.inr (.inl hy)))
    have h3:=hb mx (fun y hy=>by simp[PO.xs] at hy ⊢;exact .inr (.inr (.inr hy)))
    simp only[PO.sem,hx,h1,h2]
    cases mx with
    | none=>rfl
    | some m=>simp only[h3]
  | slcS x lo hi =>
    have hx:=h x (by simp[PO.xs])
    have h1 : ∀ d (L : Nat→Prop),bnd ev d lo L=bnd ev' d lo L:=fun d L=>bnd_congr fun y hy=>h y (by simp[PO.xs] at hy ⊢;exact .inr (.inl hy))
    have h2 : ∀ d (L : Nat→Prop),bnd ev d hi L=bnd ev' d hi L:=fun d L=>bnd_congr fun y hy=>h y (by simp[PO.xs] at hy ⊢;exact .inr (.inr hy))
    simp only[PO.sem,hx,h1,h2]
  | mkfn f a b =>
    have h1 : a.map ev=a.map ev':=List.map_congr_left fun x hx=>h x (by simp[PO.xs,hx])
    have h2 : b.map ev=b.map ev':=List.map_congr_left fun x hx=>h x (by simp[PO.xs,hx])
    simp only[PO.sem,h1,h2]
  | build zs ps=>simp only[PO.sem];exact fillA_congr h
  | _=>simp only[PO.xs,List.mem_cons,List.not_mem_nil,or_false,forall_eq_or_imp,forall_eq] at h;simp only[PO.sem,h]
theorem HO.sem_congr {P : Program} {ev ev' : X→AV} {H : AHeap} {K Kp : AV→AHeap→Prop} : ∀ {q : HO},(∀ x ∈ q.xs,ev x=ev' x)→HO.sem P ev H K Kp q=HO.sem P ev' H K Kp q:=by
  intro q h
  cases q with
  | bsl k ty z ln ps=>simp only[HO.sem];exact elsA_congr h
  | bslV k ty z ln ps=>simp only[HO.sem];exact elsA_congr h
  | call f as =>
    have h1 : as.map ev=as.map ev':=List.map_congr_left fun x hx=>h x hx
    simp only[HO.sem,h1]
  | gx g as =>
    have h1 : as.map ev=as.map ev':=List.map_congr_left fun x hx=>h x hx
    simp only[HO.sem,h1]
  | callv f as =>
    have h1 : as.map ev=as.map ev':=List.map_congr_left fun x hx=>h x (by simp[HO.xs,hx])
    have h2:=h f (by simp[HO.xs])
    simp only[HO.sem,h1,h2]
  | _=>simp only[HO.xs,List.mem_cons,List.not_mem_nil,or_false,forall_eq_or_imp,forall_eq] at h;simp only[HO.sem,h]
theorem bnd_ex {ev : X→AV} {d : Nat} {K : Nat→Prop} {o : Option X} (h : bnd ev d o K) : ∃ n,K n ∧ ∀ L : Nat→Prop,L n→bnd ev d o L:=by
  cases o with
  | none=>exact ⟨d,h,fun L h=>h⟩
  | some x =>
    simp only[bnd] at h ⊢
    split at h
    · rename_i k n he
      exact ⟨_,h.2,fun L hL=>⟨h.1,hL⟩⟩
    · exact h.elim
theorem fillA_ex {ev : X→AV} {K : List AV→Prop} : ∀ {ps : List (Nat × Nat × X)} {zs : List AV},fillA ev zs ps K→∃ cs,K cs ∧ ∀ L : List AV→Prop,L cs→fillA ev zs ps L
  | [],zs,h=>⟨zs,h,fun L h=>h⟩
  | (o,n,x) :: r,zs,h=>by
    obtain ⟨h1,h2⟩:=h
    obtain ⟨cs,h3,h4⟩:=fillA_ex h2
    exact ⟨cs,h3,fun L hL=>⟨h1,h4 L hL⟩⟩
theorem elsA_ex {ev : X→AV} {k : Nat} {K : List AV→Prop} : ∀ {ps : List (Nat × X)} {es : List AV},elsA ev k es ps K→∃ cs,K cs ∧ ∀ L : List AV→Prop,L cs→elsA ev k es ps L
  | [],zs,h=>⟨zs,h,fun L h=>h⟩
  | (o,x) :: r,zs,h=>by
    obtain ⟨h1,h2⟩:=h
    obtain ⟨cs,h3,h4⟩:=elsA_ex h2
    exact ⟨cs,h3,fun L hL=>⟨h1,h4 L hL⟩⟩
theorem PO.sem_ex {ev : X→AV} {K : AV→Prop} : ∀ {q : PO},PO.sem ev K q→∃ v,K v ∧ PO.sem ev (fun u=>u=v) q:=by
  intro q h
  cases q with
  | build zs ps =>
    obtain ⟨cs,h1,h2⟩:=fillA_ex h
    exact ⟨_,h1,h2 _ rfl⟩
  | pick c a b =>
    simp only[PO.sem] at h ⊢
    split at h
    · rename_i t _
      cases t with
      | true=>exact ⟨_,h.1 rfl,fun _=>rfl,fun h=>by simp at h⟩
      | false=>exact ⟨_,h.2 rfl,fun h=>by simp at h,fun _=>rfl⟩
    · exact h.elim
  | tass t z x =>
    simp only[PO.sem] at h ⊢
    split at h
    · rename_i u v _
      by_cases e : u=t
      · exact ⟨_,h.1 e,fun _=>rfl,fun h=>absurd e h⟩
      · exact ⟨_,h.2 e,fun h=>absurd h e,fun _=>rfl⟩
    · exact ⟨_,h,rfl⟩
    · exact h.elim
  | slcS x lo hi =>
    simp only[PO.sem] at h ⊢
    split at h
    · obtain ⟨n,h1,h2⟩:=bnd_ex h
      obtain ⟨m,h3,h4⟩:=bnd_ex h1
      exact ⟨_,h3.2,h2 _ (h4 _ ⟨h3.1,rfl⟩)⟩
    · exact h.elim
  | slc k x lo hi mx =>
    simp only[PO.sem] at h ⊢
    split at h
    · obtain ⟨h0,h⟩:=h
      split at h
      · obtain ⟨n0,h1,h2⟩:=bnd_ex h
        obtain ⟨n1,h3,h4⟩:=bnd_ex h1
        obtain ⟨n2,h5,h6⟩:=bnd_ex h3
        exact ⟨_,h5.2,h0,h2 _ (h4 _ (h6 _ ⟨h5.1,rfl⟩))⟩
      · split at h
        · obtain ⟨n1,h3,h4⟩:=bnd_ex h
          obtain ⟨n2,h5,h6⟩:=bnd_ex h3
          exact ⟨_,h5.2,h0,h4 _ (h6 _ ⟨h5.1,rfl⟩)⟩
        · obtain ⟨n1,h3,h4⟩:=bnd_ex h
          obtain ⟨n2,h5,h6⟩:=bnd_ex h3
          exact ⟨_,h5.2,h0,h4 _ (h6 _ ⟨h5.1,rfl⟩)⟩
    · obtain ⟨g1,g2,h⟩:=h
      obtain ⟨n1,h3,h4⟩:=bnd_ex h
      obtain ⟨n2,h5,h6⟩:=bnd_ex h3
      obtain ⟨h7,h8⟩:=h5
      split at h8
      · by_cases e : n2 < n1
        · exact ⟨_,h8.1 e,g1,g2,h4 _ (h6 _ ⟨h7,fun _=>rfl,fun h=>by omega⟩)⟩
        · exact ⟨_,h8.2 (by omega),g1,g2,h4 _ (h6 _ ⟨h7,fun h=>absurd h e,fun _=>rfl⟩)⟩
      · exact (Classical.em _).elim (fun e=>⟨_,h8.1 e,g1,g2,h4 _ (h6 _ ⟨h7,fun _=>rfl,fun h=>by omega⟩)⟩) (fun e=>⟨_,h8.2 (Nat.le_of_not_lt e),g1,g2,h4 _ (h6 _ ⟨h7,fun h=>absurd h e,fun _=>rfl⟩)⟩)
    · exact h.elim
  | bin op x y =>
    simp only[PO.sem] at h ⊢
    split at h
    · obtain ⟨r,h1,h2⟩:=h;exact ⟨_,h2,r,h1,rfl⟩
    · exact h.elim
  | shf op x y =>
    simp only[PO.sem] at h ⊢
    split at h
    · obtain ⟨r,h1,h2⟩:=h;exact ⟨_,h2,r,h1,rfl⟩
    · exact h.elim
  | un op x =>
    simp only[PO.sem] at h ⊢
    split at h
    · obtain ⟨r,h1,h2⟩:=h;exact ⟨_,h2,r,h1,rfl⟩
    · exact h.elim
  | idxA ln n ag x i =>
    simp only[PO.sem] at h ⊢
    split at h
    · exact ⟨_,h.2.2,h.1,h.2.1,rfl⟩
    · exact h.elim
  | _ =>
    simp only[PO.sem] at h ⊢
    first
      | exact ⟨_,h,rfl⟩
      | (split at h <;> first
          | exact h.elim
          | exact ⟨_,h,rfl⟩
          | exact ⟨_,h.2,h.1,rfl⟩)
end Go.Proofs.YtdjnccnecgblmaaGreatDoor
namespace Go.Proofs.YtdjnccnecgblmaaGreatDoor
open Go.RowKit
set_option linter.unusedVariables false
set_option linter.unusedSimpArgs false
def HO.isChain : HO→Bool
  | .store ..=>true
  | .app ..=>true
  | .gx ..=>true
  | .call ..=>true
  | .callv ..=>true
  | .pan _=>true
  | _=>false
def HO.isAlloc : HO→Bool
  | .alloc ..=>true
  | .box ..=>true
  | .bslV ..=>true
  | .mksl ..=>true
  | _=>false
def IOp.isChain : IOp→Bool
  | .h q=>q.isChain
  | _=>false
def IOp.isAlloc : IOp→Bool
  | .h q=>q.isAlloc
  | _=>false
def IOp.xs : IOp→List X
  | .p q=>q.xs
  | .h q=>q.xs
def anc (A : List (List Nat)) (i j : Nat) : Bool:=(A.getD i []).contains j
def uno (A : List (List Nat)) (i j : Nat) : Bool:=!anc A i j && !anc A j i
def lastB (A : List (List Nat)) (n i : Nat) : Bool:=(List.range n).all fun j=>decide (j ≤ i) || anc A j i
def HO.ldA (i : Nat) (H : AHeap) (ld : List (Nat × Nat)) : HO→List (Nat × Nat)
  | .alloc _ _=>(i,H.length) :: ld
  | .box _ _ _=>(i,H.length) :: ld
  | .bslV _ _ _ _ _=>(i,H.length) :: ld
  | .mksl _ _ _ _ _=>(i,H.length) :: ld
  | _=>ld
theorem HO.ldA_sub {i : Nat} {H : AHeap} {ld : List (Nat × Nat)} (q : HO) : ∀ l ∈ ld,l ∈ HO.ldA i H ld q:=by
  intro l hl
  cases q <;> simp only[HO.ldA] <;> first | exact hl | exact List.mem_cons_of_mem _ hl
theorem HO.ldA_new {i : Nat} {H : AHeap} {ld : List (Nat × Nat)} {q : HO} (h : q.isAlloc=true) : (i,H.length) ∈ HO.ldA i H ld q:=by
  cases q <;> simp[HO.ldA,HO.isAlloc] at h ⊢
def stepD (P : Program) (A : List (List Nat)) (n i : Nat) (ev : X→AV) (H : AHeap) (ld : List (Nat × Nat)) (hs : List (Nat × AHeap × AHeap)) (C : AV→AHeap→List (Nat × Nat)→List (Nat × AHeap × AHeap)→Prop) (Kp : AV→AHeap→Prop) : IOp→Prop
  | .p q=>PO.sem ev (fun v=>C v H ld hs) q
  | .h (.load m ag a)=>match ev a with
    | .ptr k id j f=>(∀ c ∈ hs,uno A c.1 i=true→id < c.2.1.length→AHeap.find c.2.2 id=AHeap.find c.2.1 id) ∧ HO.sem P ev H (fun v H'=>C v H' ((i,id) :: ld) hs) (fun _ _=>False) (.load m ag a)
    | _=>HO.sem P ev H (fun v H'=>C v H' ld hs) (fun _ _=>False) (.load m ag a)
  | .h q=>if q.isChain then HO.sem P ev H (fun v H'=>(∀ l ∈ ld,uno A l.1 i=true→AHeap.find H' l.2=AHeap.find H l.2) ∧ C v H' ld ((i,H,H') :: hs)) (fun v H'=>lastB A n i=true ∧ Kp v H') q
    else HO.sem P ev H (fun v H'=>C v H' (HO.ldA i H ld q) hs) (fun _ _=>False) q
def runD (P : Program) (A : List (List Nat)) (n : Nat) (K : List AV→AHeap→Prop) (Kp : AV→AHeap→Prop) : Nat→List IO'→List AV→AHeap→List (Nat × Nat)→List (Nat × AHeap × AHeap)→Prop
  | _,[],ts,H,_,_=>K ts H
  | i,o :: r,ts,H,ld,hs=>guardK ts (stepD P A n i (X.ev ts) H ld hs (fun v H' ld' hs'=>runD P A n K Kp (i+1) r (putT ts o.dst v) H' ld' hs') Kp o.op) (runD P A n K Kp (i+1) r (putT ts o.dst (.tup [])) H ld hs) o.guard
theorem lsOf_ex {H : AHeap} {k : Nat} {x : AV} {K : List AV→Prop} (h : lsOf H k x K) : ∃ ys,K ys ∧ ∀ L : List AV→Prop,L ys→lsOf H k x L:=by
  cases x <;> try exact False.elim h
  · exact ⟨_,h.2,fun L hL=>⟨h.1,hL⟩⟩
  · obtain ⟨blk,h1,h2,h3⟩:=h
    exact ⟨_,h3,fun L hL=>⟨blk,h1,h2,hL⟩⟩
theorem HO.sem_ex {P : Program} {ev : X→AV} {H : AHeap} {K Kp : AV→AHeap→Prop} : ∀ {q : HO},HO.sem P ev H K Kp q →
    (∃ v H',K v H' ∧ HO.sem P ev H (fun v' H''=>v'=v ∧ H''=H') (fun _ _=>False) q) ∨ (q.isChain=true ∧ ∃ v H',Kp v H' ∧ HO.sem P ev H (fun _ _=>False) (fun v' H''=>v'=v ∧ H''=H') q):=by
  intro q h
  cases q with
  | load n ag a =>
    simp only[HO.sem] at h ⊢
    left
    split at h
    · obtain ⟨blk,e,h1,h2,h3,h4⟩:=h;exact ⟨_,_,h4,blk,e,h1,h2,h3,rfl,rfl⟩
    · exact ⟨_,_,h.2,h.1,rfl,rfl⟩
    · exact h.elim
  | alloc z ty=>exact .inl ⟨_,_,h,rfl,rfl⟩
  | box k ty x=>exact .inl ⟨_,_,h.2,h.1,rfl,rfl⟩
  | bsl k ty z ln ps =>
    obtain ⟨cs,h1,h2⟩:=elsA_ex h
    exact .inl ⟨_,_,h1,h2 _ ⟨rfl,rfl⟩⟩
  | bslV k ty z ln ps =>
    obtain ⟨cs,h1,h2⟩:=elsA_ex h
    exact .inl ⟨_,_,h1,h2 _ ⟨rfl,rfl⟩⟩
  | store n a x =>
    simp only[HO.sem] at h ⊢
    left
    split at h
    · obtain ⟨blk,e,h1,h2,h3,h4⟩:=h;exact ⟨_,_,h4,blk,e,h1,h2,h3,rfl,rfl⟩
    · exact h.elim
  | mksl k ty z l c =>
    simp only[HO.sem] at h ⊢
    left
    split at h
    · exact ⟨_,_,h.2,h.1,rfl,rfl⟩
    · exact h.elim
  | gx g xs=>exact .inl ⟨_,_,h.2,h.1,rfl,rfl⟩
  | itr kd x=>exact h.elim
  | app k ty s x =>
    simp only[HO.sem] at h ⊢
    left
    obtain ⟨ys,h,hL⟩:=lsOf_ex h
    split at h
    · obtain ⟨h1,h2,h3⟩:=h
      by_cases e : ys=[]
      · exact ⟨_,_,h2 e,hL _ ⟨h1,fun _=>⟨rfl,rfl⟩,fun h=>absurd e h⟩⟩
      · exact ⟨_,_,h3 e,hL _ ⟨h1,fun h=>absurd h e,fun _=>⟨rfl,rfl⟩⟩⟩
    · rename_i k' id off n c _
      obtain ⟨blk,h1,h2,h3⟩:=h
      cases c with
      | none=>exact ⟨_,_,h3.2,hL _ ⟨blk,h1,h2,h3.1,rfl,rfl⟩⟩
      | some m =>
        obtain ⟨h4,h5,h6⟩:=h3
        by_cases e : n+ys.length ≤ m
        · exact ⟨_,_,h5 e,hL _ ⟨blk,h1,h2,h4,fun _=>⟨rfl,rfl⟩,fun h=>by omega⟩⟩
        · exact ⟨_,_,h6 (by omega),hL _ ⟨blk,h1,h2,h4,fun h=>absurd h e,fun _=>⟨rfl,rfl⟩⟩⟩
    · exact h.elim
  | call f as =>
    obtain ⟨e,H',h1,h2⟩:=h
    cases e with
    | ret v=>exact .inl ⟨v,H',h2,_,_,h1,rfl,rfl⟩
    | pan v=>exact .inr ⟨rfl,v,H',h2,_,_,h1,rfl,rfl⟩
  | callv f as =>
    simp only[HO.sem] at h ⊢
    split at h
    · obtain ⟨h0,e,H',h1,h2⟩:=h
      cases e with
      | ret v=>exact .inl ⟨v,H',h2,h0,_,_,h1,rfl,rfl⟩
      | pan v=>exact .inr ⟨rfl,v,H',h2,h0,_,_,h1,rfl,rfl⟩
    · exact h.elim
  | pan x =>
    simp only[HO.sem] at h ⊢
    right
    split at h
    · exact ⟨rfl,_,_,h,rfl,rfl⟩
    · exact h.elim
def StepOK (P : Program) (o : IO') (ts : List AV) (H : AHeap) (v : AV) (H' : AHeap) : Prop :=
  (guardK ts True False o.guard ∧ opK P (X.ev ts) H (fun v' H''=>v'=v ∧ H''=H') (fun _ _=>False) o.op) ∨ (guardK ts False True o.guard ∧ v = .tup [] ∧ H'=H)
def PanAt (P : Program) (o : IO') (ts : List AV) (H : AHeap) (v : AV) (H' : AHeap) : Prop :=
  guardK ts True False o.guard ∧ o.op.isChain=true ∧ opK P (X.ev ts) H (fun _ _=>False) (fun v' H''=>v'=v ∧ H''=H') o.op
def LoadOf (o : IO') (ts : List AV) (id : Nat) : Prop:=∃ m ag a k j f,o.op = .h (.load m ag a) ∧ X.ev ts a = .ptr k id j f
structure Road (P : Program) (A : List (List Nat)) (n : Nat) (K : List AV→AHeap→Prop) (Kp : AV→AHeap→Prop) (i : Nat) (r : List IO') (ld : List (Nat × Nat)) (hs : List (Nat × AHeap × AHeap)) (N : Nat) (vs : Nat→AV) (Hs : Nat→AHeap) (fs : Nat→List AV) : Prop where
  lo : i ≤ N
  hi : N ≤ i+r.length
  step : ∀ m o,i ≤ m→m < N→r[m - i]? = some o→fs (m+1)=putT (fs m) o.dst (vs m) ∧ StepOK P o (fs m) (Hs m) (vs m) (Hs (m+1))
  ldc : ∀ l ∈ ld,∀ c o,i ≤ c→c < N→r[c - i]? = some o→o.op.isChain=true→uno A l.1 c=true→AHeap.find (Hs (c+1)) l.2=AHeap.find (Hs c) l.2
  hsc : ∀ c ∈ hs,∀ m o id,i ≤ m→m < N→r[m - i]? = some o→LoadOf o (fs m) id→guardK (fs m) True False o.guard→uno A c.1 m=true→id < c.2.1.length→AHeap.find c.2.2 id=AHeap.find c.2.1 id
  both : ∀ m o id c o',i ≤ m→m < N→i ≤ c→c < N→r[m - i]? = some o→LoadOf o (fs m) id→guardK (fs m) True False o.guard→r[c - i]? = some o'→o'.op.isChain=true→uno A m c=true→uno A c m=true→id < (Hs c).length→AHeap.find (Hs (c+1)) id=AHeap.find (Hs c) id
  allc : ∀ m o c o',i ≤ m→m < c→c < N→r[m - i]? = some o→o.op.isAlloc=true→guardK (fs m) True False o.guard→r[c - i]? = some o'→o'.op.isChain=true→uno A m c=true→AHeap.find (Hs (c+1)) (Hs m).length=AHeap.find (Hs c) (Hs m).length
  fin : (N=i+r.length ∧ K (fs N) (Hs N)) ∨ ∃ o v H',r[N - i]? = some o ∧ PanAt P o (fs N) (Hs N) v H' ∧ lastB A n N=true ∧ Kp v H'
theorem guardK_cases {ts : List AV} {yes no : Prop} : ∀ {g : Option (Nat × Bool)},guardK ts yes no g→(guardK ts True False g ∧ yes) ∨ (guardK ts False True g ∧ no)
  | none,h=>.inl ⟨trivial,h⟩
  | some (d,want),h=>by
    simp only[guardK] at h ⊢
    split at h
    · rename_i b _
      by_cases e : b=want
      · exact .inl ⟨⟨fun _=>trivial,fun h=>absurd e h⟩,h.1 e⟩
      · exact .inr ⟨⟨fun h=>absurd h e,fun _=>trivial⟩,h.2 e⟩
    · exact .inr ⟨trivial,h⟩
    · exact h.elim
theorem uno_comm (A : List (List Nat)) (i j : Nat) : uno A i j=uno A j i:=by unfold uno;rw[Bool.and_comm]
theorem Road.cons {P : Program} {A : List (List Nat)} {n : Nat} {K : List AV→AHeap→Prop} {Kp : AV→AHeap→Prop} {i : Nat} {o : IO'} {r : List IO'} {ld ld' : List (Nat × Nat)} {hs hs' : List (Nat × AHeap × AHeap)} {ts : List AV} {H : AHeap} {v : AV} {H' : AHeap}
    (hst : StepOK P o ts H v H') {N : Nat} {vs : Nat→AV} {Hs : Nat→AHeap} {fs : Nat→List AV} (hrd : Road P A n K Kp (i+1) r ld' hs' N vs Hs fs) (hf : fs (i+1)=putT ts o.dst v) (hH : Hs (i+1)=H')
    (hld : ∀ l ∈ ld,l ∈ ld' ∧ (o.op.isChain=true→uno A l.1 i=true→AHeap.find H' l.2=AHeap.find H l.2))
    (hhs : ∀ c ∈ hs,c ∈ hs' ∧ ∀ id,LoadOf o ts id→guardK ts True False o.guard→uno A c.1 i=true→id < c.2.1.length→AHeap.find c.2.2 id=AHeap.find c.2.1 id)
    (hnew : ∀ id,LoadOf o ts id→guardK ts True False o.guard→(i,id) ∈ ld') (hch : o.op.isChain=true→(i,H,H') ∈ hs' ∨ (H'=H)) (hnewA : o.op.isAlloc=true→guardK ts True False o.guard→(i,H.length) ∈ ld') :
    ∃ vs2 Hs2 fs2,Road P A n K Kp i (o :: r) ld hs N vs2 Hs2 fs2 ∧ Hs2 i=H ∧ fs2 i=ts:=by
  have hlo:=hrd.lo
  have hget : ∀ m,i+1 ≤ m→(o :: r)[m - i]? = r[m - (i+1)]?:=fun m hm=>by
    rw[show m - i=(m - (i+1))+1 from by omega]
    simp
  have hat : ∀ o',(o :: r)[i - i]? = some o'→o'=o:=fun o' h=>by simpa using h.symm
  refine ⟨fun m=>if m=i then v else vs m,fun m=>if m=i then H else Hs m,fun m=>if m=i then ts else fs m,?_,by simp,by simp⟩
  have e1 : ∀ {α : Type} (x y : α) m,i+1 ≤ m→(if m=i then x else y)=y:=fun x y m hm=>by rw[if_neg (by omega)]
  refine ⟨by omega,by have:=hrd.hi;simp;omega,?_,?_,?_,?_,?_,?_⟩
  · intro m o' hm hmN ho'
    by_cases e : m=i
    · subst e
      cases hat o' ho'
      simp only[if_true]
      rw[if_neg (by omega),if_neg (by omega),hf,hH]
      exact ⟨rfl,hst⟩
    · rw[hget m (by omega)] at ho'
      have:=hrd.step m o' (by omega) hmN ho'
      rw[if_neg e,if_neg e,if_neg e,if_neg (by omega),if_neg (by omega)]
      exact this
  · intro l hl c o' hc hcN ho' hch' hu
    by_cases e : c=i
    · subst e
      cases hat o' ho'
      simp only[if_true]
      rw[if_neg (by omega),hH]
      exact (hld l hl).2 hch' hu
    · rw[hget c (by omega)] at ho'
      rw[if_neg e,if_neg (by omega)]
      exact hrd.ldc l (hld l hl).1 c o' (by omega) hcN ho' hch' hu
  · intro c hc m o' id hm hmN ho' hl hg hu hid
    by_cases e : m=i
    · subst e
      cases hat o' ho'
      simp only[if_true] at hl hg
      exact (hhs c hc).2 id hl hg hu hid
    · rw[hget m (by omega)] at ho'
      simp only[if_neg e] at hl hg
      exact hrd.hsc c (hhs c hc).1 m o' id (by omega) hmN ho' hl hg hu hid
  · intro m o1 id c o2 hm hmN hc hcN ho1 hl hg ho2 hch' hu hu' hid
    by_cases e : m=i
    · subst e
      cases hat o1 ho1
      simp only[if_true] at hl hg
      by_cases e2 : c=m
      · subst e2
        cases hat o2 ho2
        obtain ⟨_,_,_,_,_,_,hop,_⟩:=hl
        rw[hop] at hch'
        simp[IOp.isChain,HO.isChain] at hch'
      · rw[hget c (by omega)] at ho2
        simp only[if_neg e2] at hid ⊢
        rw[if_neg (by omega)]
        exact hrd.ldc (m,id) (hnew id hl hg) c o2 (by omega) hcN ho2 hch' hu
    · by_cases e2 : c=i
      · subst e2
        cases hat o2 ho2
        rw[hget m (by omega)] at ho1
        simp only[if_neg e] at hl hg
        simp only[if_true] at hid ⊢
        rw[if_neg (by omega),hH]
        rcases hch hch' with h1 | h1
        · exact hrd.hsc (c,H,H') h1 m o1 id (by omega) hmN ho1 hl hg hu' hid
        · rw[h1]
      · rw[hget m (by omega)] at ho1
        rw[hget c (by omega)] at ho2
        simp only[if_neg e] at hl hg
        simp only[if_neg e2] at hid ⊢
        rw[if_neg (by omega)]
        exact hrd.both m o1 id c o2 (by omega) hmN (by omega) hcN ho1 hl hg ho2 hch' hu hu' hid
  · intro m o1 c o2 hm hmc hcN ho1 hal hg ho2 hch' hu
    rw[hget c (by omega)] at ho2
    by_cases e : m=i
    · subst e
      cases hat o1 ho1
      simp only[if_true] at hg
      simp only[if_true]
      rw[if_neg (by omega),if_neg (by omega)]
      exact hrd.ldc (m,H.length) (hnewA hal hg) c o2 (by omega) hcN ho2 hch' hu
    · rw[hget m (by omega)] at ho1
      simp only[if_neg e] at hg
      simp only[if_neg e]
      rw[if_neg (by omega),if_neg (by omega)]
      exact hrd.allc m o1 c o2 (by omega) hmc hcN ho1 hal hg ho2 hch' hu
  · have e2 : N ≠ i:=by omega
    simp only[if_neg e2]
    rcases hrd.fin with ⟨h1,h2⟩ | ⟨o',v',H2,h1,h2⟩
    · exact .inl ⟨by rw[h1];simp;omega,h2⟩
    · exact .inr ⟨o',v',H2,by rw[hget N (by omega)];exact h1,h2⟩
theorem runD_road {P : Program} {A : List (List Nat)} {n : Nat} {K : List AV→AHeap→Prop} {Kp : AV→AHeap→Prop} : ∀ (r : List IO') (i : Nat) (ts : List AV) (H : AHeap) (ld : List (Nat × Nat)) (hs : List (Nat × AHeap × AHeap)),runD P A n K Kp i r ts H ld hs →
    ∃ N vs Hs fs,Road P A n K Kp i r ld hs N vs Hs fs ∧ Hs i=H ∧ fs i=ts
  | [],i,ts,H,ld,hs,h=>by
    refine ⟨i,fun _=>.top,fun _=>H,fun _=>ts,⟨Nat.le_refl _,by simp,fun m o h1 h2=>by omega,fun l _ c o h1 h2=>by omega,fun c _ m o id h1 h2=>by omega,fun m o id c o' h1 h2=>by omega,fun m o c o' h1 h2 h3=>by omega,.inl ⟨by simp,h⟩⟩,rfl,rfl⟩
  | o :: r,i,ts,H,ld,hs,h=>by
    simp only[runD] at h
    rcases guardK_cases h with ⟨hg,hy⟩ | ⟨hg,hn⟩
    case inr =>
      obtain ⟨N,vs,Hs,fs,h1,h2,h3⟩:=runD_road r (i+1) _ _ _ _ hn
      have hgno : ¬ guardK ts True False o.guard:=by
        intro hc
        cases hgo : o.guard with
        | none=>rw[hgo] at hg;exact hg
        | some dw =>
          obtain ⟨d,want⟩:=dw
          rw[hgo] at hg hc
          simp only[guardK] at hg hc
          split at hg
          · rename_i b he
            rw[he] at hc
            by_cases e : b=want
            · exact hg.1 e
            · exact hc.2 e
          · rename_i _ he
            rw[he] at hc
            exact hc
          · exact hg
      have hst : StepOK P o ts H (.tup []) H:=.inr ⟨hg,rfl,rfl⟩
      obtain ⟨a,b,c,k⟩:=Road.cons hst h1 h3 h2 (fun l hl=>⟨hl,fun _ _=>rfl⟩) (fun c hc=>⟨hc,fun id _ hgg=>absurd hgg hgno⟩) (fun id _ hgg=>absurd hgg hgno) (fun _=>.inr rfl) (fun _ hgg=>absurd hgg hgno)
      exact ⟨N,a,b,c,k⟩
    case inl =>
      have plain : ∀ (v : AV) (H' : AHeap) (ld' : List (Nat × Nat)),(∀ l ∈ ld,l ∈ ld')→(o.op.isAlloc=true→(i,H.length) ∈ ld')→opK P (X.ev ts) H (fun v' H''=>v'=v ∧ H''=H') (fun _ _=>False) o.op→runD P A n K Kp (i+1) r (putT ts o.dst v) H' ld' hs→(∀ id,¬ LoadOf o ts id)→o.op.isChain=false→∃ N vs Hs fs,Road P A n K Kp i (o :: r) ld hs N vs Hs fs ∧ Hs i=H ∧ fs i=ts:=by
        intro v H' ld' hsub hnA h1 h2 h3 h4
        obtain ⟨N,vs,Hs,fs,k1,k2,k3⟩:=runD_road r (i+1) _ _ _ _ h2
        have hst : StepOK P o ts H v H':=.inl ⟨hg,h1⟩
        obtain ⟨a,b,c,k⟩:=Road.cons hst k1 k3 k2 (fun l hl=>⟨hsub l hl,fun h=>by rw[h4] at h;simp at h⟩) (fun c hc=>⟨hc,fun id hl=>absurd hl (h3 id)⟩) (fun id hl=>absurd hl (h3 id)) (fun h=>by rw[h4] at h;simp at h) (fun h _=>hnA h)
        exact ⟨N,a,b,c,k⟩
      cases hop : o.op with
      | p q =>
        rw[hop] at hy
        obtain ⟨v,h1,h2⟩:=PO.sem_ex (show PO.sem (X.ev ts) (fun v=>runD P A n K Kp (i+1) r (putT ts o.dst v) H ld hs) q from hy)
        have h2' : opK P (X.ev ts) H (fun v' H''=>v'=v ∧ H''=H) (fun _ _=>False) o.op:=by
          rw[hop]
          show PO.sem (X.ev ts) (fun u=>u=v ∧ H=H) q
          have e : (fun u=>u=v ∧ H=H)=fun u=>u=v:=by funext u;simp
          rw[e]
          exact h2
        exact plain v H ld (fun _ h=>h) (fun h=>by rw[hop] at h;simp[IOp.isAlloc] at h) h2' h1 (fun id hl=>by obtain ⟨_,_,_,_,_,_,e,_⟩:=hl;rw[hop] at e;cases e) (by rw[hop];rfl)
      | h q =>
        rw[hop] at hy
        by_cases hload : ∃ m ag a,q = .load m ag a
        · obtain ⟨m,ag,a,rfl⟩:=hload
          simp only[stepD] at hy
          split at hy
          · rename_i k id j f he
            obtain ⟨hc,hy⟩:=hy
            rcases HO.sem_ex hy with ⟨v,H',h1,h2⟩ | ⟨h0,_⟩
            · obtain ⟨N,vs,Hs,fs,k1,k2,k3⟩:=runD_road r (i+1) _ _ _ _ h1
              have hst : StepOK P o ts H v H':=.inl ⟨hg,by rw[hop];exact h2⟩
              have hone : ∀ id',LoadOf o ts id'→id'=id:=by
                rintro id' ⟨_,_,a',_,_,_,e1,e2⟩
                rw[hop] at e1
                cases e1
                rw[he] at e2
                cases e2
                rfl
              have hnc : o.op.isChain=false:=by rw[hop];rfl
              obtain ⟨a,b,c,k⟩:=Road.cons hst k1 k3 k2 (fun l hl=>⟨List.mem_cons_of_mem _ hl,fun h=>by rw[hnc] at h;simp at h⟩) (fun c hc'=>⟨hc',fun id' hl _ hu hid=>by
                cases hone id' hl;exact hc c hc' hu hid⟩) (fun id' hl _=>by cases hone id' hl;simp) (fun h=>by rw[hnc] at h;simp at h) (fun h=>by rw[hop] at h;simp[IOp.isAlloc,HO.isAlloc] at h)
              exact ⟨N,a,b,c,k⟩
            · simp[HO.isChain] at h0
          · rename_i hne
            rcases HO.sem_ex hy with ⟨v,H',h1,h2⟩ | ⟨h0,_⟩
            · exact plain v H' ld (fun _ h=>h) (fun h=>by rw[hop] at h;simp[IOp.isAlloc,HO.isAlloc] at h) (by rw[hop];exact h2) h1 (fun id hl=>by
                obtain ⟨_,_,a',k,j,f,e1,e2⟩:=hl
                rw[hop] at e1
                cases e1
                exact hne _ _ _ _ e2) (by rw[hop];rfl)
            · simp[HO.isChain] at h0
        · have hnl : ∀ id,¬ LoadOf o ts id:=by
            rintro id ⟨m,ag,a,_,_,_,e1,_⟩
            rw[hop] at e1
            cases e1
            exact hload ⟨_,_,_,rfl⟩
          have hy' : if q.isChain then HO.sem P (X.ev ts) H (fun v H'=>(∀ l ∈ ld,uno A l.1 i=true→AHeap.find H' l.2=AHeap.find H l.2) ∧ runD P A n K Kp (i+1) r (putT ts o.dst v) H' ld ((i,H,H') :: hs)) (fun v H'=>lastB A n i=true ∧ Kp v H') q
              else HO.sem P (X.ev ts) H (fun v H'=>runD P A n K Kp (i+1) r (putT ts o.dst v) H' (HO.ldA i H ld q) hs) (fun _ _=>False) q:=by
            cases q <;> first | exact hy | exact absurd ⟨_,_,_,rfl⟩ hload
          cases hcn : q.isChain with
          | false =>
            rw[hcn] at hy'
            simp only[Bool.false_eq_true,if_false] at hy'
            rcases HO.sem_ex hy' with ⟨v,H',h1,h2⟩ | ⟨h0,_⟩
            · exact plain v H' _ (HO.ldA_sub q) (fun h=>HO.ldA_new (by rw[hop] at h;exact h)) (by rw[hop];exact h2) h1 hnl (by rw[hop];exact hcn)
            · rw[hcn] at h0;simp at h0
          | true =>
            rw[hcn] at hy'
            simp only[if_true] at hy'
            have hch : o.op.isChain=true:=by rw[hop];exact hcn
            rcases HO.sem_ex hy' with ⟨v,H',⟨h0,h1⟩,h2⟩ | ⟨_,v,H',⟨h0,h1⟩,h2⟩
            · obtain ⟨N,vs,Hs,fs,k1,k2,k3⟩:=runD_road r (i+1) _ _ _ _ h1
              have hst : StepOK P o ts H v H':=.inl ⟨hg,by rw[hop];exact h2⟩
              obtain ⟨a,b,c,k⟩:=Road.cons hst k1 k3 k2 (fun l hl=>⟨hl,fun _ hu=>h0 l hl hu⟩) (fun c hc=>⟨List.mem_cons_of_mem _ hc,fun id hl=>absurd hl (hnl id)⟩) (fun id hl=>absurd hl (hnl id)) (fun _=>.inl (by simp)) (fun h=>by
                rw[hop] at h
                cases q <;> simp[IOp.isAlloc,HO.isAlloc,HO.isChain] at h hcn)
              exact ⟨N,a,b,c,k⟩
            · refine ⟨i,fun _=>.top,fun _=>H,fun _=>ts,⟨Nat.le_refl _,by simp,fun m o h1 h2=>by omega,fun l _ c o h1 h2=>by omega,fun c _ m o id h1 h2=>by omega,fun m o id c o' h1 h2=>by omega,fun m o c o' h1 h2 h3=>by omega,.inr ⟨o,v,H',by simp,⟨hg,hch,by rw[hop];exact h2⟩,h0,h1⟩⟩,rfl,rfl⟩
end Go.Proofs.YtdjnccnecgblmaaGreatDoor
namespace Go.Proofs.YtdjnccnecgblmaaGreatDoor
open Go.RowKit
set_option linter.unusedVariables false
set_option linter.unusedSimpArgs false
def xTmp : X→Option Nat
  | .t n=>some n
  | .k _=>none
def opTmps (o : IO') : List Nat:=o.op.xs.filterMap xTmp ++ (o.guard.map (·.1)).toList
def okD (l : List IO') (A : List (List Nat)) : Bool:=l.zipIdx.all fun (o,i) =>
  (A.getD i []).all (fun j=>decide (j < i)) &&
  l.zipIdx.all fun (o',j) =>
    (o'.dst == none || j == i || o'.dst != o.dst) &&
    (match o'.dst with | some d=>!(opTmps o).contains d || (anc A i j || anc A j i) | none=>true) &&
    (!(decide (j < i) && ((o.op.isChain && o'.op.isChain) || (o.op.isAlloc && o'.op.isChain))) || anc A i j)
def okE (ops : Array Oper) (A : List (List Nat)) : Bool:=ops.toList.zipIdx.all fun (o,i) =>
  (A.getD i []).all (fun j=>o.after.toList.any fun e=>Region.binds .any e && (e.on == j || anc A e.on j)) &&
  o.after.toList.all fun e=>decide (e.on < i) || !Region.binds .any e
def ancsOf (ops : Array Oper) : List (List Nat):=ops.toList.foldl (fun A o=>A ++ [((o.after.toList.filter (Region.binds .any)).flatMap fun e=>e.on :: A.getD e.on []).eraseDups]) []
def blankT (l : List IO') (ts : List AV) : List AV:=l.foldl (fun ts o=>putT ts o.dst .top) ts
section
variable {P : Program}
theorem okD_spec {l : List IO'} {A : List (List Nat)} (h : okD l A=true) {i j : Nat} {o o' : IO'} (ho : l[i]? = some o) (ho' : l[j]? = some o') :
    (∀ k,anc A i k=true→k < i) ∧ (∀ d,o'.dst=some d→o.dst=some d→j=i) ∧ (∀ d,o'.dst=some d→d ∈ opTmps o→anc A i j=true ∨ anc A j i=true) ∧
    (j < i→(o.op.isChain=true ∧ o'.op.isChain=true ∨ o.op.isAlloc=true ∧ o'.op.isChain=true)→anc A i j=true):=by
  unfold okD at h
  rw[List.all_eq_true] at h
  have h1:=h (o,i) (List.mem_zipIdx_iff_getElem?.2 ho)
  simp only[Bool.and_eq_true] at h1
  have h2:=List.all_eq_true.1 h1.2 (o',j) (List.mem_zipIdx_iff_getElem?.2 ho')
  simp only[Bool.and_eq_true] at h2
  refine ⟨fun k hk=>?_,fun d e1 e2=>?_,fun d e1 e2=>?_,fun hlt hc=>?_⟩
  · have:=List.all_eq_true.1 h1.1 k (by unfold anc at hk;simpa using hk)
    simpa using this
  · have h3:=h2.1.1
    rw[e1,e2] at h3
    simpa using h3
  · have h3:=h2.1.2
    rw[e1] at h3
    simp only[Bool.or_eq_true,Bool.not_eq_true'] at h3
    rcases h3 with h3 | h3
    · have : (opTmps o).contains d=true:=by simpa using e2
      rw[this] at h3
      simp at h3
    · exact h3
  · have h3:=h2.2
    simp only[Bool.or_eq_true,Bool.not_eq_true',Bool.and_eq_false_iff] at h3
    rcases h3 with h3 | h3
    · rcases h3 with h3 | h3
      · simp at h3;omega
      · rcases hc with ⟨c1,c2⟩ | ⟨c1,c2⟩
        · simp[c1,c2] at h3
        · simp[c1,c2] at h3
    · exact h3
theorem okE_spec {ops : Array Oper} {A : List (List Nat)} (h : okE ops A=true) {listed : Array Bool} (hcl : ∀ (j : Nat) (o : Oper),ops[j]? = some o→listed.getD j false=true→∀ e ∈ o.after.toList,Region.binds .any e=true→listed.getD e.on false=true) :
    ∀ (n i : Nat) (o : Oper),i < n→ops[i]? = some o→(∀ e ∈ o.after.toList,Region.binds .any e=true→listed.getD e.on false=true)→∀ j,anc A i j=true→listed.getD j false=true:=by
  unfold okE at h
  rw[List.all_eq_true] at h
  intro n
  induction n with
  | zero=>intro i o hi;omega
  | succ n ih =>
    intro i o hi ho hr j hj
    have h1:=h (o,i) (by rw[List.mem_zipIdx_iff_getElem?];simpa using ho)
    simp only[Bool.and_eq_true] at h1
    have h2:=List.all_eq_true.1 h1.1 j (by unfold anc at hj;simpa using hj)
    rw[List.any_eq_true] at h2
    obtain ⟨e,he,h3⟩:=h2
    simp only[Bool.and_eq_true,Bool.or_eq_true,beq_iff_eq] at h3
    have hl:=hr e he h3.1
    rcases h3.2 with h4 | h4
    · rw[← h4];exact hl
    · have h5:=List.all_eq_true.1 h1.2 e he
      rw[h3.1] at h5
      simp at h5
      have : e.on < ops.size:=by have:=(Array.getElem?_eq_some_iff.1 ho).1;omega
      exact ih e.on ops[e.on] (by omega) (by simp[this]) (hcl e.on _ (by simp[this]) hl) j h4
theorem okE_back {ops : Array Oper} {A : List (List Nat)} (h : okE ops A=true) {i : Nat} {o : Oper} (ho : ops[i]? = some o) : ∀ e ∈ o.after.toList,Region.binds .any e=true→e.on < i:=by
  unfold okE at h
  rw[List.all_eq_true] at h
  have h1:=h (o,i) (by rw[List.mem_zipIdx_iff_getElem?];simpa using ho)
  simp only[Bool.and_eq_true] at h1
  intro e he hb
  have h5:=List.all_eq_true.1 h1.2 e he
  rw[hb] at h5
  simpa using h5
theorem all_listed {ops : Array Oper} {A : List (List Nat)} (h : okE ops A=true) {listed : Array Bool} (hsz : listed.size=ops.size) (hr : Region.ready .any ops listed=[]) : ∀ n i,i < n→i < ops.size→listed.getD i false=true:=by
  intro n
  induction n with
  | zero=>intro i hi;omega
  | succ n ih =>
    intro i hi hil
    by_cases hin : i < n
    · exact ih i hin hil
    · have hin' : i=n:=by omega
      subst hin'
      apply Classical.byContradiction
      intro hno
      have : i ∈ Region.ready .any ops listed:=by
        unfold Region.ready
        simp only[List.mem_filter,List.mem_range,Bool.and_eq_true,Bool.not_eq_true']
        refine ⟨hil,?_,?_⟩
        · have h1 : i < listed.size:=by omega
          simp[Array.getD,h1] at hno ⊢
          exact hno
        · have ho : ops[i]? = some ops[i]:=by simp[hil]
          rw[ho]
          simp only[Option.map_some,Option.getD_some,Array.all_eq_true_iff_forall_mem]
          intro e he
          cases hb : Region.binds .any e with
          | false=>simp
          | true =>
            have hlt:=okE_back h ho e (by simpa using he) hb
            simp[ih e.on hlt (by omega)]
      rw[hr] at this
      simp at this
def Ext (H H' : AHeap) : Prop:=H.length ≤ H'.length ∧ ∀ id,id < H.length→AHeap.find H' id=AHeap.find H id
theorem Ext.refl (H : AHeap) : Ext H H:=⟨Nat.le_refl _,fun _ _=>rfl⟩
theorem Ext.trans {G H K : AHeap} (h : Ext G H) (k : Ext H K) : Ext G K:=⟨Nat.le_trans h.1 k.1,fun id hid=>(k.2 id (Nat.lt_of_lt_of_le hid h.1)).trans (h.2 id hid)⟩
theorem Ext.cons (H : AHeap) (b : Option ABlk) : Ext H (b :: H):=⟨by simp,fun id hid=>AHeap.find_cons hid⟩
theorem Rel.ext {φ : Phi} {H H' : AHeap} {w : World} (h : Rel φ H w) (he : Ext H H') : Rel φ H' w ∧ Step φ H w φ H' w:=by
  have hown : ∀ b,Own φ H' b ↔ Own φ H b:=by
    intro b
    constructor
    · rintro ⟨i,k,h1,h2⟩
      rw[he.2 i (h.dom i b h1).1] at h2
      exact ⟨i,k,h1,h2⟩
    · rintro ⟨i,k,h1,h2⟩
      exact ⟨i,k,h1,by rw[he.2 i (h.dom i b h1).1];exact h2⟩
  have hl : Later (fun _=>True) φ φ (Own φ H) (Own φ H') w w:=⟨fun _ _ _ h=>h,Nat.le_refl _,fun b _ ho ho'=>ho ((hown b).1 ho'),fun _ _ _=>rfl,fun _ _=>rfl⟩
  refine ⟨⟨h.glob.later hl,fun i b hi=>⟨Nat.lt_of_lt_of_le (h.dom i b hi).1 he.1,(h.dom i b hi).2⟩,fun i j b hi hj hfi hfj=>?_,fun i b k h1 h2=>?_⟩,⟨hl,rfl,rfl,rfl,he.1,fun _ _=>rfl⟩⟩
  · rw[he.2 i (h.dom i b hi).1] at hfi
    rw[he.2 j (h.dom j b hj).1] at hfj
    exact h.inj i j b hi hj hfi hfj
  · rw[he.2 i (h.dom i b h1).1] at h2
    exact (h.blk i b k h1 h2).on hl rfl
theorem Rel.allocAt {φ : Phi} {T : AHeap} {w : World} (h : Rel φ T w) {id : Nat} {blk : ABlk} (hid : φ id=none) (hf : AHeap.find T id=some blk) (hk0 : 0 < blk.k) (cur : Array Value) (cap : Nat) (hsz : cur.size=cap * blk.k)
    (hcap : blk.es.length ≤ cap) (hex : blk.exact=true→cap=blk.es.length) (hm : cap ≤ maxLen) (hk : ∀ x ∈ blk.es,x.ncells=blk.k) (hr : Rs φ (Own φ T) w (flat blk.es) (fun i=>cur[i]?)) :
    Rel (φ.add id w.heap.size) T (w.alloc (.cells cur blk.ty)) ∧ Later (fun _=>True) φ (φ.add id w.heap.size) (Own φ T) (Own (φ.add id w.heap.size) T) w (w.alloc (.cells cur blk.ty)):=by
  have hold : ∀ b,b < w.heap.size→(w.alloc (.cells cur blk.ty)).heap[b]? = w.heap[b]?:=fun b hb=>heap_alloc_old w _ hb
  have hsize : w.heap.size ≤ (w.alloc (.cells cur blk.ty)).heap.size:=by simp
  have hmap : ∀ i b,φ i=some b→i ≠ id:=fun i b hi e=>by rw[e,hid] at hi;simp at hi
  have hl2 : Later (fun _=>True) φ (φ.add id w.heap.size) (Own φ T) (Own (φ.add id w.heap.size) T) w (w.alloc (.cells cur blk.ty)):=by
    refine ⟨fun i b _ hm'=>?_,hsize,fun b hb ho ho'=>?_,fun b hb _=>hold b hb,fun b hb=>by unfold World.shape?;rw[hold b hb]⟩
    · unfold Phi.add
      rw[if_neg (hmap i b hm')]
      exact hm'
    · obtain ⟨i,k,h1,h2⟩:=ho'
      unfold Phi.add at h1
      split at h1
      · cases h1;omega
      · exact ho ⟨i,k,h1,h2⟩
  refine ⟨⟨h.glob.later hl2,fun i b' hm'=>?_,fun i j b' hi hj hfi hfj=>?_,fun i b' k h1 h2=>?_⟩,hl2⟩
  · unfold Phi.add at hm'
    split at hm'
    · rename_i e
      cases hm'
      exact ⟨by rw[e];exact AHeap.find_lt hf,by simp⟩
    · have:=h.dom i b' hm'
      exact ⟨this.1,by simp;omega⟩
  · unfold Phi.add at hi hj
    split at hi <;> split at hj
    · omega
    · cases hi;have:=(h.dom j _ hj).2;omega
    · cases hj;have:=(h.dom i _ hi).2;omega
    · exact h.inj i j b' hi hj hfi hfj
  · unfold Phi.add at h1
    split at h1
    · rename_i e
      cases h1
      subst e
      rw[hf] at h2
      cases h2
      refine .inl ⟨hk0,cur,cap,heap_alloc_new w _,hsz,hcap,hex,hm,flat_Rl hk (Rs_later hl2 _ _ _ (AV.idsL_true _) (fun i v hv=>?_) hr)⟩
      unfold memAt
      rw[Nat.zero_add,World.cell?_alloc_at _ _ _ _ rfl]
      exact hv
    · have l2:=(h.dom i b' h1).2
      exact (h.blk i b' k h1 h2).on hl2 (hold b' l2)
theorem alloc_at {b : Bool} {o : Oper} {q : HO} (hc0 : compH P b o=some q) (ha : q.isAlloc=true) {φ : Phi} {T : AHeap} {w : World} {ts : List AV} {a : Act} (hF : FR φ (Own φ T) w ts a) {Hi H1 : AHeap} {v : AV} {F : AV→AHeap→Prop}
    (h : HO.sem P (X.ev ts) Hi (fun v' H''=>v'=v ∧ H''=H1) F q) :
    ∃ blk cur cap u,H1=some blk :: Hi ∧ 0 < blk.k ∧ (execOp a.eval o).run P w = .ok (.value u) (w.alloc (.cells cur blk.ty)) ∧ cur.size=cap * blk.k ∧ blk.es.length ≤ cap ∧ (blk.exact=true→cap=blk.es.length) ∧ cap ≤ maxLen ∧
      (∀ x ∈ blk.es,x.ncells=blk.k) ∧ Rs φ (Own φ T) w (flat blk.es) (fun i=>(cur : Array Value)[i]?) ∧
      ∀ (φ' : Phi) (O' : Nat→Prop) (w' : World),φ' Hi.length=some w.heap.size→w'.heap[w.heap.size]? = some (.cells cur blk.ty (0,0))→VR φ' O' w' v u:=by
  have hone : ∀ {x : AV} {u : Value} {k : Nat} {t : TypeId},VR φ (Own φ T) w x u→x.isTop=false→x.ncells=k→0 < k→(execOp a.eval o).run P w = .ok (.value (.pointer (some ⟨w.heap.size,0,none⟩))) (w.alloc (.cells u.cells t))→v = .ptr k Hi.length 0 0→H1=some ⟨k,[x],true,t⟩ :: Hi →
      ∃ blk cur cap u,H1=some blk :: Hi ∧ 0 < blk.k ∧ (execOp a.eval o).run P w = .ok (.value u) (w.alloc (.cells cur blk.ty)) ∧ cur.size=cap * blk.k ∧ blk.es.length ≤ cap ∧ (blk.exact=true→cap=blk.es.length) ∧ cap ≤ maxLen ∧
      (∀ x ∈ blk.es,x.ncells=blk.k) ∧ Rs φ (Own φ T) w (flat blk.es) (fun i=>(cur : Array Value)[i]?) ∧
      ∀ (φ' : Phi) (O' : Nat→Prop) (w' : World),φ' Hi.length=some w.heap.size→w'.heap[w.heap.size]? = some (.cells cur blk.ty (0,0))→VR φ' O' w' v u:=by
    intro x u k t hv ht hk hk0 hrun hve hHe
    refine ⟨⟨k,[x],true,t⟩,u.cells,1,_,hHe,hk0,hrun,by simp[cells_size hv ht,hk],by simp,by simp,by unfold maxLen;omega,by simp[hk],by simp only[flat,List.flatMap_cons,List.flatMap_nil,List.append_nil];exact VR_Rs hv ht,fun φ' O' w' h1 h2=>?_⟩
    rw[hve]
    exact ⟨rfl,_,h1,by simp[cget,Value.cells,ptrV_pos hk0]⟩
  have hc : compH0 P b o=some q:=by
    unfold compH at hc0
    split at hc0
    · rename_i h;cases hc0;exact h
    · rcases compU2_gx hc0 with ⟨g,xs,rfl⟩ | ⟨g,xs,rfl⟩ <;> simp[HO.isAlloc] at ha
  unfold compH0 at hc
  split at hc
  · split at hc <;> cases hc
    simp[HO.isAlloc] at ha
  · rename_i t ho
    split at hc
    case h_2=>simp at hc
    rename_i z hz
    split at hc
    case h_2=>simp at hc
    rename_i z' hcc
    split at hc
    case isFalse=>simp at hc
    rename_i ht
    cases hc
    rw[Option.bind_eq_some_iff] at hz
    obtain ⟨i,h1,h2⟩:=hz
    obtain ⟨e1,e2⟩:=h
    refine hone (ofZero_spec hcc) ht.1 rfl ht.2 ?_ e1.symm e2.symm
    simp only[execOp,ho,Instr.alloc,zeroValue,typeInfo,Sem.run_bind,run_program,h1,Result.andThen_ok,Sem.run_pure,h2,newVar,newRow,run_newObj]
    rfl
  · rename_i t x ho
    split at hc
    case h_2=>simp at hc
    rename_i x' hi hx
    split at hc
    case isFalse=>simp at hc
    rename_i hk0
    cases hc
    obtain ⟨⟨g1,g2⟩,e1,e2⟩:=h
    refine hone (ofX_spec hF hx) g1 g2 hk0 ?_ e1.symm e2.symm
    simp only[execOp,ho,Instr.box,Sem.run_bind,newVar,newRow,run_newObj,Result.andThen_ok,Sem.run_pure]
    rfl
  · rename_i t ln parts ho
    split at hc
    case h_2=>simp at hc
    rename_i e ht
    split at hc
    case h_2=>simp at hc
    rename_i i hi
    split at hc
    case h_2=>simp at hc
    rename_i z ps hz hps
    split at hc
    case isFalse=>simp at hc
    rename_i hcc
    obtain ⟨c1,c2,c3,c5⟩:=hcc
    cases hc
    rw[Option.bind_eq_some_iff] at hz
    obtain ⟨zv,h1,h2⟩:=hz
    cases b with
    | false=>simp[HO.isAlloc] at ha
    | true =>
      obtain ⟨es,cells,k1,k2,k3,k4,k5,k6⟩:=bsl_run (H:=T) hF ht hi h1 h2 hps c1 c2 c3 c5 h
      have hmx : ln ≤ maxLen:=by
        have : ln * 1 ≤ ln * i.size:=Nat.mul_le_mul_left _ c2
        unfold maxLen
        omega
      refine ⟨⟨i.size,es,true,e⟩,cells,ln,.slice (some ⟨w.heap.size,0,none⟩) ln ln,k1.2.symm,c2,?_,k4,by simp[k2],fun _=>by simp[k2],hmx,k3,k5,fun φ' O' w' g1 g2=>?_⟩
      · simp only[execOp,ho,Sem.run_bind,k6,Result.andThen_ok,Sem.run_pure]
      · rw[← k1.1]
        exact vr_vec_of g1 (Nat.le_refl _) hmx (fun m hm=>by simpa using hm) g2 k4
  · split at hc <;> cases hc
    simp[HO.isAlloc] at ha
  · rename_i t l c ho
    split at hc
    case h_2=>simp at hc
    rename_i e ht
    split at hc
    case h_2=>simp at hc
    rename_i i l' c' hi hl hcx
    split at hc
    case h_2=>simp at hc
    rename_i z hz
    split at hc
    case isFalse=>simp at hc
    rename_i hcc
    obtain ⟨c1,c2,c3,c4⟩:=hcc
    cases hc
    rw[Option.bind_eq_some_iff] at hz
    obtain ⟨zv,h1,h2⟩:=hz
    have hv:=ofX_spec hF hl
    have hw:=ofX_spec hF hcx
    simp only[HO.sem] at h
    split at h
    case h_2=>exact h.elim
    rename_i k1 n k2 m he hf
    rw[he] at hv
    rw[hf] at hw
    obtain ⟨⟨m0,m1,m2⟩,e1,e2⟩:=h
    have hzv : VR φ (Own φ T) w z zv:=ofConst_spec h2
    have hzs:=cells_size hzv c4
    rw[c1] at hzs
    have hks : ∀ x ∈ List.replicate m.toNat z,x.ncells=i.size:=fun x hx=>by rw[List.eq_of_mem_replicate hx];exact c1
    have hinit:=Rs_replicate (zc:=zv.cells) (VR_Rs hzv c4) c1 c2 m.toNat (fun j=>((Array.range (m.toNat * i.size)).map (zv.cells[· % zv.cells.size]!))[j]?) (fun j hj=>zeros_get hzs c2 hj)
    have hmx : m.toNat ≤ maxLen:=by unfold maxLen;omega
    refine ⟨⟨i.size,List.replicate m.toNat z,true,e⟩,_,m.toNat,.slice (some ⟨w.heap.size,0,none⟩) n.toNat m.toNat,e2.symm,c2,?_,by simp,by simp,fun _=>by simp,hmx,hks,hinit,fun φ' O' w' g1 g2=>?_⟩
    · simp only[execOp,ho,VR_sc hv,VR_sc hw,Sem.run_bind,makeSlice_run ht hi h1 c3 m0 m1 m2,Result.andThen_ok,Sem.run_pure]
    · rw[← e1]
      exact vr_vec_of g1 (by omega) hmx (fun q hq=>by simpa using hq) g2 (by simp)
  · split at hc
    case h_2=>simp at hc
    split at hc
    case isFalse=>obtain ⟨g,xs,rfl⟩:=compZ_gx hc;simp[HO.isAlloc] at ha
    split at hc
    case h_2=>simp at hc
    split at hc
    case h_2=>simp at hc
    split at hc
    case h_2=>simp at hc
    split at hc <;> cases hc
    simp[HO.isAlloc] at ha
  · split at hc
    case isFalse=>obtain ⟨g,xs,rfl⟩:=extH_gx hc;simp[HO.isAlloc] at ha
    rw[Option.map_eq_some_iff] at hc
    obtain ⟨as,h1,rfl⟩:=hc
    simp[HO.isAlloc] at ha
  · rw[Option.map_eq_some_iff] at hc
    obtain ⟨as,h1,rfl⟩:=hc
    simp[HO.isAlloc] at ha
  · rw[Option.map_eq_some_iff] at hc
    obtain ⟨as,h1,rfl⟩:=hc
    simp[HO.isAlloc] at ha
  all_goals first
    | (have h9:=compM_gx hc;obtain ⟨g,xs,rfl⟩:=h9;simp[HO.isAlloc] at ha;done)
    | (repeat' split at hc
       all_goals first | (simp at hc;done) | (cases hc;simp[HO.isAlloc] at ha))
end
end Go.Proofs.YtdjnccnecgblmaaGreatDoor
namespace Go.Proofs.YtdjnccnecgblmaaGreatDoor
open Go.RowKit
set_option linter.unusedVariables false
set_option linter.unusedSimpArgs false
section
variable {P : Program}
theorem compOps_get {b : Bool} {ops : Array Oper} : ∀ {os : List Oper} {l : List IO'},compOps P b ops os=some l→l.length=os.length ∧ ∀ (i : Nat) (o : Oper),os[i]? = some o→∃ x,l[i]? = some x ∧ compO P b ops o=some x
  | [],l,h=>by simp[compOps] at h;subst h;exact ⟨rfl,fun i o h=>by simp at h⟩
  | o :: r,l,h=>by
    unfold compOps at h
    split at h
    case h_2=>simp at h
    rename_i x s h1 h2
    cases h
    obtain ⟨k1,k2⟩:=compOps_get h2
    refine ⟨by simp[k1],fun i o' ho=>?_⟩
    cases i with
    | zero=>simp at ho;subst ho;exact ⟨x,rfl,h1⟩
    | succ i=>simp at ho;obtain ⟨y,h3,h4⟩:=k2 i o' ho;exact ⟨y,by simpa using h3,h4⟩
theorem putT_get (ts : List AV) (d : Option Nat) (v : AV) (t : Nat) : (putT ts d v).getD t .top=if d=some t ∧ t < ts.length then v else ts.getD t .top:=by
  cases d with
  | none=>simp[putT]
  | some d =>
    simp only[putT,List.getD,List.getElem?_set]
    by_cases e : d=t
    · subst e
      by_cases hl : d < ts.length
      · simp[hl]
      · simp[hl]
    · have : ¬ (some d=some t ∧ t < ts.length):=by simp[e]
      rw[if_neg e,if_neg this]
theorem guardK_congr {ts ts' : List AV} {yes no : Prop} {g : Option (Nat × Bool)} (h : ∀ d w,g=some (d,w)→ts.getD d .top=ts'.getD d .top) (hg : guardK ts yes no g) : guardK ts' yes no g:=by
  cases g with
  | none=>exact hg
  | some dw =>
    obtain ⟨d,w⟩:=dw
    simp only[guardK] at hg ⊢
    rw[← h d w rfl]
    exact hg
theorem guardK_map {ts : List AV} {yes no yes' no' : Prop} (h1 : yes→yes') (h2 : no→no') {g : Option (Nat × Bool)} (hg : guardK ts yes no g) : guardK ts yes' no' g:=by
  cases g with
  | none=>exact h1 hg
  | some dw =>
    obtain ⟨d,w⟩:=dw
    simp only[guardK] at hg ⊢
    split at hg
    · exact ⟨fun e=>h1 (hg.1 e),fun e=>h2 (hg.2 e)⟩
    · exact h2 hg
    · exact hg.elim
theorem opK_congr {ev ev' : X→AV} {H : AHeap} {K Kp : AV→AHeap→Prop} {q : IOp} (h : ∀ x ∈ q.xs,ev x=ev' x) : opK P ev H K Kp q=opK P ev' H K Kp q:=by
  cases q with
  | p q=>exact PO.sem_congr (K:=fun v=>K v H) h
  | h q=>exact HO.sem_congr (K:=K) (Kp:=Kp) h
theorem quiet_op {ev : X→AV} {H T : AHeap} {v : AV} {H' : AHeap} {q : IOp} (hc : q.isChain=false) (ha : q.isAlloc=false) (h : opK P ev H (fun v' H''=>v'=v ∧ H''=H') (fun _ _=>False) q)
    (hl : ∀ m ag a k id j f,q = .h (.load m ag a)→ev a = .ptr k id j f→AHeap.find T id=AHeap.find H id) : H'=H ∧ opK P ev T (fun v' H''=>v'=v ∧ H''=T) (fun _ _=>False) q:=by
  cases q with
  | p q =>
    obtain ⟨u,⟨h1,h2⟩,h3⟩:=PO.sem_ex (show PO.sem ev (fun v'=>v'=v ∧ H=H') q from h)
    refine ⟨h2.symm,?_⟩
    show PO.sem ev (fun v'=>v'=v ∧ T=T) q
    have e : (fun v' : AV=>v'=v ∧ T=T)=fun v'=>v'=u:=by funext v';simp[h1]
    rw[e]
    exact h3
  | h q =>
    cases q with
    | load m ag a =>
      have h':=h
      simp only[opK,HO.sem] at h' ⊢
      split at h'
      · rename_i k id j f he
        obtain ⟨blk,e,h1,h2,h3,h4,h5⟩:=h'
        exact ⟨h5.symm,blk,e,by rw[hl m ag a k id j f rfl he];exact h1,h2,h3,h4,trivial⟩
      · obtain ⟨h1,h2,h3⟩:=h'
        exact ⟨h3.symm,h1,h2,trivial⟩
      · exact h'.elim
    | bsl k ty z ln ps =>
      obtain ⟨cs,⟨h1,h2⟩,h3⟩:=elsA_ex (show elsA ev k (List.replicate ln z) ps (fun es=>AV.lst k es (some [])=v ∧ H=H') from h)
      exact ⟨h2.symm,h3 _ ⟨h1,rfl⟩⟩
    | itr kd x=>exact (show False from h).elim
    | _=>first | (simp[IOp.isChain,HO.isChain] at hc;done) | (simp[IOp.isAlloc,HO.isAlloc] at ha;done)
theorem alloc_op {ev : X→AV} {H : AHeap} {v : AV} {H' : AHeap} {q : IOp} (ha : q.isAlloc=true) (h : opK P ev H (fun v' H''=>v'=v ∧ H''=H') (fun _ _=>False) q) : ∃ blk,H'=some blk :: H:=by
  cases q with
  | p q=>simp[IOp.isAlloc] at ha
  | h q =>
    cases q with
    | alloc z ty=>exact ⟨_,h.2.symm⟩
    | box k ty x=>exact ⟨_,h.2.2.symm⟩
    | bslV k ty z ln ps =>
      obtain ⟨cs,⟨h1,h2⟩,h3⟩:=elsA_ex (show elsA ev k (List.replicate ln z) ps (fun es=>AV.vec k H.length 0 ln (some ln)=v ∧ some ⟨k,es,true,ty⟩ :: H=H') from h)
      exact ⟨_,h2.symm⟩
    | mksl k ty z l c =>
      simp only[opK,HO.sem] at h
      split at h
      · exact ⟨_,h.2.2.symm⟩
      · exact h.elim
    | _=>simp[IOp.isAlloc,HO.isAlloc] at ha
theorem chain_len {ev : X→AV} {H : AHeap} {v : AV} {H' : AHeap} {q : IOp} (h : opK P ev H (fun v' H''=>v'=v ∧ H''=H') (fun _ _=>False) q) : H.length ≤ H'.length:=by
  cases hc : q.isChain with
  | false =>
    cases ha : q.isAlloc with
    | false=>rw[(quiet_op hc ha h (T:=H) (fun _ _ _ _ _ _ _ _ _=>rfl)).1];exact Nat.le_refl _
    | true=>obtain ⟨blk,rfl⟩:=alloc_op ha h;simp
  | true =>
    cases q with
    | p q=>simp[IOp.isChain] at hc
    | h q =>
      cases q with
      | store n a x =>
        simp only[opK,HO.sem] at h
        split at h
        · obtain ⟨blk,e,h1,h2,h3,h4,h5⟩:=h;rw[← h5,AHeap.set_length];exact Nat.le_refl _
        · exact h.elim
      | gx g xs =>
        simp only[opK,HO.sem] at h
        rw[← h.2.2]
        exact GX.heap_le
      | app k ty s x =>
        simp only[opK,HO.sem] at h
        obtain ⟨ys,h,_⟩:=lsOf_ex h
        split at h
        · obtain ⟨h1,h2,h3⟩:=h
          by_cases e : ys=[]
          · rw[← (h2 e).2];exact Nat.le_refl _
          · rw[← (h3 e).2];simp
        · rename_i k' id off n c _
          obtain ⟨blk,h1,h2,h3⟩:=h
          cases c with
          | none=>rw[← h3.2.2];simp[AHeap.set_length]
          | some m =>
            obtain ⟨h4,h5,h6⟩:=h3
            by_cases e : n+ys.length ≤ m
            · rw[← (h5 e).2,AHeap.set_length];exact Nat.le_refl _
            · rw[← (h6 (by omega)).2];simp
        · exact h.elim
      | call f as =>
        obtain ⟨e,H2,h1,h2⟩:=h
        cases e with
        | ret u=>rw[← h2.2];exact h1.1
        | pan u=>exact h2.elim
      | callv f as =>
        simp only[opK,HO.sem] at h
        split at h
        · obtain ⟨_,e,H2,h1,h2⟩:=h
          cases e with
          | ret u=>rw[← h2.2];exact h1.1
          | pan u=>exact h2.elim
        · exact h.elim
      | pan x =>
        simp only[opK,HO.sem] at h
        split at h <;> exact h.elim
      | _=>simp[IOp.isChain,HO.isChain] at hc
theorem StepOK.len {o : IO'} {ts : List AV} {H : AHeap} {v : AV} {H' : AHeap} (h : StepOK P o ts H v H') : H.length ≤ H'.length:=by
  rcases h with ⟨_,h⟩ | ⟨_,_,rfl⟩
  · exact chain_len h
  · exact Nat.le_refl _
theorem StepOK.ext {o : IO'} {ts : List AV} {H : AHeap} {v : AV} {H' : AHeap} (h : StepOK P o ts H v H') (hc : o.op.isChain=false) : Ext H H':=by
  rcases h with ⟨_,h⟩ | ⟨_,_,rfl⟩
  · cases ha : o.op.isAlloc with
    | false=>rw[(quiet_op hc ha h (T:=H) (fun _ _ _ _ _ _ _ _ _=>rfl)).1];exact Ext.refl _
    | true=>obtain ⟨blk,rfl⟩:=alloc_op ha h;exact Ext.cons _ _
  · exact Ext.refl _
theorem next_at (p : Nat→Bool) (N : Nat) : ∀ (k lo : Nat),lo+k=N→∃ s,lo ≤ s ∧ s ≤ N ∧ (s=N ∨ p s=true) ∧ ∀ m,lo ≤ m→m < s→p m=false
  | 0,lo,h=>⟨lo,Nat.le_refl _,by omega,.inl (by omega),fun m h1 h2=>by omega⟩
  | k+1,lo,h=>by
    cases hp : p lo with
    | true=>exact ⟨lo,Nat.le_refl _,by omega,.inr hp,fun m h1 h2=>by omega⟩
    | false =>
      obtain ⟨s,h1,h2,h3,h4⟩:=next_at p N k (lo+1) (by omega)
      refine ⟨s,by omega,h2,h3,fun m g1 g2=>?_⟩
      by_cases e : m=lo
      · rw[e];exact hp
      · exact h4 m (by omega) g2
theorem getD_set_true' {listed : Array Bool} {i j : Nat} (h : listed.getD j false=true) : (listed.setIfInBounds i true).getD j false=true:=by
  simp only[Array.getD_eq_getD_getElem?,Array.getElem?_setIfInBounds] at h ⊢
  by_cases e : i=j
  · subst e
    by_cases hl : i < listed.size
    · simp[hl]
    · simp[hl] at h
  · rw[if_neg e];exact h
theorem getD_set_ne' {listed : Array Bool} {i j : Nat} (h : i ≠ j) : (listed.setIfInBounds i true).getD j false=listed.getD j false:=by
  simp only[Array.getD_eq_getD_getElem?,Array.getElem?_setIfInBounds,if_neg h]
theorem getD_set_same' {listed : Array Bool} {i : Nat} (h : i < listed.size) : (listed.setIfInBounds i true).getD i false=true:=by
  simp[Array.getD_eq_getD_getElem?,Array.getElem?_setIfInBounds,h]
theorem blankT_get : ∀ (l : List IO') (ts : List AV),(blankT l ts).length=ts.length ∧ ∀ t,(blankT l ts).getD t .top = .top ∨ ((blankT l ts).getD t .top=ts.getD t .top ∧ ∀ o ∈ l,o.dst ≠ some t)
  | [],ts=>⟨rfl,fun t=>.inr ⟨rfl,by simp⟩⟩
  | o :: r,ts=>by
    obtain ⟨h1,h2⟩:=blankT_get r (putT ts o.dst .top)
    simp only[blankT,List.foldl_cons] at h1 h2 ⊢
    refine ⟨by rw[h1,putT_length],fun t=>?_⟩
    rcases h2 t with h3 | ⟨h3,h4⟩
    · exact .inl h3
    · rw[putT_get] at h3
      by_cases e : o.dst=some t
      · by_cases hl : t < ts.length
        · rw[if_pos ⟨e,hl⟩] at h3
          exact .inl h3
        · left
          rw[h3,if_neg (by simp[hl])]
          simp[List.getD,List.getElem?_eq_none (Nat.le_of_not_lt hl)]
      · rw[if_neg (by simp[e])] at h3
        exact .inr ⟨h3,fun o' ho'=>by
          rcases List.mem_cons.1 ho' with rfl | ho'
          · exact e
          · exact h4 o' ho'⟩
end
end Go.Proofs.YtdjnccnecgblmaaGreatDoor
namespace Go.Proofs.YtdjnccnecgblmaaGreatDoor
open Go.RowKit
set_option linter.unusedVariables false
set_option linter.unusedSimpArgs false
section
variable {P : Program}
structure DI (ops : Array Oper) (l : List IO') (N : Nat) (vs : Nat→AV) (Hs : Nat→AHeap) (ts : List AV) (H : AHeap) (φ : Phi) (w0 : World) (ds : List Deferred) (listed : Array Bool) (act : Act) (w : World) : Prop where
  size : listed.size=ops.size
  lt : ∀ i,listed.getD i false=true→i < N
  cl : ∀ (j : Nat) (o : Oper),ops[j]? = some o→listed.getD j false=true→∀ e ∈ o.after.toList,Region.binds .any e=true→listed.getD e.on false=true
  dfs : act.defers=ds
  ex : ∃ (φ' : Phi) (s : Nat),s ≤ N ∧ (∀ (c : Nat) (x : IO'),l[c]? = some x→x.op.isChain=true→(listed.getD c false=true ↔ c < s)) ∧ (s=N ∨ ∃ x : IO',l[s]? = some x ∧ x.op.isChain=true) ∧ Rel φ' (Hs s) w ∧ Step φ H w0 φ' (Hs s) w ∧
    (∀ (i : Nat) (x : IO'),l[i]? = some x→x.op.isAlloc=true→i < N→(Hs i).length < (Hs (i+1)).length→listed.getD i false=false→φ' (Hs i).length=none) ∧
    act.tmps.size=ts.length ∧ (∀ (i : Nat) (x : IO') (d : Nat),l[i]? = some x→x.dst=some d→d < ts.length→listed.getD i false=true→VR φ' (Own φ' (Hs s)) w (vs i) (act.tmps.getD d undef)) ∧
    (∀ t : Nat,(∀ (i : Nat) (x : IO'),l[i]? = some x→x.dst=some t→listed.getD i false=false)→VR φ' (Own φ' (Hs s)) w (ts.getD t .top) (act.tmps.getD t undef))
theorem tmps_put (a : Act) (d : Option Tmp) (u : Value) (t : Nat) : (a.put d u).tmps.getD t undef=if d=some t ∧ t < a.tmps.size then u else a.tmps.getD t undef:=by
  cases d with
  | none=>simp[Act.put]
  | some d =>
    simp only[Act.put,Array.getD_eq_getD_getElem?,Array.getElem?_setIfInBounds]
    by_cases e : d=t
    · subst e
      by_cases hl : d < a.tmps.size
      · simp[hl]
      · simp[hl]
    · have : ¬ (some d=some t ∧ t < a.tmps.size):=by simp[e]
      rw[if_neg e,if_neg this]
theorem put_size (a : Act) (d : Option Tmp) (u : Value) : (a.put d u).tmps.size=a.tmps.size:=by
  cases d <;> simp[Act.put]
set_option maxHeartbeats 1000000 in
theorem region_any {b : Bool} {ops : Array Oper} {l : List IO'} {A : List (List Nat)} (hc : compOps P b ops ops.toList=some l) (hA : okE ops A=true) (hD : okD l A=true)
    {Q : Exit→Act→World→Prop} {K : List AV→AHeap→Prop} {Kp : AV→List AV→AHeap→Prop} {φ : Phi} {H : AHeap} {w : World} {ts : List AV} {a : Act}
    (hR : Rel φ H w) (hF : FR φ (Own φ H) w ts a) (h : runD P A l.length K (fun v H'=>Kp v (blankT l ts) H') 0 l ts H [] []) (hk : ContOk Q K φ H w a.defers) (hp : PanOk Q Kp φ H w a.defers) : wpAny P .any ops Q ops.size (Array.replicate ops.size false) a { w with drawn:=w.drawn+1 }:=by
  obtain ⟨N,vs,Hs,fs,hrd,hH0,hf0⟩:=runD_road l 0 ts H [] [] h
  obtain ⟨hlen,hget⟩:=compOps_get hc
  have hls : l.length=ops.size:=by simpa using hlen
  have hNl : N ≤ l.length:=by simpa using hrd.hi
  have hx : ∀ i,i < ops.size→∃ o x,ops[i]? = some o ∧ l[i]? = some x ∧ compO P b ops o=some x:=by
    intro i hi
    obtain ⟨x,h1,h2⟩:=hget i ops[i] (by simp[hi])
    exact ⟨ops[i],x,by simp[hi],h1,h2⟩
  have hst : ∀ (m : Nat) (x : IO'),m < N→l[m]? = some x→fs (m+1)=putT (fs m) x.dst (vs m) ∧ StepOK P x (fs m) (Hs m) (vs m) (Hs (m+1)):=fun m x hmN hx=>hrd.step m x (Nat.zero_le _) hmN (by simpa using hx)
  have hlx : ∀ m,m < N→∃ x,l[m]? = some x:=fun m hmN=>⟨l[m]'(by omega),by simp[show m < l.length by omega]⟩
  have hmono1 : ∀ m,m < N→(Hs m).length ≤ (Hs (m+1)).length:=fun m hmN=>by
    obtain ⟨x,hx⟩:=hlx m hmN
    exact (hst m x hmN hx).2.len
  have hmono : ∀ k m,m+k ≤ N→(Hs m).length ≤ (Hs (m+k)).length:=by
    intro k
    induction k with
    | zero=>intro m _;exact Nat.le_refl _
    | succ k ih=>intro m hmk;exact Nat.le_trans (ih m (by omega)) (hmono1 (m+k) (by omega))
  have hmono' : ∀ m m',m ≤ m'→m' ≤ N→(Hs m).length ≤ (Hs m').length:=fun m m' h1 h2=>by
    have:=hmono (m' - m) m (by omega)
    rwa [show m+(m' - m)=m' from by omega] at this
  have hext : ∀ k lo,lo+k ≤ N→(∀ (m : Nat) (x : IO'),lo ≤ m→m < lo+k→l[m]? = some x→x.op.isChain=false)→Ext (Hs lo) (Hs (lo+k)):=by
    intro k
    induction k with
    | zero=>intro lo _ _;exact Ext.refl _
    | succ k ih =>
      intro lo h1 h2
      obtain ⟨x,hx⟩:=hlx (lo+k) (by omega)
      exact (ih lo (by omega) fun m x g1 g2 g3=>h2 m x g1 (by omega) g3).trans ((hst (lo+k) x (by omega) hx).2.ext (h2 (lo+k) x (by omega) (by omega) hx))
  have hfL : ∀ i,i ≤ N→(fs i).length=ts.length:=by
    intro i
    induction i with
    | zero=>intro _;rw[hf0]
    | succ i ih =>
      intro hi
      obtain ⟨x,hx⟩:=hlx i (by omega)
      rw[(hst i x (by omega) hx).1,putT_length,ih (by omega)]
  have hfN : ∀ i,i ≤ N→∀ t : Nat,(∀ (j : Nat) (x : IO'),j < i→l[j]? = some x→x.dst ≠ some t)→(fs i).getD t .top=ts.getD t .top:=by
    intro i
    induction i with
    | zero=>intro _ t _;rw[hf0]
    | succ i ih =>
      intro hi t ht
      obtain ⟨x,hx⟩:=hlx i (by omega)
      rw[(hst i x (by omega) hx).1,putT_get,if_neg (fun e=>ht i x (by omega) hx e.1)]
      exact ih (by omega) t fun j y hj hy=>ht j y (by omega) hy
  have hfW : ∀ i,i ≤ N→∀ (j : Nat) (x : IO') (t : Nat),j < i→l[j]? = some x→x.dst=some t→t < ts.length→(fs i).getD t .top=vs j:=by
    intro i
    induction i with
    | zero=>intro _ j x t hj;omega
    | succ i ih =>
      intro hi j x t hj hxj hd ht
      obtain ⟨y,hy⟩:=hlx i (by omega)
      rw[(hst i y (by omega) hy).1,putT_get,hfL i (by omega)]
      by_cases e : j=i
      · subst e
        rw[hxj] at hy
        cases hy
        rw[if_pos ⟨hd,ht⟩]
      · rw[if_neg (fun e2=>e ((okD_spec hD hy hxj).2.1 t hd e2.1))]
        exact ih (by omega) j x t (by omega) hxj hd ht
  refine wpAny_inv (DI ops l N vs Hs ts H φ w a.defers) (fun _ _ _ hI=>hI.size) ?_ ?_ ops.size _ a _ ?_ (by omega)
  case refine_3 =>
    obtain ⟨s,h1,h2,h3,h4⟩:=next_at (fun m=>match l[m]? with | some x=>x.op.isChain | none=>false) N N 0 (by omega)
    have hfl : ∀ i,(Array.replicate ops.size false).getD i false=false:=fun i=>by simp[Array.getD]
    have hE : Ext (Hs 0) (Hs s):=by
      have:=hext s 0 (by omega) fun m x g1 g2 g3=>by have:=h4 m g1 (by omega);rw[g3] at this;exact this
      rwa [Nat.zero_add] at this
    rw[hH0] at hE
    obtain ⟨r1,r2⟩:=(drew_rel hR).ext hE
    have r3:=(drew_step φ H w).trans r2
    refine ⟨by simp,fun i hi=>by rw[hfl] at hi;simp at hi,fun j o ho hl=>by rw[hfl] at hl;simp at hl,rfl,φ,s,h2,fun c x hcx hch=>?_,?_,r1,r3,fun i x hix hal hiN _ _=>?_,hF.1,fun i x d _ _ _ hl=>by rw[hfl] at hl;simp at hl,fun t _=>r3.vr (hF.2 t)⟩
    · rw[hfl]
      refine ⟨fun e=>by simp at e,fun e=>?_⟩
      have:=h4 c (by omega) e
      rw[hcx] at this
      simp only at this
      rw[hch] at this
      simp at this
    · rcases h3 with h3 | h3
      · exact .inl h3
      · split at h3
        · rename_i x hx;exact .inr ⟨x,hx,h3⟩
        · simp at h3
    · cases hφ : φ (Hs i).length with
      | none=>rfl
      | some b =>
        have g1:=(hR.dom _ _ hφ).1
        have g2:=hmono' 0 i (by omega) (by omega)
        rw[hH0] at g2
        omega
  case refine_1 =>
    intro listed act w' hI hr
    have hall:=all_listed hA hI.size hr
    have hN : N=ops.size:=by
      rcases Nat.lt_or_ge N ops.size with h1 | h1
      · have:=hI.lt N (hall (N+1) N (by omega) h1)
        omega
      · omega
    obtain ⟨φ',s,h1,h2,h3,h4,h5,h6,h7,h8,h9⟩:=hI.ex
    have hs : s=N:=by
      rcases h3 with h3 | ⟨x,hx,hch⟩
      · exact h3
      · have hsl : s < l.length:=(List.getElem?_eq_some_iff.1 hx).1
        have:=(h2 s x hx hch).1 (hall (s+1) s (by omega) (by omega))
        omega
    subst hs
    rcases hrd.fin with ⟨g1,g2⟩ | ⟨o,v,H',g1,_⟩
    · refine hk (fs s) act φ' (Hs s) w' g2 ⟨by rw[h7,hfL s (Nat.le_refl _)],fun t=>?_⟩ h4 h5 hI.dfs
      by_cases hw : ∃ (j : Nat) (x : IO'),l[j]? = some x ∧ x.dst=some t
      · obtain ⟨j,x,hj,hd⟩:=hw
        have hjl : j < l.length:=(List.getElem?_eq_some_iff.1 hj).1
        by_cases ht : t < ts.length
        · rw[hfW s (Nat.le_refl _) j x t (by omega) hj hd ht]
          exact h8 j x t hj hd ht (hall (j+1) j (by omega) (by omega))
        · have : (fs s).getD t .top = .top:=by
            simp[List.getD,List.getElem?_eq_none (show (fs s).length ≤ t by rw[hfL s (Nat.le_refl _)];omega)]
          rw[this]
          exact vr_top _
      · have hno : ∀ (i : Nat) (x : IO'),l[i]? = some x→x.dst ≠ some t:=fun i x hi hd=>hw ⟨i,x,hi,hd⟩
        rw[hfN s (Nat.le_refl _) t fun j x _ hj=>hno j x hj]
        exact h9 t fun i x hi hd=>absurd hd (hno i x hi)
    · have:=(List.getElem?_eq_some_iff.1 g1).1
      omega
  case refine_2 =>
    intro listed act w' i hI hi
    obtain ⟨hil,hnt,hedge⟩:=mem_ready' hi
    have hils : i < listed.size:=by rw[hI.size];exact hil
    have hnl : listed.getD i false=false:=by
      simp[Array.getD,hils] at hnt ⊢
      exact hnt
    obtain ⟨o,x,ho,hxi,hcx⟩:=hx i hil
    obtain ⟨hdst,hgd⟩:=compO_dst hcx
    have hanc : ∀ j,anc A i j=true→listed.getD j false=true:=okE_spec hA hI.cl (i+1) i o (by omega) ho (hedge o ho)
    have hiN : i ≤ N:=by
      rcases Nat.lt_or_ge N i with h1 | h1
      · exfalso
        rcases hrd.fin with ⟨g1,_⟩ | ⟨o',v',H',_,_,g3,_⟩
        · omega
        · unfold lastB at g3
          have:=List.all_eq_true.1 g3 i (by simp;omega)
          simp only[Bool.or_eq_true,decide_eq_true_eq] at this
          rcases this with h2 | h2
          · omega
          · have:=hI.lt N (hanc N h2)
            omega
      · exact h1
    obtain ⟨φ',s,hs1,hs2,hs3,hs4,hs5,hs6,hs7,hs8,hs9⟩:=hI.ex
    obtain ⟨stF,hstW,hstN,hstU⟩ : ∃ stF : Nat→AV,(∀ (j : Nat) (y : IO') (t : Nat),l[j]? = some y→y.dst=some t→listed.getD j false=true→stF t=vs j) ∧
        (∀ t : Nat,(∀ (j : Nat) (y : IO'),l[j]? = some y→y.dst ≠ some t)→stF t=ts.getD t .top) ∧ (∀ (j : Nat) (y : IO') (t : Nat),l[j]? = some y→y.dst=some t→listed.getD j false=false→stF t=ts.getD t .top):=by
      classical
      refine ⟨fun t=>if hh : ∃ (j : Nat) (y : IO'),l[j]? = some y ∧ y.dst=some t ∧ listed.getD j false=true then vs hh.choose else ts.getD t .top,?_,?_,?_⟩
      · intro j y t hj hd hl
        have hh : ∃ (j : Nat) (y : IO'),l[j]? = some y ∧ y.dst=some t ∧ listed.getD j false=true:=⟨j,y,hj,hd,hl⟩
        obtain ⟨y',c1,c2,c3⟩:=hh.choose_spec
        have : hh.choose=j:=(okD_spec hD hj c1).2.1 t c2 hd
        simp only
        rw[dif_pos hh,this]
      · intro t ht
        simp only
        rw[dif_neg (fun ⟨j,y,h1,h2,_⟩=>ht j y h1 h2)]
      · intro j y t hj hd hl
        simp only
        rw[dif_neg (fun ⟨j',y',h1,h2,h3⟩=>by
          have:=(okD_spec hD hj h1).2.1 t h2 hd
          rw[this,hl] at h3
          simp at h3)]
    let tsS : List AV:=(List.range ts.length).map stF
    have htsS : ∀ t,t < ts.length→tsS.getD t .top=stF t:=fun t ht=>by simp[tsS,List.getD,ht]
    have htsO : ∀ t,ts.length ≤ t→tsS.getD t .top = .top:=fun t ht=>by simp[tsS,List.getD,ht]
    have hFS : FR φ' (Own φ' (Hs s)) w' tsS act:=by
      refine ⟨by simp[tsS,hs7],fun t=>?_⟩
      by_cases ht : t < ts.length
      · rw[htsS t ht]
        by_cases hw : ∃ (j : Nat) (y : IO'),l[j]? = some y ∧ y.dst=some t
        · obtain ⟨j,y,hj,hd⟩:=hw
          cases hl : listed.getD j false with
          | true=>rw[hstW j y t hj hd hl];exact hs8 j y t hj hd ht hl
          | false =>
            rw[hstU j y t hj hd hl]
            exact hs9 t fun j' y' hj' hd'=>by
              have:=(okD_spec hD hj hj').2.1 t hd' hd
              rw[this]
              exact hl
        · have hno : ∀ (j : Nat) (y : IO'),l[j]? = some y→y.dst ≠ some t:=fun j y hj hd=>hw ⟨j,y,hj,hd⟩
          rw[hstN t hno]
          exact hs9 t fun j y hj hd=>absurd hd (hno j y hj)
      · rw[htsO t (by omega)]
        exact vr_top _
    have hgets : ∀ t,t ∈ opTmps x→tsS.getD t .top=(fs i).getD t .top:=by
      intro t hmem
      by_cases ht : t < ts.length
      · rw[htsS t ht]
        by_cases hw : ∃ (j : Nat) (y : IO'),l[j]? = some y ∧ y.dst=some t
        · obtain ⟨j,y,hj,hd⟩:=hw
          rcases (okD_spec hD hxi hj).2.2.1 t hd hmem with h1 | h1
          · have h2:=(okD_spec hD hxi hj).1 j h1
            rw[hstW j y t hj hd (hanc j h1),hfW i hiN j y t h2 hj hd ht]
          · have h2:=(okD_spec hD hj hxi).1 i h1
            have hjl : j < l.length:=(List.getElem?_eq_some_iff.1 hj).1
            have hno : listed.getD j false=false:=by
              cases hq : listed.getD j false with
              | false=>rfl
              | true =>
                obtain ⟨oj,yj,m1,m2,_⟩:=hx j (by omega)
                have:=okE_spec hA hI.cl (j+1) j oj (by omega) m1 (hI.cl j oj m1 hq) i h1
                rw[hnl] at this
                simp at this
            rw[hstU j y t hj hd hno,hfN i hiN t fun j' y' hlt' hj' hd'=>by
              have:=(okD_spec hD hj hj').2.1 t hd' hd
              omega]
        · have hno : ∀ (j : Nat) (y : IO'),l[j]? = some y→y.dst ≠ some t:=fun j y hj hd=>hw ⟨j,y,hj,hd⟩
          rw[hstN t hno,hfN i hiN t fun j y _ hj=>hno j y hj]
      · rw[htsO t (by omega)]
        simp[List.getD,List.getElem?_eq_none (show (fs i).length ≤ t by rw[hfL i hiN];omega)]
    have hev : ∀ y ∈ x.op.xs,X.ev (fs i) y=X.ev tsS y:=by
      intro y hy
      cases y with
      | k v=>rfl
      | t t =>
        simp only[X.ev]
        exact (hgets t (by unfold opTmps;exact List.mem_append_left _ (List.mem_filterMap.2 ⟨.t t,hy,rfl⟩))).symm
    have hgev : ∀ d wt,x.guard=some (d,wt)→(fs i).getD d .top=tsS.getD d .top:=by
      intro d wt hg
      exact (hgets d (by unfold opTmps;rw[hg];simp)).symm
    have adv : ∀ (φ2 : Phi) (s2 : Nat) (w2 : World) (u : Value),i < N→s2 ≤ N→(∀ (c : Nat) (y : IO'),l[c]? = some y→y.op.isChain=true→((listed.setIfInBounds i true).getD c false=true ↔ c < s2))→(s2=N ∨ ∃ y : IO',l[s2]? = some y ∧ y.op.isChain=true)→Rel φ2 (Hs s2) w2 →
        Later (fun _=>True) φ' φ2 (Own φ' (Hs s)) (Own φ2 (Hs s2)) w' w2→(∀ id,id < H.length→φ2 id=φ' id)→w2.os=w'.os→w2.tape=w'.tape→w2.output=w'.output →
        (∀ (j : Nat) (y : IO'),l[j]? = some y→y.op.isAlloc=true→j < N→(Hs j).length < (Hs (j+1)).length→(listed.setIfInBounds i true).getD j false=false→φ2 (Hs j).length=none)→VR φ2 (Own φ2 (Hs s2)) w2 (vs i) u →
        DI ops l N vs Hs ts H φ w a.defers (listed.setIfInBounds i true) (act.put o.dst u) w2:=by
      intro φ2 s2 w2 u hiN' g1 g2 g3 g4 g5 g6 g7 g8 g9 g10 g11
      refine ⟨by simpa using hI.size,fun j hj=>?_,fun j oj hoj hj e he hb=>?_,by rw[put_defers];exact hI.dfs,φ2,s2,g1,g2,g3,g4,⟨hs5.toLater.trans g5,g7.trans hs5.os,g8.trans hs5.tape,g9.trans hs5.output,?_,fun id hid=>(g6 id hid).trans (hs5.old id hid)⟩,g10,by rw[put_size];exact hs7,fun j y d hj hd hdl hl=>?_,fun t ht=>?_⟩
      · by_cases e : i=j
        · omega
        · rw[getD_set_ne' e] at hj
          exact hI.lt j hj
      · by_cases e2 : i=j
        · subst e2
          rw[ho] at hoj
          cases hoj
          exact getD_set_true' (hedge o ho e he hb)
        · rw[getD_set_ne' e2] at hj
          exact getD_set_true' (hI.cl j oj hoj hj e he hb)
      · have:=hmono' 0 s2 (Nat.zero_le _) g1
        rwa [hH0] at this
      · rw[tmps_put]
        by_cases e : i=j
        · subst e
          rw[hxi] at hj
          cases hj
          rw[if_pos ⟨by rw[← hdst];exact hd,by rw[hs7];exact hdl⟩]
          exact g11
        · rw[if_neg (fun e2=>e ((okD_spec hD hj hxi).2.1 d (by rw[hdst];exact e2.1) hd))]
          rw[getD_set_ne' e] at hl
          exact VR_later g5 (AV.ids_true _) (hs8 j y d hj hd hdl hl)
      · rw[tmps_put,if_neg (fun e2=>by
          have:=ht i x hxi (by rw[hdst];exact e2.1)
          rw[getD_set_same' hils] at this
          simp at this)]
        exact VR_later g5 (AV.ids_true _) (hs9 t fun j y hj hd=>by
          have:=ht j y hj hd
          by_cases e : i=j
          · rw[← e];exact hnl
          · rw[getD_set_ne' e] at this;exact this)
    have hset_ch : x.op.isChain=false→∀ (c : Nat) (y : IO'),l[c]? = some y→y.op.isChain=true→((listed.setIfInBounds i true).getD c false=true ↔ c < s):=by
      intro hnc c y hc' hch
      have e : i ≠ c:=fun e=>by
        subst e
        rw[hxi] at hc'
        cases hc'
        rw[hnc] at hch
        simp at hch
      rw[getD_set_ne' e]
      exact hs2 c y hc' hch
    have hset_al : x.op.isAlloc=false→∀ (j : Nat) (y : IO'),l[j]? = some y→y.op.isAlloc=true→j < N→(Hs j).length < (Hs (j+1)).length→(listed.setIfInBounds i true).getD j false=false→φ' (Hs j).length=none:=by
      intro hna j y hj hal hjN hlt hu
      have e : i ≠ j:=fun e=>by
        subst e
        rw[hxi] at hj
        cases hj
        rw[hna] at hal
        simp at hal
      rw[getD_set_ne' e] at hu
      exact hs6 j y hj hal hjN hlt hu
    unfold wpOp
    rw[ho]
    simp only
    rcases Nat.lt_or_ge i N with hlt | hge
    case inr =>
      have hieq : i=N:=by omega
      subst hieq
      rcases hrd.fin with ⟨g1,_⟩ | ⟨o',v',H',g1,⟨g2,g3,g4⟩,g5,g6⟩
      · omega
      · rw[show i - 0=i from rfl,hxi] at g1
        cases g1
        have hs : s=i:=by
          rcases hs3 with h1 | ⟨y,h1,h2⟩
          · exact h1
          · rcases Nat.lt_or_ge s i with h3 | h3
            · have h4:=(okD_spec hD hxi h1).2.2.2 h3 (.inl ⟨g3,h2⟩)
              have:=(hs2 s y h1 h2).1 (hanc s h4)
              omega
            · omega
        subst hs
        rcases guard_wanted hgd hFS (guardK_congr hgev g2) with ⟨hw,_⟩ | ⟨_,hf⟩
        · rw[if_pos hw]
          left
          rw[opK_congr hev] at g4
          refine op_wp hcx hs4 hFS g4 (fun v u φ2 H2 w2 k1=>k1.elim) (fun v u φ2 H2 w2 k1 k2 k3 k4=>?_)
          obtain ⟨rfl,rfl⟩:=k1
          refine hp v u (blankT l ts) act φ2 H2 w2 g6 k2 ⟨by rw[hs7,(blankT_get l ts).1],fun t=>?_⟩ k3 (hs5.trans k4) hI.dfs
          rcases (blankT_get l ts).2 t with h1 | ⟨h1,h2⟩
          · rw[h1];exact vr_top _
          · rw[h1]
            exact k4.vr (hs9 t fun j y hj hd=>absurd hd (h2 y (List.mem_of_getElem? hj)))
        · exact hf.elim
    case inl =>
      have hsi:=(hst i x hlt hxi).2
      have hno : guardK tsS False True x.guard→Region.wanted o (yielded ops act.tmps)=false:=fun hg=>by
        rcases guard_wanted hgd hFS hg with ⟨_,hf⟩ | ⟨hw,_⟩
        · exact hf.elim
        · exact hw
      rcases hsi with ⟨hg,hop⟩ | ⟨hg,hv,hHe⟩
      case inr =>
        rw[if_neg (by rw[hno (guardK_congr hgev hg)];simp)]
        have hsame : ∀ s2 w2,Later (fun _=>True) φ' φ' (Own φ' (Hs s2)) (Own φ' (Hs s2)) w2 w2:=fun _ _=>Later.refl
        have hvu : ∀ (φ2 : Phi) (O2 : Nat→Prop),VR φ2 O2 w' (vs i) undef:=fun _ _=>by rw[hv];exact vr_undef
        cases hch : x.op.isChain with
        | false =>
          refine adv φ' s w' undef hlt hs1 (hset_ch hch) hs3 hs4 Later.refl (fun _ _=>rfl) rfl rfl rfl (fun j y hj hal hjN hl2 hu=>?_) (hvu _ _)
          by_cases e : i=j
          · subst e
            rw[hHe] at hl2
            omega
          · rw[getD_set_ne' e] at hu
            exact hs6 j y hj hal hjN hl2 hu
        | true =>
          have his : s=i:=by
            have h1 : ¬ i < s:=fun h1=>by
              have:=(hs2 i x hxi hch).2 h1
              rw[hnl] at this
              simp at this
            rcases hs3 with h2 | ⟨y,h2,h3⟩
            · omega
            · rcases Nat.lt_or_ge s i with h4 | h4
              · have h5:=(okD_spec hD hxi h2).2.2.2 h4 (.inl ⟨hch,h3⟩)
                have:=(hs2 s y h2 h3).1 (hanc s h5)
                omega
              · omega
          subst his
          obtain ⟨s2,n1,n2,n3,n4⟩:=next_at (fun m=>match l[m]? with | some y=>y.op.isChain | none=>false) N (N - (s+1)) (s+1) (by omega)
          have hE : Ext (Hs (s+1)) (Hs s2):=by
            have:=hext (s2 - (s+1)) (s+1) (by omega) fun m y g1 g2 g3=>by have:=n4 m g1 (by omega);rw[g3] at this;exact this
            rwa [show s+1+(s2 - (s+1))=s2 from by omega] at this
          rw[hHe] at hE
          obtain ⟨r1,r2⟩:=hs4.ext hE
          refine adv φ' s2 w' undef hlt n2 (fun c y hcy hcc=>?_) ?_ r1 r2.toLater (fun _ _=>rfl) rfl rfl rfl (fun j y hj hal hjN hl2 hu=>?_) (hvu _ _)
          · by_cases e : s=c
            · subst e
              rw[getD_set_same' hils]
              simp;omega
            · rw[getD_set_ne' e,hs2 c y hcy hcc]
              constructor
              · intro h;omega
              · intro h
                rcases Nat.lt_or_ge c (s+1) with h1 | h1
                · omega
                · have:=n4 c h1 h
                  rw[hcy] at this
                  simp only at this
                  rw[hcc] at this
                  simp at this
          · rcases n3 with h3 | h3
            · exact .inl h3
            · split at h3
              · rename_i y hy;exact .inr ⟨y,hy,h3⟩
              · simp at h3
          · by_cases e : s=j
            · subst e
              rw[hHe] at hl2
              omega
            · rw[getD_set_ne' e] at hu
              exact hs6 j y hj hal hjN hl2 hu
      case inl =>
        rcases guard_wanted hgd hFS (guardK_congr hgev hg) with ⟨hw,_⟩ | ⟨_,hf⟩
        case inr=>exact hf.elim
        rw[if_pos hw]
        left
        have hop':=hop
        rw[opK_congr hev] at hop
        cases hch : x.op.isChain with
        | true =>
          have his : s=i:=by
            have h1 : ¬ i < s:=fun h1=>by
              have:=(hs2 i x hxi hch).2 h1
              rw[hnl] at this
              simp at this
            rcases hs3 with h2 | ⟨y,h2,h3⟩
            · omega
            · rcases Nat.lt_or_ge s i with h4 | h4
              · have h5:=(okD_spec hD hxi h2).2.2.2 h4 (.inl ⟨hch,h3⟩)
                have:=(hs2 s y h2 h3).1 (hanc s h5)
                omega
              · omega
          subst his
          refine op_wp hcx hs4 hFS hop (fun v u φ2 H2 w2 k1 k2 k3 k4=>?_) (fun v u φ2 H2 w2 k1=>k1.elim)
          obtain ⟨rfl,rfl⟩:=k1
          obtain ⟨s2,n1,n2,n3,n4⟩:=next_at (fun m=>match l[m]? with | some y=>y.op.isChain | none=>false) N (N - (s+1)) (s+1) (by omega)
          have hE : Ext (Hs (s+1)) (Hs s2):=by
            have:=hext (s2 - (s+1)) (s+1) (by omega) fun m y g1 g2 g3=>by have:=n4 m g1 (by omega);rw[g3] at this;exact this
            rwa [show s+1+(s2 - (s+1))=s2 from by omega] at this
          obtain ⟨r1,r2⟩:=k3.ext hE
          have k5:=k4.trans r2
          have hl0 : H.length ≤ (Hs s).length:=by
            have:=hmono' 0 s (Nat.zero_le _) hs1
            rwa [hH0] at this
          refine adv φ2 s2 w2 u hlt n2 (fun c y hcy hcc=>?_) ?_ r1 k5.toLater (fun id hid=>k5.old id (by omega)) k5.os k5.tape k5.output (fun j y hj hal hjN hl2 hu=>?_) (r2.vr k2)
          · by_cases e : s=c
            · subst e
              rw[getD_set_same' hils]
              simp;omega
            · rw[getD_set_ne' e,hs2 c y hcy hcc]
              constructor
              · intro h;omega
              · intro h
                rcases Nat.lt_or_ge c (s+1) with h1 | h1
                · omega
                · have:=n4 c h1 h
                  rw[hcy] at this
                  simp only at this
                  rw[hcc] at this
                  simp at this
          · rcases n3 with h3 | h3
            · exact .inl h3
            · split at h3
              · rename_i y hy;exact .inr ⟨y,hy,h3⟩
              · simp at h3
          · have e : s ≠ j:=fun e=>by
              subst e
              rw[hxi] at hj
              cases hj
              cases hxo : x.op with
              | p q=>rw[hxo] at hal;simp[IOp.isAlloc] at hal
              | h q=>rw[hxo] at hal hch;cases q <;> simp[IOp.isAlloc,HO.isAlloc,IOp.isChain,HO.isChain] at hal hch
            rw[getD_set_ne' e] at hu
            rcases Nat.lt_or_ge j s with h1 | h1
            · have h2:=hs6 j y hj hal hjN hl2 hu
              have h3 : (Hs j).length < (Hs s).length:=by
                have:=hmono' (j+1) s (by omega) (by omega)
                omega
              rw[k4.old _ h3]
              exact h2
            · cases hφ : φ2 (Hs j).length with
              | none=>rfl
              | some bb =>
                have g1:=(k3.dom _ _ hφ).1
                have g2:=hmono' (s+1) j (by omega) (by omega)
                omega
        | false =>
          cases hal : x.op.isAlloc with
          | true =>
            obtain ⟨q,hq⟩ : ∃ q,x.op = .h q:=by
              cases hxo : x.op with
              | p q=>rw[hxo] at hal;simp[IOp.isAlloc] at hal
              | h q=>exact ⟨q,rfl⟩
            have hcq : compH P b o=some q:=by
              unfold compO at hcx
              split at hcx
              · simp at hcx
              split at hcx
              · cases hcx;cases hq
              · split at hcx
                · rename_i q' hq'
                  cases hcx
                  cases hq
                  exact hq'
                · cases hcx;cases hq
            rw[hq] at hop
            obtain ⟨blk,cur,cap,u,a1,a1k,a2,a3,a4,a5,a6,a7,a8,a9⟩:=alloc_at hcq (by rw[hq] at hal;exact hal) hFS hop
            have his : i < s:=by
              rcases Nat.lt_or_ge i s with h1 | h1
              · exact h1
              · rcases hs3 with h2 | ⟨y,h2,h3⟩
                · omega
                · rcases Nat.lt_or_ge s i with h4 | h4
                  · have h5:=(okD_spec hD hxi h2).2.2.2 h4 (.inr ⟨hal,h3⟩)
                    have:=(hs2 s y h2 h3).1 (hanc s h5)
                    omega
                  · have : s=i:=by omega
                    subst this
                    rw[hxi] at h2
                    cases h2
                    rw[hch] at h3
                    simp at h3
            have hlen1 : (Hs (i+1)).length=(Hs i).length+1:=by rw[a1];simp
            have hfind : AHeap.find (Hs s) (Hs i).length=some blk:=by
              have key : ∀ k,i+1+k ≤ s→AHeap.find (Hs (i+1+k)) (Hs i).length=some blk:=by
                intro k
                induction k with
                | zero=>intro _;rw[Nat.add_zero,a1,AHeap.find_new]
                | succ k ih =>
                  intro hk
                  have ih:=ih (by omega)
                  obtain ⟨y,hy⟩:=hlx (i+1+k) (by omega)
                  have hl:=(hst (i+1+k) y (by omega) hy).2
                  cases hcc : y.op.isChain with
                  | false=>exact ((hl.ext hcc).2 _ (AHeap.find_lt ih)).trans ih
                  | true =>
                    refine (hrd.allc i x (i+1+k) y (Nat.zero_le _) (by omega) (by omega) (by simpa using hxi) hal hg (by simpa using hy) hcc ?_).trans ih
                    have g4:=(hs2 _ y hy hcc).2 (by omega)
                    unfold uno
                    have n1 : anc A i (i+1+k)=false:=by
                      cases hq : anc A i (i+1+k) with
                      | false=>rfl
                      | true=>have:=(okD_spec hD hxi hy).1 _ hq;omega
                    have n2 : anc A (i+1+k) i=false:=by
                      cases hq : anc A (i+1+k) i with
                      | false=>rfl
                      | true =>
                        have hml : i+1+k < l.length:=(List.getElem?_eq_some_iff.1 hy).1
                        obtain ⟨om,ym,m1,m2,_⟩:=hx (i+1+k) (by omega)
                        have:=okE_spec hA hI.cl (i+1+k+1) (i+1+k) om (by omega) m1 (hI.cl _ om m1 g4) i hq
                        rw[hnl] at this
                        simp at this
                    rw[n1,n2];rfl
              have:=key (s - (i+1)) (by omega)
              rwa [show i+1+(s - (i+1))=s from by omega] at this
            have hun : φ' (Hs i).length=none:=hs6 i x hxi hal hlt (by omega) hnl
            obtain ⟨r1,r2⟩:=hs4.allocAt hun hfind a1k cur cap a3 a4 a5 a6 a7 a8
            have hl0 : H.length ≤ (Hs i).length:=by
              have:=hmono' 0 i (Nat.zero_le _) (by omega)
              rwa [hH0] at this
            refine wp_value a2 (adv (φ'.add (Hs i).length w'.heap.size) s _ u hlt hs1 (hset_ch hch) hs3 r1 r2 (fun id hid=>by unfold Phi.add;rw[if_neg (by omega)]) rfl rfl rfl (fun j y hj haj hjN hl2 hu=>?_) (a9 _ _ _ (by simp[Phi.add]) (heap_alloc_new w' _)))
            have e : i ≠ j:=fun e=>by
              subst e
              rw[getD_set_same' hils] at hu
              simp at hu
            rw[getD_set_ne' e] at hu
            have hne : (Hs j).length ≠ (Hs i).length:=by
              rcases Nat.lt_or_ge i j with h1 | h1
              · have:=hmono' (i+1) j (by omega) (by omega)
                omega
              · have:=hmono' (j+1) i (by omega) (by omega)
                omega
            unfold Phi.add
            rw[if_neg hne]
            exact hs6 j y hj haj hjN hl2 hu
          | false =>
            have hload : ∀ m ag ad k id j f,x.op = .h (.load m ag ad)→X.ev tsS ad = .ptr k id j f→AHeap.find (Hs s) id=AHeap.find (Hs i) id:=by
              intro m ag ad k id j f he hp'
              have hlo : LoadOf x (fs i) id:=⟨m,ag,ad,k,j,f,he,by rw[hev ad (by rw[he];simp[IOp.xs,HO.xs])];exact hp'⟩
              have hvr : ∃ bb,φ' id=some bb:=by
                have hadx : ad ∈ x.op.xs:=by rw[he];simp[IOp.xs,HO.xs]
                cases ad with
                | k v =>
                  simp only[X.ev] at hp'
                  subst hp'
                  unfold compO at hcx
                  split at hcx
                  · simp at hcx
                  split at hcx
                  · cases hcx;cases he
                  · split at hcx
                    · rename_i q' hq'
                      cases hcx
                      cases he
                      unfold compH at hq'
                      split at hq'
                      case h_2=>rcases compU2_gx hq' with ⟨g9,xs9,e9⟩ | ⟨g9,xs9,e9⟩ <;> cases e9
                      rename_i hq1
                      cases hq'
                      replace hq':=hq1
                      clear hq1
                      unfold compH0 at hq'
                      split at hq'
                      · split at hq' <;> cases hq'
                        rename_i xo _ ho1 _ hxo
                        have:=ofX_spec hFS hxo
                        obtain ⟨bb,h1,_⟩:=VR_ptr this
                        exact ⟨bb,h1⟩
                      · split at hq' <;> (try split at hq') <;> (try split at hq') <;> (try split at hq') <;> simp at hq'
                      all_goals first
                        | (have h9:=compM_gx hq';simp at h9;done)
                        | (split at hq' <;> (try split at hq') <;> (try split at hq') <;> (try split at hq') <;> (try split at hq') <;> simp at hq';done)
                        | (simp at hq';done)
                        | (repeat' split at hq'
                           all_goals first | (simp at hq';done) | (have:=compZ_gx hq';simp at this;done) | (have:=extH_gx hq';simp at this;done))
                    · cases hcx;cases he
                | t t =>
                  have:=hFS.2 t
                  simp only[X.ev] at hp'
                  rw[hp'] at this
                  obtain ⟨bb,h1,_⟩:=VR_ptr this
                  exact ⟨bb,h1⟩
              obtain ⟨bb,hbb⟩:=hvr
              have hids:=(hs4.dom id bb hbb).1
              have both:=fun c y (h1 : c < N) (h2 : l[c]? = some y) (h3 : y.op.isChain=true) (h4 : uno A i c=true) (h5 : id < (Hs c).length)=>hrd.both i x id c y (Nat.zero_le _) hlt (Nat.zero_le _) h1 (by simpa using hxi) hlo hg (by simpa using h2) h3 h4 (by rw[uno_comm];exact h4) h5
              rcases Nat.lt_or_ge s i with h1 | h1
              ·
                have key : ∀ k,s+k ≤ i→AHeap.find (Hs (s+k)) id=AHeap.find (Hs s) id ∧ id < (Hs (s+k)).length:=by
                  intro k
                  induction k with
                  | zero=>intro _;exact ⟨rfl,hids⟩
                  | succ k ih =>
                    intro hk
                    obtain ⟨e1,e2⟩:=ih (by omega)
                    obtain ⟨y,hy⟩:=hlx (s+k) (by omega)
                    have hl:=(hst (s+k) y (by omega) hy).2
                    refine ⟨?_,Nat.lt_of_lt_of_le e2 hl.len⟩
                    rw[← e1]
                    cases hcc : y.op.isChain with
                    | false=>exact (hl.ext hcc).2 id e2
                    | true =>
                      refine both (s+k) y (by omega) hy hcc ?_ e2
                      unfold uno
                      have n1 : anc A i (s+k)=false:=by
                        cases hq : anc A i (s+k) with
                        | false=>rfl
                        | true =>
                          have:=(hs2 _ y hy hcc).1 (hanc _ hq)
                          omega
                      have n2 : anc A (s+k) i=false:=by
                        cases hq : anc A (s+k) i with
                        | false=>rfl
                        | true=>have:=(okD_spec hD hy hxi).1 i hq;omega
                      rw[n1,n2];rfl
                have:=(key (i - s) (by omega)).1
                rw[show s+(i - s)=i from by omega] at this
                exact this.symm
              ·
                have hidi : id < (Hs i).length:=by
                  have h2 : ∃ blk,AHeap.find (Hs i) id=some blk:=by
                    rw[he] at hop'
                    simp only[opK,HO.sem] at hop'
                    obtain ⟨_,_,_,_,_,_,e1,e2⟩:=hlo
                    rw[he] at e1
                    cases e1
                    rw[e2] at hop'
                    obtain ⟨blk,_,h3,_⟩:=hop'
                    exact ⟨blk,h3⟩
                  obtain ⟨blk,h3⟩:=h2
                  exact AHeap.find_lt h3
                have key : ∀ k,i+k ≤ s→AHeap.find (Hs (i+k)) id=AHeap.find (Hs i) id ∧ id < (Hs (i+k)).length:=by
                  intro k
                  induction k with
                  | zero=>intro _;exact ⟨rfl,hidi⟩
                  | succ k ih =>
                    intro hk
                    obtain ⟨e1,e2⟩:=ih (by omega)
                    obtain ⟨y,hy⟩:=hlx (i+k) (by omega)
                    have hl:=(hst (i+k) y (by omega) hy).2
                    refine ⟨?_,Nat.lt_of_lt_of_le e2 hl.len⟩
                    rw[← e1]
                    cases hcc : y.op.isChain with
                    | false=>exact (hl.ext hcc).2 id e2
                    | true =>
                      refine both (i+k) y (by omega) hy hcc ?_ e2
                      unfold uno
                      have n1 : anc A i (i+k)=false:=by
                        cases hq : anc A i (i+k) with
                        | false=>rfl
                        | true=>have:=(okD_spec hD hxi hy).1 _ hq;omega
                      have n2 : anc A (i+k) i=false:=by
                        cases hq : anc A (i+k) i with
                        | false=>rfl
                        | true =>
                          have g4:=(hs2 _ y hy hcc).2 (by omega)
                          have hml : i+k < l.length:=(List.getElem?_eq_some_iff.1 hy).1
                          obtain ⟨om,ym,m1,m2,_⟩:=hx (i+k) (by omega)
                          have:=okE_spec hA hI.cl (i+k+1) (i+k) om (by omega) m1 (hI.cl _ om m1 g4) i hq
                          rw[hnl] at this
                          simp at this
                      rw[n1,n2];rfl
                have:=(key (s - i) (by omega)).1
                rw[show i+(s - i)=s from by omega] at this
                exact this
            obtain ⟨q1,q2⟩:=quiet_op (T:=Hs s) hch hal hop hload
            refine op_wp hcx hs4 hFS q2 (fun v u φ2 H2 w2 k1 k2 k3 k4=>?_) (fun v u φ2 H2 w2 k1=>k1.elim)
            obtain ⟨rfl,rfl⟩:=k1
            have hl0 : H.length ≤ (Hs s).length:=by
              have:=hmono' 0 s (Nat.zero_le _) hs1
              rwa [hH0] at this
            refine adv φ2 s w2 u hlt hs1 (hset_ch hch) hs3 k3 k4.toLater (fun id hid=>k4.old id (by omega)) k4.os k4.tape k4.output (fun j y hj haj hjN hl2 hu=>?_) k2
            have h1:=hset_al hal j y hj haj hjN hl2 hu
            rcases Nat.lt_or_ge (Hs j).length (Hs s).length with h2 | h2
            · rw[k4.old _ h2];exact h1
            · cases hφ : φ2 (Hs j).length with
              | none=>rfl
              | some bb=>have:=(k3.dom _ _ hφ).1;omega
theorem region_drawn {b : Bool} {id : Nat} {ops : Array Oper} {l : List IO'} {A : List (List Nat)} (hm : P.follows .mixedOrders=true) (hc : compOps P b ops ops.toList=some l) (hA : okE ops A=true) (hD : okD l A=true)
    {Q : Exit→Act→World→Prop} {K : List AV→AHeap→Prop} {Kp : AV→List AV→AHeap→Prop} {φ : Phi} {H : AHeap} {w : World} {ts : List AV} {a : Act}
    (hR : Rel φ H w) (hF : FR φ (Own φ H) w ts a) (h : runD P A l.length K (fun v H'=>Kp v (blankT l ts) H') 0 l ts H [] []) (hk : ContOk Q K φ H w a.defers) (hp : PanOk Q Kp φ H w a.defers) : (Code.region id ops true).wp P Q a w :=
  wp_region_any hm (region_any hc hA hD hR hF h hk hp)
def renOp (ρ : Nat→Nat) (o : Oper) : Oper:={ o with after:=o.after.map (fun e=>{ e with on:=ρ e.on }),guard:=o.guard.map fun g=>(ρ g.1,g.2) }
def hoistS (ops : Array Oper) : List Nat :=
  let free:=fun i=>match ops[i]? with | some o=>(match o.op with | .alloc _=>o.after.isEmpty && o.guard.isNone | _=>false) | none=>false
  (List.range ops.size).filter free ++ (List.range ops.size).filter (fun i=>!free i)
def hoistR (σ : List Nat) (i : Nat) : Nat:=if i < σ.length then σ.idxOf i else i
def hoistO (σ : List Nat) (ops : Array Oper) : Array Oper:=(σ.map fun i=>renOp (hoistR σ) (ops.getD i default)).toArray
def hoistOk (σ : List Nat) (n : Nat) : Bool:=σ.length == n && (List.range n).all (fun i=>σ.contains i) && σ.all (fun i=>decide (i < n)) && (List.range n).all fun p=>hoistR σ (σ.getD p 0) == p
section hoist
variable {ops : Array Oper} {σ : List Nat}
theorem hoist_facts (h : hoistOk σ ops.size=true) : σ.length=ops.size ∧ (∀ p,p < ops.size→σ.getD p 0 < ops.size ∧ hoistR σ (σ.getD p 0)=p) ∧ (∀ i,i < ops.size→hoistR σ i < ops.size ∧ σ.getD (hoistR σ i) 0=i) ∧ (∀ i,ops.size ≤ i→hoistR σ i=i):=by
  unfold hoistOk at h
  simp only[Bool.and_eq_true,beq_iff_eq,List.all_eq_true,List.mem_range,decide_eq_true_eq] at h
  obtain ⟨⟨⟨h1,h2⟩,h3⟩,h4⟩:=h
  refine ⟨h1,fun p hp=>⟨h3 _ ?_,h4 p hp⟩,fun i hi=>?_,fun i hi=>?_⟩
  · rw[List.getD_eq_getElem?_getD,List.getElem?_eq_getElem (by omega)]
    exact List.getElem_mem _
  · have hm : i ∈ σ:=by simpa using h2 i hi
    have hl:=List.idxOf_lt_length_of_mem hm
    unfold hoistR
    rw[if_pos (by omega)]
    refine ⟨by omega,?_⟩
    rw[List.getD_eq_getElem?_getD,List.getElem?_eq_getElem hl]
    exact List.getElem_idxOf hl
  · unfold hoistR
    rw[if_neg (by omega)]
theorem hoistO_get (h : hoistOk σ ops.size=true) {p : Nat} (hp : p < ops.size) : ∃ o,ops[σ.getD p 0]? = some o ∧ (hoistO σ ops)[p]? = some (renOp (hoistR σ) o):=by
  obtain ⟨h1,h2,_,_⟩:=hoist_facts h
  have h3:=(h2 p hp).1
  refine ⟨ops[σ.getD p 0],by simp[h3],?_⟩
  have hpl : p < σ.length:=by omega
  have e : σ.getD p 0=σ[p]:=by simp[List.getD,hpl]
  simp only[e] at h3 ⊢
  simp[hoistO,hpl,Array.getD,h3]
theorem hoistO_size (h : hoistOk σ ops.size=true) : (hoistO σ ops).size=ops.size:=by simp[hoistO,(hoist_facts h).1]
theorem hoist_yielded (h : hoistOk σ ops.size=true) (ts : Array Value) (j : Nat) : yielded (hoistO σ ops) ts (hoistR σ j)=yielded ops ts j:=by
  obtain ⟨h1,h2,h3,h4⟩:=hoist_facts h
  by_cases hj : j < ops.size
  · obtain ⟨o,e1,e2⟩:=hoistO_get h (h3 j hj).1
    rw[(h3 j hj).2] at e1
    unfold yielded
    rw[e1,e2]
    rfl
  · rw[h4 j (by omega)]
    unfold yielded
    have e1 : ops[j]? = none:=by simp;omega
    have e2 : (hoistO σ ops)[j]? = none:=by simp[hoistO_size h];omega
    rw[e1,e2]
theorem hoist_wpOp (h : hoistOk σ ops.size=true) {Q : Exit→Act→World→Prop} {K : Act→World→Prop} {a : Act} {w : World} {i : Nat} (hi : i < ops.size) (hw : wpOp P (hoistO σ ops) Q (hoistR σ i) K a w) : wpOp P ops Q i K a w:=by
  obtain ⟨h1,h2,h3,h4⟩:=hoist_facts h
  obtain ⟨o,e1,e2⟩:=hoistO_get h (h3 i hi).1
  rw[(h3 i hi).2] at e1
  unfold wpOp at hw ⊢
  rw[e2] at hw
  rw[e1]
  simp only at hw ⊢
  have e3 : Region.wanted (renOp (hoistR σ) o) (yielded (hoistO σ ops) a.tmps)=Region.wanted o (yielded ops a.tmps):=by
    unfold Region.wanted renOp
    cases o.guard with
    | none=>rfl
    | some g=>simp only[Option.map_some];rw[hoist_yielded h]
  rw[e3] at hw
  exact hw
theorem hoist_any (h : hoistOk σ ops.size=true) {Q : Exit→Act→World→Prop} : ∀ (fuel : Nat) (L L' : Array Bool) (a : Act) (w : World),L.size=ops.size→L'.size=ops.size→(∀ i,i < ops.size→L'[hoistR σ i]? = L[i]?)→wpAny P .any (hoistO σ ops) Q fuel L' a w→wpAny P .any ops Q fuel L a w:=by
  obtain ⟨h1,h2,h3,h4⟩:=hoist_facts h
  have hget : ∀ (L L' : Array Bool),L.size=ops.size→L'.size=ops.size→(∀ i,i < ops.size→L'[hoistR σ i]? = L[i]?)→∀ i b,L'.getD (hoistR σ i) b=L.getD i b:=by
    intro L L' z1 z2 hL i b
    by_cases hi : i < ops.size
    · have:=hL i hi
      rw[Array.getD_eq_getD_getElem?,Array.getD_eq_getD_getElem?,this]
    · rw[h4 i (by omega),Array.getD_eq_getD_getElem?,Array.getD_eq_getD_getElem?]
      have e1 : L'[i]? = none:=by simp;omega
      have e2 : L[i]? = none:=by simp;omega
      rw[e1,e2]
  have hready : ∀ (L L' : Array Bool),L.size=ops.size→L'.size=ops.size→(∀ i,i < ops.size→L'[hoistR σ i]? = L[i]?)→∀ i,i < ops.size→(hoistR σ i ∈ Region.ready .any (hoistO σ ops) L' ↔ i ∈ Region.ready .any ops L):=by
    intro L L' z1 z2 hL i hi
    obtain ⟨o,e1,e2⟩:=hoistO_get h (h3 i hi).1
    rw[(h3 i hi).2] at e1
    unfold Region.ready
    simp only[List.mem_filter,List.mem_range,hoistO_size h,e1,e2,Option.map_some,Option.getD_some,hget L L' z1 z2 hL]
    have e3 : ((renOp (hoistR σ) o).after.all fun e=>!Region.binds .any e || L'.getD e.on false)=(o.after.all fun e=>!Region.binds .any e || L.getD e.on false):=by
      unfold renOp
      simp only[Array.all_map]
      congr 1
      funext e
      simp only[Function.comp]
      rw[hget L L' z1 z2 hL]
      rfl
    rw[e3]
    constructor
    · intro hh;exact ⟨hi,hh.2⟩
    · intro hh;exact ⟨(h3 i hi).1,hh.2⟩
  have hnil : ∀ (L L' : Array Bool),L.size=ops.size→L'.size=ops.size→(∀ i,i < ops.size→L'[hoistR σ i]? = L[i]?)→(Region.ready .any ops L=[] ↔ Region.ready .any (hoistO σ ops) L'=[]):=by
    intro L L' z1 z2 hL
    constructor
    · intro he
      apply List.eq_nil_iff_forall_not_mem.2
      intro p hp
      have hpl : p < ops.size:=by
        unfold Region.ready at hp
        simp only[List.mem_filter,List.mem_range,hoistO_size h] at hp
        exact hp.1
      have hq:=(hready L L' z1 z2 hL (σ.getD p 0) (h2 p hpl).1).1 (by rw[(h2 p hpl).2];exact hp)
      rw[he] at hq
      simp at hq
    · intro he
      apply List.eq_nil_iff_forall_not_mem.2
      intro i hi
      have hil : i < ops.size:=by
        unfold Region.ready at hi
        simp only[List.mem_filter,List.mem_range] at hi
        exact hi.1
      have hq:=(hready L L' z1 z2 hL i hil).2 hi
      rw[he] at hq
      simp at hq
  intro fuel
  induction fuel with
  | zero =>
    intro L L' a w z1 z2 hL hw
    exact ⟨(hnil L L' z1 z2 hL).2 hw.1,hw.2⟩
  | succ fuel ih =>
    intro L L' a w z1 z2 hL hw
    refine ⟨fun he=>hw.1 ((hnil L L' z1 z2 hL).1 he),fun i hi=>?_⟩
    have hil : i < ops.size:=by
      have:=hi
      unfold Region.ready at this
      simp only[List.mem_filter,List.mem_range] at this
      exact this.1
    have hq:=hw.2 _ ((hready L L' z1 z2 hL i hil).2 hi)
    refine wpOp_mono (fun a' w' hh=>ih _ _ a' w' (by simpa using z1) (by simpa using z2) (fun j hj=>?_) hh) (hoist_wpOp h hil hq)
    rw[Array.getElem?_setIfInBounds,Array.getElem?_setIfInBounds]
    by_cases e : i=j
    · subst e
      rw[if_pos rfl,if_pos rfl,if_pos (by rw[z2];exact (h3 i hil).1),if_pos (by rw[z1];exact hil)]
    · rw[if_neg e,if_neg (fun e2=>e (by
        have:=congrArg (fun p=>σ.getD p 0) e2
        simp only[(h3 i hil).2,(h3 j hj).2] at this
        exact this))]
      exact hL j hj
end hoist
theorem region_hoistA {b : Bool} {ops : Array Oper} {σ : List Nat} {l : List IO'} {A : List (List Nat)} (hm : P.follows .mixedOrders=true) (hσ : hoistOk σ ops.size=true) (hc : compOps P b (hoistO σ ops) (hoistO σ ops).toList=some l) (hA : okE (hoistO σ ops) A=true) (hD : okD l A=true)
    {Q : Exit→Act→World→Prop} {K : List AV→AHeap→Prop} {Kp : AV→List AV→AHeap→Prop} {φ : Phi} {H : AHeap} {w : World} {ts : List AV} {a : Act}
    (hR : Rel φ H w) (hF : FR φ (Own φ H) w ts a) (h : runD P A l.length K (fun v H'=>Kp v (blankT l ts) H') 0 l ts H [] []) (hk : ContOk Q K φ H w a.defers) (hp : PanOk Q Kp φ H w a.defers) : wpAny P .any ops Q ops.size (Array.replicate ops.size false) a { w with drawn:=w.drawn+1 }:=by
  have h1:=region_any hc hA hD hR hF h hk hp
  rw[hoistO_size hσ] at h1
  obtain ⟨_,_,h3,_⟩:=hoist_facts hσ
  refine hoist_any hσ _ _ _ a _ (by simp) (by simp) (fun i hi=>?_) h1
  rw[Array.getElem?_replicate,Array.getElem?_replicate,if_pos hi,if_pos (h3 i hi).1]
theorem region_hoist {b : Bool} {id : Nat} {ops : Array Oper} {σ : List Nat} {l : List IO'} {A : List (List Nat)} (hm : P.follows .mixedOrders=true) (hσ : hoistOk σ ops.size=true) (hc : compOps P b (hoistO σ ops) (hoistO σ ops).toList=some l) (hA : okE (hoistO σ ops) A=true) (hD : okD l A=true)
    {Q : Exit→Act→World→Prop} {K : List AV→AHeap→Prop} {Kp : AV→List AV→AHeap→Prop} {φ : Phi} {H : AHeap} {w : World} {ts : List AV} {a : Act}
    (hR : Rel φ H w) (hF : FR φ (Own φ H) w ts a) (h : runD P A l.length K (fun v H'=>Kp v (blankT l ts) H') 0 l ts H [] []) (hk : ContOk Q K φ H w a.defers) (hp : PanOk Q Kp φ H w a.defers) : (Code.region id ops true).wp P Q a w :=
  wp_region_any hm (region_hoistA hm hσ hc hA hD hR hF h hk hp)
end
end Go.Proofs.YtdjnccnecgblmaaGreatDoor
namespace Go.Proofs.YtdjnccnecgblmaaGreatDoor
open Go.RowKit
set_option linter.unusedVariables false
set_option linter.unusedSimpArgs false
inductive IC where
  | skip
  | ops (l : List IO')
  | dops (l : List IO') (A : List (List Nat))
  | seq (a b : IC)
  | cond (c : X) (a b : IC)
  | block (id : Nat) (c : IC)
  | loop (c : IC)
  | exit (id : Nat)
  | ret
  | yld (l1 : List IO') (g : Option (Nat × Bool)) (y : X) (args : List X) (d : Option Nat) (l2 : List IO')
  | rng (g : X) (ps : Array Tmp) (asg body : Code)
inductive AX where
  | normal
  | exit (id : Nat)
  | ret
  | pan (v : AV)
def hoistC (P : Program) (b : Bool) (ops : Array Oper) : Option IC :=
  let σ:=hoistS ops
  let ops':=hoistO σ ops
  match compOps P b ops' ops'.toList with
  | none=>none
  | some l=>(let A:=ancsOf ops';if hoistOk σ ops.size && okE ops' A && okD l A && P.follows .mixedOrders then some (.dops l A) else none)
def deadC : IC:=.ops [⟨none,none,.p (.un .not (.k .top))⟩]
def compC (P : Program) (vecs : List Nat) : Code→Option IC
  | .skip=>some .skip
  | .label _=>some .skip
  | .region id ops draw =>
    match compOps P (vecs.contains id) ops ops.toList with
    | none=>none
    | some l=>if draw then (let A:=ancsOf ops;if okE ops A && okD l A && P.follows .mixedOrders then some (.dops l A) else hoistC P (vecs.contains id) ops) else some (.ops l)
  | .seq a b=>match compC P vecs a,compC P vecs b with
    | some x,some y=>some (.seq x y)
    | _,_=>none
  | .cond c a b=>match ofX c,compC P vecs a,compC P vecs b with
    | some c,some x,some y=>some (.cond c x y)
    | _,_,_=>none
  | .block id c=>(compC P vecs c).map (.block id)
  | .loop c=>(compC P vecs c).map .loop
  | .exit id=>some (.exit id)
  | .ret=>some .ret
  | .refuse _=>some deadC
  | _=>none
abbrev Post:=AX→List AV→AHeap→Prop
def thenK (next : List AV→AHeap→Prop) (K : Post) : Post
  | .normal,ts,H=>next ts H
  | x,ts,H=>K x ts H
def blockK (id : Nat) (K : Post) : Post
  | .exit i,ts,H=>if i=id then K .normal ts H else K (.exit i) ts H
  | x,ts,H=>K x ts H
def DY (P : Program) (id : Nat) (args : List AV) (H : AHeap) (e : AEnd) (H' : AHeap) : Prop :=
  H.length ≤ H'.length ∧ ∀ (φ : Phi) (w : World) (b : Nat) (vs : Array Value),Rel φ H w→φ id=some b→Rt φ (Own φ H) w args vs.toList →
    ∃ f tmps asg body,(Instr.yield b vs).run P w = .ok (.round b f tmps asg body) w ∧
      RoundIn Fence.wide 0 P b f tmps asg body w fun en w'=>∃ φ',EndR φ' (Own φ' H') w' e en ∧ Rel φ' H' w' ∧ Step φ H w φ' H' w'
def yldK (P : Program) (K Kp : AV→AHeap→Prop) (args : List AV) (H : AHeap) : AV→Prop
  | .ptr k id j f=>(k=0 ∧ f=1) ∧ ∃ e H',DY P id args H e H' ∧ AEnd.post K Kp H' e
  | _=>False
def recB (fn db : Nat) (ps : Array Tmp) (asg body : Code) : Loop:={ state:=.ready,pending:=none,fn:=fn,tmps:=#[],params:=ps,assign:=asg,body:=body,defers:=db }
def lpB (r : Loop) (ts : List AV) : ABlk:=⟨0,.rcd r :: ts,false,1⟩
def jmpK (K : Post) (ts : List AV) (H : AHeap) : Option Code→Prop
  | none=>K .normal ts H
  | some .ret=>K .ret ts H
  | some (.exit i)=>K (.exit i) ts H
  | _=>False
def rngK (P : Program) (ps : Array Tmp) (asg body : Code) (K : Post) (ts : List AV) (H : AHeap) : AV→Prop
  | .fn (.func f) [] caps=>callable P f=true ∧ ∀ fn db,∃ v H' r ts',D P f (.ptr 0 H.length 0 1 :: caps) (some (lpB (recB fn db ps asg body) ts) :: H) (.ret v) H' ∧
      AHeap.find H' H.length=some (lpB r ts') ∧ r.state ≠ .busy ∧ jmpK K ts (AHeap.set H' H.length none) r.pending
  | _=>False
def E (P : Program) : IC→Post→List AV→AHeap→Prop
  | .skip,K,ts,H=>K .normal ts H
  | .ops l,K,ts,H=>runOps P (K .normal) (fun v ts' H'=>K (.pan v) ts' H') l ts H
  | .dops l A,K,ts,H=>runD P A l.length (K .normal) (fun v H'=>K (.pan v) (blankT l ts) H') 0 l ts H [] []
  | .seq a b,K,ts,H=>E P a (thenK (E P b K) K) ts H
  | .cond c a b,K,ts,H=>match c.ev ts with
    | .sc (.bool t)=>(t=true→E P a K ts H) ∧ (t=false→E P b K ts H)
    | .ub=>E P a K ts H ∧ E P b K ts H
    | _=>False
  | .block id c,K,ts,H=>E P c (blockK id K) ts H
  | .loop c,K,ts,H=>∃ (I : List AV→AHeap→Prop) (μ : List AV→AHeap→Nat),I ts H ∧ ∀ ts H,I ts H→E P c (thenK (fun ts' H'=>I ts' H' ∧ μ ts' H' < μ ts H) K) ts H
  | .exit id,K,ts,H=>K (.exit id) ts H
  | .ret,K,ts,H=>K .ret ts H
  | .yld l1 g y args d l2,K,ts,H=>runOps P (fun ts1 H1=>guardK ts1 (yldK P (fun v H2=>runOps P (K .normal) (fun v ts' H'=>K (.pan v) ts' H') l2 (putT ts1 d v) H2) (fun v H2=>K (.pan v) ts1 H2) (args.map (X.ev ts1)) H1 (y.ev ts1)) (runOps P (K .normal) (fun v ts' H'=>K (.pan v) ts' H') l2 (putT ts1 d (.tup [])) H1) g) (fun v ts' H'=>K (.pan v) ts' H') l1 ts H
  | .rng g ps asg body,K,ts,H=>rngK P ps asg body K ts H (g.ev ts)
def XR (φ : Phi) (O : Nat→Prop) (w : World) : AX→Exit→Prop
  | .normal,.normal=>True
  | .exit i,.exit j=>i=j
  | .ret,.ret=>True
  | .pan x,.panic c=>ChR φ O w x c
  | _,_=>False
def CK (K : Post) (φ : Phi) (H : AHeap) (w : World) (ds : List Deferred) : Exit→Act→World→Prop:=fun e a' w' =>
  ∃ x ts' H' φ',XR φ' (Own φ' H') w' x e ∧ K x ts' H' ∧ FR φ' (Own φ' H') w' ts' a' ∧ Rel φ' H' w' ∧ Step φ H w φ' H' w' ∧ a'.defers=ds
theorem CK.step {K : Post} {φ φ' : Phi} {H H' : AHeap} {w w' : World} {ds : List Deferred} {e : Exit} {a : Act} {w2 : World} (hs : Step φ H w φ' H' w') (h : CK K φ' H' w' ds e a w2) : CK K φ H w ds e a w2:=by
  obtain ⟨x,ts,H2,φ2,h1,h2,h3,h4,h5,h6⟩:=h
  exact ⟨x,ts,H2,φ2,h1,h2,h3,h4,hs.trans h5,h6⟩
theorem E_sound {P : Program} {vecs : List Nat} : ∀ (c : Code) (ic : IC),compC P vecs c=some ic→∀ (K : Post) (φ : Phi) (H : AHeap) (w : World) (ts : List AV) (a : Act),Rel φ H w→FR φ (Own φ H) w ts a→E P ic K ts H→c.wp P (CK K φ H w a.defers) a w:=by
  intro c
  induction c with
  | skip =>
    intro ic hc K φ H w ts a hR hF h
    cases hc
    exact wp_skip ⟨.normal,ts,H,φ,trivial,h,hF,hR,Step.refl _ _ _,rfl⟩
  | label l =>
    intro ic hc K φ H w ts a hR hF h
    cases hc
    exact wp_label ⟨.normal,ts,H,φ,trivial,h,hF,hR,Step.refl _ _ _,rfl⟩
  | region id ops draw =>
    intro ic hc K φ H w ts a hR hF h
    simp only[compC] at hc
    split at hc
    · simp at hc
    rename_i l hl
    have hk : ContOk (CK K φ H w a.defers) (K .normal) φ H w a.defers:=fun ts' a' φ' H' w' k1 k2 k3 k4 k5=>⟨.normal,ts',H',φ',trivial,k1,k2,k3,k4,k5⟩
    have hp : PanOk (CK K φ H w a.defers) (fun v ts' H'=>K (.pan v) ts' H') φ H w a.defers:=fun v u ts' a' φ' H' w' k1 k2 k3 k4 k5 k6=>⟨.pan v,ts',H',φ',k2,k1,k3,k4,k5,k6⟩
    cases draw with
    | false =>
      simp only[Bool.false_eq_true,if_false] at hc
      cases hc
      exact region_seq hl hR hF h hk hp
    | true =>
      simp only[if_true] at hc
      split at hc
      case isFalse =>
        unfold hoistC at hc
        simp only at hc
        split at hc
        · simp at hc
        rename_i l2 hl2
        split at hc
        case isFalse=>simp at hc
        rename_i hcond
        simp only[Bool.and_eq_true] at hcond
        cases hc
        exact region_hoist hcond.2 hcond.1.1.1 hl2 hcond.1.1.2 hcond.1.2 hR hF h hk hp
      rename_i hcond
      simp only[Bool.and_eq_true] at hcond
      cases hc
      exact region_drawn hcond.2 hl hcond.1.1 hcond.1.2 hR hF h hk hp
  | seq x y ihx ihy =>
    intro ic hc K φ H w ts a hR hF h
    simp only[compC] at hc
    split at hc
    case h_2=>simp at hc
    rename_i ix iy h1 h2
    cases hc
    refine wp_seq (wp_mono (ihx ix h1 _ φ H w ts a hR hF h) ?_)
    rintro e a' w' ⟨x',ts',H',φ',k1,k2,k3,k4,k5,k6⟩
    cases x' with
    | normal =>
      cases e <;> try exact k1.elim
      show y.wp P _ a' w'
      have:=ihy iy h2 K φ' H' w' ts' a' k4 k3 k2
      rw[k6] at this
      exact wp_mono this fun e a2 w2 hc=>hc.step k5
    | exit i =>
      cases e <;> try exact k1.elim
      exact ⟨_,ts',H',φ',k1,k2,k3,k4,k5,k6⟩
    | ret =>
      cases e <;> try exact k1.elim
      exact ⟨.ret,ts',H',φ',k1,k2,k3,k4,k5,k6⟩
    | pan v =>
      cases e <;> try exact k1.elim
      exact ⟨_,ts',H',φ',k1,k2,k3,k4,k5,k6⟩
  | cond c x y ihx ihy =>
    intro ic hc K φ H w ts a hR hF h
    simp only[compC] at hc
    split at hc
    case h_2=>simp at hc
    rename_i c' ix iy h0 h1 h2
    cases hc
    have hv:=ofX_spec hF h0
    simp only[E] at h
    split at h
    · rename_i t he
      rw[he] at hv
      have hu:=VR_sc hv
      refine wp_cond hu ?_
      cases t with
      | true=>exact ihx ix h1 K φ H w ts a hR hF (h.1 rfl)
      | false=>exact ihy iy h2 K φ H w ts a hR hF (h.2 rfl)
    · rename_i he
      rw[he] at hv
      obtain ⟨t,ht⟩:=hv.2
      have hu : a.eval c = .bool t:=by
        have h1:=hv.1
        revert ht h1
        cases a.eval c <;> intro ht h1 <;> first | (simp[cget,Value.cells] at ht;first | exact congrArg Value.bool ht | done) | (exact absurd h1 (by simp[okA,Value.oneCell']))
      refine wp_cond hu ?_
      cases t with
      | true=>exact ihx ix h1 K φ H w ts a hR hF h.1
      | false=>exact ihy iy h2 K φ H w ts a hR hF h.2
    · exact h.elim
  | block id c ih =>
    intro ic hc K φ H w ts a hR hF h
    simp only[compC,Option.map_eq_some_iff] at hc
    obtain ⟨ix,h1,rfl⟩:=hc
    refine wp_block (wp_mono (ih ix h1 _ φ H w ts a hR hF h) ?_)
    rintro e a' w' ⟨x',ts',H',φ',k1,k2,k3,k4,k5,k6⟩
    cases x' with
    | normal =>
      cases e <;> try exact k1.elim
      exact ⟨.normal,ts',H',φ',k1,k2,k3,k4,k5,k6⟩
    | exit i =>
      cases e <;> try exact k1.elim
      rename_i j
      have : i=j:=k1
      subst this
      simp only[blockK] at k2
      simp only[Exit.inBlock]
      split
      · rename_i e2
        rw[if_pos e2] at k2
        exact ⟨.normal,ts',H',φ',trivial,k2,k3,k4,k5,k6⟩
      · rename_i e2
        rw[if_neg e2] at k2
        exact ⟨.exit i,ts',H',φ',rfl,k2,k3,k4,k5,k6⟩
    | ret =>
      cases e <;> try exact k1.elim
      exact ⟨.ret,ts',H',φ',k1,k2,k3,k4,k5,k6⟩
    | pan v =>
      cases e <;> try exact k1.elim
      exact ⟨.pan v,ts',H',φ',k1,k2,k3,k4,k5,k6⟩
  | loop c ih =>
    intro ic hc K φ H w ts a hR hF h
    simp only[compC,Option.map_eq_some_iff] at hc
    obtain ⟨ix,h1,rfl⟩:=hc
    obtain ⟨I,μ,h2,h3⟩:=h
    intro b k cs
    have key : ∀ n ts1 H1 φ1 w1 a1,μ ts1 H1=n→I ts1 H1→FR φ1 (Own φ1 H1) w1 ts1 a1→Rel φ1 H1 w1→Step φ H w φ1 H1 w1→a1.defers=a.defers →
        ∃ e a' w',CK K φ H w a.defers e a' w' ∧ Arrives P (lone (b.at a1 (.code c :: .inLoop c :: k)) cs w1) b k cs e a' w':=by
      intro n
      induction n using Nat.strongRecOn with
      | _ n ihn =>
        intro ts1 H1 φ1 w1 a1 hn hI hF1 hR1 hS1 hd1
        obtain ⟨e,a2,w2,⟨x',ts',H',φ',k1,k2,k3,k4,k5,k6⟩,harr⟩:=ih ix h1 _ φ1 H1 w1 ts1 a1 hR1 hF1 (h3 ts1 H1 hI) b (.inLoop c :: k) cs
        cases x' with
        | normal =>
          cases e <;> try exact k1.elim
          obtain ⟨g1,g2⟩:=k2
          obtain ⟨e3,a3,w3,hq3,harr3⟩:=ihn (μ ts' H') (hn ▸ g2) ts' H' φ' w2 a2 rfl g1 k3 k4 (hS1.trans k5) (by rw[k6,hd1])
          exact ⟨e3,a3,w3,hq3,.of_steps (Steps.trans harr (.one step_inLoop)) harr3⟩
        | exit i =>
          cases e <;> try exact k1.elim
          exact ⟨_,a2,w2,⟨.exit i,ts',H',φ',k1,k2,k3,k4,hS1.trans k5,by rw[k6,hd1]⟩,.pass (x:=.inLoop c) rfl (fun _ _=>.inl (by simp)) harr⟩
        | ret =>
          cases e <;> try exact k1.elim
          exact ⟨_,a2,w2,⟨.ret,ts',H',φ',k1,k2,k3,k4,hS1.trans k5,by rw[k6,hd1]⟩,.pass (x:=.inLoop c) rfl (fun _ _=>.inl (by simp)) harr⟩
        | pan v =>
          cases e <;> try exact k1.elim
          exact ⟨_,a2,w2,⟨.pan v,ts',H',φ',k1,k2,k3,k4,hS1.trans k5,by rw[k6,hd1]⟩,.pass (x:=.inLoop c) rfl (fun _ _=>.inl (by simp)) harr⟩
    obtain ⟨e,a',w',hq,harr⟩:=key _ ts H φ w a rfl h2 hF hR (Step.refl _ _ _) rfl
    exact ⟨e,a',w',hq,.of_steps (.one step_loop) harr⟩
  | exit id =>
    intro ic hc K φ H w ts a hR hF h
    cases hc
    exact wp_exit ⟨.exit id,ts,H,φ,rfl,h,hF,hR,Step.refl _ _ _,rfl⟩
  | ret =>
    intro ic hc K φ H w ts a hR hF h
    cases hc
    exact wp_ret ⟨.ret,ts,H,φ,trivial,h,hF,hR,Step.refl _ _ _,rfl⟩
  | refuse s =>
    intro ic hc K φ H w ts a hR hF h
    cases hc
    exact False.elim h
  | _=>intro ic hc;simp[compC] at hc
end Go.Proofs.YtdjnccnecgblmaaGreatDoor
namespace Go.Proofs.YtdjnccnecgblmaaGreatDoor
open Go.RowKit
set_option linter.unusedVariables false
set_option linter.unusedSimpArgs false
inductive RV where
  | t (n : Nat)
  | c (a n : Nat) (ag : Bool)
def compR (P : Program) : List ResultVar→Option (List RV)
  | []=>some []
  | .tmp t :: r=>(compR P r).map (.t t :: ·)
  | .cell a t :: r=>match sizeAgg P t,compR P r with
    | some (n,ag),some s=>some (.c a n ag :: s)
    | _,_=>none
def resL : List RV→List AV→AHeap→(List AV→Prop)→Prop
  | [],ts,H,K=>K []
  | .t n :: r,ts,H,K=>resL r ts H fun l=>K (ts.getD n .top :: l)
  | .c a n ag :: r,ts,H,K=>match ts.getD a .top with
    | .ptr k id j f=>∃ blk e,AHeap.find H id=some blk ∧ blk.es[j]? = some e ∧ (blk.k=k ∧ AV.subOk e f n ag ∧ 0 < k) ∧ resL r ts H fun l=>K (AV.sub e f n ag :: l)
    | _=>False
def oneOf : List AV→AV
  | [x]=>x
  | l=>.tup l
def bodyK (rs : List RV) (Kr : AEnd→AHeap→Prop) : Post
  | .normal,ts,H=>resL rs ts H fun l=>Kr (.ret (oneOf l)) H
  | .ret,ts,H=>resL rs ts H fun l=>Kr (.ret (oneOf l)) H
  | .pan v,ts,H=>Kr (.pan v) H
  | .exit _,_,_=>False
section
variable {P : Program}
theorem resL_run {φ : Phi} {H : AHeap} {w : World} {ts : List AV} {a : Act} (hR : Rel φ H w) (hF : FR φ (Own φ H) w ts a) : ∀ {rv : List ResultVar} {rs : List RV},compR P rv=some rs→∀ {K : List AV→Prop},resL rs ts H K →
    ∃ l us,K l ∧ Rt φ (Own φ H) w l us ∧ (rv.mapM fun (r : ResultVar)=>(match r with | .tmp t=>pure (a.tmps.getD t undef) | .cell ad t=>do loadVar t (← asAddr (a.tmps.getD ad undef)) : Sem Value)).run P w = .ok us w
  | [],rs,h,K,hk=>by
    simp[compR] at h
    subst h
    exact ⟨[],[],hk,rfl,by simp⟩
  | .tmp t :: r,rs,h,K,hk=>by
    simp only[compR,Option.map_eq_some_iff] at h
    obtain ⟨s,h1,rfl⟩:=h
    obtain ⟨l,us,h2,h3,h4⟩:=resL_run hR hF h1 hk
    refine ⟨_,a.tmps.getD t undef :: us,h2,⟨_,_,rfl,(hF.2 t).1,(hF.2 t).2,h3⟩,?_⟩
    simp only[List.mapM_cons,Sem.run_bind,Sem.run_pure,Result.andThen_ok,h4]
  | .cell ad t :: r,rs,h,K,hk=>by
    simp only[compR] at h
    split at h
    case h_2=>simp at h
    rename_i n ag s hs h1
    cases h
    simp only[resL] at hk
    split at hk
    case h_2=>exact hk.elim
    rename_i k id j f he
    obtain ⟨blk,e,g1,g2,⟨rfl,g3,hk0⟩,hk⟩:=hk
    obtain ⟨l,us,h2,h3,h4⟩:=resL_run hR hF h1 hk
    have hv:=hF.2 ad
    rw[he] at hv
    obtain ⟨b,e1,e2⟩:=VR_ptr hv
    rw[ptrV_pos hk0] at e2
    obtain ⟨h7,h8⟩:=hR.elem e1 g1 g2 hk0
    obtain ⟨u,h9,h10⟩:=load_run hs h8 g3
    refine ⟨_,u :: us,h2,⟨_,_,rfl,h10.1,h10.2,h3⟩,?_⟩
    have e3 : (asAddr (a.tmps.getD ad undef)).run P w = .ok ⟨b,j * blk.k+f,none⟩ w:=by rw[e2];rfl
    simp only[List.mapM_cons,Sem.run_bind,Sem.run_pure,Result.andThen_ok,e3,h9,h4]
theorem results_run {φ : Phi} {H : AHeap} {w : World} {ts : List AV} {a : Act} (hR : Rel φ H w) (hF : FR φ (Own φ H) w ts a) {fn : Func} {rs : List RV} (hc : compR P fn.results.toList=some rs) {K : AV→Prop} (h : resL rs ts H fun l=>K (oneOf l)) :
    ∃ x v,K x ∧ VR φ (Own φ H) w x v ∧ (results fn a.tmps).run P w = .ok v w:=by
  obtain ⟨l,us,h1,h2,h3⟩:=resL_run hR hF hc h
  refine ⟨_,(if us.length=1 then us.getD 0 undef else .tuple us.toArray),h1,?_,?_⟩
  · have hl:=Rt_len h2
    match l,h2,hl with
    | [],h2,hl =>
      simp only[Rt] at h2
      subst h2
      exact ⟨⟨_,rfl⟩,_,rfl,rfl⟩
    | [x],h2,hl =>
      obtain ⟨v,s,rfl,g1,g2,g3⟩:=h2
      simp only[Rt] at g3
      subst g3
      exact ⟨g1,g2⟩
    | x :: y :: r,h2,hl =>
      have : ¬ us.length=1:=by rw[hl];simp
      rw[if_neg this]
      exact ⟨⟨_,rfl⟩,_,rfl,h2⟩
  · unfold results
    rw[Array.mapM_eq_mapM_toList]
    rw[Sem.run_bind,Sem.run_map]
    erw[h3]
    simp only[Result.andThen_ok,Sem.run_pure]
    congr 1
    by_cases h4 : us.length=1
    · have : us.toArray.size=1:=by simpa using h4
      rw[dif_pos this,if_pos h4]
      match us,h4 with
      | [v],_=>rfl
    · have : ¬ us.toArray.size=1:=by simpa using h4
      rw[dif_neg this,if_neg h4]
theorem DK_of_body {f : FuncId} {fn : Func} {c : Code} {ic : IC} {rs : List RV} {vecs : List Nat} (hf : P.funcs[f]? = some fn) (hb : fn.body=some c) (hc : compC P vecs c=some ic) (hr : compR P fn.results.toList=some rs) {args : List AV} {H : AHeap} {Kr : AEnd→AHeap→Prop}
    (h : E P ic (bodyK rs Kr) (args ++ List.replicate (fn.ntmps - args.length) (.tup [])) H) : DK P f args H Kr:=by
  intro φ w vs hR ha
  have hlen:=Rt_len ha
  have hF : FR φ (Own φ H) w (args ++ List.replicate (fn.ntmps - args.length) (.tup [])) { tmps:=vs ++ Array.replicate (fn.ntmps - vs.size) undef,defers:=[] }:=by
    have hsz : vs.size=args.length:=by simpa using hlen
    refine ⟨by simp[hsz],fun i=>?_⟩
    by_cases h1 : i < args.length
    · obtain ⟨u,g1,g2⟩:=Rt_nth ha (i:=i) (x:=args[i]) (by simp[h1])
      have e1 : (args ++ List.replicate (fn.ntmps - args.length) (AV.tup [])).getD i .top=args[i]:=by simp[List.getD,List.getElem?_append_left h1,h1]
      have e2 : (vs ++ Array.replicate (fn.ntmps - vs.size) undef).getD i undef=u:=by
        rw[Array.getElem?_toList] at g1
        rw[Array.getD_eq_getD_getElem?,Array.getElem?_append_left (by omega),g1]
        rfl
      rw[e1,e2]
      exact g2
    · by_cases h2 : i < args.length+(fn.ntmps - args.length)
      · have e1 : (args ++ List.replicate (fn.ntmps - args.length) (AV.tup [])).getD i .top = .tup []:=by
          simp only[List.getD]
          rw[List.getElem?_append_right (by omega),List.getElem?_replicate,if_pos (by omega)]
          rfl
        have e2 : (vs ++ Array.replicate (fn.ntmps - vs.size) undef).getD i undef=undef:=by
          rw[Array.getD_eq_getD_getElem?,Array.getElem?_append_right (by omega),Array.getElem?_replicate]
          split <;> rfl
        rw[e1,e2]
        exact vr_undef
      · have e1 : (args ++ List.replicate (fn.ntmps - args.length) (AV.tup [])).getD i .top = .top:=by
          simp only[List.getD]
          rw[List.getElem?_eq_none (by simp;omega)]
          rfl
        rw[e1]
        exact vr_top _
  refine calls_of_wp hf hb (wp_mono (E_sound c ic hc _ φ H w _ _ hR hF h) ?_)
  rintro e a' w' ⟨x,ts',H',φ',k1,k2,k3,k4,k5,k6⟩
  have hret : (resL rs ts' H' fun l=>Kr (.ret (oneOf l)) H')→a'.defers=[] ∧ ∃ v,(results fn a'.tmps).run P w' = .ok v w' ∧ ∃ e H2 φ2,EndR φ2 (Own φ2 H2) w' e (.returned v) ∧ Kr e H2 ∧ Rel φ2 H2 w' ∧ Step φ H w φ2 H2 w':=by
    intro hl
    obtain ⟨y,v,g1,g2,g3⟩:=results_run k4 k3 hr (K:=fun x=>Kr (.ret x) H') hl
    exact ⟨k6,v,g3,.ret y,H',φ',g2,g1,k4,k5⟩
  cases x with
  | normal =>
    cases e <;> try exact k1.elim
    exact hret k2
  | ret =>
    cases e <;> try exact k1.elim
    exact hret k2
  | exit i=>exact k2.elim
  | pan v =>
    cases e <;> try exact k1.elim
    exact ⟨k6,.pan v,H',φ',k1,k2,k4,k5⟩
def Weak (H : AHeap) (e1 : AEnd) (H1 : AHeap) (e : AEnd) (H' : AHeap) : Prop :=
  ∀ φ w φ1 w1 en,Rel φ H w→EndR φ1 (Own φ1 H1) w1 e1 en→Rel φ1 H1 w1→Step φ H w φ1 H1 w1→∃ φ',EndR φ' (Own φ' H') w1 e en ∧ Rel φ' H' w1 ∧ Step φ H w φ' H' w1
theorem Weak.refl (H : AHeap) (e : AEnd) (H' : AHeap) : Weak H e H' e H':=fun φ w φ1 w1 en _ h1 h2 h3=>⟨φ1,h1,h2,h3⟩
theorem D_of_DK {f : FuncId} {args : List AV} {H : AHeap} {e : AEnd} {H' : AHeap} (hl : H.length ≤ H'.length) (h : DK P f args H fun e1 H1=>Weak H e1 H1 e H') : D P f args H e H' :=
  ⟨hl,fun φ w vs hR ha=>(h φ w vs hR ha).mono fun en w' ⟨e1,H1,φ1,h1,h2,h3,h4⟩=>h2 φ w φ1 w' en hR h1 h3 h4⟩
mutual
inductive Fz (H1 : AHeap) (n0 : Nat) : AV→AV→Prop where
  | same {x : AV} : x.ids (· < n0)→Fz H1 n0 x x
  | vec {k id off n : Nat} {c : Option Nat} {blk : ABlk} {ys : List AV} : n0 ≤ id→AHeap.find H1 id=some blk→blk.k=k→off+n ≤ blk.es.length→FzL H1 n0 ((blk.es.drop off).take n) ys→Fz H1 n0 (.vec k id off n c) (.lst k ys none)
  | lst {k : Nat} {xs ys : List AV} {room : Option (List AV)} : FzL H1 n0 xs ys→Fz H1 n0 (.lst k xs room) (.lst k ys none)
  | nil {k : Nat} {room : Option (List AV)} {k' : Nat} : Fz H1 n0 (.lst k' [] room) (.lst k [] none)
  | agg {xs ys : List AV} : FzL H1 n0 xs ys→Fz H1 n0 (.agg xs) (.agg ys)
  | tup {xs ys : List AV} : FzL H1 n0 xs ys→Fz H1 n0 (.tup xs) (.tup ys)
  | ifc {t : TypeId} {x y : AV} : Fz H1 n0 x y→Fz H1 n0 (.ifc t x) (.ifc t y)
inductive FzL (H1 : AHeap) (n0 : Nat) : List AV→List AV→Prop where
  | nil : FzL H1 n0 [] []
  | cons {x y : AV} {r s : List AV} : Fz H1 n0 x y→FzL H1 n0 r s→FzL H1 n0 (x :: r) (y :: s)
end
theorem FzL.len {H1 : AHeap} {n0 : Nat} : ∀ {xs ys : List AV},FzL H1 n0 xs ys→ys.length=xs.length
  | _,_,.nil=>rfl
  | _,_,.cons _ h=>by simp[h.len]
theorem Fz.isAgg {H1 : AHeap} {n0 : Nat} {x y : AV} (h : Fz H1 n0 x y) : y.isAgg=x.isAgg ∧ y.ncells=x.ncells:=by
  cases h with
  | agg h=>exact ⟨rfl,h.len⟩
  | _=>exact ⟨rfl,rfl⟩
theorem Fz.okA {H1 : AHeap} {n0 : Nat} {x y : AV} (h : Fz H1 n0 x y) {u : Value} (hk : okA x u) : okA y u:=by
  cases h with
  | agg h=>obtain ⟨us,h1,h2⟩:=hk;exact ⟨us,h1,by rw[h2,h.len]⟩
  | _=>exact hk
def Phi.below (φ : Phi) (n : Nat) : Phi:=fun i=>if i < n then φ i else none
theorem own_below {φ1 : Phi} {G H2 : AHeap} {b : Nat} (h : Own (φ1.below H2.length) H2 b) : ∃ id blk,id < H2.length ∧ φ1 id=some b ∧ AHeap.find H2 id=some blk ∧ AHeap.find (G ++ H2) id=some blk:=by
  obtain ⟨id,blk,h1,h2⟩:=h
  have hl:=AHeap.find_lt h2
  unfold Phi.below at h1
  rw[if_pos hl] at h1
  exact ⟨id,blk,hl,h1,h2,by rw[AHeap.find_append hl];exact h2⟩
theorem later_below {φ1 : Phi} {G H2 : AHeap} {w1 : World} : Later (· < H2.length) φ1 (φ1.below H2.length) (Own φ1 (G ++ H2)) (Own (φ1.below H2.length) H2) w1 w1:=by
  refine ⟨fun id b hid hm=>?_,Nat.le_refl _,fun b hb ho ho'=>?_,fun _ _ _=>rfl,fun _ _=>rfl⟩
  · unfold Phi.below;rw[if_pos hid];exact hm
  · obtain ⟨id,blk,h1,h2,h3,h4⟩:=own_below (G:=G) ho'
    exact ho ⟨id,blk,h2,h4⟩
mutual
theorem Fz.R {φ1 : Phi} {G H2 : AHeap} {w1 : World} (hR : Rel φ1 (G ++ H2) w1) : ∀ {x y : AV},Fz (G ++ H2) H2.length x y→∀ {g : Nat→Option Value},R φ1 (Own φ1 (G ++ H2)) w1 x g→R (φ1.below H2.length) (Own (φ1.below H2.length) H2) w1 y g
  | _,_,.same hi,g,h=>R_later later_below _ _ _ hi (fun _ _ h=>h) h
  | _,_,.vec (k:=k) (id:=id) (off:=off) (n:=n) (c:=c) (blk:=blk) (ys:=ys) h1 h2 h3 h4 h5,g,h=>by
    obtain ⟨b,c',cur,e,fr,v1,v2,v3,v4,v5,v6,v7⟩:=h
    have hln : ((blk.es.drop off).take n).length=n:=by simp;omega
    have hyl : ys.length=n:=by rw[h5.len,hln]
    refine ⟨_,c',by rw[hyl];exact v2,by omega,v4,fun h=>by simp at h,fun hp=>⟨b,off * k,rfl,?_,heap_lt v6,?_⟩,trivial⟩
    · intro ho
      obtain ⟨id',blk',g1,g2,g3,g4⟩:=own_below (G:=G) ho
      have:=hR.inj id' id b g2 v1 (by rw[g4];rfl) (by rw[h2];rfl)
      omega
    · obtain ⟨_,cur2,cap,a1,a2,a3,a4,a5,a6⟩:=(hR.blk id b blk v1 h2).atCells v6
      have h7:=Rl_take (n:=n) (Rl_drop (f:=off) a6)
      rw[h3,Nat.zero_add] at h7
      exact FzL.Rl hR h5 h7
  | _,_,.lst (k:=k) (xs:=xs) (ys:=ys) hl,g,h=>by
    obtain ⟨a,c,h1,h2,h3,h4,h5,h6⟩:=h
    have hyl:=hl.len
    refine ⟨a,c,by rw[hyl];exact h1,by omega,h3,h4,fun hp=>?_,trivial⟩
    obtain ⟨b,off,e1,e2,e3,e4⟩:=h5 (by omega)
    refine ⟨b,off,e1,fun ho=>?_,e3,FzL.Rl hR hl e4⟩
    obtain ⟨id',blk',g1,g2,g3,g4⟩:=own_below (G:=G) ho
    exact e2 ⟨id',blk',g2,g4⟩
  | _,_,.nil,g,h=>by
    obtain ⟨a,c,h1,h2,h3,h4,h5,h6⟩:=h
    exact ⟨a,c,h1,h2,h3,h4,fun hp=>by simp at hp,trivial⟩
  | _,_,.agg hl,g,h=>FzL.Rs hR hl h
  | _,_,.tup hl,g,h=>by
    obtain ⟨us,h1,h2⟩:=h
    exact ⟨us,h1,FzL.Rt hR hl h2⟩
  | _,_,.ifc hx,g,h=>by
    obtain ⟨u,h1,h2,h3⟩:=h
    exact ⟨u,h1,hx.okA h2,Fz.R hR hx h3⟩
theorem FzL.Rl {φ1 : Phi} {G H2 : AHeap} {w1 : World} (hR : Rel φ1 (G ++ H2) w1) : ∀ {xs ys : List AV},FzL (G ++ H2) H2.length xs ys→∀ {b k off : Nat},Rl φ1 (Own φ1 (G ++ H2)) w1 b k xs off→Rl (φ1.below H2.length) (Own (φ1.below H2.length) H2) w1 b k ys off
  | _,_,.nil,b,k,off,_=>trivial
  | _,_,.cons hx hr,b,k,off,h=>⟨by rw[hx.isAgg.2];exact h.1,by rw[hx.isAgg.1];exact h.2.1,Fz.R hR hx h.2.2.1,FzL.Rl hR hr h.2.2.2⟩
theorem FzL.Rs {φ1 : Phi} {G H2 : AHeap} {w1 : World} (hR : Rel φ1 (G ++ H2) w1) : ∀ {xs ys : List AV},FzL (G ++ H2) H2.length xs ys→∀ {g : Nat→Option Value},Rs φ1 (Own φ1 (G ++ H2)) w1 xs g→Rs (φ1.below H2.length) (Own (φ1.below H2.length) H2) w1 ys g
  | _,_,.nil,g,_=>trivial
  | _,_,.cons hx hr,g,h=>⟨by rw[hx.isAgg.1];exact h.1,Fz.R hR hx h.2.1,h.2.2.1,FzL.Rs hR hr h.2.2.2⟩
theorem FzL.Rt {φ1 : Phi} {G H2 : AHeap} {w1 : World} (hR : Rel φ1 (G ++ H2) w1) : ∀ {xs ys : List AV},FzL (G ++ H2) H2.length xs ys→∀ {us : List Value},Rt φ1 (Own φ1 (G ++ H2)) w1 xs us→Rt (φ1.below H2.length) (Own (φ1.below H2.length) H2) w1 ys us
  | _,_,.nil,us,h=>h
  | _,_,.cons hx hr,us,h=>by
    obtain ⟨v,s,h1,h2,h3,h4⟩:=h
    exact ⟨v,s,h1,hx.okA h2,Fz.R hR hx h3,FzL.Rt hR hr h4⟩
end
mutual
theorem R_ids {φ : Phi} {O : Nat→Prop} {w : World} : ∀ (x : AV) (g : Nat→Option Value),R φ O w x g→x.ids (fun id=>∃ b,φ id=some b)
  | .sc v,g,_=>trivial
  | .lst k xs room,g,h=>by
    obtain ⟨a,c,h1,h2,h3,h4,h5,h6⟩:=h
    refine ⟨?_,?_⟩
    · cases xs with
      | nil=>trivial
      | cons x r=>obtain ⟨b,off,_,_,_,h7⟩:=h5 (by simp);exact Rl_ids _ _ _ _ h7
    · cases room with
      | none=>trivial
      | some ys =>
        cases ys with
        | nil=>trivial
        | cons y s=>obtain ⟨b,off,_,_,_,h7⟩:=h6.2 (by simp);exact Rl_ids _ _ _ _ h7
  | .vec k id off n c,g,h=>by obtain ⟨b,_,_,_,_,h1,_⟩:=h;exact ⟨b,h1⟩
  | .ptr k id j f,g,h=>by obtain ⟨b,h1,_⟩:=h;exact ⟨b,h1⟩
  | .lp x f,g,h=>by obtain ⟨b,off,_,_,_,_,h1⟩:=h;exact R_ids x _ h1
  | .agg cs,g,h=>Rs_ids cs g h
  | .tup vs,g,h=>by obtain ⟨us,_,h1⟩:=h;exact Rt_ids vs _ h1
  | .fn f a b,g,h=>by obtain ⟨us,ws,_,h1,h2⟩:=h;exact ⟨Rt_ids a _ h1,Rt_ids b _ h2⟩
  | .ifc t x,g,h=>by obtain ⟨u,_,_,h1⟩:=h;exact R_ids x _ h1
  | .ub,g,_=>trivial
  | .top,g,_=>trivial
  | .rcd _,g,_=>trivial
theorem Rl_ids {φ : Phi} {O : Nat→Prop} {w : World} : ∀ (l : List AV) (b k off : Nat),Rl φ O w b k l off→AV.idsL (fun id=>∃ b,φ id=some b) l
  | [],_,_,_,_=>trivial
  | x :: r,b,k,off,h=>⟨R_ids x _ h.2.2.1,Rl_ids r _ _ _ h.2.2.2⟩
theorem Rs_ids {φ : Phi} {O : Nat→Prop} {w : World} : ∀ (l : List AV) (g : Nat→Option Value),Rs φ O w l g→AV.idsL (fun id=>∃ b,φ id=some b) l
  | [],_,_=>trivial
  | x :: r,g,h=>⟨R_ids x _ h.2.1,Rs_ids r _ h.2.2.2⟩
theorem Rt_ids {φ : Phi} {O : Nat→Prop} {w : World} : ∀ (l : List AV) (us : List Value),Rt φ O w l us→AV.idsL (fun id=>∃ b,φ id=some b) l
  | [],_,_=>trivial
  | x :: r,us,h=>by obtain ⟨v,s,_,_,h1,h2⟩:=h;exact ⟨R_ids x _ h1,Rt_ids r _ h2⟩
end
theorem RE_ids {φ : Phi} {O : Nat→Prop} {w : World} : ∀ (l : List AV) (es : List MapEntry),RE φ O w l es→AV.idsL (fun id=>∃ b,φ id=some b) l
  | [],_,_=>trivial
  | x :: r,es,h=>by
    obtain ⟨e,s,_,h1,h2⟩:=h
    exact ⟨R_ids x _ h1.2,RE_ids r _ h2⟩
theorem BlkR.ids {φ : Phi} {O : Nat→Prop} {w : World} {k : ABlk} {b : Nat} (h : BlkR φ O w k b) : AV.idsL (fun id=>∃ b,φ id=some b) k.es:=by
  rcases h with ⟨_,_,_,_,_,_,_,_,h⟩ | ⟨_,_,_,_,_,_,_,h⟩ | ⟨_,_,r,ts,tm,e,_,h⟩ | ⟨_,_,_,_,x,r,e,_,_,_,h1,h2⟩ | ⟨_,_,_,_,_,_,h⟩
  · exact Rl_ids _ _ _ _ h
  · exact RE_ids _ _ h
  · rw[e];exact ⟨trivial,Rt_ids _ _ h⟩
  · rw[e];exact ⟨R_ids x _ h1.2,RE_ids _ _ h2⟩
  · exact Rt_ids _ _ h
theorem weak_rel {H G H2 : AHeap} (hl : H.length ≤ H2.length) (hold : ∀ id k,AHeap.find H2 id=some k→(id < H.length ∧ AHeap.find H id=some k) ∨ AV.idsL (· < H2.length) k.es) {φ φ1 : Phi} {w w1 : World} (hR0 : Rel φ H w) (hR : Rel φ1 (G ++ H2) w1) (hS : Step φ H w φ1 (G ++ H2) w1) :
    Rel (φ1.below H2.length) H2 w1 ∧ Step φ H w (φ1.below H2.length) H2 w1:=by
  have hlb : Later (· < H2.length) φ1 (φ1.below H2.length) (Own φ1 (G ++ H2)) (Own (φ1.below H2.length) H2) w1 w1:=later_below
  have hbm : ∀ id b,φ1.below H2.length id=some b→id < H2.length ∧ φ1 id=some b:=fun id b h=>by
    unfold Phi.below at h
    split at h
    · rename_i hlt;exact ⟨hlt,h⟩
    · simp at h
  refine ⟨⟨hR.glob.later hlb,fun id b h=>⟨(hbm id b h).1,(hR.dom id b (hbm id b h).2).2⟩,fun i j b hi hj hfi hfj=>?_,fun id b k h1 h2=>?_⟩,⟨⟨fun id b _ h=>?_,hS.size,fun b hb ho ho'=>?_,hS.same,hS.shape⟩,hS.os,hS.tape,hS.output,hl,fun id hid=>?_⟩⟩
  · have l1:=(hbm i b hi).1
    have l2:=(hbm j b hj).1
    exact hR.inj i j b (hbm i b hi).2 (hbm j b hj).2 (by rw[AHeap.find_append l1];exact hfi) (by rw[AHeap.find_append l2];exact hfj)
  · obtain ⟨hlt,h3⟩:=hbm id b h1
    refine (hR.blk id b k h3 (by rw[AHeap.find_append hlt];exact h2)).later hlb rfl ?_
    rcases hold id k h2 with ⟨g1,g2⟩ | g
    · have h4 : φ id=some b:=by rw[← hS.old id g1];exact h3
      exact AV.idsL_mono (fun i ⟨b',hb'⟩=>Nat.lt_of_lt_of_le (hR0.dom i b' hb').1 hl) _ (hR0.blk id b k h4 g2).ids
    · exact g
  · have h4:=(hR0.dom id b h).1
    unfold Phi.below
    rw[if_pos (by omega),hS.old id h4]
    exact h
  · obtain ⟨id,blk,g1,g2,g3,g4⟩:=own_below (G:=G) ho'
    exact hS.own b hb ho ⟨id,blk,g2,g4⟩
  · unfold Phi.below
    rw[if_pos (by omega)]
    exact hS.old id hid
theorem weak_ret {H G H2 : AHeap} {x y : AV} (hl : H.length ≤ H2.length) (hold : ∀ id k,AHeap.find H2 id=some k→(id < H.length ∧ AHeap.find H id=some k) ∨ AV.idsL (· < H2.length) k.es) (hz : Fz (G ++ H2) H2.length x y) : Weak H (.ret x) (G ++ H2) (.ret y) H2:=by
  intro φ w φ1 w1 en hR0 he hR hS
  obtain ⟨h1,h2⟩:=weak_rel hl hold hR0 hR hS
  refine ⟨φ1.below H2.length,?_,h1,h2⟩
  cases en with
  | returned v=>exact ⟨hz.okA he.1,Fz.R hR hz he.2⟩
  | _=>exact he.elim
theorem weak_same {H G : AHeap} {x y : AV} (hz : Fz (G ++ H) H.length x y) : Weak H (.ret x) (G ++ H) (.ret y) H :=
  weak_ret (Nat.le_refl _) (fun id k h=>.inl ⟨AHeap.find_lt h,h⟩) hz
end
end Go.Proofs.YtdjnccnecgblmaaGreatDoor
