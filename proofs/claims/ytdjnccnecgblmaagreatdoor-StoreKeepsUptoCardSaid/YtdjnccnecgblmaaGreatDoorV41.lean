import Derived.Test.YtdjnccnecgblmaaGreatDoorVC
namespace Go.Proofs.YtdjnccnecgblmaaGreatDoor
open Go.RowKit
set_option linter.unusedVariables false
set_option linter.unusedSimpArgs false
def SE (P : Program) (vecs : List Nat) (ic : IC) (K : Post) (ts : List AV) (H : AHeap) : Prop :=
 ∀ c,compC P vecs c=some ic→∀ (φ : Phi) (w : World) (a : Act),Rel φ H w→FR φ (Own φ H) w ts a→c.wp P (CK K φ H w a.defers) a w
section
variable {P : Program} {vecs : List Nat}
theorem comp_reg {id : Nat} {ops : Array Oper} {draw : Bool} {ic : IC} (h : compC P vecs (.region id ops draw)=some ic) : (∃ l,ic = .ops l) ∨ ∃ l A,ic = .dops l A:=by
 simp only[compC] at h
 split at h
 ·cases h
 split at h
 ·split at h
  ·cases h
   exact .inr ⟨_,_,rfl⟩
  ·unfold hoistC at h
   simp only at h
   split at h
   ·cases h
   split at h
   ·cases h
    exact .inr ⟨_,_,rfl⟩
   ·cases h
 ·cases h
  exact .inl ⟨_,rfl⟩
theorem comp_seq {c : Code} {x y : IC} (h : compC P vecs c=some (.seq x y)) : ∃ c1 c2,c = .seq c1 c2 ∧ compC P vecs c1=some x ∧ compC P vecs c2=some y:=by
 cases c with
 | seq a b =>
  simp only[compC] at h
  split at h
  ·rename_i h1 h2
   cases h
   exact ⟨a,b,rfl,h1,h2⟩
  ·cases h
 | region id ops draw =>
  rcases comp_reg h with ⟨l,e⟩ | ⟨l,A,e⟩ <;> cases e
 | cond c a b =>
  simp only[compC] at h
  split at h <;> cases h
 | _=>simp[compC,deadC] at h
theorem comp_block {c : Code} {id : Nat} {x : IC} (h : compC P vecs c=some (.block id x)) : ∃ c1,c = .block id c1 ∧ compC P vecs c1=some x:=by
 cases c with
 | block i a =>
  simp only[compC,Option.map_eq_some_iff] at h
  obtain ⟨y,h1,h2⟩:=h
  cases h2
  exact ⟨a,rfl,h1⟩
 | region id ops draw =>
  rcases comp_reg h with ⟨l,e⟩ | ⟨l,A,e⟩ <;> cases e
 | cond c a b =>
  simp only[compC] at h
  split at h <;> cases h
 | seq a b =>
  simp only[compC] at h
  split at h <;> cases h
 | _=>simp[compC,deadC] at h
theorem comp_loop {c : Code} {x : IC} (h : compC P vecs c=some (.loop x)) : ∃ c1,c = .loop c1 ∧ compC P vecs c1=some x:=by
 cases c with
 | loop a =>
  simp only[compC,Option.map_eq_some_iff] at h
  obtain ⟨y,h1,h2⟩:=h
  cases h2
  exact ⟨a,rfl,h1⟩
 | region id ops draw =>
  rcases comp_reg h with ⟨l,e⟩ | ⟨l,A,e⟩ <;> cases e
 | cond c a b =>
  simp only[compC] at h
  split at h <;> cases h
 | seq a b =>
  simp only[compC] at h
  split at h <;> cases h
 | _=>simp[compC,deadC] at h
theorem SE.seq {x y : IC} {K : Post} {ts : List AV} {H : AHeap} (h : SE P vecs x (thenK (SE P vecs y K) K) ts H) : SE P vecs (.seq x y) K ts H:=by
 intro c hc φ w a hR hF
 obtain ⟨c1,c2,rfl,h1,h2⟩:=comp_seq hc
 refine wp_seq (wp_mono (h c1 h1 φ w a hR hF) ?_)
 rintro e a' w' ⟨x',ts',H',φ',k1,k2,k3,k4,k5,k6⟩
 cases x' with
 | normal =>
  cases e <;> try exact k1.elim
  show c2.wp P _ a' w'
  have:=k2 c2 h2 φ' w' a' k4 k3
  rw[k6] at this
  exact wp_mono this fun e a2 w2 hc=>hc.step k5
 | exit i =>
  cases e <;> try exact k1.elim
  exact ⟨_,ts',H',φ',k1,k2,k3,k4,k5,k6⟩
 | ret =>
  cases e <;> try exact k1.elim
  exact ⟨.ret,ts',H',φ',k1,k2,k3,k4,k5,k6⟩
 | pan v =>
  cases e <;> try exact k1.elim
  exact ⟨_,ts',H',φ',k1,k2,k3,k4,k5,k6⟩
theorem SE.block {id : Nat} {x : IC} {K : Post} {ts : List AV} {H : AHeap} (h : SE P vecs x (blockK id K) ts H) : SE P vecs (.block id x) K ts H:=by
 intro c hc φ w a hR hF
 obtain ⟨c1,rfl,h1⟩:=comp_block hc
 refine wp_block (wp_mono (h c1 h1 φ w a hR hF) ?_)
 rintro e a' w' ⟨x',ts',H',φ',k1,k2,k3,k4,k5,k6⟩
 cases x' with
 | normal =>
  cases e <;> try exact k1.elim
  exact ⟨.normal,ts',H',φ',k1,k2,k3,k4,k5,k6⟩
 | exit i =>
  cases e <;> try exact k1.elim
  rename_i j
  have : i=j:=k1
  subst this
  simp only[blockK] at k2
  simp only[Exit.inBlock]
  split
  ·rename_i e2
   rw[if_pos e2] at k2
   exact ⟨.normal,ts',H',φ',trivial,k2,k3,k4,k5,k6⟩
  ·rename_i e2
   rw[if_neg e2] at k2
   exact ⟨.exit i,ts',H',φ',rfl,k2,k3,k4,k5,k6⟩
 | ret =>
  cases e <;> try exact k1.elim
  exact ⟨.ret,ts',H',φ',k1,k2,k3,k4,k5,k6⟩
 | pan v =>
  cases e <;> try exact k1.elim
  exact ⟨.pan v,ts',H',φ',k1,k2,k3,k4,k5,k6⟩
theorem SE.loop {x : IC} {K : Post} {ts : List AV} {H : AHeap} (I : List AV→AHeap→Prop) (μ : List AV→AHeap→Nat) (h2 : I ts H) (h3 : ∀ ts H,I ts H→SE P vecs x (thenK (fun ts' H'=>I ts' H' ∧ μ ts' H' < μ ts H) K) ts H) : SE P vecs (.loop x) K ts H:=by
 intro c0 hc φ w a hR hF
 obtain ⟨c,rfl,h1⟩:=comp_loop hc
 intro b k cs
 have key : ∀ n ts1 H1 φ1 w1 a1,μ ts1 H1=n→I ts1 H1→FR φ1 (Own φ1 H1) w1 ts1 a1→Rel φ1 H1 w1→Step φ H w φ1 H1 w1→a1.defers=a.defers →
   ∃ e a' w',CK K φ H w a.defers e a' w' ∧ Arrives P (lone (b.at a1 (.code c :: .inLoop c :: k)) cs w1) b k cs e a' w':=by
  intro n
  induction n using Nat.strongRecOn with
  | _ n ihn =>
   intro ts1 H1 φ1 w1 a1 hn hI hF1 hR1 hS1 hd1
   obtain ⟨e,a2,w2,⟨x',ts',H',φ',k1,k2,k3,k4,k5,k6⟩,harr⟩:=h3 ts1 H1 hI c h1 φ1 w1 a1 hR1 hF1 b (.inLoop c :: k) cs
   cases x' with
   | normal =>
    cases e <;> try exact k1.elim
    obtain ⟨g1,g2⟩:=k2
    obtain ⟨e3,a3,w3,hq3,harr3⟩:=ihn (μ ts' H') (hn ▸ g2) ts' H' φ' w2 a2 rfl g1 k3 k4 (hS1.trans k5) (by rw[k6,hd1])
    exact ⟨e3,a3,w3,hq3,.of_steps (Steps.trans harr (.one step_inLoop)) harr3⟩
   | exit i =>
    cases e <;> try exact k1.elim
    exact ⟨_,a2,w2,⟨.exit i,ts',H',φ',k1,k2,k3,k4,hS1.trans k5,by rw[k6,hd1]⟩,.pass (x:=.inLoop c) rfl (fun _ _=>.inl (by simp)) harr⟩
   | ret =>
    cases e <;> try exact k1.elim
    exact ⟨_,a2,w2,⟨.ret,ts',H',φ',k1,k2,k3,k4,hS1.trans k5,by rw[k6,hd1]⟩,.pass (x:=.inLoop c) rfl (fun _ _=>.inl (by simp)) harr⟩
   | pan v =>
    cases e <;> try exact k1.elim
    exact ⟨_,a2,w2,⟨.pan v,ts',H',φ',k1,k2,k3,k4,hS1.trans k5,by rw[k6,hd1]⟩,.pass (x:=.inLoop c) rfl (fun _ _=>.inl (by simp)) harr⟩
 obtain ⟨e,a',w',hq,harr⟩:=key _ ts H φ w a rfl h2 hF hR (Step.refl _ _ _) rfl
 exact ⟨e,a',w',hq,.of_steps (.one step_loop) harr⟩
theorem SE.opened {ic : IC} {K : Post} {ts : List AV} {H : AHeap} (i : Nat) {k id off n : Nat} (hi : ts[i]? = some (.vec k id off n none)) (h : ∀ c,n ≤ c→c ≤ maxLen→SE P vecs ic K (ts.set i (.vec k id off n (some c))) H) : SE P vecs ic K ts H:=by
 intro c0 hc φ w a hR hF
 have hil : i < ts.length:=(List.getElem?_eq_some_iff.1 hi).1
 have hv:=hF.2 i
 have hg : ts.getD i .top = .vec k id off n none:=by simp[List.getD,hi]
 rw[hg] at hv
 obtain ⟨b,c',cur,e,fr,v1,v2,v3,v4,v5,v6,v7⟩:=VR_vec hv
 refine h c' v3 v4 c0 hc φ w a hR ⟨by rw[List.length_set];exact hF.1,fun j=>?_⟩
 by_cases hj : i=j
 ·subst hj
  have : (ts.set i (.vec k id off n (some c'))).getD i .top = .vec k id off n (some c'):=by simp[List.getD,hil]
  rw[this,v2]
  exact ⟨rfl,b,c',cur,e,fr,v1,rfl,v3,v4,fun m hm=>by cases hm;rfl,v6,v7⟩
 ·have : (ts.set i (.vec k id off n (some c'))).getD j .top=ts.getD j .top:=by simp[List.getD,List.getElem?_set_ne hj]
  rw[this]
  exact hF.2 j
theorem SE.mono {ic : IC} {K K' : Post} {ts : List AV} {H : AHeap} (h : SE P vecs ic K ts H) (hk : ∀ x ts H,K x ts H→K' x ts H) : SE P vecs ic K' ts H:=fun c hc φ w a hR hF =>
 wp_mono (h c hc φ w a hR hF) fun e a' w' ⟨x',ts',H',φ',k1,k2,k3⟩=>⟨x',ts',H',φ',k1,hk _ _ _ k2,k3⟩
theorem SE.gen {ic : IC} {K : Post} {ts : List AV} {H : AHeap} (h : ∀ L : Post,(∀ x ts H,K x ts H→L x ts H)→SE P vecs ic L ts H) : SE P vecs ic K ts H:=h K fun _ _ _ h=>h
def gone0 (H : AHeap) : AHeap:=H.map fun _=>none
theorem gone0_length (H : AHeap) : (gone0 H).length=H.length:=by simp[gone0]
theorem gone0_find (H : AHeap) (i : Nat) : AHeap.find (gone0 H) i=none:=by
 induction H with
 | nil=>rfl
 | cons b r ih =>
  simp only[gone0,List.map_cons,AHeap.find]
  split
  ·rfl
  ·exact ih
inductive TViewL (H : AHeap) : List AV→List AV→Prop where
 | nil : TViewL H [] []
 | view {x y : AV} {r s : List AV} : View H x y→TViewL H r s→TViewL H (x :: r) (y :: s)
 | top {x : AV} {r s : List AV} : TViewL H r s→TViewL H (x :: r) (.top :: s)
theorem TViewL.len {H : AHeap} : ∀ {xs ys : List AV},TViewL H xs ys→ys.length=xs.length
 | _,_,.nil=>rfl
 | _,_,.view _ h=>by simp[h.len]
 | _,_,.top h=>by simp[h.len]
theorem TViewL.get {H : AHeap} : ∀ {xs ys : List AV},TViewL H xs ys→∀ i,View H (xs.getD i .top) (ys.getD i .top) ∨ ys.getD i .top = .top
 | _,_,.nil,i=>.inr (by simp)
 | _,_,.view h r,0=>.inl (by simpa using h)
 | _,_,.view h r,i+1=>by simpa using r.get i
 | _,_,.top r,0=>.inr (by simp)
 | _,_,.top r,i+1=>by simpa using r.get i
theorem SE.freeze {ic : IC} {K : Post} {ts ts' : List AV} {H : AHeap} (hv : TViewL H ts ts') (h : SE P vecs ic K ts' (gone0 H)) : SE P vecs ic K ts H:=by
 intro c0 hc φ w a hR hF
 have hno : ∀ b,¬ Own φ (gone0 H) b:=fun b ⟨id,blk,h1,h2⟩=>by rw[gone0_find] at h2;cases h2
 have hL0 : Later (fun _=>True) φ φ (Own φ H) (Own φ (gone0 H)) w w:=⟨fun _ _ _ h=>h,Nat.le_refl _,fun b _ _=>hno b,fun _ _ _=>rfl,fun _ _=>rfl⟩
 have hL1 : Later (fun _=>True) phi0 φ O0 (Own φ (gone0 H)) w w:=⟨fun id b _ h=>by simp[phi0] at h,Nat.le_refl _,fun b _ _=>hno b,fun _ _ _=>rfl,fun _ _=>rfl⟩
 have hS : Step φ H w φ (gone0 H) w:={ hL0 with os:=rfl,tape:=rfl,output:=rfl,len:=by rw[gone0_length];exact Nat.le_refl _,old:=fun _ _=>rfl }
 have hR2 : Rel φ (gone0 H) w:={ glob:=hR.glob.less (fun b ho=>(hno b ho).elim),dom:=fun id b h=>by rw[gone0_length];exact hR.dom id b h,inj:=fun i j b _ _ h1 _=>by rw[gone0_find] at h1;simp at h1,blk:=fun id b k _ h=>by rw[gone0_find] at h;cases h }
 refine wp_mono (h c0 hc φ w a hR2 ⟨by rw[hv.len];exact hF.1,fun i=>?_⟩) fun e a' w' hh=>hh.step hS
 have hi:=hF.2 i
 rcases hv.get i with hw | hw
 ·exact ⟨hw.okA hi.1,R_later hL1 _ _ _ (AV.ids_true _) (fun _ _ h=>h) (hw.R hR hi.2)⟩
 ·rw[hw]
  exact ⟨trivial,trivial⟩
end
end Go.Proofs.YtdjnccnecgblmaaGreatDoor
