import Derived.Test.YtfnahogjkgcklaaGreatDoorVC
import Derived.RangeFuncRecord
import Derived.OrdersIn
namespace Go.Proofs.YtfnahogjkgcklaaGreatDoor
open Go.RowKit
set_option linter.unusedVariables false
set_option linter.unusedSimpArgs false
mutual
def AV.up (n : Nat) : AV→AV
 | .vec k id off m c=>.vec k (n+id) off m c
 | .ptr k id j f=>.ptr k (n+id) j f
 | .agg cs=>.agg (AV.upL n cs)
 | .tup cs=>.tup (AV.upL n cs)
 | x=>x
def AV.upL (n : Nat) : List AV→List AV
 | []=>[]
 | x :: r=>AV.up n x :: AV.upL n r
end
def ABlk.up (n : Nat) (b : ABlk) : ABlk:={ b with es:=AV.upL n b.es }
def AHeap.up (n : Nat) (G : AHeap) : AHeap:=G.map fun b=>b.map (ABlk.up n)
mutual
def AV.op : AV→Bool
 | .sc _=>true
 | .ub=>true
 | .top=>true
 | .lst _ [] none=>true
 | .lst _ [] (some [])=>true
 | .vec _ _ _ _ _=>true
 | .ptr _ _ _ _=>true
 | .agg cs=>AV.opL cs
 | .tup cs=>AV.opL cs
 | _=>false
def AV.opL : List AV→Bool
 | []=>true
 | x :: r=>AV.op x && AV.opL r
end
def AHeap.op (G : AHeap) : Prop:=∀ id b,AHeap.find G id=some b→AV.opL b.es=true
theorem AV.upL_length {n : Nat} : ∀ {l : List AV},(AV.upL n l).length=l.length
 | []=>rfl
 | _ :: r=>by simp[AV.upL,AV.upL_length (l:=r)]
theorem AV.up_isAgg {n : Nat} (x : AV) : (x.up n).isAgg=x.isAgg:=by cases x <;> simp[AV.up,AV.isAgg]
theorem AV.up_ncells {n : Nat} (x : AV) : (x.up n).ncells=x.ncells:=by cases x <;> simp[AV.up,AV.ncells,AV.upL_length]
theorem AV.up_okA {n : Nat} {x : AV} {u : Value} (h : okA x u) : okA (x.up n) u:=by
 cases x <;> first | exact h | skip
 obtain ⟨us,h1,h2⟩:=h
 exact ⟨us,h1,by rw[h2,AV.upL_length]⟩
section
variable {φ ψ : Phi} {O O' : Nat→Prop} {w : World} {n : Nat}
mutual
theorem R_up (hm : ∀ id b,φ id=some b→ψ (n+id)=some b) : ∀ {x : AV} {g : Nat→Option Value},x.op=true→R φ O w x g→R ψ O' w (x.up n) g
 | .sc _,_,_,h=>h
 | .ub,_,_,h=>h
 | .top,_,_,_=>trivial
 | .lst _ [] none,_,_,h=>by
  obtain ⟨a,c,h1,h2,h3,h4,h5,h6⟩:=h
  exact ⟨a,c,h1,h2,h3,h4,fun hp=>by simp at hp,trivial⟩
 | .lst _ [] (some []),_,_,h=>by
  obtain ⟨a,c,h1,h2,h3,h4,h5,h6⟩:=h
  exact ⟨a,c,h1,h2,h3,h4,fun hp=>by simp at hp,⟨h6.1,fun hp=>by simp at hp⟩⟩
 | .lst _ [] (some (_ :: _)),_,ho,_=>by simp[AV.op] at ho
 | .lst _ (_ :: _) _,_,ho,_=>by simp[AV.op] at ho
 | .lp _ _,_,ho,_=>by simp[AV.op] at ho
 | .fn _ _ _,_,ho,_=>by simp[AV.op] at ho
 | .ifc _ _,_,ho,_=>by simp[AV.op] at ho
 | .rcd _,_,ho,_=>by simp[AV.op] at ho
 | .vec k id off m c,_,_,h=>by
  obtain ⟨b,c',cur,e,fr,v1,v2⟩:=h
  exact ⟨b,c',cur,e,fr,hm _ _ v1,v2⟩
 | .ptr k id j f,_,_,h=>by
  obtain ⟨b,g1,g2⟩:=h
  exact ⟨b,hm _ _ g1,g2⟩
 | .agg cs,_,ho,h=>Rs_up hm (by simpa [AV.op] using ho) h
 | .tup cs,_,ho,h=>by
  obtain ⟨us,h1,h2⟩:=h
  exact ⟨us,h1,Rt_up hm (by simpa [AV.op] using ho) h2⟩
theorem Rs_up (hm : ∀ id b,φ id=some b→ψ (n+id)=some b) : ∀ {l : List AV} {g : Nat→Option Value},AV.opL l=true→Rs φ O w l g→Rs ψ O' w (AV.upL n l) g
 | [],_,_,_=>trivial
 | x :: r,_,ho,h=>by
  simp only[AV.opL,Bool.and_eq_true] at ho
  exact ⟨by rw[AV.up_isAgg];exact h.1,R_up hm ho.1 h.2.1,h.2.2.1,Rs_up hm ho.2 h.2.2.2⟩
theorem Rt_up (hm : ∀ id b,φ id=some b→ψ (n+id)=some b) : ∀ {l : List AV} {us : List Value},AV.opL l=true→Rt φ O w l us→Rt ψ O' w (AV.upL n l) us
 | [],_,_,h=>h
 | x :: r,us,ho,h=>by
  simp only[AV.opL,Bool.and_eq_true] at ho
  obtain ⟨v,s,h1,h2,h3,h4⟩:=h
  exact ⟨v,s,h1,AV.up_okA h2,R_up hm ho.1 h3,Rt_up hm ho.2 h4⟩
end
theorem Rl_up (hm : ∀ id b,φ id=some b→ψ (n+id)=some b) {b k : Nat} : ∀ {l : List AV} {off : Nat},AV.opL l=true→Rl φ O w b k l off→Rl ψ O' w b k (AV.upL n l) off
 | [],_,_,_=>trivial
 | x :: r,off,ho,h=>by
  simp only[AV.opL,Bool.and_eq_true] at ho
  exact ⟨by rw[AV.up_ncells];exact h.1,by rw[AV.up_isAgg];exact h.2.1,R_up hm ho.1 h.2.2.1,Rl_up hm ho.2 h.2.2.2⟩
end
theorem RE_up {φ ψ : Phi} {O O' : Nat→Prop} {w : World} {n : Nat} (hm : ∀ id b,φ id=some b→ψ (n+id)=some b) : ∀ {l : List AV} {es : List MapEntry},AV.opL l=true→RE φ O w l es→RE ψ O' w (AV.upL n l) es
 | [],_,_,h=>h
 | x :: r,_,ho,h=>by
  simp only[AV.opL,Bool.and_eq_true] at ho
  obtain ⟨e,s,h1,h2,h3⟩:=h
  exact ⟨e,s,h1,⟨AV.up_okA h2.1,R_up hm ho.1 h2.2⟩,RE_up hm ho.2 h3⟩
theorem AHeap.find_high {A H : AHeap} {i : Nat} : AHeap.find (A ++ H) (H.length+i)=AHeap.find A i:=by
 induction A with
 | nil=>rw[List.nil_append,AHeap.find_ge (by omega)];rfl
 | cons b r ih =>
  simp only[List.cons_append,AHeap.find,List.length_append]
  by_cases e : i=r.length
  ·rw[if_pos e,if_pos (by omega)]
  ·rw[if_neg e,if_neg (by omega),ih]
theorem AHeap.up_length {n : Nat} {G : AHeap} : (AHeap.up n G).length=G.length:=by simp[AHeap.up]
theorem AHeap.find_up {n : Nat} {G : AHeap} {i : Nat} : AHeap.find (AHeap.up n G) i=(AHeap.find G i).map (ABlk.up n):=by
 induction G with
 | nil=>rfl
 | cons b r ih =>
  show AHeap.find (b.map (ABlk.up n) :: AHeap.up n r) i=_
  simp only[AHeap.find,AHeap.up_length]
  split
  ·rfl
  ·exact ih
theorem D_viewO {P : Program} {f : FuncId} {args args' : List AV} {v : AV} {H G : AHeap} (hv : ViewL H args args') (hp : v.op=true) (hg : AHeap.op G) (h : D P f args' [] (.ret v) G) : D P f args H (.ret (v.up H.length)) (AHeap.up H.length G ++ H):=by
 refine ⟨by simp,fun φ w vs hR ha=>(h.2 phi0 w vs (rel0 (hR.glob.less fun b ho=>(own0 ho).elim)) (hv.Rt hR ha)).mono fun en w' ⟨χ,h1,h2,h3⟩=>?_⟩
 have hblk : ∀ b,b < w.heap.size→w'.heap[b]? = w.heap[b]?:=fun b hb=>h3.same b hb own0
 have hown : ∀ b,b < w.heap.size→¬ Own χ G b:=fun b hb=>h3.own b hb own0
 let ψ : Phi:=fun id=>if id < H.length then φ id else χ (id - H.length)
 have p1 : ∀ id,id < H.length→ψ id=φ id:=fun id hi=>if_pos hi
 have p2 : ∀ id,ψ (H.length+id)=χ id:=fun id=>by
  show (if _ then _ else _)=_
  rw[if_neg (by omega),show H.length+id - H.length=id from by omega]
 have q1 : ∀ id,id < H.length→AHeap.find (AHeap.up H.length G ++ H) id=AHeap.find H id:=fun id hi=>AHeap.find_append hi
 have q2 : ∀ id,AHeap.find (AHeap.up H.length G ++ H) (H.length+id)=(AHeap.find G id).map (ABlk.up H.length):=fun id=>by rw[AHeap.find_high,AHeap.find_up]
 have o1 : ∀ b,Own ψ (AHeap.up H.length G ++ H) b→Own φ H b ∨ Own χ G b:=by
  rintro b ⟨id,blk,e1,e2⟩
  by_cases hi : id < H.length
  ·rw[p1 id hi] at e1
   rw[q1 id hi] at e2
   exact .inl ⟨id,blk,e1,e2⟩
  ·obtain ⟨j,rfl⟩ : ∃ j,id=H.length+j:=⟨id - H.length,by omega⟩
   rw[p2] at e1
   rw[q2] at e2
   cases hf : AHeap.find G j with
   | none=>rw[hf] at e2;simp at e2
   | some k=>exact .inr ⟨j,k,e1,hf⟩
 have hm : ∀ id b,φ id=some b→ψ id=some b:=fun id b e=>by rw[p1 id (hR.dom id b e).1];exact e
 have hl : Later (fun _=>True) φ ψ (Own φ H) (Own ψ (AHeap.up H.length G ++ H)) w w':=by
  refine ⟨fun id b _ e=>hm id b e,h3.size,fun b hb hn ho=>?_,fun b hb _=>hblk b hb,fun b hb=>h3.shape b hb⟩
  rcases o1 b ho with e | e
  ·exact hn e
  ·exact hown b hb e
 have hu : ∀ id b,χ id=some b→ψ (H.length+id)=some b:=fun id b e=>by rw[p2];exact e
 refine ⟨ψ,?_,⟨hR.glob.later hl,fun id b e=>?_,fun i j b e1 e2 s1 s2=>?_,fun id b k e1 e2=>?_⟩,⟨hl,h3.os,h3.tape,h3.output,by simp,fun id hi=>p1 id hi⟩⟩
 ·cases en with
  | returned u=>exact ⟨AV.up_okA h1.1,R_up hu hp h1.2⟩
  | _=>exact h1.elim
 ·by_cases hi : id < H.length
  ·rw[p1 id hi] at e
   have:=hR.dom id b e
   have h9:=h3.size
   exact ⟨by simp;omega,by omega⟩
  ·obtain ⟨j,rfl⟩ : ∃ j,id=H.length+j:=⟨id - H.length,by omega⟩
   rw[p2] at e
   have:=h2.dom j b e
   exact ⟨by simp[AHeap.up_length];omega,this.2⟩
 ·by_cases hi : i < H.length
  ·rw[p1 i hi] at e1
   rw[q1 i hi] at s1
   have hb:=(hR.dom i b e1).2
   by_cases hj : j < H.length
   ·rw[p1 j hj] at e2
    rw[q1 j hj] at s2
    exact hR.inj i j b e1 e2 s1 s2
   ·obtain ⟨t,rfl⟩ : ∃ t,j=H.length+t:=⟨j - H.length,by omega⟩
    rw[p2] at e2
    rw[q2] at s2
    cases hf : AHeap.find G t with
    | none=>rw[hf] at s2;simp at s2
    | some k=>exact (hown b hb ⟨t,k,e2,hf⟩).elim
  ·obtain ⟨s,rfl⟩ : ∃ s,i=H.length+s:=⟨i - H.length,by omega⟩
   rw[p2] at e1
   rw[q2] at s1
   by_cases hj : j < H.length
   ·rw[p1 j hj] at e2
    have hb:=(hR.dom j b e2).2
    cases hf : AHeap.find G s with
    | none=>rw[hf] at s1;simp at s1
    | some k=>exact (hown b hb ⟨s,k,e1,hf⟩).elim
   ·obtain ⟨t,rfl⟩ : ∃ t,j=H.length+t:=⟨j - H.length,by omega⟩
    rw[p2] at e2
    rw[q2] at s2
    have:=h2.inj s t b e1 e2 (by simpa using s1) (by simpa using s2)
    omega
 ·by_cases hi : id < H.length
  ·rw[p1 id hi] at e1
   rw[q1 id hi] at e2
   have hb:=(hR.dom id b e1).2
   exact (hR.blk id b k e1 e2).on hl (hblk b hb)
  ·obtain ⟨j,rfl⟩ : ∃ j,id=H.length+j:=⟨id - H.length,by omega⟩
   rw[p2] at e1
   rw[q2] at e2
   cases hf : AHeap.find G j with
   | none=>rw[hf] at e2;simp at e2
   | some k0 =>
    rw[hf] at e2
    simp at e2
    subst e2
    rcases h2.blk j b k0 e1 hf with ⟨h0,cur,cap,a1,a2,a3,a4,a5,a6⟩ | ⟨h0,hty,ents,clock,a1,a2,a3,a4⟩ | ⟨h0,hty,r,ts,tm,e,_⟩
    ·exact .inl ⟨h0,cur,cap,a1,a2,by simpa [ABlk.up,AV.upL_length] using a3,by simpa [ABlk.up,AV.upL_length] using a4,a5,Rl_up hu (hg j k0 hf) a6⟩
    ·exact .inr (.inl ⟨h0,hty,ents,clock,a1,a2,a3,RE_up hu (hg j k0 hf) a4⟩)
    ·have:=hg j k0 hf;rw[e] at this;simp[AV.opL,AV.op] at this
end Go.Proofs.YtfnahogjkgcklaaGreatDoor
namespace Go.Proofs.YtfnahogjkgcklaaGreatDoor
open Go.RowKit
set_option linter.unusedVariables false
set_option linter.unusedSimpArgs false
theorem D_reword {P : Program} {f : FuncId} {args : List AV} {H H' : AHeap} {e : AEnd} (S : AHeap→Prop) (hl : H.length ≤ H'.length)
  (hS : ∀ φ w,Rel φ H w→∃ H2,S H2 ∧ Rel φ H2 w ∧ H2.length=H.length ∧ ∀ b,Own φ H2 b ↔ Own φ H b) (h : ∀ H2,S H2→D P f args H2 e H') : D P f args H e H':=by
 refine ⟨hl,fun φ w vs hR ha=>?_⟩
 obtain ⟨H2,h1,h2,h3,h4⟩:=hS φ w hR
 have ho : Own φ H2=Own φ H:=funext fun b=>propext (h4 b)
 refine ((h H2 h1).2 φ w vs h2 (by rw[ho];exact ha)).mono fun en w' ⟨φ',g1,g2,g3⟩=>⟨φ',g1,g2,?_⟩
 refine ⟨?_,g3.os,g3.tape,g3.output,hl,fun id hid=>g3.old id (by rw[h3];exact hid)⟩
 have:=g3.toLater
 rwa [ho] at this
def Opened : AV→AV→Prop
 | .vec k i off n none,y=>∃ c,n ≤ c ∧ y = .vec k i off n (some c)
 | x,y=>y=x
inductive OpenedL : List AV→List AV→Prop where
 | nil : OpenedL [] []
 | cons {x y : AV} {r s : List AV} : Opened x y→OpenedL r s→OpenedL (x :: r) (y :: s)
theorem OpenedL.len : ∀ {xs ys : List AV},OpenedL xs ys→ys.length=xs.length
 | _,_,.nil=>rfl
 | _,_,.cons _ h=>by simp[h.len]
theorem OpenedL.get : ∀ {xs ys : List AV},OpenedL xs ys→∀ {j : Nat},j < xs.length→Opened (xs.getD j .top) (ys.getD j .top)
 | _,_,.nil,j,h=>by simp at h
 | _,_,.cons hx hr,0,_=>hx
 | _,_,.cons hx hr,j+1,h=>by
  simp only[List.getD_cons_succ]
  exact hr.get (by simpa using h)
theorem open_one {φ : Phi} {O : Nat→Prop} {w : World} (x : AV) (g : Nat→Option Value) (h : R φ O w x g) : ∃ y,Opened x y ∧ R φ O w y g ∧ y.ncells=x.ncells ∧ y.isAgg=x.isAgg:=by
 cases x with
 | vec k id off n c =>
  cases c with
  | some c=>exact ⟨_,rfl,h,rfl,rfl⟩
  | none =>
   obtain ⟨b,c',cur,e,fr,v1,v2,v3,v4,v5,v6,v7⟩:=h
   exact ⟨_,⟨c',v3,rfl⟩,⟨b,c',cur,e,fr,v1,v2,v3,v4,fun m hm=>by simpa using hm,v6,v7⟩,rfl,rfl⟩
 | _=>exact ⟨_,rfl,h,rfl,rfl⟩
theorem open_row {φ : Phi} {O : Nat→Prop} {w : World} {b k : Nat} : ∀ (xs : List AV) (off : Nat),Rl φ O w b k xs off→∃ ys,OpenedL xs ys ∧ Rl φ O w b k ys off
 | [],off,_=>⟨[],.nil,trivial⟩
 | x :: r,off,h=>by
  obtain ⟨y,h1,h2,h3,h4⟩:=open_one x _ h.2.2.1
  obtain ⟨ys,h5,h6⟩:=open_row r (off+k) h.2.2.2
  exact ⟨y :: ys,.cons h1 h5,by rw[h3];exact h.1,by rw[h4];exact h.2.1,h2,h6⟩
theorem openedL_self : ∀ (xs : List AV),∃ ys,OpenedL xs ys
 | []=>⟨[],.nil⟩
 | x :: r=>by
  obtain ⟨ys,h⟩:=openedL_self r
  cases x with
  | vec k id off n c =>
   cases c with
   | none=>exact ⟨_,.cons ⟨n,Nat.le_refl _,rfl⟩ h⟩
   | some c=>exact ⟨_,.cons rfl h⟩
  | _=>exact ⟨_,.cons rfl h⟩
theorem D_open {P : Program} {f : FuncId} {args : List AV} {H H' : AHeap} {e : AEnd} {id : Nat} {blk : ABlk} (hf : AHeap.find H id=some blk) (hl : H.length ≤ H'.length)
  (h : ∀ es,OpenedL blk.es es→D P f args (AHeap.set H id (some { blk with es:=es })) e H') (hk0 : 0 < blk.k:=by first | exact Nat.zero_lt_one | simp) : D P f args H e H':=by
 have hid:=AHeap.find_lt hf
 have hown : ∀ {φ : Phi} {es : List AV} {b : Nat},Own φ (AHeap.set H id (some { blk with es:=es })) b ↔ Own φ H b:=by
  intro φ es b
  constructor
  ·rintro ⟨i,k,h1,h2⟩
   by_cases e : i=id
   ·subst e;exact ⟨i,blk,h1,hf⟩
   ·rw[AHeap.find_set_ne e] at h2;exact ⟨i,k,h1,h2⟩
  ·rintro ⟨i,k,h1,h2⟩
   by_cases e : i=id
   ·subst e;exact ⟨i,_,h1,AHeap.find_set_same hid⟩
   ·exact ⟨i,k,h1,by rw[AHeap.find_set_ne e];exact h2⟩
 refine D_reword (fun H2=>∃ es,OpenedL blk.es es ∧ H2=AHeap.set H id (some { blk with es:=es })) hl (fun φ w hR=>?_) (fun H2 ⟨es,h1,h2⟩=>h2 ▸ h es h1)
 have hex : ∃ es,OpenedL blk.es es ∧ ∀ b,φ id=some b→Rl φ (Own φ H) w b blk.k es 0:=by
  cases hm : φ id with
  | none =>
   obtain ⟨es,h1⟩:=openedL_self blk.es
   exact ⟨es,h1,fun b hb=>by simp at hb⟩
  | some b =>
   obtain ⟨cur,cap,a1,a2,a3,a4,a5,a6⟩:=(hR.blk id b blk hm hf).cells hk0
   obtain ⟨es,h1,h2⟩:=open_row _ _ a6
   exact ⟨es,h1,fun b' hb=>by cases hb;exact h2⟩
 obtain ⟨es,h1,h2⟩:=hex
 refine ⟨_,⟨es,h1,rfl⟩,⟨hR.glob.less (fun b ho=>hown.1 ho),fun i b hi=>?_,fun i j b hi hj fi fj=>?_,fun i b k hi hk=>?_⟩,by rw[AHeap.set_length],fun b=>hown⟩
 ·have:=hR.dom i b hi
  rw[AHeap.set_length];exact this
 ·have key : ∀ i,(AHeap.find (AHeap.set H id (some { blk with es:=es })) i).isSome→(AHeap.find H i).isSome:=by
   intro i hi
   by_cases e : i=id
   ·subst e;rw[hf];rfl
   ·rwa [AHeap.find_set_ne e] at hi
  exact hR.inj i j b hi hj (key i fi) (key j fj)
 ·have ho : Own φ (AHeap.set H id (some { blk with es:=es }))=Own φ H:=funext fun b=>propext hown
  rw[ho]
  by_cases e : i=id
  ·subst e
   rw[AHeap.find_set_same hid] at hk
   cases hk
   obtain ⟨cur,cap,a1,a2,a3,a4,a5,a6⟩:=(hR.blk i b blk hi hf).cells hk0
   have hlen:=h1.len
   exact .inl ⟨hk0,cur,cap,a1,a2,by simp only[hlen];exact a3,fun hx=>by simp only[hlen];exact a4 hx,a5,h2 b hi⟩
  ·rw[AHeap.find_set_ne e] at hk
   exact hR.blk i b k hi hk
end Go.Proofs.YtfnahogjkgcklaaGreatDoor
namespace Go.Proofs.YtfnahogjkgcklaaGreatDoor
open Go.RowKit
set_option linter.unusedVariables false
set_option linter.unusedSimpArgs false
structure FRow where
 nil : Bool
 n : Nat
 id : Nat
 c : Nat
instance : Inhabited FRow:=⟨⟨true,0,0,0⟩⟩
def FRow.av (k : Nat) (r : FRow) : AV:=if r.nil then .lst 0 [] (some []) else .vec k r.id 0 r.n (some r.c)
theorem FRow.av_nil {k : Nat} {r : FRow} (h : r.nil=true) : r.av k = .lst 0 [] (some []):=by simp[FRow.av,h]
theorem FRow.av_vec {k : Nat} {r : FRow} (h : r.nil=false) : r.av k = .vec k r.id 0 r.n (some r.c):=by simp[FRow.av,h]
theorem FRow.av_top {k : Nat} {r : FRow} : (r.av k).isTop=false:=by unfold FRow.av;split <;> rfl
theorem FRow.av_ncells {k : Nat} {r : FRow} : (r.av k).ncells=1:=by unfold FRow.av;split <;> rfl
theorem FRow.av_isAgg {k : Nat} {r : FRow} : (r.av k).isAgg=false:=by unfold FRow.av;split <;> rfl
theorem FRow.av_cells {k : Nat} {r : FRow} : (r.av k).cells=[r.av k]:=by unfold FRow.av;split <;> rfl
theorem FRow.av_lenOk {k : Nat} {r : FRow} : lenOk (r.av k)=True:=by unfold FRow.av;split <;> rfl
theorem FRow.av_lenN {k : Nat} {r : FRow} (h : r.nil=true→r.n=0) : lenN (r.av k)=r.n:=by
 cases e : r.nil with
 | true=>rw[FRow.av_nil e,h e];rfl
 | false=>rw[FRow.av_vec e];rfl
def rowsV (k : Nat) (rs : List FRow) : List AV:=rs.map (FRow.av k)
theorem rowsV_length {k : Nat} {rs : List FRow} : (rowsV k rs).length=rs.length:=by simp[rowsV]
def nthR (rs : List FRow) (i : Nat) : FRow:=rs.getD i default
theorem rowsV_get {k : Nat} {rs : List FRow} {i : Nat} (h : i < rs.length) : (rowsV k rs).getD i .top=(nthR rs i).av k:=by
 simp[rowsV,nthR,List.getD,h]
def capOK (n c : Nat) (es : List AV) (ex : Bool) : Prop:=(ex=true ∧ c=es.length ∧ n ≤ c) ∨ (ex=false ∧ n ≤ es.length)
structure Shape where
 k : Nat
 ty : TypeId
 ag : Bool
def Shape.is (s : Shape) (x : AV) : Prop:=x.isTop=false ∧ x.ncells=s.k ∧ x.isAgg=s.ag
def RowR (s : Shape) (mk : Nat→AV) (F : AHeap) (id n c m : Nat) : Prop :=
 ∃ es ex,AHeap.find F id=some ⟨s.k,es,ex,s.ty⟩ ∧ capOK n c es ex ∧ (∀ x ∈ es,s.is x) ∧ ∀ i,i < m→es[i]? = some (mk i)
def Reads (k : Nat) (mk : Nat→AV) (F : AHeap) (id m : Nat) : Prop:=∃ blk,AHeap.find F id=some blk ∧ blk.k=k ∧ m ≤ blk.es.length ∧ ∀ i,i < m→blk.es.getD i .top=mk i
section
variable {s : Shape} {mk : Nat→AV} {F G : AHeap} {id n c m : Nat}
theorem capOK_le {es : List AV} {ex : Bool} (h : capOK n c es ex) : n ≤ es.length:=by
 rcases h with ⟨_,h1,h2⟩ | ⟨_,h⟩
 ·omega
 ·exact h
theorem getD_of_some {l : List AV} {i : Nat} {x : AV} (h : l[i]? = some x) : l.getD i .top=x:=by simp[List.getD,h]
theorem RowR.keep (h : RowR s mk F id n c m) (e : AHeap.find G id=AHeap.find F id) : RowR s mk G id n c m:=by
 unfold RowR at h ⊢
 rw[e]
 exact h
theorem Reads.keep {k : Nat} (h : Reads k mk F id m) (e : AHeap.find G id=AHeap.find F id) : Reads k mk G id m:=by
 unfold Reads at h ⊢
 rw[e]
 exact h
theorem RowR.less {m' : Nat} (h : RowR s mk F id n c m) (hm : m' ≤ m) : RowR s mk F id n c m':=by
 obtain ⟨es,ex,h1,h2,h3,h4⟩:=h
 exact ⟨es,ex,h1,h2,h3,fun i hi=>h4 i (by omega)⟩
theorem RowR.shrink {n' : Nat} (h : RowR s mk F id n c m) (hn : n' ≤ n) : RowR s mk F id n' c m:=by
 obtain ⟨es,ex,h1,h2,h3,h4⟩:=h
 refine ⟨es,ex,h1,?_,h3,h4⟩
 rcases h2 with ⟨e1,e2,e3⟩ | ⟨e1,e2⟩
 ·exact .inl ⟨e1,e2,by omega⟩
 ·exact .inr ⟨e1,by omega⟩
theorem RowR.reads (h : RowR s mk F id n c m) (hm : m ≤ n) : Reads s.k mk F id m:=by
 obtain ⟨es,ex,h1,h2,h3,h4⟩:=h
 have:=capOK_le h2
 exact ⟨_,h1,rfl,by simp only;omega,fun i hi=>getD_of_some (h4 i hi)⟩
theorem Reads.less {k m' : Nat} (h : Reads k mk F id m) (hm : m' ≤ m) : Reads k mk F id m':=by
 obtain ⟨blk,h1,h2,h3,h4⟩:=h
 exact ⟨blk,h1,h2,by omega,fun i hi=>h4 i (by omega)⟩
theorem RowR.store {es : List AV} {ex : Bool} (hf : AHeap.find F id=some ⟨s.k,es,ex,s.ty⟩) (h2 : capOK n c es ex) (h3 : ∀ x ∈ es,s.is x) (h4 : ∀ i,i < m→es[i]? = some (mk i)) (hm : m < n) (hs : s.is (mk m)) :
  RowR s mk (AHeap.set F id (some ⟨s.k,es.set m (mk m),ex,s.ty⟩)) id n c (m+1):=by
 have hlt:=AHeap.find_lt hf
 have hle:=capOK_le h2
 refine ⟨_,_,AHeap.find_set_same hlt,?_,fun x hx=>?_,fun i hi=>?_⟩
 ·simpa [capOK] using h2
 ·rcases List.mem_or_eq_of_mem_set hx with h | rfl
  ·exact h3 x h
  ·exact hs
 ·rw[List.getElem?_set]
  by_cases e : m=i
  ·subst e;simp;omega
  ·rw[if_neg e];exact h4 i (by omega)
theorem RowR.app {es ys : List AV} {ex : Bool} (hf : AHeap.find F id=some ⟨s.k,es,ex,s.ty⟩) (h2 : capOK n c es ex) (h3 : ∀ x ∈ es,s.is x) (h4 : ∀ i,i < n→es[i]? = some (mk i)) (hr : n+ys.length ≤ c) (hs : ∀ x ∈ ys,s.is x) (hy : ∀ i,i < ys.length→ys[i]? = some (mk (n+i))) :
  RowR s mk (AHeap.set F id (some ⟨s.k,es.take n ++ ys ++ es.drop (n+ys.length),ex,s.ty⟩)) id (n+ys.length) c (n+ys.length):=by
 have hlt:=AHeap.find_lt hf
 have hle:=capOK_le h2
 have hl : (es.take n ++ ys).length=n+ys.length:=by simp;omega
 refine ⟨_,_,AHeap.find_set_same hlt,?_,fun x hx=>?_,fun i hi=>?_⟩
 ·rcases h2 with ⟨e1,e2,e3⟩ | ⟨e1,e2⟩
  ·refine .inl ⟨e1,?_,hr⟩
   simp;omega
  ·refine .inr ⟨e1,?_⟩
   rw[List.length_append,hl];omega
 ·rcases List.mem_append.1 hx with hx | hx
  ·rcases List.mem_append.1 hx with hx | hx
   ·exact h3 x (List.mem_of_mem_take hx)
   ·exact hs x hx
  ·exact h3 x (List.mem_of_mem_drop hx)
 ·rw[List.getElem?_append_left (by omega)]
  by_cases e : i < n
  ·rw[List.getElem?_append_left (by simp;omega),List.getElem?_take_of_lt e]
   exact h4 i e
  ·rw[List.getElem?_append_right (by simp;omega)]
   have : i - (es.take n).length=i - n:=by simp;omega
   rw[this,hy _ (by omega)]
   congr 2
   omega
theorem RowR.app2 {es ys : List AV} {ex : Bool} (hf : AHeap.find F id=some ⟨s.k,es,ex,s.ty⟩) (h2 : capOK n c es ex) (h3 : ∀ x ∈ es,s.is x) (h4 : ∀ i,i < n→es[i]? = some (mk i)) (hr : n+ys.length ≤ c) (hs : ∀ x ∈ ys,s.is x) :
  RowR s mk (AHeap.set F id (some ⟨s.k,es.take n ++ ys ++ es.drop (n+ys.length),ex,s.ty⟩)) id n c n:=by
 have hlt:=AHeap.find_lt hf
 have hle:=capOK_le h2
 refine ⟨_,_,AHeap.find_set_same hlt,?_,fun x hx=>?_,fun i hi=>?_⟩
 ·rcases h2 with ⟨e1,e2,e3⟩ | ⟨e1,e2⟩
  ·refine .inl ⟨e1,?_,by omega⟩
   simp;omega
  ·refine .inr ⟨e1,?_⟩
   simp;omega
 ·rcases List.mem_append.1 hx with hx | hx
  ·rcases List.mem_append.1 hx with hx | hx
   ·exact h3 x (List.mem_of_mem_take hx)
   ·exact hs x hx
  ·exact h3 x (List.mem_of_mem_drop hx)
 ·rw[List.append_assoc,List.getElem?_append_left (by simp;omega),List.getElem?_take_of_lt hi]
  exact h4 i hi
theorem take_marks {es : List AV} (hl : n ≤ es.length) (h4 : ∀ i,i < n→es[i]? = some (mk i)) : es.take n=(List.range n).map mk:=by
 apply List.ext_getElem?
 intro i
 by_cases e : i < n
 ·rw[List.getElem?_take_of_lt e,h4 i e];simp[e]
 ·rw[List.getElem?_eq_none (by simp;omega),List.getElem?_eq_none (by simp;omega)]
end
def rowIds (rs : List FRow) : List Nat:=(rs.filter fun r=>!r.nil).map (·.id)
theorem mem_rowIds {rs : List FRow} {k : Nat} (h : k < rs.length) (hn : (nthR rs k).nil=false) : (nthR rs k).id ∈ rowIds rs:=by
 refine List.mem_map.2 ⟨nthR rs k,List.mem_filter.2 ⟨?_,by simp[hn]⟩,rfl⟩
 unfold nthR
 rw[List.getD_eq_getElem?_getD,List.getElem?_eq_getElem h]
 exact List.getElem_mem h
structure RowsOK (s : Shape) (F : AHeap) (rs : List FRow) : Prop where
 nil : ∀ k,k < rs.length→(nthR rs k).nil=true→(nthR rs k).n=0
 blk : ∀ k,k < rs.length→(nthR rs k).nil=false→∃ es ex,AHeap.find F (nthR rs k).id=some ⟨s.k,es,ex,s.ty⟩ ∧ capOK (nthR rs k).n (nthR rs k).c es ex ∧ ∀ x ∈ es,s.is x
 apart : ∀ k l,k < rs.length→l < rs.length→(nthR rs k).nil=false→(nthR rs l).nil=false→(nthR rs k).id=(nthR rs l).id→k=l
 small : ∀ k,k < rs.length→(nthR rs k).n ≤ 10000000
def RowsM (s : Shape) (mk : Nat→Nat→AV) (F : AHeap) (rs : List FRow) (m : Nat→Nat) : Prop :=
 ∀ k,k < rs.length→(nthR rs k).nil=false→RowR s (mk k) F (nthR rs k).id (nthR rs k).n (nthR rs k).c (m k)
def Beside (H F : AHeap) (rs : List FRow) : Prop:=∀ id,id < H.length→id ∉ rowIds rs→AHeap.find F id=AHeap.find H id
def Seconds (k0 : Nat) (mk : Nat→Nat→AV) (F : AHeap) (rs : List FRow) (g0 B : Nat) (gvs : List AV) (K : Nat) (x : Nat→Nat) : Prop :=
 ∀ k,k < K→∃ gid gc,gvs.getD k .top = .vec k0 gid 0 ((nthR rs k).n+64) gc ∧ Reads k0 (mk k) F gid (x k) ∧ ((gid=(nthR rs k).id ∧ (nthR rs k).nil=false) ∨ g0 < gid) ∧ gid < B
section
variable {s : Shape} {mk : Nat→Nat→AV} {H F G : AHeap} {rs : List FRow} {m m' : Nat→Nat}
theorem RowsOK.start (h : RowsOK s H rs) : RowsM s mk H rs (fun _=>0):=fun k hk hn=>by
 obtain ⟨es,ex,h1,h2,h3⟩:=h.blk k hk hn
 exact ⟨es,ex,h1,h2,h3,fun i hi=>absurd hi (Nat.not_lt_zero _)⟩
theorem Beside.refl : Beside H H rs:=fun _ _ _=>rfl
theorem Beside.set (h : Beside H F rs) {K : Nat} {b : Option ABlk} (hK : K < rs.length) (hn : (nthR rs K).nil=false) : Beside H (AHeap.set F (nthR rs K).id b) rs:=fun id hid hni=>by
 have hne : id ≠ (nthR rs K).id:=fun e=>hni (by rw[e];exact mem_rowIds hK hn)
 rw[AHeap.find_set_ne hne]
 exact h id hid hni
theorem Beside.set2 (h : Beside H F rs) {i : Nat} {b : Option ABlk} (hi : H.length ≤ i) : Beside H (AHeap.set F i b) rs:=fun id hid hni=>by
 rw[AHeap.find_set_ne (by omega)]
 exact h id hid hni
theorem Beside.cons (h : Beside H F rs) (hl : H.length ≤ F.length) {b : Option ABlk} : Beside H (b :: F) rs:=fun id hid hni=>by
 rw[AHeap.find_cons (by omega)]
 exact h id hid hni
theorem RowsM.put (h : RowsM s mk F rs m) (ok : RowsOK s H rs) {K : Nat} {b : Option ABlk} (hK : K < rs.length) (hn : (nthR rs K).nil=false) (hr : RowR s (mk K) (AHeap.set F (nthR rs K).id b) (nthR rs K).id (nthR rs K).n (nthR rs K).c (m' K)) (hm : ∀ k,k ≠ K→m' k ≤ m k) :
  RowsM s mk (AHeap.set F (nthR rs K).id b) rs m':=fun k hk hkn=>by
 by_cases e : k=K
 ·subst e;exact hr
 ·exact ((h k hk hkn).less (hm k e)).keep (AHeap.find_set_ne (fun e'=>e (ok.apart k K hk hK hkn hn e')))
theorem RowsM.less (h : RowsM s mk F rs m) (hm : ∀ k,k < rs.length→m' k ≤ m k) : RowsM s mk F rs m':=fun k hk hkn=>(h k hk hkn).less (hm k hk)
theorem RowsM.far (h : RowsM s mk F rs m) (ok : RowsOK s H rs) {i : Nat} {b : Option ABlk} (hi : H.length ≤ i) : RowsM s mk (AHeap.set F i b) rs m:=fun k hk hkn=>by
 obtain ⟨es,ex,h1,_⟩:=ok.blk k hk hkn
 have:=AHeap.find_lt h1
 exact (h k hk hkn).keep (AHeap.find_set_ne (by omega))
theorem RowsM.cons (h : RowsM s mk F rs m) {b : Option ABlk} : RowsM s mk (b :: F) rs m:=fun k hk hkn=>by
 obtain ⟨es,ex,h1,_⟩:=h k hk hkn
 exact (h k hk hkn).keep (AHeap.find_cons (AHeap.find_lt h1))
theorem Seconds.keep {k0 g0 B K : Nat} {gvs : List AV} {x : Nat→Nat} (h : Seconds k0 mk F rs g0 B gvs K x) (h1 : ∀ id,g0 < id→id < B→AHeap.find G id=AHeap.find F id) (h2 : ∀ k,k < K→(nthR rs k).nil=false→AHeap.find G (nthR rs k).id=AHeap.find F (nthR rs k).id) : Seconds k0 mk G rs g0 B gvs K x:=fun k hk=>by
 obtain ⟨gid,gc,a1,a2,a3,a4⟩:=h k hk
 refine ⟨gid,gc,a1,a2.keep ?_,a3,a4⟩
 rcases a3 with ⟨rfl,hn⟩ | h
 ·exact h2 k hk hn
 ·exact h1 gid h a4
theorem Seconds.more {k0 g0 B B' K : Nat} {gvs : List AV} {x : Nat→Nat} (h : Seconds k0 mk F rs g0 B gvs K x) (hB : B ≤ B') : Seconds k0 mk F rs g0 B' gvs K x:=fun k hk=>by
 obtain ⟨gid,gc,a1,a2,a3,a4⟩:=h k hk
 exact ⟨gid,gc,a1,a2,a3,by omega⟩
theorem Seconds.less {k0 g0 B K : Nat} {gvs : List AV} {x y : Nat→Nat} (h : Seconds k0 mk F rs g0 B gvs K x) (hy : ∀ k,k < K→y k ≤ x k) : Seconds k0 mk F rs g0 B gvs K y:=fun k hk=>by
 obtain ⟨gid,gc,a1,a2,a3,a4⟩:=h k hk
 exact ⟨gid,gc,a1,a2.less (hy k hk),a3,a4⟩
theorem Seconds.next {k0 g0 B B' K : Nat} {gvs : List AV} {x : Nat→Nat} {gid : Nat} {gc : Option Nat} (h : Seconds k0 mk F rs g0 B gvs K x) (hB : B ≤ B') (hK : K < gvs.length) (hr : Reads k0 (mk K) F gid (x K)) (ho : (gid=(nthR rs K).id ∧ (nthR rs K).nil=false) ∨ g0 < gid) (hb : gid < B') :
  Seconds k0 mk F rs g0 B' (gvs.set K (.vec k0 gid 0 ((nthR rs K).n+64) gc)) (K+1) x:=fun k hk=>by
 by_cases e : k=K
 ·subst e
  exact ⟨gid,gc,by simp[List.getD,hK],hr,ho,hb⟩
 ·obtain ⟨gid',gc',a1,a2,a3,a4⟩:=h k (by omega)
  refine ⟨gid',gc',?_,a2,a3,by omega⟩
  rw[← a1]
  simp only[List.getD_eq_getElem?_getD]
  rw[List.getElem?_set_ne (by omega)]
theorem Seconds.zero {k0 g0 B : Nat} {gvs : List AV} {x : Nat→Nat} : Seconds k0 mk F rs g0 B gvs 0 x:=fun k hk=>by omega
end
theorem mk_next {n : Nat→Nat} {K j : Nat} (hj : n K ≤ j) (k : Nat) : (if k < K+1 then n k else 0) ≤ (if k < K then n k else if k=K then j else 0):=by
 by_cases e : k < K
 ·rw[if_pos e,if_pos (by omega)];exact Nat.le_refl _
 ·by_cases e2 : k=K
  ·subst e2;rw[if_neg e,if_pos rfl,if_pos (by omega)];exact hj
  ·rw[if_neg (by omega)];exact Nat.zero_le _
theorem mk_zero {n : Nat→Nat} {K : Nat} (k : Nat) : (if k < K then n k else if k=K then 0 else 0) ≤ (if k < K then n k else 0):=by
 by_cases e : k < K <;> simp[e]
theorem mk_up {n : Nat→Nat} {K j : Nat} (k : Nat) (e : k ≠ K) : (if k < K then n k else if k=K then j+1 else 0) ≤ (if k < K then n k else if k=K then j else 0):=by
 by_cases e1 : k < K <;> simp[e,e1]
theorem upd_flat {e x : AV} {f : Nat} (h : e.isAgg=false) : AV.upd e f x=x:=by
 cases e <;> first | rfl | (simp[AV.isAgg] at h)
theorem upd_full {e x : AV} {n : Nat} (h : e.ncells=n) (hx : x.ncells=n) (hx2 : x.isAgg=true) : AV.upd e 0 x=x:=by
 cases x with
 | agg xs =>
  cases e with
  | agg cs =>
   simp only[AV.ncells] at h hx
   have : cs.drop (0+xs.length)=[]:=List.drop_of_length_le (by omega)
   simp only[AV.upd,AV.cells,AV.ncells,List.take_zero,List.nil_append,this,List.append_nil]
  | _=>rfl
 | _=>simp[AV.isAgg] at hx2
inductive Grow (s : Shape) (mk : Nat→AV) (F : AHeap) (r : FRow) (B j : Nat) : AV→Prop where
 | nil : r.nil=true→j=0→Grow s mk F r B j (.lst 0 [] (some []))
 | room : r.nil=false→RowR s mk F r.id (r.n+j) r.c (r.n+j)→Grow s mk F r B j (.vec s.k r.id 0 (r.n+j) (some r.c))
 | new {gid : Nat} : B ≤ gid→gid < F.length→AHeap.find F gid=some ⟨s.k,(List.range (r.n+j)).map mk,false,s.ty⟩→Grow s mk F r B j (.vec s.k gid 0 (r.n+j) none)
theorem marks_succ {mk : Nat→AV} {n : Nat} : (List.range n).map mk ++ [mk n]=(List.range (n+1)).map mk:=by simp[List.range_succ]
theorem marks_len {mk : Nat→AV} {n : Nat} : ((List.range n).map mk).length=n:=by simp
theorem Reads.marks {k : Nat} {mk : Nat→AV} {F : AHeap} {gid n : Nat} {ex : Bool} {ty : TypeId} (h : AHeap.find F gid=some ⟨k,(List.range n).map mk,ex,ty⟩) : Reads k mk F gid n :=
 ⟨_,h,rfl,by simp,fun i hi=>by simp[List.getD,hi]⟩
def Ones (l : List AV) : Prop:=∀ x ∈ l,x.ncells=1 ∧ x.isAgg=false
theorem Ones.get {l : List AV} (h : Ones l) {i : Nat} (hi : i < l.length) : (l.getD i .top).ncells=1 ∧ ∀ f x,AV.upd (l.getD i .top) f x=x:=by
 have e : l.getD i .top=l[i]:=by simp[List.getD,hi]
 have:=h _ (List.getElem_mem hi)
 rw[e]
 exact ⟨this.1,fun f x=>upd_flat this.2⟩
theorem Ones.set {l : List AV} (h : Ones l) {i : Nat} {x : AV} (hx : x.ncells=1 ∧ x.isAgg=false) : Ones (l.set i x):=fun y hy=>by
 rcases List.mem_or_eq_of_mem_set hy with hy | rfl
 ·exact h y hy
 ·exact hx
theorem Ones.rep {n : Nat} {x : AV} (hx : x.ncells=1 ∧ x.isAgg=false) : Ones (List.replicate n x):=fun y hy=>by rw[List.eq_of_mem_replicate hy];exact hx
def killIds (ids : List Nat) (H : AHeap) : AHeap:=ids.foldl (fun G i=>AHeap.set G i none) H
theorem killIds_length : ∀ (ids : List Nat) (H : AHeap),(killIds ids H).length=H.length
 | [],H=>rfl
 | i :: r,H=>by
  have:=killIds_length r (AHeap.set H i none)
  rw[AHeap.set_length] at this
  exact this
theorem find_killIds {i : Nat} {k : ABlk} : ∀ {ids : List Nat} {H : AHeap},AHeap.find (killIds ids H) i=some k→i ∉ ids ∧ AHeap.find H i=some k
 | [],H,h=>⟨by simp,h⟩
 | j :: r,H,h=>by
  obtain ⟨h1,h2⟩:=find_killIds (ids:=r) (H:=AHeap.set H j none) h
  obtain ⟨h3,h4⟩:=find_kill h2
  exact ⟨by simp;exact ⟨h3,h1⟩,h4⟩
theorem killIds_other {i : Nat} : ∀ {ids : List Nat} {H : AHeap},i ∉ ids→AHeap.find (killIds ids H) i=AHeap.find H i
 | [],H,h=>rfl
 | j :: r,H,h=>by
  have:=killIds_other (ids:=r) (H:=AHeap.set H j none) (i:=i) (by simp at h;exact h.2)
  have e : AHeap.find (AHeap.set H j none) i=AHeap.find H i:=AHeap.find_set_ne (by simp at h;exact h.1)
  exact this.trans e
theorem weak_killIds {H F : AHeap} {ids : List Nat} {v : Value} (h : ∀ id,id < H.length→id ∉ ids→AHeap.find F id=AHeap.find H id) : Weak H (.ret (.sc v)) F (.ret (.sc v)) (killIds ids H):=by
 refine weak_gen [] (by simp[killIds_length]) (by simp) (by simp) (fun id k hid hk=>.inl ?_) (fun i s k hs=>by simp at hs) (.same trivial)
 obtain ⟨h1,h2⟩:=find_killIds hk
 exact ⟨h2,by rw[h id hid h1];exact h2⟩
end Go.Proofs.YtfnahogjkgcklaaGreatDoor
namespace Go.Proofs.YtfnahogjkgcklaaGreatDoor
open Go.RowKit
set_option linter.unusedVariables false
set_option linter.unusedSimpArgs false
theorem find_killO_other {xs : List AV} {id i : Nat} {H : AHeap} (h : xs ≠ []→i ≠ id) : AHeap.find (killO xs id H) i=AHeap.find H i:=by
 cases xs with
 | nil=>rfl
 | cons x r=>exact AHeap.find_set_ne (h (by simp))
theorem idsL_mono' {n m : Nat} (h : n ≤ m) {l : List AV} (hl : AV.idsL (· < n) l) : AV.idsL (· < m) l:=AV.idsL_mono (fun i hi=>Nat.lt_of_lt_of_le hi h) l hl
end Go.Proofs.YtfnahogjkgcklaaGreatDoor
namespace Go.Proofs.YtfnahogjkgcklaaGreatDoor
open Go.RowKit
set_option linter.unusedVariables false
set_option linter.unusedSimpArgs false
def lays : List (Option ABlk)→AHeap→AHeap
 | [],H=>H
 | b :: r,H=>lays r (b :: H)
theorem lays_length : ∀ {bs : List (Option ABlk)} {H : AHeap},(lays bs H).length=H.length+bs.length
 | [],H=>rfl
 | b :: r,H=>by simp only[lays,lays_length (bs:=r),List.length_cons];omega
theorem lays_old : ∀ {bs : List (Option ABlk)} {H : AHeap} {i : Nat},i < H.length→AHeap.find (lays bs H) i=AHeap.find H i
 | [],H,i,h=>rfl
 | b :: r,H,i,h=>by
  simp only[lays]
  rw[lays_old (by simp;omega),AHeap.find_cons h]
theorem lays_new : ∀ {bs : List (Option ABlk)} {H : AHeap} {i : Nat} {b : Option ABlk},bs[i]? = some b→AHeap.find (lays bs H) (H.length+i)=b
 | [],H,i,b,h=>by simp at h
 | x :: r,H,0,b,h=>by
  simp at h
  subst h
  simp only[lays]
  rw[Nat.add_zero,lays_old (by simp),AHeap.find_new]
 | x :: r,H,i+1,b,h=>by
  simp only[lays]
  have:=lays_new (bs:=r) (H:=x :: H) (i:=i) (by simpa using h)
  rw[List.length_cons,show H.length+1+i=H.length+(i+1) from by omega] at this
  exact this
theorem weak_lays {H F : AHeap} (bs : List (Option ABlk)) (src : List Nat) {x y : AV} (hl : src.length=bs.length) (hn : src.Nodup) (ha : ∀ s ∈ src,H.length ≤ s) (h1 : ∀ id,id < H.length→AHeap.find F id=AHeap.find H id)
  (h2 : ∀ (i : Nat) (k : ABlk) (s : Nat),bs[i]? = some (some k)→src[i]? = some s→∃ k1,AHeap.find F s=some k1 ∧ BlkZ F H.length src k1 k) (hz : Gz F H.length src x y) : Weak H (.ret x) F (.ret y) (lays bs H):=by
 refine weak_gen src (by rw[lays_length,hl]) hn ha (fun id k hid hk=>?_) (fun i s k hs hk=>?_) hz
 ·rw[lays_old hid] at hk
  exact .inl ⟨hk,by rw[h1 id hid];exact hk⟩
 ·have hi : i < bs.length:=by
   have:=(List.getElem?_eq_some_iff.1 hs).1
   omega
  have hr : bs[i]? = some bs[i]:=by simp[hi]
  rw[lays_new hr] at hk
  exact h2 i k s (by rw[hr,hk]) hs
theorem nodup_map {n : Nat} {f : Nat→Nat} (h : ∀ i j,i < j→f i < f j) : ((List.range n).map f).Nodup:=by
 rw[List.nodup_iff_pairwise_ne,List.pairwise_map]
 exact List.pairwise_lt_range.imp fun hab=>Nat.ne_of_lt (h _ _ hab)
theorem GzL.append {H1 : AHeap} {n0 : Nat} {src : List Nat} : ∀ {a b c d : List AV},GzL H1 n0 src a c→GzL H1 n0 src b d→GzL H1 n0 src (a ++ b) (c ++ d)
 | _,_,_,_,.nil,h=>h
 | _,_,_,_,.cons hx hr,h=>.cons hx (GzL.append hr h)
theorem GzL.map {H1 : AHeap} {n0 : Nat} {src : List Nat} {α : Type} {f g : α→AV} : ∀ {l : List α},(∀ x ∈ l,Gz H1 n0 src (f x) (g x))→GzL H1 n0 src (l.map f) (l.map g)
 | [],_=>.nil
 | x :: r,h=>.cons (h x (by simp)) (GzL.map fun y hy=>h y (by simp[hy]))
theorem apAny {H : AHeap} {k : Nat} {ty : TypeId} {xs ys : List AV} {id : Nat} (hf : xs ≠ []→AHeap.find H id=OwnB k ty xs) (hl : xs.length+ys.length ≤ 100000000) :
  ∃ (id' : Nat) (H' : AHeap),apOk H k ty ys (OwnV k xs id) ∧ apV H k ys (OwnV k xs id)=OwnV k (xs ++ ys) id' ∧ apH H k ty ys (OwnV k xs id)=H' ∧ (xs ++ ys ≠ []→AHeap.find H' id'=OwnB k ty (xs ++ ys) ∧ id'=H.length) ∧ H.length ≤ H'.length ∧ (∀ i,i < H.length→(xs ≠ []→i ≠ id)→AHeap.find H' i=AHeap.find H i):=by
 obtain ⟨h1,h2,h3⟩:=apOwn hf hl
 by_cases e : ys ≠ [] ∨ xs ≠ []
 ·obtain ⟨g1,g2⟩:=h2 e
  refine ⟨_,_,h1,g1,g2,fun _=>⟨?_,rfl⟩,by simp[killO_length],fun i hi hne=>?_⟩
  ·have:=AHeap.find_new (H:=killO xs id H) (b:=OwnB k ty (xs ++ ys))
   rwa [killO_length] at this
  ·rw[AHeap.find_cons (by rw[killO_length];exact hi),find_killO_other hne]
 ·have e1 : ys=[]:=Classical.byContradiction fun h=>e (.inl h)
  have e2 : xs=[]:=Classical.byContradiction fun h=>e (.inr h)
  obtain ⟨g1,g2⟩:=h3 e1 e2
  refine ⟨0,H,h1,by rw[g1,e1,e2];rfl,g2,fun h=>by rw[e1,e2] at h;exact (h rfl).elim,Nat.le_refl _,fun _ _ _=>rfl⟩
theorem weak_frz {H F : AHeap} {x y : AV} (h : ∀ id,id < H.length→AHeap.find F id=AHeap.find H id) (hz : Gz F H.length [] x y) : Weak H (.ret x) F (.ret y) H :=
 weak_gen [] (by simp) (by simp) (by simp) (fun id k hid hk=>.inl ⟨hk,by rw[h id hid];exact hk⟩) (fun i s k hs=>by simp at hs) hz
end Go.Proofs.YtfnahogjkgcklaaGreatDoor
namespace Go.Proofs.YtfnahogjkgcklaaGreatDoor
open Go.RowKit
set_option linter.unusedVariables false
set_option linter.unusedSimpArgs false
section
variable {P : Program} {ro : Option Nat} {n : Nat}
def Mk (m : Nat) : Deferred:={ target:=.collected m,args:=#[] }
def MD (n0 : Nat) (φ : Phi) (H : AHeap) (w : World) (ds : List Deferred) : Prop:=∃ ms : List Nat,ds=ms.map Mk ∧ ms.Nodup ∧ ∀ m ∈ ms,n0 ≤ m ∧ w.heap[m]? = some (.deferred (some [])) ∧ ¬ Own φ H m
theorem MD.nil (n0 : Nat) (φ : Phi) (H : AHeap) (w : World) : MD n0 φ H w []:=⟨[],rfl,.nil,fun m h=>by cases h⟩
theorem MD.step {n0 : Nat} {φ φ' : Phi} {H H' : AHeap} {w w' : World} {ds : List Deferred} (hs : Step φ H w φ' H' w') (h : MD n0 φ H w ds) : MD n0 φ' H' w' ds:=by
 obtain ⟨ms,h1,h2,h3⟩:=h
 refine ⟨ms,h1,h2,fun m hm=>?_⟩
 obtain ⟨g1,g2,g3⟩:=h3 m hm
 exact ⟨g1,(hs.same m (heap_lt g2) g3).trans g2,hs.own m (heap_lt g2) g3⟩
def CKY (n0 : Nat) (K : Post) (φ : Phi) (H : AHeap) (w : World) : Exit→Act→World→Prop:=fun e a' w' =>
 ∃ x ts' H' φ',XR φ' (Own φ' H') w' x e ∧ K x ts' H' ∧ FR φ' (Own φ' H') w' ts' a' ∧ Rel φ' H' w' ∧ Step φ H w φ' H' w' ∧ MD n0 φ' H' w' a'.defers
theorem CKY.step {n0 : Nat} {K : Post} {φ φ' : Phi} {H H' : AHeap} {w w' : World} {e : Exit} {a : Act} {w2 : World} (hs : Step φ H w φ' H' w') (h : CKY n0 K φ' H' w' e a w2) : CKY n0 K φ H w e a w2:=by
 obtain ⟨x,ts,H2,φ2,h1,h2,h3,h4,h5,h6⟩:=h
 exact ⟨x,ts,H2,φ2,h1,h2,h3,h4,hs.trans h5,h6⟩
theorem CKY.stays {n0 : Nat} {K : Post} {φ : Phi} {H : AHeap} {w : World} : ¬ LetsOut (CKY n0 K φ H w):=by
 rintro ⟨a,w',x,ts,H2,φ2,h1,_⟩
 cases x <;> exact h1.elim
end
end Go.Proofs.YtfnahogjkgcklaaGreatDoor
namespace Go.Proofs.YtfnahogjkgcklaaGreatDoor
open Go.RowKit
set_option linter.unusedVariables false
set_option linter.unusedSimpArgs false
section
variable {φ : Phi} {O : Nat→Prop} {w w' : World}
end
section
variable {P : Program} {K : Post} {ts : List AV} {H : AHeap}
end
end Go.Proofs.YtfnahogjkgcklaaGreatDoor
