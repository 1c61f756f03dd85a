import Derived.Test.YtfnahogjkgcklaaGreatDoorTG
import Derived.Test.YtfnahogjkgcklaaGreatDoorTI
import Derived.Test.YtfnahogjkgcklaaGreatDoorVE
namespace Go.Proofs.YtfnahogjkgcklaaGreatDoor
open Go.RowKit
set_option maxRecDepth 100000
set_option linter.unusedVariables false
set_option linter.unusedSimpArgs false
mutual
inductive OW (F : AHeap) : Nd→AV→List Nat→Prop
 | mk {k : Int} {s : ByteArray} {n : Int} {l : List Nd} {xs : List AV} {i : Nat} {is : List Nat} : (xs ≠ []→AHeap.find F i=OwnB 4 25 xs)→OWL F l xs is→OW F ⟨k,s,n,l⟩ (.agg [.sc (.int .u8 k),.sc (.string s),.sc (.int .i64 n),OwnV 4 xs i]) (i :: is)
inductive OWL (F : AHeap) : List Nd→List AV→List Nat→Prop
 | nil : OWL F [] [] []
 | cons {t : Nd} {l : List Nd} {x : AV} {xs : List AV} {a b : List Nat} : OW F t x a→OWL F l xs b→OWL F (t :: l) (x :: xs) (a ++ b)
end
theorem OWL.append {F : AHeap} : ∀ {l m : List Nd} {xs ys : List AV} {a b : List Nat},OWL F l xs a→OWL F m ys b→OWL F (l ++ m) (xs ++ ys) (a ++ b)
 | [],_,_,_,_,_,.nil,h=>h
 | _ :: _,_,_,_,_,_,.cons h1 h2,h=>by
  rw[List.append_assoc]
  exact .cons h1 (OWL.append h2 h)
theorem OWL.len {F : AHeap} : ∀ {l : List Nd} {xs : List AV} {a : List Nat},OWL F l xs a→xs.length=l.length
 | [],_,_,.nil=>rfl
 | _ :: _,_,_,.cons _ h=>by simp[OWL.len h]
theorem OW.idlen {F : AHeap} (t : Nd) : ∀ {x : AV} {is : List Nat},OW F t x is→is.length=t.size:=by
 induction t using Nd.ind with
 | _ t ih =>
  intro x is h
  have key : ∀ (l : List Nd),(∀ k ∈ l,∀ {x : AV} {is : List Nat},OW F k x is→is.length=k.size)→∀ {xs : List AV} {is : List Nat},OWL F l xs is→is.length=Nd.sizeL l:=by
   intro l
   induction l with
   | nil=>intro _ xs is h;cases h;rfl
   | cons y r ihr =>
    intro hk xs is h
    cases h with
    | cons h1 h2 =>
     rw[List.length_append,hk y (by simp) h1,ihr (fun k hk'=>hk k (by simp[hk'])) h2]
     rfl
  cases h with
  | mk h1 h2 =>
   rw[List.length_cons,key _ ih h2]
   simp only[Nd.size,Nd.kids]
   omega
theorem ow_cp {F : AHeap} (t : Nd) : ∀ {a : Nat},LiesO F t a→OW F t (cpV t a) (List.range' a t.size):=by
 induction t using Nd.ind with
 | _ t ih =>
  intro a h
  have key : ∀ (l : List Nd),(∀ k ∈ l,∀ {a : Nat},LiesO F k a→OW F k (cpV k a) (List.range' a k.size))→∀ a,LiesL F l a→OWL F l (cpL l a) (List.range' a (Nd.sizeL l)):=by
   intro l
   induction l with
   | nil=>intro _ a _;exact .nil
   | cons x r ihr =>
    intro hx a hl
    simp only[cpL,Nd.sizeL]
    rw[← List.range'_append_1]
    exact .cons (hx x (by simp) hl.first) (ihr (fun k hk=>hx k (by simp[hk])) _ hl.rest)
  have h1:=h.head
  have h2:=key _ ih _ h.kids
  cases t with
  | mk k s n l =>
   simp only[cpV,Nd.size,Nd.kids] at *
   rw[Nat.add_comm 1,List.range'_succ]
   exact .mk (fun _=>h1) h2
theorem ow_cpL {F : AHeap} : ∀ {l : List Nd} {a : Nat},LiesL F l a→OWL F l (cpL l a) (List.range' a (Nd.sizeL l))
 | [],_,_=>.nil
 | x :: r,a,hl=>by
  simp only[cpL,Nd.sizeL]
  rw[← List.range'_append_1]
  exact .cons (ow_cp x hl.first) (ow_cpL hl.rest)
theorem ow_gz {F K : AHeap} {n0 : Nat} {src : List Nat} (t : Nd) : ∀ {x : AV} {is : List Nat} {c : Nat},OW F t x is→(∀ (k i : Nat),is[k]? = some i→newId n0 src i=some (c+k)) →
  Gz K n0 src x (cpV t c) ∧ ∀ (k : Nat) (ys : List AV),(cpO t c)[k]? = some ys→∃ (i : Nat) (xs : List AV),is[k]? = some i ∧ (xs ≠ []→AHeap.find F i=OwnB 4 25 xs) ∧ GzL K n0 src xs ys:=by
 induction t using Nd.ind with
 | _ t ih =>
  intro x is c h hN
  have key : ∀ (l : List Nd),(∀ k ∈ l,∀ {x : AV} {is : List Nat} {c : Nat},OW F k x is→(∀ (k i : Nat),is[k]? = some i→newId n0 src i=some (c+k)) →
    Gz K n0 src x (cpV k c) ∧ ∀ (j : Nat) (ys : List AV),(cpO k c)[j]? = some ys→∃ (i : Nat) (xs : List AV),is[j]? = some i ∧ (xs ≠ []→AHeap.find F i=OwnB 4 25 xs) ∧ GzL K n0 src xs ys) →
    ∀ {xs : List AV} {is : List Nat} {c : Nat},OWL F l xs is→(∀ (k i : Nat),is[k]? = some i→newId n0 src i=some (c+k)) →
    GzL K n0 src xs (cpL l c) ∧ ∀ (j : Nat) (ys : List AV),(cpOL l c)[j]? = some ys→∃ (i : Nat) (xs : List AV),is[j]? = some i ∧ (xs ≠ []→AHeap.find F i=OwnB 4 25 xs) ∧ GzL K n0 src xs ys:=by
   intro l
   induction l with
   | nil=>intro _ xs is c h _;cases h;exact ⟨.nil,fun j ys h=>by simp[cpOL] at h⟩
   | cons y r ihr =>
    intro hk xs is c h hN
    cases h with
    | @cons _ _ x xs a b h1 h2 =>
     have hal:=OW.idlen _ h1
     have k1:=hk y (by simp) h1 (c:=c) (fun k i hi=>hN k i (by rw[List.getElem?_append_left (List.getElem?_eq_some_iff.1 hi).1];exact hi))
     have k2:=ihr (fun k hk'=>hk k (by simp[hk'])) h2 (c:=c+y.size) (fun k i hi=>by
      rw[show c+y.size+k=c+(a.length+k) by omega]
      exact hN _ i (by rw[List.getElem?_append_right (by omega),Nat.add_sub_cancel_left];exact hi))
     refine ⟨.cons k1.1 k2.1,fun j ys hj=>?_⟩
     simp only[cpOL] at hj
     by_cases hlt : j < y.size
     ·rw[List.getElem?_append_left (by rw[cpO_length];exact hlt)] at hj
      obtain ⟨i,zs,e1,e2⟩:=k1.2 j ys hj
      exact ⟨i,zs,by rw[List.getElem?_append_left (by omega)];exact e1,e2⟩
     ·rw[List.getElem?_append_right (by rw[cpO_length];omega),cpO_length] at hj
      obtain ⟨i,zs,e1,e2⟩:=k2.2 _ ys hj
      exact ⟨i,zs,by rw[List.getElem?_append_right (by omega),hal];exact e1,e2⟩
  cases h with
  | @mk k s n l xs i is h1 h2 =>
   have h3:=key l ih h2 (c:=c+1) (fun k j hj=>by
    rw[show c+1+k=c+(k+1) by omega]
    exact hN (k+1) j (by rw[List.getElem?_cons_succ];exact hj))
   refine ⟨?_,fun j ys hj=>?_⟩
   ·simp only[cpV]
    refine .agg (.cons (.same trivial) (.cons (.same trivial) (.cons (.same trivial) (.cons ?_ .nil))))
    rw[OwnV_len (show (cpL l (c+1)).length=xs.length by rw[cpL_length,h2.len])]
    exact OwnV_gz fun _=>hN 0 i rfl
   ·simp only[cpO] at hj
    cases j with
    | zero =>
     simp only[List.getElem?_cons_zero,Option.some.injEq] at hj
     exact ⟨i,xs,rfl,h1,hj ▸ h3.1⟩
    | succ j =>
     rw[List.getElem?_cons_succ] at hj
     obtain ⟨i',zs,e1,e2⟩:=h3.2 j ys hj
     exact ⟨i',zs,by rw[List.getElem?_cons_succ];exact e1,e2⟩
theorem weak_ow {H F : AHeap} {t : Nd} {x : AV} {is : List Nat} {v : Value} (h : OW F t x is) (hn : is.Nodup) (hge : ∀ i ∈ is,H.length ≤ i) (ho : ∀ i,i < H.length→AHeap.find F i=AHeap.find H i) :
  Weak H (.ret (.tup [x,.sc v])) F (.ret (.tup [cpV t H.length,.sc v])) (cpB t H.length ++ H):=by
 have hN : ∀ (k i : Nat),is[k]? = some i→newId H.length is i=some (H.length+k):=fun k i hi=>newId_atT hn hi (hge i (List.mem_of_getElem? hi))
 obtain ⟨g1,g2⟩:=ow_gz (K:=F) t h hN
 rw[cpB_lays]
 refine weak_lays _ is (by rw[OW.idlen _ h];simp[obs,cpO_length]) hn hge ho (fun i k s hb hs=>?_) (.tup (.cons g1 (.cons (.same trivial) .nil)))
 simp only[obs,List.getElem?_map,Option.map_eq_some_iff] at hb
 obtain ⟨ys,hy,hk⟩:=hb
 obtain ⟨hne,rfl⟩:=OwnB_some hk
 obtain ⟨i',xs,e1,e2,e3⟩:=g2 i ys hy
 rw[hs] at e1
 cases e1
 have hxn : xs ≠ []:=fun e=>hne (by have:=e3.len;rw[e] at this;exact List.length_eq_zero_iff.1 (by simpa using this))
 have e4:=e2 hxn
 rw[OwnB_ne hxn] at e4
 exact ⟨_,e4,rfl,rfl,fun h=>h,e3⟩
theorem cpOL_append (p q : List Nd) : ∀ a,cpOL (p ++ q) a=cpOL p a ++ cpOL q (a+Nd.sizeL p):=by
 induction p with
 | nil=>intro a;simp[cpOL,Nd.sizeL]
 | cons x r ih =>
  intro a
  simp only[List.cons_append,cpOL,ih,Nd.sizeL,List.append_assoc]
  rw[show a+(x.size+Nd.sizeL r)=a+x.size+Nd.sizeL r by omega]
theorem cpOL_length (l : List Nd) : ∀ a,(cpOL l a).length=Nd.sizeL l:=by
 induction l with
 | nil=>intro a;rfl
 | cons x r ih=>intro a;simp only[cpOL,List.length_append,cpO_length,ih,Nd.sizeL]
theorem LiesL.split {F : AHeap} {p q : List Nd} {a : Nat} (h : LiesL F (p ++ q) a) : LiesL F p a ∧ LiesL F q (a+Nd.sizeL p):=by
 unfold LiesL at *
 rw[cpOL_append] at h
 refine ⟨fun i xs hx=>h i xs ?_,fun i xs hx=>?_⟩
 ·rw[List.getElem?_append_left (List.getElem?_eq_some_iff.1 hx).1]
  exact hx
 ·rw[Nat.add_assoc]
  refine h _ xs ?_
  rw[List.getElem?_append_right (by rw[cpOL_length];omega),cpOL_length,Nat.add_sub_cancel_left]
  exact hx
theorem LiesL.of {F G : AHeap} {l : List Nd} {a : Nat} (h : LiesL F l a) (hs : ∀ i,a ≤ i→i < a+Nd.sizeL l→AHeap.find G i=AHeap.find F i) : LiesL G l a:=fun i xs hx=>by
 have hi:=(List.getElem?_eq_some_iff.1 hx).1
 rw[cpOL_length] at hi
 rw[hs _ (by omega) (by omega)]
 exact h i xs hx
theorem mem_range'I {a n y : Nat} (h : y ∈ List.range' a n) : a ≤ y ∧ y < a+n:=by
 obtain ⟨i,hi,rfl⟩:=List.mem_range'.1 h
 omega
theorem ow_node {G : AHeap} {t kd : Nd} {x : AV} {is : List Nat} {a q B : Nat} (hq : q < t.kids.length) (hl : ∀ l b,(∃ p s,t.kids=p ++ l ++ s ∧ b=a+1+Nd.sizeL p ∧ (p.length=0 ∨ p.length=q+1) ∧ (p.length=0→l.length=q) ∧ (p.length=q+1→s=[]))→LiesL G l b)
  (hb : AHeap.find G a=OwnB 4 25 ((cpL t.kids (a+1)).set q x)) (hx : OW G kd x is) (hn : is.Nodup) (hB : a+t.size ≤ B) (hi : ∀ y ∈ is,(a+1+Nd.sizeL (t.kids.take q) ≤ y ∧ y < a+1+Nd.sizeL (t.kids.take q)+(nthN t.kids q).size) ∨ B ≤ y) :
  ∃ js,OW G ⟨t.kind,t.text,t.num,t.kids.set q kd⟩ (cpV t a) js ∧ js.Nodup ∧ ∀ y ∈ js,(a ≤ y ∧ y < a+t.size) ∨ (B ≤ y ∧ y ∈ is):=by
 have hse:=Nd.size_eq t
 have hat:=size_at hq
 have e1 : t.kids=t.kids.take q ++ nthN t.kids q :: t.kids.drop (q+1):=by
  rw[nthN_eq hq,← List.drop_eq_getElem_cons hq,List.take_append_drop]
 have hsz : Nd.sizeL t.kids=Nd.sizeL (t.kids.take q)+((nthN t.kids q).size+Nd.sizeL (t.kids.drop (q+1))):=by
  conv=>lhs;rw[e1,Nd.sizeL_append]
  rfl
 have htl : (t.kids.take q).length=q:=by rw[List.length_take];omega
 obtain ⟨P,hP⟩ : ∃ P,t.kids.take q=P:=⟨_,rfl⟩
 obtain ⟨S,hS⟩ : ∃ S,t.kids.drop (q+1)=S:=⟨_,rfl⟩
 obtain ⟨u,hu⟩ : ∃ u,nthN t.kids q=u:=⟨_,rfl⟩
 rw[hP,hS,hu] at e1 hsz
 rw[hP] at htl
 rw[hP,hu] at hi
 have l1 : LiesL G P (a+1):=hl P (a+1) ⟨[],u :: S,by rw[e1];simp,by simp[Nd.sizeL],.inl rfl,fun _=>htl,fun h=>by simp at h⟩
 have l2 : LiesL G S (a+1+Nd.sizeL P+u.size):=hl S _ ⟨P ++ [u],[],by rw[e1];simp,by rw[Nd.sizeL_append];simp[Nd.sizeL];omega,.inr (by simp[htl]),fun h=>by simp at h,fun _=>rfl⟩
 have e2 : (cpL t.kids (a+1)).set q x=cpL P (a+1) ++ x :: cpL S (a+1+Nd.sizeL P+u.size):=by
  have hcl : (cpL P (a+1)).length=q:=by rw[cpL_length,htl]
  rw[e1,cpL_append]
  simp only[cpL]
  rw[List.set_append_right _ _ (by omega),hcl,Nat.sub_self]
  rfl
 have e3 : t.kids.set q kd=P ++ kd :: S:=by
  conv=>lhs;rw[e1]
  rw[List.set_append_right _ _ (by omega),htl,Nat.sub_self]
  rfl
 rw[e2] at hb
 have hO : OWL G (P ++ kd :: S) (cpL P (a+1) ++ x :: cpL S (a+1+Nd.sizeL P+u.size)) (List.range' (a+1) (Nd.sizeL P) ++ (is ++ List.range' (a+1+Nd.sizeL P+u.size) (Nd.sizeL S))):=(ow_cpL l1).append (.cons hx (ow_cpL l2))
 refine ⟨a :: (List.range' (a+1) (Nd.sizeL P) ++ (is ++ List.range' (a+1+Nd.sizeL P+u.size) (Nd.sizeL S))),?_,?_,?_⟩
 ·rw[e3,cpV_eq,OwnV_len (show (cpL t.kids (a+1)).length=(cpL P (a+1) ++ x :: cpL S (a+1+Nd.sizeL P+u.size)).length by rw[← e2,List.length_set])]
  exact .mk (fun _=>hb) hO
 ·refine List.nodup_cons.2 ⟨fun h=>?_,List.nodup_append.2 ⟨List.nodup_range',List.nodup_append.2 ⟨hn,List.nodup_range',fun y h1 z h2 e=>?_⟩,fun y h1 z h2 e=>?_⟩⟩
  ·rcases List.mem_append.1 h with h | h
   ·have:=mem_range'I h;omega
   ·rcases List.mem_append.1 h with h | h
    ·have:=hi _ h;omega
    ·have:=mem_range'I h;omega
  ·have k1:=hi _ h1
   have k2:=mem_range'I h2
   omega
  ·have k1:=mem_range'I h1
   rcases List.mem_append.1 h2 with h | h
   ·have k2:=hi _ h;omega
   ·have k2:=mem_range'I h;omega
 ·intro y h
  rcases List.mem_cons.1 h with rfl | h
  ·omega
  ·rcases List.mem_append.1 h with h | h
   ·have:=mem_range'I h;omega
   ·rcases List.mem_append.1 h with h | h
    ·rcases hi _ h with k | k
     ·omega
     ·exact .inr ⟨k,h⟩
    ·have:=mem_range'I h;omega
end Go.Proofs.YtfnahogjkgcklaaGreatDoor
namespace Go.Proofs.YtfnahogjkgcklaaGreatDoor
open Go.RowKit
set_option maxRecDepth 100000
set_option linter.unusedVariables false
set_option linter.unusedSimpArgs false
abbrev zero6 : AV:=.agg [.sc (.int .u8 0),.sc (.string ⟨#[]⟩),.sc (.int .i64 0),.lst 0 [] (some [])]
theorem gz_zero6 {F : AHeap} {n0 : Nat} {src : List Nat} : Gz F n0 src zero6 zero6:=.agg (.cons (.same trivial) (.cons (.same trivial) (.cons (.same trivial) (.cons .nil0 .nil))))
def putOV (t kid : Nd) (p : List Int) (a : Nat) : AV:=match getN t p with
 | none=>.tup [zero6,.sc (.int .i64 6)]
 | some _=>if rightN (withN t kid p) 40 then .tup [cpV (withN t kid p) a,.sc (.int .i64 0)] else .tup [zero6,.sc (.int .i64 4)]
def putOB (t kid : Nd) (p : List Int) (a : Nat) : AHeap:=match getN t p with
 | none=>[]
 | some _=>if rightN (withN t kid p) 40 then cpB (withN t kid p) a else []
theorem ow_changed {F G : AHeap} {kid : Nd} {kv : AV} {kis : List Nat} {B : Nat} (hkid : OW G kid kv kis) (hkn : kis.Nodup) (hkB : ∀ y ∈ kis,B ≤ y) (r : List Int) : ∀ {t : Nd} {id j a i m : Nat} {q : Int} {es : List AV},a+t.size ≤ B→LiesO F t a→posO t id j a (q :: r)=some (i,m)→AHeap.find F i=some ⟨4,es,false,25⟩→AHeap.find G i=some ⟨4,es.set m kv,false,25⟩→(∀ x,a ≤ x→x < a+t.size→x ≠ i→AHeap.find G x=AHeap.find F x) →
  ∃ js,OW G (withN t kid (q :: r)) (cpV t a) js ∧ js.Nodup ∧ ∀ y ∈ js,(a ≤ y ∧ y < a+t.size) ∨ (B ≤ y ∧ y ∈ kis):=by
 induction r with
 | nil =>
  intro t id j a i m q es hB hl hp hf hg ho
  simp only[posO] at hp
  split at hp
  case isFalse=>cases hp
  rename_i hq
  simp only[Option.some.injEq,Prod.mk.injEq] at hp
  obtain ⟨rfl,rfl⟩:=hp
  have hqn : q.toNat < t.kids.length:=by omega
  have hne : cpL t.kids (a+1) ≠ []:=fun e=>by have:=cpL_length t.kids (a+1);rw[e] at this;simp at this;omega
  have hes : es=cpL t.kids (a+1):=by
   have:=hl.head
   rw[hf,OwnB_ne hne] at this
   simpa using this
  subst hes
  have hne2 : (cpL t.kids (a+1)).set q.toNat kv ≠ []:=fun e=>hne (by
   have:=congrArg List.length e
   rw[List.length_set] at this
   exact List.length_eq_zero_iff.1 (by simpa using this))
  have hse:=Nd.size_eq t
  refine ow_node hqn ?_ (by rw[hg,OwnB_ne hne2]) hkid hkn hB (fun y hy=>.inr (hkB y hy))
  rintro l b ⟨p,s,h1,h2,h3⟩
  have hk:=hl.kids
  rw[h1] at hk
  have hw:=hk.split.1.split.2
  have hsz : Nd.sizeL t.kids=Nd.sizeL p+Nd.sizeL l+Nd.sizeL s:=by rw[h1,Nd.sizeL_append,Nd.sizeL_append]
  rw[h2]
  exact hw.of fun x h4 h5=>ho x (by omega) (by omega) (by omega)
 | cons q2 r ih =>
  intro t id j a i m q es hB hl hp hf hg ho
  rw[posO] at hp
  split at hp
  case isFalse=>cases hp
  rename_i hq
  have hqn : q.toNat < t.kids.length:=by omega
  have hin:=posO_in hp
  have hne : cpL t.kids (a+1) ≠ []:=fun e=>by have:=cpL_length t.kids (a+1);rw[e] at this;simp at this;omega
  have hsz:=size_at hqn
  have hse:=Nd.size_eq t
  have hG : AHeap.find G a=OwnB 4 25 ((cpL t.kids (a+1)).set q.toNat (cpV (nthN t.kids q.toNat) (a+1+Nd.sizeL (t.kids.take q.toNat)))):=by
   have e : (cpL t.kids (a+1)).set q.toNat (cpV (nthN t.kids q.toNat) (a+1+Nd.sizeL (t.kids.take q.toNat)))=cpL t.kids (a+1):=by
    have h:=cpV_idx t.kids q.toNat (a+1) hqn
    obtain ⟨h1,h2⟩:=List.getElem?_eq_some_iff.1 h
    rw[← h2]
    exact List.set_getElem_self h1
   rw[e,ho a (by omega) (by omega) (by omega),hl.head]
  obtain ⟨js,g1,g2,g3⟩:=ih (by omega) (hl.kids.at_ hqn) hp hf hg (fun x h1 h2 h3=>ho x (by omega) (by omega) h3)
  obtain ⟨ks,k1,k2,k3⟩:=ow_node (B:=B) hqn (by
   rintro l b ⟨p,s,h1,h2,h3,h4,h5⟩
   have hk:=hl.kids
   rw[h1] at hk
   have hw:=hk.split.1.split.2
   have hsz2 : Nd.sizeL t.kids=Nd.sizeL p+Nd.sizeL l+Nd.sizeL s:=by rw[h1,Nd.sizeL_append,Nd.sizeL_append]
   rw[h2]
   refine hw.of fun x h6 h7=>ho x (by omega) (by omega) ?_
   rcases h3 with h3 | h3
   ·have hp0 : p=[]:=List.length_eq_zero_iff.1 h3
    subst hp0
    have hlt : t.kids.take q.toNat=l:=by rw[h1,List.nil_append,← h4 rfl,List.take_left]
    rw[hlt] at hin
    simp only[Nd.sizeL] at h6 h7
    omega
   ·have hs:=h5 h3
    subst hs
    have hpt : t.kids.take (q.toNat+1)=p:=by rw[h1,List.append_nil,← h3,List.take_left]
    have:=sizeL_take hqn
    rw[hpt] at this
    omega) hG g1 g2 hB (fun y hy=>(g3 y hy).elim .inl fun h=>.inr h.1)
  refine ⟨ks,k1,k2,fun y hy=>?_⟩
  rcases k3 y hy with h | ⟨h1,h2⟩
  ·exact .inl h
  ·rcases g3 y h2 with h | h
   ·omega
   ·exact .inr h
set_option maxHeartbeats 0 in
theorem putO_d (t kid : Nd) (hz : t.size ≤ 1000000) (hk : kid.size ≤ 1000000) (p : List Int) (hw : (withN t kid p).size ≤ 1000000) (hp : p.length ≤ 1000000) (rp : Option (List AV)) (H : AHeap) : D Tryz.prog 9 [ndR t none,ndR kid none,.lst 1 (pthA p) rp] H (.ret (putOV t kid p H.length)) (putOB t kid p H.length ++ H):=by
 refine D_of_DK (by simp) (dk9 (E_of_ES ?_))
 simp only[ic9,ux]
 have hc1:=fun H=>copied_d t hz none H
 have hc2:=fun H=>copied_d kid hk none H
 rw[ndR_eq] at hc1 hc2
 rw[ndR_eq,ndR_eq]
 obtain ⟨cv,hcv⟩ : ∃ cv,cpV t (H.length+3)=cv:=⟨_,rfl⟩
 have hcv2:=cpV_eq t (H.length+3)
 rw[hcv] at hcv2
 have c1 : cv.isTop=false:=by rw[hcv2];rfl
 have c2 : cv.isAgg=true:=by rw[hcv2];rfl
 have c3 : cv.ncells=4:=by rw[hcv2];rfl
 have c4 : 4 ≤ cv.cells.length:=by rw[hcv2];exact Nat.le_refl _
 have c5 : AV.agg (cv.cells.take 4)=cv:=by rw[hcv2];rfl
 have c6 : AV.agg cv.cells=cv:=by rw[hcv2];rfl
 refine ES_seq_gen fun L hL=>?_
 simp -implicitDefEqProofs (maxSteps:=99999999) (disch:=first | omega | (simp only[vl];first | done | omega)) only[vu,va,vg,vs,vw,vk,simprocAttr]
 refine hL _ _ ?_
 clear hL
 refine ES_seq_gen fun L hL=>?_
 simp -implicitDefEqProofs (maxSteps:=99999999) (disch:=first | omega | (simp only[vl];first | done | omega)) only[vu,va,vg,vs,vw,vk,simprocAttr]
 refine callR_ret (hc1 _) ?_
 obtain ⟨b1,hb1⟩ : ∃ b,b=(⟨4,[.agg [.sc (.int .u8 t.kind),.sc (.string t.text),.sc (.int .i64 t.num),.lst 4 (ndL t.kids) none]],true,25⟩ : ABlk):=⟨_,rfl⟩
 obtain ⟨b2,hb2⟩ : ∃ b,b=(⟨4,[.agg [.sc (.int .u8 kid.kind),.sc (.string kid.text),.sc (.int .i64 kid.num),.lst 4 (ndL kid.kids) none]],true,25⟩ : ABlk):=⟨_,rfl⟩
 obtain ⟨b3,hb3⟩ : ∃ b,b=(⟨4,[AV.agg [.sc (.int .u8 0),.sc (.string ⟨#[]⟩),.sc (.int .i64 0),.lst 0 [] (some [])]],true,25⟩ : ABlk):=⟨_,rfl⟩
 rw[← hb1,← hb2,← hb3]
 have hl1:=liesO_lays (t:=t) (H:=some b3 :: some b2 :: some b1 :: H)
 have hG0 : ∀ i,i < H.length+3→AHeap.find (cpB t (some b3 :: some b2 :: some b1 :: H).length ++ some b3 :: some b2 :: some b1 :: H) i=AHeap.find (some b3 :: some b2 :: some b1 :: H) i:=fun i hi=>AHeap.find_append (by simp only[List.length_cons];omega)
 have hGn : (cpB t (some b3 :: some b2 :: some b1 :: H).length ++ some b3 :: some b2 :: some b1 :: H).length=t.size+(H.length+3):=by rw[List.length_append,cpB_length];simp
 generalize cpB t (some b3 :: some b2 :: some b1 :: H).length ++ some b3 :: some b2 :: some b1 :: H=G at *
 simp only[List.length_cons,Nat.add_assoc,Nat.reduceAdd,hcv] at hl1 ⊢
 have g1 : AHeap.find G H.length=some b1:=by rw[hG0 _ (by omega),find_past (by simp;omega),find_past (by simp),find_top rfl]
 have g2 : AHeap.find G (H.length+1)=some b2:=by rw[hG0 _ (by omega),find_past (by simp),find_top (by simp)]
 have g3 : AHeap.find G (H.length+2)=some b3:=by rw[hG0 _ (by omega),find_top (by simp)]
 have gH : ∀ i,i < H.length→AHeap.find G i=AHeap.find H i:=fun i hi=>by rw[hG0 _ (by omega),find_past (by simp;omega),find_past (by simp;omega),find_past hi]
 rw[hb1] at g1
 rw[hb2] at g2
 rw[hb3] at g3
 simp -implicitDefEqProofs (maxSteps:=99999999) (disch:=first | omega | (simp only[vl];first | done | omega)) only[vu,g1,c1,c2,c3,va,vg,vs,vw,vk,simprocAttr]
 rw[c6]
 have hgl : H.length < G.length:=by omega
 have f1 : AHeap.find (AHeap.set G H.length (some ⟨4,[cv],true,25⟩)) H.length=some ⟨4,[cv],true,25⟩:=AHeap.find_set_same hgl
 have fo : ∀ i,i ≠ H.length→AHeap.find (AHeap.set G H.length (some ⟨4,[cv],true,25⟩)) i=AHeap.find G i:=fun i hi=>AHeap.find_set_ne hi
 have fl : (AHeap.set G H.length (some ⟨4,[cv],true,25⟩)).length=t.size+(H.length+3):=by rw[AHeap.set_length];exact hGn
 have hl2 : LiesO (AHeap.set G H.length (some ⟨4,[cv],true,25⟩)) t (H.length+3):=hl1.of fun i h1 h2=>fo i (by omega)
 generalize AHeap.set G H.length (some ⟨4,[cv],true,25⟩)=F at *
 have f2 : AHeap.find F (H.length+1)=some ⟨4,[.agg [.sc (.int .u8 kid.kind),.sc (.string kid.text),.sc (.int .i64 kid.num),.lst 4 (ndL kid.kids) none]],true,25⟩:=by rw[fo _ (by omega),g2]
 have f3 : AHeap.find F (H.length+2)=some ⟨4,[AV.agg [.sc (.int .u8 0),.sc (.string ⟨#[]⟩),.sc (.int .i64 0),.lst 0 [] (some [])]],true,25⟩:=by rw[fo _ (by omega),g3]
 have fH : ∀ i,i < H.length→AHeap.find F i=AHeap.find H i:=fun i hi=>by rw[fo _ (by omega),gH i hi]
 clear fo g1 g2 g3 gH hGn hG0 hl1 hgl
 refine hL _ _ ?_
 clear hL
 refine ES_seq_gen fun L hL=>?_
 simp -implicitDefEqProofs (maxSteps:=99999999) (disch:=first | omega | (simp only[vl];first | done | omega)) only[vu,va,vg,vs,vw,vk,simprocAttr]
 refine callR_ret (findO_d t p hp rp H.length 0 (H.length+3) [cv] true F f1 (by simp) (by rw[hcv];rfl) hl2) ?_
 cases hpo : posO t H.length 0 (H.length+3) p with
 | none =>
  have hg : getN t p=none:=by have:=posO_none (t:=t) (id:=H.length) (j:=0) (a:=H.length+3) (p:=p);rw[hpo] at this;cases e : getN t p with | none=>rfl | some u=>rw[e] at this;cases this
  have hv : putOV t kid p H.length = .tup [zero6,.sc (.int .i64 6)]:=by unfold putOV;rw[hg]
  have hvB : putOB t kid p H.length=[]:=by unfold putOB;rw[hg]
  simp only[posV]
  simp -implicitDefEqProofs (maxSteps:=99999999) (disch:=first | omega | (simp only[vl];first | done | omega)) only[vu,va,vg,vs,vw,vk,simprocAttr]
  refine hL _ _ ?_
  clear hL
  refine ES_seq_gen fun L hL=>?_
  simp -implicitDefEqProofs (maxSteps:=99999999) (disch:=first | omega | (simp only[vl];first | done | omega)) only[vu,f3,va,vg,vs,vw,vk,simprocAttr]
  rw[hv,hvB]
  refine weak_lays [] [] rfl List.nodup_nil (by simp) (fun i hi=>?_) (by simp) (.tup (.cons gz_zero6 (.cons (.same trivial) .nil)))
  first
   | exact fH i hi
   | rw[AHeap.find_set_ne (by omega),fH i hi]
 | some x =>
  simp only[posV]
  simp -implicitDefEqProofs (maxSteps:=99999999) (disch:=first | omega | (simp only[vl];first | done | omega)) only[vu,va,vg,vs,vw,vk,simprocAttr]
  refine hL _ _ ?_
  clear hL
  refine ES_seq_gen fun L hL=>?_
  simp -implicitDefEqProofs (maxSteps:=99999999) (disch:=first | omega | (simp only[vl];first | done | omega)) only[vu,va,vg,vs,vw,vk,simprocAttr]
  obtain ⟨i,m⟩:=x
  obtain ⟨es,ex,u,a',e1,e2,e3,e4⟩:=posO_blk hpo f1 (by simp) (show [cv].getD 0 .top=cpV t (H.length+3) by rw[hcv];rfl) hl2
  obtain ⟨kv,hkv⟩ : ∃ kv,cpV kid F.length=kv:=⟨_,rfl⟩
  have hkv2:=cpV_eq kid F.length
  rw[hkv] at hkv2
  have d1 : kv.isTop=false:=by rw[hkv2];rfl
  have d2 : kv.isAgg=true:=by rw[hkv2];rfl
  have d3 : kv.ncells=4:=by rw[hkv2];rfl
  have d6 : AV.agg kv.cells=kv:=by rw[hkv2];rfl
  have hup : (es.getD m AV.top).upd 0 kv=kv:=by rw[e3,cpV_eq,hkv2];rfl
  have hel : 4 ≤ (es.getD m AV.top).ncells ∧ (es.getD m AV.top).isAgg=true:=by rw[e3,cpV_eq];exact ⟨Nat.le_refl _,rfl⟩
  refine hL _ _ ?_
  clear hL
  refine ES_seq_gen fun L hL=>?_
  simp -implicitDefEqProofs (maxSteps:=99999999) (disch:=first | omega | (simp only[vl];first | done | omega)) only[vu,f2,va,vg,vs,vw,vk,simprocAttr]
  refine callR_ret (hc2 _) ?_
  rw[hkv]
  have hlk:=liesO_lays (t:=kid) (H:=F)
  have hK0 : ∀ x,x < F.length→AHeap.find (cpB kid F.length ++ F) x=AHeap.find F x:=fun x hx=>AHeap.find_append hx
  have hKn : (cpB kid F.length ++ F).length=kid.size+F.length:=by rw[List.length_append,cpB_length]
  generalize cpB kid F.length ++ F=K at *
  have k1 : AHeap.find K i=some ⟨4,es,ex,25⟩:=by rw[hK0 _ (AHeap.find_lt e1),e1]
  simp -implicitDefEqProofs (maxSteps:=99999999) (disch:=first | omega | (simp only[vl];first | done | omega)) only[vu,k1,d1,d2,d3,hup,va,vg,vs,vw,vk,simprocAttr]
  refine ⟨⟨e2,hel⟩,?_⟩
  have hil:=AHeap.find_lt e1
  have hKl : F.length ≤ K.length:=by omega
  have fl' : H.length+3 ≤ F.length:=by omega
  have hiK : i < K.length:=by omega
  have m1 : AHeap.find (AHeap.set K i (some ⟨4,es.set m kv,ex,25⟩)) i=some ⟨4,es.set m kv,ex,25⟩:=AHeap.find_set_same hiK
  have mo : ∀ x,x ≠ i→AHeap.find (AHeap.set K i (some ⟨4,es.set m kv,ex,25⟩)) x=AHeap.find K x:=fun x hx=>AHeap.find_set_ne hx
  generalize AHeap.set K i (some ⟨4,es.set m kv,ex,25⟩)=M at *
  have hall : ∃ nv,AHeap.find M H.length=some ⟨4,[nv],true,25⟩ ∧ (∃ b,nv=cpV t (H.length+3) ∨ nv=cpV kid b) ∧ (i=H.length ∨ H.length+3 ≤ i) ∧ (∀ (R : AV→AV→Prop) (N : AHeap),RelT N (H.length+3) R→(∀ x,H.length+3 ≤ x→AHeap.find N x=AHeap.find M x)→R nv (ndA (withN t kid p))) ∧ ∀ (N : AHeap),(∀ x,H.length+3 ≤ x→AHeap.find N x=AHeap.find M x)→∃ js,OW N (withN t kid p) nv js ∧ js.Nodup ∧ ∀ y ∈ js,H.length+3 ≤ y:=by
   cases p with
   | nil =>
    simp only[posO,Option.some.injEq,Prod.mk.injEq] at hpo
    obtain ⟨rfl,rfl⟩:=hpo
    rw[f1] at e1
    cases e1
    refine ⟨kv,m1,⟨F.length,.inr hkv.symm⟩,.inl rfl,fun R N hR hN=>?_,fun N hN=>?_⟩
    ·rw[← hkv]
     exact hR.same fl' (hlk.of fun x h1 h2=>by rw[hN x (by omega),mo x (by omega)])
    ·rw[← hkv]
     refine ⟨_,ow_cp kid (hlk.of fun x h1 h2=>by rw[hN x (by omega),mo x (by omega)]),List.nodup_range',fun y hy=>?_⟩
     have:=mem_range'I hy
     omega
   | cons q r =>
    have hin:=posO_in hpo
    have hex:=e4 (by simp)
    subst hex
    refine ⟨cv,by rw[mo _ (by omega),hK0 _ (by omega),f1],⟨0,.inl hcv.symm⟩,.inr hin.1,fun R N hR hN=>?_,fun N hN=>?_⟩
    ·rw[← hcv]
     refine changed (F:=F) (b:=F.length) hR ?_ r (Nat.le_refl _) hl2 hpo e1 (by rw[hN i hin.1,m1,hkv]) (fun x h1 h2 h3=>by rw[hN x h1,mo x h3,hK0 x (by omega)])
     exact hR.same fl' (hlk.of fun x h1 h2=>by rw[hN x (by omega),mo x (by omega)])
    ·rw[← hcv]
     have hkw : OW N kid kv (List.range' F.length kid.size):=by
      rw[← hkv]
      exact ow_cp kid (hlk.of fun x h1 h2=>by rw[hN x (by omega),mo x (by omega)])
     obtain ⟨js,j1,j2,j3⟩:=ow_changed (F:=F) (B:=F.length) hkw List.nodup_range' (fun y hy=>(mem_range'I hy).1) r (by omega) hl2 hpo e1 (by rw[hN i hin.1,m1]) (fun x h1 h2 h3=>by rw[hN x h1,mo x h3,hK0 x (by omega)])
     exact ⟨js,j1,j2,fun y hy=>(j3 y hy).elim (fun h=>h.1) fun h=>by omega⟩
  obtain ⟨nv,n1,⟨nb,nc⟩,ni,nR,nO⟩:=hall
  have nsh : nv.isTop=false ∧ nv.isAgg=true ∧ nv.ncells=4 ∧ 4 ≤ nv.cells.length ∧ AV.agg (nv.cells.take 4)=nv ∧ AV.agg nv.cells=nv:=by
   rcases nc with rfl | rfl <;> rw[cpV_eq] <;> exact ⟨rfl,rfl,rfl,Nat.le_refl _,rfl,rfl⟩
  obtain ⟨s1,s2,s3,s4,s5,s6⟩:=nsh
  have n3 : AHeap.find M (H.length+2)=some ⟨4,[AV.agg [.sc (.int .u8 0),.sc (.string ⟨#[]⟩),.sc (.int .i64 0),.lst 0 [] (some [])]],true,25⟩:=by rw[mo _ (by omega),hK0 _ (by omega),f3]
  have nH : ∀ x,x < H.length→AHeap.find M x=AHeap.find H x:=fun x hx=>by rw[mo _ (by omega),hK0 _ (by omega),fH x hx]
  have hview:=nR (View M) M ⟨fun _ h=>relT_view.same (Nat.zero_le _) h,fun _=>relT_view.node (Nat.zero_le _)⟩ (fun _ _=>rfl)
  have hrt:=D_view (.cons hview .nil) (.sc) (by have:=tright_d (withN t kid p) none hw [];rwa [ndR_none] at this)
  refine hL _ _ ?_
  clear hL
  refine ES_seq_gen fun L hL=>?_
  simp -implicitDefEqProofs (maxSteps:=99999999) (disch:=first | omega | (simp only[vl];first | done | omega)) only[vu,n1,s1,s2,s3,va,vg,vs,vw,vk,simprocAttr]
  refine ⟨s4,?_⟩
  rw[s5]
  refine callR_ret hrt ?_
  obtain ⟨u0,hgu⟩ : ∃ u0,getN t p=some u0:=by
   have:=posO_none (t:=t) (id:=H.length) (j:=0) (a:=H.length+3) (p:=p)
   rw[hpo] at this
   cases e : getN t p with
   | none=>rw[e] at this;cases this
   | some u0=>exact ⟨u0,rfl⟩
  have hup3 : (AV.agg [.sc (.int .u8 0),.sc (.string ⟨#[]⟩),.sc (.int .i64 0),.lst 0 [] (some [])]).upd 0 nv=nv:=by
   rcases nc with rfl | rfl <;> rw[cpV_eq] <;> rfl
  have m3:=AHeap.find_lt n3
  cases hr : rightN (withN t kid p) 40
  ·have hv : putOV t kid p H.length = .tup [zero6,.sc (.int .i64 4)]:=by unfold putOV;rw[hgu,hr];rfl
   have hvB : putOB t kid p H.length=[]:=by unfold putOB;rw[hgu,hr];rfl
   simp -implicitDefEqProofs (maxSteps:=99999999) (disch:=first | omega | (simp only[vl];first | done | omega)) only[vu,n3,va,vg,vs,vw,vk,simprocAttr]
   rw[hv,hvB]
   refine weak_lays [] [] rfl List.nodup_nil (by simp) (fun x hx=>?_) (by simp) (.tup (.cons gz_zero6 (.cons (.same trivial) .nil)))
   first
    | exact nH x hx
    | rw[AHeap.find_set_ne (by omega),nH x hx]
  ·have hv : putOV t kid p H.length = .tup [cpV (withN t kid p) H.length,.sc (.int .i64 0)]:=by unfold putOV;rw[hgu,hr];rfl
   have hvB : putOB t kid p H.length=cpB (withN t kid p) H.length:=by unfold putOB;rw[hgu,hr];rfl
   simp -implicitDefEqProofs (maxSteps:=99999999) (disch:=first | omega | (simp only[vl];first | done | omega)) only[vu,va,vg,vs,vw,vk,simprocAttr]
   refine hL _ _ ?_
   clear hL
   simp -implicitDefEqProofs (maxSteps:=99999999) (disch:=first | omega | (simp only[vl];first | done | omega)) only[vu,n1,n3,s1,s2,s3,va,vg,vs,vw,vk,simprocAttr]
   have hl4 : nv.cells.length=4:=by rcases nc with rfl | rfl <;> rw[cpV_eq] <;> rfl
   have ht : nv.cells.take 4=nv.cells:=List.take_of_length_le (by omega)
   have hdr : ([AV.sc (.int .u8 0),AV.sc (.string ⟨#[]⟩),AV.sc (.int .i64 0),.lst 0 [] (some [])] : List AV).drop 4=[]:=rfl
   rw[ht,hl4,hdr,List.append_nil,ht,s6,hv,hvB,hl4]
   refine ⟨Nat.le_refl _,rfl,Nat.le_refl _,?_⟩
   obtain ⟨js,w1,w2,w3⟩:=nO (AHeap.set M (H.length+2) (some ⟨4,[nv],true,25⟩)) (fun x hx=>AHeap.find_set_ne (by omega))
   exact weak_ow w1 w2 (fun y hy=>by have:=w3 y hy;omega) (fun x hx=>by rw[AHeap.find_set_ne (by omega),nH x hx])
end Go.Proofs.YtfnahogjkgcklaaGreatDoor
namespace Go.Proofs.YtfnahogjkgcklaaGreatDoor
open Go.RowKit
set_option maxRecDepth 100000
set_option linter.unusedVariables false
set_option linter.unusedSimpArgs false
def getOV (t : Nd) (p : List Int) (a : Nat) : AV:=match getN t p with
 | some u=>.tup [cpV u a,.sc (.bool true)]
 | none=>.tup [zero6,.sc (.bool false)]
def getOB (t : Nd) (p : List Int) (a : Nat) : AHeap:=match getN t p with
 | some u=>cpB u a
 | none=>[]
theorem getO_d (t : Nd) (hz : t.size ≤ 1000000) (p : List Int) (hp : p.length ≤ 1000000) (rp : Option (List AV)) (H : AHeap) : D Tryz.prog 7 [ndR t none,.lst 1 (pthA p) rp] H (.ret (getOV t p H.length)) (getOB t p H.length ++ H):=by
 have hfd:=find_d t none p hp rp H.length
 refine D_of_DK (by simp) (dk7 (E_of_ES ?_))
 simp only[ic7,ux]
 rw[ndR_eq] at *
 refine ES_seq_gen fun L hL=>?_
 simp -implicitDefEqProofs (maxSteps:=99999999) (disch:=first | omega | (simp only[vl];first | done | omega)) only[vu,va,vg,vs,vw,vk,simprocAttr]
 refine hL _ _ ?_
 clear hL
 refine ES_seq_gen fun L hL=>?_
 simp -implicitDefEqProofs (maxSteps:=99999999) (disch:=first | omega | (simp only[vl];first | done | omega)) only[vu,va,vg,vs,vw,vk,simprocAttr]
 refine callR_ret (hfd _ (by rw[find_past (by simp),find_top rfl])) ?_
 have hgv : getOV t p H.length=match getN t p with
  | some u=>.tup [cpV u H.length,.sc (.bool true)]
  | none=>.tup [zero6,.sc (.bool false)]:=rfl
 have hgB : getOB t p H.length=match getN t p with
  | some u=>cpB u H.length
  | none=>[]:=rfl
 cases hg : getN t p with
 | none =>
  have hpn : p ≠ []:=fun e=>by rw[e] at hg;simp[getN] at hg
  have hv : fndV t H.length p = .sc (.pointer none):=by unfold fndV;rw[if_neg hpn,hg]
  rw[hg] at hgv hgB
  rw[hv]
  simp -implicitDefEqProofs (maxSteps:=99999999) (disch:=first | omega | (simp only[vl];first | done | omega)) only[vu,va,vg,vs,vw,vk,simprocAttr]
  refine hL _ _ ?_
  clear hL
  refine ES_seq_gen fun L hL=>?_
  simp -implicitDefEqProofs (maxSteps:=99999999) (disch:=first | omega | (simp only[vl];first | done | omega)) only[vu,va,vg,vs,vw,vk,simprocAttr]
  rw[hgv,hgB]
  exact weak_lays [] [] rfl List.nodup_nil (by simp) (fun i hi=>by rw[find_past (by simp;omega),find_past hi]) (by simp) (.tup (.cons gz_zero6 (.cons (.same trivial) .nil)))
 | some u =>
  rw[hg] at hgv hgB
  have hus : u.size ≤ 1000000:=Nat.le_trans (getN_size hg) hz
  by_cases hpn : p=[]
  ·have hut : u=t:=by rw[hpn] at hg;simp only[getN,Option.some.injEq] at hg;exact hg.symm
   subst hut
   have hv : fndV u H.length p = .ptr 4 H.length 0 0:=by unfold fndV;rw[if_pos hpn]
   rw[hv]
   have hcp:=fun H=>copied_d u hus none H
   rw[ndR_eq] at hcp
   obtain ⟨cv,hcv⟩ : ∃ cv,cpV u (H.length+2)=cv:=⟨_,rfl⟩
   have hcv2:=cpV_eq u (H.length+2)
   rw[hcv] at hcv2
   have c1 : cv.isTop=false:=by rw[hcv2];rfl
   have c2 : cv.isAgg=true:=by rw[hcv2];rfl
   have c3 : cv.ncells=4:=by rw[hcv2];rfl
   have hc4 : 4 ≤ cv.cells.length:=by rw[hcv2];exact Nat.le_refl _
   have hcc : AV.agg (cv.cells.take 4)=cv:=by rw[hcv2];rfl
   simp -implicitDefEqProofs (maxSteps:=99999999) (disch:=first | omega | (simp only[vl];first | done | omega)) only[vu,va,vg,vs,vw,vk,simprocAttr]
   refine hL _ _ ?_
   clear hL
   refine ES_seq_gen fun L hL=>?_
   simp -implicitDefEqProofs (maxSteps:=99999999) (disch:=first | omega | (simp only[vl];first | done | omega)) only[vu,va,vg,vs,vw,vk,simprocAttr]
   refine hL _ _ ?_
   clear hL
   refine ES_seq_gen fun L hL=>?_
   simp -implicitDefEqProofs (maxSteps:=99999999) (disch:=first | omega | (simp only[vl];first | done | omega)) only[vu,va,vg,vs,vw,vk,simprocAttr]
   refine callR_ret (hcp _) ?_
   simp only[List.length_cons,Nat.add_assoc,Nat.reduceAdd,hcv]
   have hli:=liesO_lays (t:=u) (H:=some (⟨4,[.agg [.sc (.int .u8 0),.sc (.string ⟨#[]⟩),.sc (.int .i64 0),.lst 0 [] (some [])]],true,25⟩ : ABlk) :: some ⟨4,[.agg [.sc (.int .u8 u.kind),.sc (.string u.text),.sc (.int .i64 u.num),.lst 4 (ndL u.kids) none]],true,25⟩ :: H)
   simp only[List.length_cons,Nat.add_assoc,Nat.reduceAdd] at hli
   have hG0 : ∀ i,i < H.length+2→AHeap.find (cpB u (H.length+2) ++ some (⟨4,[.agg [.sc (.int .u8 0),.sc (.string ⟨#[]⟩),.sc (.int .i64 0),.lst 0 [] (some [])]],true,25⟩ : ABlk) :: some ⟨4,[.agg [.sc (.int .u8 u.kind),.sc (.string u.text),.sc (.int .i64 u.num),.lst 4 (ndL u.kids) none]],true,25⟩ :: H) i=AHeap.find (some (⟨4,[.agg [.sc (.int .u8 0),.sc (.string ⟨#[]⟩),.sc (.int .i64 0),.lst 0 [] (some [])]],true,25⟩ : ABlk) :: some ⟨4,[.agg [.sc (.int .u8 u.kind),.sc (.string u.text),.sc (.int .i64 u.num),.lst 4 (ndL u.kids) none]],true,25⟩ :: H) i:=fun i hi=>AHeap.find_append (by simp only[List.length_cons];omega)
   have hGl : ∀ i,i < H.length→AHeap.find (cpB u (H.length+2) ++ some (⟨4,[.agg [.sc (.int .u8 0),.sc (.string ⟨#[]⟩),.sc (.int .i64 0),.lst 0 [] (some [])]],true,25⟩ : ABlk) :: some ⟨4,[.agg [.sc (.int .u8 u.kind),.sc (.string u.text),.sc (.int .i64 u.num),.lst 4 (ndL u.kids) none]],true,25⟩ :: H) i=AHeap.find H i:=fun i hi=>by rw[hG0 i (by omega),find_past (by simp only[List.length_cons];omega),find_past hi]
   generalize cpB u (H.length+2) ++ some (⟨4,[.agg [.sc (.int .u8 0),.sc (.string ⟨#[]⟩),.sc (.int .i64 0),.lst 0 [] (some [])]],true,25⟩ : ABlk) :: some ⟨4,[.agg [.sc (.int .u8 u.kind),.sc (.string u.text),.sc (.int .i64 u.num),.lst 4 (ndL u.kids) none]],true,25⟩ :: H=G at *
   have g1 : AHeap.find G (H.length+1)=some ⟨4,[.agg [.sc (.int .u8 0),.sc (.string ⟨#[]⟩),.sc (.int .i64 0),.lst 0 [] (some [])]],true,25⟩:=by rw[hG0 _ (by omega),find_top (by simp)]
   have gl:=AHeap.find_lt g1
   have hup : (AV.agg [.sc (.int .u8 0),.sc (.string ⟨#[]⟩),.sc (.int .i64 0),.lst 0 [] (some [])]).upd 0 cv=cv:=by rw[hcv2];rfl
   simp -implicitDefEqProofs (maxSteps:=99999999) (disch:=first | omega | (simp only[vl];first | done | omega)) only[vu,g1,c1,c2,c3,va,vg,vs,vw,vk,simprocAttr]
   refine hL _ _ ?_
   clear hL
   simp -implicitDefEqProofs (maxSteps:=99999999) (disch:=first | omega | (simp only[vl];first | done | omega)) only[vu,g1,c1,c2,c3,va,vg,vs,vw,vk,simprocAttr]
   refine ⟨hc4,?_⟩
   rw[hcc,hgv,hgB,← hcv]
   exact weak_ow (ow_cp u (hli.of fun i h1 h2=>AHeap.find_set_ne (by omega))) List.nodup_range' (fun y hy=>by have:=mem_range'I hy;omega) (fun i hi=>by rw[AHeap.find_set_ne (by omega),hGl i hi])
  ·have hv : fndV t H.length p = .lp (.agg [.sc (.int .u8 u.kind),.sc (.string u.text),.sc (.int .i64 u.num),.lst 4 (ndL u.kids) none]) 0:=by unfold fndV;rw[if_neg hpn,hg,← ndA_eq]
   rw[hv]
   have hcp:=fun H=>copied_d u hus none H
   rw[ndR_eq] at hcp
   obtain ⟨cv,hcv⟩ : ∃ cv,cpV u (H.length+2)=cv:=⟨_,rfl⟩
   have hcv2:=cpV_eq u (H.length+2)
   rw[hcv] at hcv2
   have c1 : cv.isTop=false:=by rw[hcv2];rfl
   have c2 : cv.isAgg=true:=by rw[hcv2];rfl
   have c3 : cv.ncells=4:=by rw[hcv2];rfl
   have hc4 : 4 ≤ cv.cells.length:=by rw[hcv2];exact Nat.le_refl _
   have hcc : AV.agg (cv.cells.take 4)=cv:=by rw[hcv2];rfl
   have hnp : isNilP (.lp (.agg [.sc (.int .u8 u.kind),.sc (.string u.text),.sc (.int .i64 u.num),.lst 4 (ndL u.kids) none]) 0)=false:=rfl
   simp -implicitDefEqProofs (maxSteps:=99999999) (disch:=first | omega | (simp only[vl];first | done | omega)) only[vu,va,vg,vs,vw,vk,simprocAttr]
   refine hL _ _ ?_
   clear hL
   refine ES_seq_gen fun L hL=>?_
   simp -implicitDefEqProofs (maxSteps:=99999999) (disch:=first | omega | (simp only[vl];first | done | omega)) only[vu,hnp,va,vg,vs,vw,vk,simprocAttr]
   refine ⟨trivial,?_⟩
   refine hL _ _ ?_
   clear hL
   simp -implicitDefEqProofs (maxSteps:=99999999) (disch:=first | omega | (simp only[vl];first | done | omega)) only[vu,va,vg,vs,vw,vk,simprocAttr]
   refine callR_ret (hcp _) ?_
   simp only[List.length_cons,Nat.add_assoc,Nat.reduceAdd,hcv]
   have hli:=liesO_lays (t:=u) (H:=some (⟨4,[.agg [.sc (.int .u8 0),.sc (.string ⟨#[]⟩),.sc (.int .i64 0),.lst 0 [] (some [])]],true,25⟩ : ABlk) :: some ⟨4,[.agg [.sc (.int .u8 t.kind),.sc (.string t.text),.sc (.int .i64 t.num),.lst 4 (ndL t.kids) none]],true,25⟩ :: H)
   simp only[List.length_cons,Nat.add_assoc,Nat.reduceAdd] at hli
   have hG0 : ∀ i,i < H.length+2→AHeap.find (cpB u (H.length+2) ++ some (⟨4,[.agg [.sc (.int .u8 0),.sc (.string ⟨#[]⟩),.sc (.int .i64 0),.lst 0 [] (some [])]],true,25⟩ : ABlk) :: some ⟨4,[.agg [.sc (.int .u8 t.kind),.sc (.string t.text),.sc (.int .i64 t.num),.lst 4 (ndL t.kids) none]],true,25⟩ :: H) i=AHeap.find (some (⟨4,[.agg [.sc (.int .u8 0),.sc (.string ⟨#[]⟩),.sc (.int .i64 0),.lst 0 [] (some [])]],true,25⟩ : ABlk) :: some ⟨4,[.agg [.sc (.int .u8 t.kind),.sc (.string t.text),.sc (.int .i64 t.num),.lst 4 (ndL t.kids) none]],true,25⟩ :: H) i:=fun i hi=>AHeap.find_append (by simp only[List.length_cons];omega)
   have hGl : ∀ i,i < H.length→AHeap.find (cpB u (H.length+2) ++ some (⟨4,[.agg [.sc (.int .u8 0),.sc (.string ⟨#[]⟩),.sc (.int .i64 0),.lst 0 [] (some [])]],true,25⟩ : ABlk) :: some ⟨4,[.agg [.sc (.int .u8 t.kind),.sc (.string t.text),.sc (.int .i64 t.num),.lst 4 (ndL t.kids) none]],true,25⟩ :: H) i=AHeap.find H i:=fun i hi=>by rw[hG0 i (by omega),find_past (by simp only[List.length_cons];omega),find_past hi]
   generalize cpB u (H.length+2) ++ some (⟨4,[.agg [.sc (.int .u8 0),.sc (.string ⟨#[]⟩),.sc (.int .i64 0),.lst 0 [] (some [])]],true,25⟩ : ABlk) :: some ⟨4,[.agg [.sc (.int .u8 t.kind),.sc (.string t.text),.sc (.int .i64 t.num),.lst 4 (ndL t.kids) none]],true,25⟩ :: H=G at *
   have g1 : AHeap.find G (H.length+1)=some ⟨4,[.agg [.sc (.int .u8 0),.sc (.string ⟨#[]⟩),.sc (.int .i64 0),.lst 0 [] (some [])]],true,25⟩:=by rw[hG0 _ (by omega),find_top (by simp)]
   have gl:=AHeap.find_lt g1
   have hup : (AV.agg [.sc (.int .u8 0),.sc (.string ⟨#[]⟩),.sc (.int .i64 0),.lst 0 [] (some [])]).upd 0 cv=cv:=by rw[hcv2];rfl
   simp -implicitDefEqProofs (maxSteps:=99999999) (disch:=first | omega | (simp only[vl];first | done | omega)) only[vu,g1,c1,c2,c3,va,vg,vs,vw,vk,simprocAttr]
   refine ⟨hc4,?_⟩
   rw[hcc,hgv,hgB,← hcv]
   exact weak_ow (ow_cp u (hli.of fun i h1 h2=>AHeap.find_set_ne (by omega))) List.nodup_range' (fun y hy=>by have:=mem_range'I hy;omega) (fun i hi=>by rw[AHeap.find_set_ne (by omega),hGl i hi])
theorem cp_up (n : Nat) (t : Nd) : ∀ a,(cpV t a).up n=cpV t (n+a) ∧ AHeap.up n (cpB t a)=cpB t (n+a) ∧ (cpV t a).op=true ∧ ∀ b ∈ cpB t a,∀ k,b=some k→AV.opL k.es=true:=by
 induction t using Nd.ind with
 | _ t ih =>
  intro a
  have key : ∀ l : List Nd,(∀ k ∈ l,∀ a,(cpV k a).up n=cpV k (n+a) ∧ AHeap.up n (cpB k a)=cpB k (n+a) ∧ (cpV k a).op=true ∧ ∀ b ∈ cpB k a,∀ c,b=some c→AV.opL c.es=true) →
    ∀ a,AV.upL n (cpL l a)=cpL l (n+a) ∧ AHeap.up n (cpBL l a)=cpBL l (n+a) ∧ AV.opL (cpL l a)=true ∧ ∀ b ∈ cpBL l a,∀ c,b=some c→AV.opL c.es=true:=by
   intro l
   induction l with
   | nil=>intro _ a;exact ⟨rfl,rfl,rfl,fun b h=>by simp[cpBL] at h⟩
   | cons x r ihr =>
    intro hk a
    obtain ⟨h1,h2,h3,h4⟩:=hk x (by simp) a
    obtain ⟨g1,g2,g3,g4⟩:=ihr (fun k h=>hk k (by simp[h])) (a+x.size)
    rw[show n+(a+x.size)=n+a+x.size by omega] at g1 g2
    refine ⟨by simp only[cpL,AV.upL,h1,g1],?_,by simp only[cpL,AV.opL,h3,g3,Bool.and_self],?_⟩
    ·simp only[cpBL]
     rw[← h2,← g2]
     unfold AHeap.up
     rw[List.map_append]
    ·intro b hb c hc
     simp only[cpBL,List.mem_append] at hb
     exact hb.elim (fun h=>g4 b h c hc) fun h=>h4 b h c hc
  obtain ⟨k1,k2,k3,k4⟩:=key t.kids ih (a+1)
  rw[show n+(a+1)=n+a+1 by omega] at k1 k2
  have hup : ∀ (xs : List AV) (i : Nat),(OwnV 4 xs i).up n=OwnV 4 (AV.upL n xs) (n+i):=by
   intro xs i
   cases xs with
   | nil=>rfl
   | cons x r =>
    rw[OwnV_ne (by simp),OwnV_ne (by simp[AV.upL])]
    simp[AV.up,AV.upL_length]
  have hob : ∀ (xs : List AV),(OwnB 4 25 xs).map (ABlk.up n)=OwnB 4 25 (AV.upL n xs):=by
   intro xs
   cases xs with
   | nil=>rfl
   | cons x r=>rw[OwnB_ne (by simp),OwnB_ne (by simp[AV.upL])];rfl
  have hop : ∀ (xs : List AV) (i : Nat),(OwnV 4 xs i).op=true:=by
   intro xs i
   cases xs with
   | nil=>rfl
   | cons x r=>rw[OwnV_ne (by simp)];rfl
  refine ⟨?_,?_,?_,?_⟩
  ·rw[cpV_eq,cpV_eq]
   simp only[AV.up,AV.upL,hup,k1]
  ·rw[cpB_eq,cpB_eq]
   unfold AHeap.up at k2 ⊢
   rw[List.map_append,k2,List.map_cons,List.map_nil,hob,k1]
  ·rw[cpV_eq]
   simp only[AV.op,AV.opL,hop,Bool.and_self]
  ·intro b hb c hc
   rw[cpB_eq,List.mem_append] at hb
   rcases hb with h | h
   ·exact k4 b h c hc
   ·rw[List.mem_singleton.1 h] at hc
    obtain ⟨h1,rfl⟩:=OwnB_some hc
    exact k3
theorem heap_op {G : AHeap} (h : ∀ b ∈ G,∀ k,b=some k→AV.opL k.es=true) : AHeap.op G:=by
 intro id b hb
 induction G with
 | nil=>simp[AHeap.find] at hb
 | cons x r ih =>
  simp only[AHeap.find] at hb
  split at hb
  ·exact h x (by simp) b hb
  ·exact ih (fun b hb=>h b (by simp[hb])) hb
theorem pth_view {H : AHeap} (p : List Int) : View H (.lst 1 (pthA p) none) (.lst 1 (pthA p) none):=by
 refine .lst ?_
 induction p with
 | nil=>exact .nil
 | cons x r ih=>exact .cons .sc ih
theorem getL_d {H : AHeap} {t : Nd} {a : Nat} (hz : t.size ≤ 1000000) (h : LntO H t a) (p : List Int) (hp : p.length ≤ 1000000) : D Tryz.prog 7 [lntV t a,.lst 1 (pthA p) none] H (.ret (getOV t p H.length)) (getOB t p H.length ++ H):=by
 have h1:=getO_d t hz p hp none []
 rw[ndR_none,List.append_nil] at h1
 have hv : (getOV t p ([] : AHeap).length).op=true:=by
  unfold getOV
  cases getN t p with
  | none=>rfl
  | some u =>
   have:=(cp_up 0 u ([] : AHeap).length).2.2.1
   simp only[AV.op,AV.opL,this,Bool.and_self]
 have hg : AHeap.op (getOB t p ([] : AHeap).length):=by
  unfold getOB
  cases getN t p with
  | none=>exact heap_op (by simp)
  | some u=>exact heap_op (cp_up 0 u ([] : AHeap).length).2.2.2
 have h2:=D_viewO (.cons (lntV_view t h) (.cons (pth_view p) .nil)) hv hg h1
 have e1 : (getOV t p ([] : AHeap).length).up H.length=getOV t p H.length:=by
  unfold getOV
  cases getN t p with
  | none=>rfl
  | some u=>simp only[AV.up,AV.upL,(cp_up H.length u ([] : AHeap).length).1];rfl
 have e2 : AHeap.up H.length (getOB t p ([] : AHeap).length)=getOB t p H.length:=by
  unfold getOB
  cases getN t p with
  | none=>rfl
  | some u=>exact (cp_up H.length u ([] : AHeap).length).2.1
 rw[e1,e2] at h2
 exact h2
theorem putL_d {H : AHeap} {t kid : Nd} {a b : Nat} (hz : t.size ≤ 400) (hk : kid.size ≤ 400) (h : LntO H t a) (k : LntO H kid b) (p : List Int) (hp : p.length ≤ 1000000) (hw : (withN t kid p).size ≤ 1000000) : D Tryz.prog 9 [lntV t a,lntV kid b,.lst 1 (pthA p) none] H (.ret (putOV t kid p H.length)) (putOB t kid p H.length ++ H):=by
 have h1:=putO_d t kid (by omega) (by omega) p hw hp none []
 rw[ndR_none,ndR_none,List.append_nil] at h1
 have hv : (putOV t kid p ([] : AHeap).length).op=true:=by
  unfold putOV
  cases getN t p with
  | none=>rfl
  | some u =>
   have:=(cp_up 0 (withN t kid p) ([] : AHeap).length).2.2.1
   dsimp only
   split
   ·simp only[AV.op,AV.opL,this,Bool.and_self]
   ·rfl
 have hg : AHeap.op (putOB t kid p ([] : AHeap).length):=by
  unfold putOB
  cases getN t p with
  | none=>exact heap_op (by simp)
  | some u =>
   dsimp only
   split
   ·exact heap_op (cp_up 0 _ ([] : AHeap).length).2.2.2
   ·exact heap_op (by simp)
 have h2:=D_viewO (.cons (lntV_view t h) (.cons (lntV_view kid k) (.cons (pth_view p) .nil))) hv hg h1
 have e1 : (putOV t kid p ([] : AHeap).length).up H.length=putOV t kid p H.length:=by
  unfold putOV
  cases getN t p with
  | none=>rfl
  | some u =>
   dsimp only
   split
   ·simp only[AV.up,AV.upL,(cp_up H.length _ ([] : AHeap).length).1];rfl
   ·rfl
 have e2 : AHeap.up H.length (putOB t kid p ([] : AHeap).length)=putOB t kid p H.length:=by
  unfold putOB
  cases getN t p with
  | none=>rfl
  | some u =>
   dsimp only
   split
   ·exact (cp_up H.length _ ([] : AHeap).length).2.1
   ·rfl
 rw[e1,e2] at h2
 exact h2
end Go.Proofs.YtfnahogjkgcklaaGreatDoor
