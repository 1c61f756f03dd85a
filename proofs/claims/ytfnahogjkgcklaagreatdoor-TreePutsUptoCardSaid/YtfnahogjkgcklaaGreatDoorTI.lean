import Derived.Test.YtfnahogjkgcklaaGreatDoorTF
import Derived.Test.YtfnahogjkgcklaaGreatDoorSM
import Derived.Test.YtfnahogjkgcklaaGreatDoorIc43
import Derived.Test.YtfnahogjkgcklaaGreatDoorTB
namespace Go.Proofs.YtfnahogjkgcklaaGreatDoor
open Go.RowKit
set_option maxRecDepth 100000
set_option linter.unusedVariables false
set_option linter.unusedSimpArgs false
theorem wrap_markI (k i : Int) : IntKind.i64.wrap (markI k i)=markI k i:=by
 have hb : ∀ n : Int,IntKind.i64.wrap n=n.bmod 18446744073709551616:=fun n=>by
  simp only[IntKind.wrap,show IntKind.i64.bits=64 from rfl,show IntKind.i64.signed=true from rfl,Bool.true_and,decide_eq_true_eq,Int.bmod]
  split <;> split <;> omega
 unfold markI
 rw[hb (IntKind.i64.wrap (1000003 * IntKind.i64.wrap (k+7))+i),hb]
 exact Int.bmod_bmod
def markN (k i : Int) : AV:=.agg [.sc (.int .u8 0),.sc (.string ⟨#[]⟩),.sc (.int .i64 (markI k i)),.lst 0 [] (some [])]
theorem markN_eq (k i : Int) : markN k i = .agg [.sc (.int .u8 0),.sc (.string ⟨#[]⟩),.sc (.int .i64 (markI k i)),.lst 0 [] (some [])]:=rfl
def marksN (j : Nat) : List AV:=(List.range j).map fun i : Nat=>markN 1 (i : Int)
theorem marksN_length {j : Nat} : (marksN j).length=j:=by simp[marksN]
theorem marksN_succ {j : Nat} : marksN (j+1)=marksN j ++ [markN 1 j]:=by simp[marksN,List.range_succ]
theorem markN_gz {F : AHeap} {n0 : Nat} {src : List Nat} (k i : Int) : Gz F n0 src (markN k i) (markN k i):=.agg (.cons (.same trivial) (.cons (.same trivial) (.cons (.same trivial) (.cons .nil0 .nil))))
theorem marksN_gz {F : AHeap} {n0 : Nat} {src : List Nat} (j : Nat) : GzL F n0 src (marksN j) (marksN j):=GzL.map fun i _=>markN_gz _ _
abbrev lntS (n a : Nat) : AV:=.vec 4 a 0 n (some (n+12))
def lntV (t : Nd) (a : Nat) : AV:=.agg [.sc (.int .u8 t.kind),.sc (.string t.text),.sc (.int .i64 t.num),lntS t.kids.length a]
theorem lntV_eq (t : Nd) (a : Nat) : lntV t a = .agg [.sc (.int .u8 t.kind),.sc (.string t.text),.sc (.int .i64 t.num),.vec 4 a 0 t.kids.length (some (t.kids.length+12))]:=rfl
def lntL : List Nd→Nat→List AV
 | [],_=>[]
 | t :: r,a=>lntV t a :: lntL r (a+t.size)
theorem lntL_length (l : List Nd) : ∀ a,(lntL l a).length=l.length:=by
 induction l with
 | nil=>intro a;rfl
 | cons x r ih=>intro a;simp[lntL,ih]
def lntC (l : List Nd) (a : Nat) : List AV:=lntL l (a+1) ++ marksN 12
theorem lntC_length {l : List Nd} {a : Nat} : (lntC l a).length=l.length+12:=by rw[lntC,List.length_append,lntL_length,marksN_length]
abbrev lntB1 (xs : List AV) : Option ABlk:=some ⟨4,xs,true,25⟩
mutual
def lntB : Nd→Nat→AHeap
 | ⟨_,_,_,l⟩,a=>lntBL l (a+1) ++ [lntB1 (lntC l a)]
def lntBL : List Nd→Nat→AHeap
 | [],_=>[]
 | t :: r,a=>lntBL r (a+t.size) ++ lntB t a
end
theorem lntB_eq (t : Nd) (a : Nat) : lntB t a=lntBL t.kids (a+1) ++ [lntB1 (lntC t.kids a)]:=by cases t;simp[lntB,Nd.kids]
theorem lntB_length (t : Nd) : ∀ a,(lntB t a).length=t.size:=by
 induction t using Nd.ind with
 | _ t ih =>
  intro a
  have key : ∀ (l : List Nd),(∀ k ∈ l,∀ a,(lntB k a).length=k.size)→∀ a,(lntBL l a).length=Nd.sizeL l:=by
   intro l
   induction l with
   | nil=>intro _ a;rfl
   | cons x r ihr =>
    intro h a
    simp only[lntBL,List.length_append,Nd.sizeL,ihr fun k hk=>h k (by simp[hk]),h x (by simp)]
    omega
  rw[lntB_eq,List.length_append,key _ ih,Nd.size_eq]
  simp
  omega
theorem lntBL_length (l : List Nd) : ∀ a,(lntBL l a).length=Nd.sizeL l:=by
 induction l with
 | nil=>intro a;rfl
 | cons x r ih =>
  intro a
  simp only[lntBL,List.length_append,Nd.sizeL,ih,lntB_length]
  omega
mutual
def lntO : Nd→Nat→List (List AV)
 | ⟨_,_,_,l⟩,a=>lntC l a :: lntOL l (a+1)
def lntOL : List Nd→Nat→List (List AV)
 | [],_=>[]
 | t :: r,a=>lntO t a ++ lntOL r (a+t.size)
end
theorem lntO_eq (t : Nd) (a : Nat) : lntO t a=lntC t.kids a :: lntOL t.kids (a+1):=by cases t;simp[lntO,Nd.kids]
theorem lntO_length (t : Nd) : ∀ a,(lntO t a).length=t.size:=by
 induction t using Nd.ind with
 | _ t ih =>
  intro a
  have key : ∀ (l : List Nd),(∀ k ∈ l,∀ a,(lntO k a).length=k.size)→∀ a,(lntOL l a).length=Nd.sizeL l:=by
   intro l
   induction l with
   | nil=>intro _ a;rfl
   | cons x r ihr =>
    intro h a
    simp only[lntOL,List.length_append,Nd.sizeL,ihr fun k hk=>h k (by simp[hk]),h x (by simp)]
  rw[lntO_eq,List.length_cons,key _ ih,Nd.size_eq]
  omega
theorem lntOL_length (l : List Nd) : ∀ a,(lntOL l a).length=Nd.sizeL l:=by
 induction l with
 | nil=>intro a;rfl
 | cons x r ih=>intro a;simp only[lntOL,List.length_append,Nd.sizeL,ih,lntO_length]
theorem lays_appT : ∀ (p q : List (Option ABlk)) (H : AHeap),lays (p ++ q) H=lays q (lays p H)
 | [],_,_=>rfl
 | x :: r,q,H=>by simp only[List.cons_append,lays,lays_appT r q]
def obL (l : List (List AV)) : List (Option ABlk):=l.map lntB1
theorem lntB_lays (t : Nd) : ∀ (a : Nat) (H : AHeap),lntB t a ++ H=lays (obL (lntO t a)) H:=by
 induction t using Nd.ind with
 | _ t ih =>
  intro a H
  have key : ∀ (l : List Nd),(∀ k ∈ l,∀ (a : Nat) (H : AHeap),lntB k a ++ H=lays (obL (lntO k a)) H)→∀ (a : Nat) (H : AHeap),lntBL l a ++ H=lays (obL (lntOL l a)) H:=by
   intro l
   induction l with
   | nil=>intro _ a H;rfl
   | cons x r ihr =>
    intro h a H
    simp only[lntBL,lntOL,obL,List.map_append,lays_appT,List.append_assoc]
    have h1:=h x (by simp) a H
    have h2:=ihr (fun k hk=>h k (by simp[hk])) (a+x.size) (lays (obL (lntO x a)) H)
    rw[h1,h2]
    rfl
  rw[lntB_eq,lntO_eq,List.append_assoc]
  have:=key t.kids ih (a+1) (lntB1 (lntC t.kids a) :: H)
  rw[List.singleton_append,this]
  rfl
theorem lntBL_lays (l : List Nd) : ∀ (a : Nat) (H : AHeap),lntBL l a ++ H=lays (obL (lntOL l a)) H:=by
 induction l with
 | nil=>intro a H;rfl
 | cons x r ih =>
  intro a H
  simp only[lntBL,lntOL,obL,List.map_append,lays_appT,List.append_assoc]
  rw[lntB_lays,ih]
  rfl
theorem lntV_gz {F : AHeap} {n0 s0 c0 m : Nat} {src : List Nat} (hN : ∀ j,j < m→newId n0 src (s0+j)=some (c0+j)) (t : Nd) (j : Nat) (h : j+t.size ≤ m) : Gz F n0 src (lntV t (s0+j)) (lntV t (c0+j)):=by
 have:=t.size_pos
 exact .agg (.cons (.same trivial) (.cons (.same trivial) (.cons (.same trivial) (.cons (.vecR (hN j (by omega)) (.inl rfl)) .nil))))
theorem lntL_gz {F : AHeap} {n0 s0 c0 m : Nat} {src : List Nat} (hN : ∀ j,j < m→newId n0 src (s0+j)=some (c0+j)) (l : List Nd) : ∀ j,j+Nd.sizeL l ≤ m→GzL F n0 src (lntL l (s0+j)) (lntL l (c0+j)):=by
 induction l with
 | nil=>intro j _;exact .nil
 | cons x r ih =>
  intro j hj
  simp only[Nd.sizeL] at hj
  simp only[lntL]
  have:=ih (j+x.size) (by omega)
  rw[← Nat.add_assoc,← Nat.add_assoc] at this
  exact .cons (lntV_gz hN x j (by omega)) this
theorem lntC_gz {F : AHeap} {n0 s0 c0 m : Nat} {src : List Nat} (hN : ∀ j,j < m→newId n0 src (s0+j)=some (c0+j)) (l : List Nd) (j : Nat) (h : j+1+Nd.sizeL l ≤ m) : GzL F n0 src (lntC l (s0+j)) (lntC l (c0+j)):=by
 have:=lntL_gz (F:=F) hN l (j+1) h
 rw[← Nat.add_assoc,← Nat.add_assoc] at this
 exact GzL.append this (marksN_gz 12)
theorem lntOL_gz {F : AHeap} {n0 s0 c0 m : Nat} {src : List Nat} (l : List Nd) (ih : ∀ t ∈ l,∀ j,j+t.size ≤ m→∀ (i : Nat) (ys : List AV),(lntO t (c0+j))[i]? = some ys→∃ xs,(lntO t (s0+j))[i]? = some xs ∧ GzL F n0 src xs ys) : ∀ j,j+Nd.sizeL l ≤ m→∀ (i : Nat) (ys : List AV),(lntOL l (c0+j))[i]? = some ys→∃ xs,(lntOL l (s0+j))[i]? = some xs ∧ GzL F n0 src xs ys:=by
 induction l with
 | nil=>intro j _ i ys h;simp[lntOL] at h
 | cons x r ihr =>
  intro j hj i ys h
  simp only[Nd.sizeL] at hj
  simp only[lntOL] at h ⊢
  have hx : (lntO x (c0+j)).length=(lntO x (s0+j)).length:=by rw[lntO_length,lntO_length]
  by_cases c : i < (lntO x (c0+j)).length
  ·rw[List.getElem?_append_left c] at h
   rw[List.getElem?_append_left (by omega)]
   exact ih x (by simp) j (by omega) i ys h
  ·rw[List.getElem?_append_right (by omega)] at h
   rw[List.getElem?_append_right (by omega),← hx]
   have:=ihr (fun t ht=>ih t (by simp[ht])) (j+x.size) (by omega) (i - (lntO x (c0+j)).length) ys
   rw[← Nat.add_assoc,← Nat.add_assoc] at this
   exact this h
theorem lntO_gz {F : AHeap} {n0 s0 c0 m : Nat} {src : List Nat} (hN : ∀ j,j < m→newId n0 src (s0+j)=some (c0+j)) (t : Nd) : ∀ j,j+t.size ≤ m→∀ (i : Nat) (ys : List AV),(lntO t (c0+j))[i]? = some ys→∃ xs,(lntO t (s0+j))[i]? = some xs ∧ GzL F n0 src xs ys:=by
 induction t using Nd.ind with
 | _ t ih =>
  intro j hj i ys h
  rw[Nd.size_eq] at hj
  rw[lntO_eq] at h ⊢
  cases i with
  | zero =>
   simp only[List.getElem?_cons_zero,Option.some.injEq] at h
   refine ⟨_,List.getElem?_cons_zero,?_⟩
   rw[← h]
   exact lntC_gz hN t.kids j (by omega)
  | succ i =>
   rw[List.getElem?_cons_succ] at h
   rw[List.getElem?_cons_succ]
   have:=lntOL_gz (F:=F) t.kids ih (j+1) (by omega) i ys
   rw[← Nat.add_assoc,← Nat.add_assoc] at this
   exact this h
def LntO (F : AHeap) (t : Nd) (a : Nat) : Prop:=∀ (i : Nat) (xs : List AV),(lntO t a)[i]? = some xs→AHeap.find F (a+i)=lntB1 xs
def LntL (F : AHeap) (l : List Nd) (a : Nat) : Prop:=∀ (i : Nat) (xs : List AV),(lntOL l a)[i]? = some xs→AHeap.find F (a+i)=lntB1 xs
structure LntR (F : AHeap) (l : List Nd) (a : Nat) : Prop where
 row : AHeap.find F a=lntB1 (lntC l a)
 kids : LntL F l (a+1)
theorem LntO.row {F : AHeap} {t : Nd} {a : Nat} (h : LntO F t a) : LntR F t.kids a where
 row:=h 0 _ (by rw[lntO_eq];rfl)
 kids:=fun i xs hx=>by
  rw[show a+1+i=a+(i+1) by omega]
  exact h (i+1) xs (by rw[lntO_eq,List.getElem?_cons_succ];exact hx)
theorem LntL.first {F : AHeap} {t : Nd} {r : List Nd} {a : Nat} (h : LntL F (t :: r) a) : LntO F t a:=fun i xs hx=>by
 refine h i xs ?_
 simp only[lntOL]
 rw[List.getElem?_append_left (List.getElem?_eq_some_iff.1 hx).1]
 exact hx
theorem LntL.rest {F : AHeap} {t : Nd} {r : List Nd} {a : Nat} (h : LntL F (t :: r) a) : LntL F r (a+t.size):=fun i xs hx=>by
 rw[show a+t.size+i=a+(t.size+i) by omega]
 refine h (t.size+i) xs ?_
 simp only[lntOL]
 rw[List.getElem?_append_right (by rw[lntO_length];omega),lntO_length,Nat.add_sub_cancel_left]
 exact hx
theorem LntL.at_ {F : AHeap} : ∀ {l : List Nd} {a k : Nat},LntL F l a→k < l.length→LntO F (nthN l k) (a+Nd.sizeL (l.take k))
 | [],_,_,_,hk=>by simp at hk
 | x :: r,a,0,h,_=>by simpa [nthN,Nd.sizeL] using h.first
 | x :: r,a,k+1,h,hk=>by
  have:=LntL.at_ (k:=k) h.rest (by simpa using hk)
  simp only[List.take_succ_cons,Nd.sizeL]
  rw[show a+(x.size+Nd.sizeL (r.take k))=a+x.size+Nd.sizeL (r.take k) by omega]
  exact this
theorem lntL_getD : ∀ {l : List Nd} {k a : Nat},k < l.length→(lntL l a).getD k .top=lntV (nthN l k) (a+Nd.sizeL (l.take k))
 | [],_,_,h=>by simp at h
 | x :: r,0,a,_=>by simp[lntL,nthN,Nd.sizeL]
 | x :: r,k+1,a,h=>by
  have:=lntL_getD (l:=r) (k:=k) (a:=a+x.size) (by simpa using h)
  simp only[lntL,List.getD_cons_succ,List.take_succ_cons,Nd.sizeL]
  rw[this,show a+(x.size+Nd.sizeL (r.take k))=a+x.size+Nd.sizeL (r.take k) by omega]
  rfl
theorem lntC_get {l : List Nd} {k a : Nat} (h : k < l.length) : (lntC l a).getD k .top=lntV (nthN l k) (a+1+Nd.sizeL (l.take k)):=by
 rw[← lntL_getD h,lntC,List.getD_eq_getElem?_getD,List.getElem?_append_left (by rw[lntL_length];exact h),List.getD_eq_getElem?_getD]
theorem lntC_mark {l : List Nd} {t a : Nat} (h : t < 12) : (lntC l a).getD (l.length+t) .top=markN 1 t:=by
 rw[lntC,List.getD_eq_getElem?_getD,List.getElem?_append_right (by rw[lntL_length];omega),lntL_length]
 simp[marksN,h]
theorem lntV_view {F : AHeap} (t : Nd) : ∀ {a : Nat},LntO F t a→View F (lntV t a) (ndA t):=by
 induction t using Nd.ind with
 | _ t ih =>
  intro a h
  have key : ∀ (l : List Nd),(∀ k ∈ l,∀ {a : Nat},LntO F k a→View F (lntV k a) (ndA k))→∀ a,LntL F l a→ViewL F (lntL l a) (ndL l):=by
   intro l
   induction l with
   | nil=>intro _ a _;exact .nil
   | cons x r ihr =>
    intro hx a hl
    exact .cons (hx x (by simp) hl.first) (ihr (fun k hk=>hx k (by simp[hk])) _ hl.rest)
  rw[lntV_eq,ndA_eq]
  refine .agg (.cons .sc (.cons .sc (.cons .sc (.cons (.vec h.row.row rfl (by rw[lntC_length];omega) ?_) .nil))))
  rw[List.drop_zero,lntC,List.take_append_of_le_length (by rw[lntL_length];exact Nat.le_refl _),List.take_of_length_le (by rw[lntL_length];exact Nat.le_refl _)]
  exact key _ ih _ h.row.kids
theorem LntO.of {F G : AHeap} {t : Nd} {a : Nat} (h : LntO F t a) (hs : ∀ i,a ≤ i→i < a+t.size→AHeap.find G i=AHeap.find F i) : LntO G t a:=fun i xs hx=>by
 have hi:=(List.getElem?_eq_some_iff.1 hx).1
 rw[lntO_length] at hi
 rw[hs _ (by omega) (by omega)]
 exact h i xs hx
theorem lntR_lays {l : List Nd} {H : AHeap} : LntR (lntBL l (H.length+1) ++ (lntB1 (lntC l H.length) :: H)) l H.length where
 row:=by rw[AHeap.find_append (by simp),find_top rfl]
 kids:=fun i xs hx=>by
  rw[lntBL_lays]
  have:=lays_new (H:=lntB1 (lntC l H.length) :: H) (bs:=obL (lntOL l (H.length+1))) (i:=i) (b:=lntB1 xs) (by simp[obL,hx])
  simpa using this
end Go.Proofs.YtfnahogjkgcklaaGreatDoor
namespace Go.Proofs.YtfnahogjkgcklaaGreatDoor
open Go.RowKit
set_option maxRecDepth 100000
set_option linter.unusedVariables false
set_option linter.unusedSimpArgs false
theorem markNode_d (k i : Int) (H : AHeap) : D Tryz.prog 20 [.sc (.int .i64 k),.sc (.int .i64 i)] H (.ret (markN k i)) H:=by
 refine D_of_DK (Nat.le_refl _) (dk20 (E_of_ES ?_))
 simp -implicitDefEqProofs (maxSteps:=99999999) (disch:=first | omega | (simp only[AHeap.set_length,killO_length,List.length_cons,List.length_nil];first | done | omega)) only[ic20,va,vg,vs,vw,Nat.reduceMul,ite_true,ite_false,eq_self,forall_const,implies_true,Nat.reduceAdd,Nat.reduceSub,Nat.reduceLT,Nat.reduceLeDiff,↓reduceIte,reduceCtorEq,Int.reduceEq,Int.reduceLT,Int.reduceLE,Int.reduceGT,Int.reduceGE,Int.reduceAdd,Int.reduceSub,Int.reduceNeg,Int.reduceToNat,Nat.reduceBEq,Nat.reduceEqDiff]
 refine callR_ret (mark_d _ _ _) ?_
 simp -implicitDefEqProofs (maxSteps:=99999999) (disch:=first | omega | (simp only[AHeap.set_length,killO_length,List.length_cons,List.length_nil];first | done | omega)) only[wrap_markI,va,vg,vs,vw,Nat.reduceMul,ite_true,ite_false,eq_self,forall_const,implies_true,Nat.reduceAdd,Nat.reduceSub,Nat.reduceLT,Nat.reduceLeDiff,↓reduceIte,reduceCtorEq,Int.reduceEq,Int.reduceLT,Int.reduceLE,Int.reduceGT,Int.reduceGE,Int.reduceAdd,Int.reduceSub,Int.reduceNeg,Int.reduceToNat,Nat.reduceBEq,Nat.reduceEqDiff]
 exact weak_over (.cons .refl) (.same (by simp[markN,AV.ids,AV.idsL,AV.idsM]))
def rawL : List Nd→Nat→List AV
 | [],_=>[]
 | t :: r,b=>lntV t b :: rawL r (b+t.size+1)
theorem rawL_length (l : List Nd) : ∀ b,(rawL l b).length=l.length:=by
 induction l with
 | nil=>intro b;rfl
 | cons x r ih=>intro b;simp[rawL,ih]
theorem rawL_append (p q : List Nd) : ∀ b,rawL (p ++ q) b=rawL p b ++ rawL q (b+Nd.sizeL p+p.length):=by
 induction p with
 | nil=>intro b;simp[rawL,Nd.sizeL]
 | cons x r ih =>
  intro b
  simp only[List.cons_append,rawL,ih,Nd.sizeL,List.length_cons]
  rw[show b+(x.size+Nd.sizeL r)+(r.length+1)=b+x.size+1+Nd.sizeL r+r.length by omega]
def RawK (F : AHeap) : List Nd→Nat→Prop
 | [],_=>True
 | t :: r,b=>LntO F t b ∧ RawK F r (b+t.size+1)
theorem RawK.append {F : AHeap} : ∀ {p q : List Nd} {b : Nat},RawK F p b→RawK F q (b+Nd.sizeL p+p.length)→RawK F (p ++ q) b
 | [],q,b,_,h=>by simpa [Nd.sizeL] using h
 | x :: r,q,b,h,k=>by
  refine ⟨h.1,RawK.append h.2 ?_⟩
  simp only[Nd.sizeL,List.length_cons] at k
  rw[show b+x.size+1+Nd.sizeL r+r.length=b+(x.size+Nd.sizeL r)+(r.length+1) by omega]
  exact k
theorem RawK.of {F G : AHeap} : ∀ {l : List Nd} {b : Nat},RawK F l b→(∀ i,b ≤ i→i < b+Nd.sizeL l+l.length→AHeap.find G i=AHeap.find F i)→RawK G l b
 | [],_,_,_=>trivial
 | t :: r,b,h,hs=>by
  simp only[Nd.sizeL,List.length_cons] at hs
  exact ⟨h.1.of fun i h1 h2=>hs i h1 (by omega),h.2.of fun i h1 h2=>hs i (by omega) (by omega)⟩
def srcL : List Nd→Nat→List Nat
 | [],_=>[]
 | t :: r,b=>(List.range t.size).map (b+·) ++ srcL r (b+t.size+1)
theorem srcL_length (l : List Nd) : ∀ b,(srcL l b).length=Nd.sizeL l:=by
 induction l with
 | nil=>intro b;rfl
 | cons x r ih=>intro b;simp[srcL,ih,Nd.sizeL]
theorem srcL_ge (l : List Nd) : ∀ b,∀ s ∈ srcL l b,b ≤ s:=by
 induction l with
 | nil=>intro b s h;simp[srcL] at h
 | cons x r ih =>
  intro b s h
  simp only[srcL,List.mem_append,List.mem_map] at h
  rcases h with ⟨i,_,rfl⟩ | h
  ·omega
  ·have:=ih _ s h;omega
theorem srcL_nodup (l : List Nd) : ∀ b,(srcL l b).Nodup:=by
 induction l with
 | nil=>intro b;simp[srcL]
 | cons x r ih =>
  intro b
  simp only[srcL]
  refine List.nodup_append.2 ⟨nodup_map fun i j h=>by omega,ih _,fun s h1 s' h2 e=>?_⟩
  obtain ⟨i,hi,rfl⟩:=List.mem_map.1 h1
  have:=srcL_ge r _ s' h2
  have:=List.mem_range.1 hi
  omega
def WinK (n0 : Nat) (src : List Nat) : List Nd→Nat→Nat→Prop
 | [],_,_=>True
 | t :: r,b,c=>(∀ j,j < t.size→newId n0 src (b+j)=some (c+j)) ∧ WinK n0 src r (b+t.size+1) (c+t.size)
theorem winK_of {n0 : Nat} {src : List Nat} : ∀ (l : List Nd) (b p : Nat),(∀ i s,(srcL l b)[i]? = some s→newId n0 src s=some (p+i))→WinK n0 src l b p
 | [],_,_,_=>trivial
 | t :: r,b,p,h=>by
  refine ⟨fun j hj=>h j (b+j) ?_,winK_of r _ _ fun i s hs=>?_⟩
  ·simp only[srcL]
   rw[List.getElem?_append_left (by simpa using hj)]
   simp[hj]
  ·rw[show p+t.size+i=p+(t.size+i) by omega]
   refine h _ _ ?_
   simp only[srcL]
   rw[List.getElem?_append_right (by simp)]
   simpa using hs
theorem rawL_gz {F : AHeap} {n0 : Nat} {src : List Nat} : ∀ {l : List Nd} {b c : Nat},WinK n0 src l b c→GzL F n0 src (rawL l b) (lntL l c)
 | [],_,_,_=>.nil
 | t :: r,b,c,h=>.cons (lntV_gz (m:=t.size) h.1 t 0 (by omega)) (rawL_gz h.2)
theorem rawB_gz {F : AHeap} {n0 : Nat} {src : List Nat} : ∀ {l : List Nd} {b c : Nat},WinK n0 src l b c→RawK F l b→∀ (i : Nat) (ys : List AV),(lntOL l c)[i]? = some ys→∃ s,(srcL l b)[i]? = some s ∧ ∃ xs,AHeap.find F s=lntB1 xs ∧ GzL F n0 src xs ys
 | [],_,_,_,_,i,ys,h=>by simp[lntOL] at h
 | t :: r,b,c,hw,hr,i,ys,h=>by
  simp only[lntOL] at h
  simp only[srcL]
  have hx:=lntO_length t c
  by_cases hi : i < t.size
  ·rw[List.getElem?_append_left (by omega)] at h
   rw[List.getElem?_append_left (by simpa using hi)]
   obtain ⟨xs,h1,h2⟩:=lntO_gz (F:=F) (m:=t.size) hw.1 t 0 (by omega) i ys h
   exact ⟨b+i,by simp[hi],xs,hr.1 i xs h1,h2⟩
  ·rw[List.getElem?_append_right (by omega),hx] at h
   rw[List.getElem?_append_right (by simpa using hi)]
   simp only[List.length_map,List.length_range]
   exact rawB_gz hw.2 hr.2 (i - t.size) ys h
abbrev zeroN : AV:=.agg [.sc (.int .u8 0),.sc (.string ⟨#[]⟩),.sc (.int .i64 0),.lst 0 [] (some [])]
def LentP (l : List Nd) : Prop:=∀ (ro : Option (List AV)) (H : AHeap),Nd.sizeL l ≤ 1000000→D Tryz.prog 6 [.lst 4 (ndL l) ro] H (.ret (lntS l.length H.length)) (lntBL l (H.length+1) ++ (lntB1 (lntC l H.length) :: H))
set_option maxHeartbeats 0 in
theorem lentNode_of (t : Nd) (h : LentP t.kids) (hz : t.size ≤ 1000000) (ro : Option (List AV)) (H : AHeap) : D Tryz.prog 19 [ndR t ro] H (.ret (lntV t H.length)) (lntB t H.length ++ H):=by
 have hse:=Nd.size_eq t
 have hk:=fun H=>h ro H (by omega)
 rw[ndR_eq]
 refine D_of_DK (by simp) (dk19 (E_of_ES ?_))
 simp only[ic19,ux]
 refine ES_seq_gen fun L hL=>?_
 simp -implicitDefEqProofs (maxSteps:=99999999) (disch:=first | omega | (simp only[AHeap.set_length,killO_length,List.length_cons,List.length_nil];first | done | omega)) only[vu,va,vg,vs,vw,Nat.reduceMul,ite_true,ite_false,eq_self,forall_const,implies_true,Nat.reduceAdd,Nat.reduceSub,Nat.reduceLT,Nat.reduceLeDiff,↓reduceIte,reduceCtorEq,Int.reduceEq,Int.reduceLT,Int.reduceLE,Int.reduceGT,Int.reduceGE,Int.reduceAdd,Int.reduceSub,Int.reduceNeg,Int.reduceToNat,Nat.reduceBEq,Nat.reduceEqDiff]
 refine hL _ _ ?_
 clear hL
 refine ES_seq_gen fun L hL=>?_
 simp -implicitDefEqProofs (maxSteps:=99999999) (disch:=first | omega | (simp only[AHeap.set_length,killO_length,List.length_cons,List.length_nil];first | done | omega)) only[vu,va,vg,vs,vw,Nat.reduceMul,ite_true,ite_false,eq_self,forall_const,implies_true,Nat.reduceAdd,Nat.reduceSub,Nat.reduceLT,Nat.reduceLeDiff,↓reduceIte,reduceCtorEq,Int.reduceEq,Int.reduceLT,Int.reduceLE,Int.reduceGT,Int.reduceGE,Int.reduceAdd,Int.reduceSub,Int.reduceNeg,Int.reduceToNat,Nat.reduceBEq,Nat.reduceEqDiff]
 refine callR_ret (hk _) ?_
 generalize hG : lntBL t.kids _ ++ _=G
 have hR:=lntR_lays (l:=t.kids) (H:=some ⟨4,[zeroN],true,25⟩ :: some ⟨4,[.agg [.sc (.int .u8 t.kind),.sc (.string t.text),.sc (.int .i64 t.num),.lst 4 (ndL t.kids) ro]],true,25⟩ :: H)
 rw[hG] at hR
 simp only[List.length_cons,Nat.add_assoc,Nat.reduceAdd] at hR ⊢
 have hGl : G.length=H.length+2+t.size:=by
  rw[← hG,List.length_append,lntBL_length]
  simp
  omega
 have f1 : AHeap.find G H.length=some ⟨4,[.agg [.sc (.int .u8 t.kind),.sc (.string t.text),.sc (.int .i64 t.num),.lst 4 (ndL t.kids) ro]],true,25⟩:=by
  rw[← hG,AHeap.find_append (by simp;omega),find_past (by simp;omega),find_past (by simp),find_top rfl]
 have f2 : AHeap.find G (H.length+1)=some ⟨4,[zeroN],true,25⟩:=by
  rw[← hG,AHeap.find_append (by simp),find_past (by simp),find_top (by simp)]
 have f3 : ∀ i,i < H.length→AHeap.find G i=AHeap.find H i:=fun i hi=>by
  rw[← hG,AHeap.find_append (by simp;omega),find_past (by simp;omega),find_past (by simp;omega),find_past hi]
 clear hG
 simp -implicitDefEqProofs (maxSteps:=99999999) (disch:=first | omega | (simp only[AHeap.set_length,killO_length,List.length_cons,List.length_nil];first | done | omega)) only[vu,f1,f2,va,vg,vs,vw,Nat.reduceMul,ite_true,ite_false,eq_self,forall_const,implies_true,Nat.reduceAdd,Nat.reduceSub,Nat.reduceLT,Nat.reduceLeDiff,↓reduceIte,reduceCtorEq,Int.reduceEq,Int.reduceLT,Int.reduceLE,Int.reduceGT,Int.reduceGE,Int.reduceAdd,Int.reduceSub,Int.reduceNeg,Int.reduceToNat,Nat.reduceBEq,Nat.reduceEqDiff]
 refine hL _ _ ?_
 clear hL
 refine ES_seq_gen fun L hL=>?_
 simp -implicitDefEqProofs (maxSteps:=99999999) (disch:=first | omega | (simp only[AHeap.set_length,killO_length,List.length_cons,List.length_nil];first | done | omega)) only[vu,f1,f2,va,vg,vs,vw,Nat.reduceMul,ite_true,ite_false,eq_self,forall_const,implies_true,Nat.reduceAdd,Nat.reduceSub,Nat.reduceLT,Nat.reduceLeDiff,↓reduceIte,reduceCtorEq,Int.reduceEq,Int.reduceLT,Int.reduceLE,Int.reduceGT,Int.reduceGE,Int.reduceAdd,Int.reduceSub,Int.reduceNeg,Int.reduceToNat,Nat.reduceBEq,Nat.reduceEqDiff]
 refine hL _ _ ?_
 clear hL
 simp -implicitDefEqProofs (maxSteps:=99999999) (disch:=first | omega | (simp only[AHeap.set_length,killO_length,List.length_cons,List.length_nil];first | done | omega)) only[vu,f1,f2,va,vg,vs,vw,Nat.reduceMul,ite_true,ite_false,eq_self,forall_const,implies_true,Nat.reduceAdd,Nat.reduceSub,Nat.reduceLT,Nat.reduceLeDiff,↓reduceIte,reduceCtorEq,Int.reduceEq,Int.reduceLT,Int.reduceLE,Int.reduceGT,Int.reduceGE,Int.reduceAdd,Int.reduceSub,Int.reduceNeg,Int.reduceToNat,Nat.reduceBEq,Nat.reduceEqDiff]
 have hO : LntO G t (H.length+2):=fun i xs hx=>by
  rw[lntO_eq] at hx
  cases i with
  | zero =>
   simp only[List.getElem?_cons_zero,Option.some.injEq] at hx
   rw[← hx,Nat.add_zero]
   exact hR.row
  | succ i =>
   rw[List.getElem?_cons_succ] at hx
   rw[show H.length+2+(i+1)=H.length+2+1+i by omega]
   exact hR.kids i xs hx
 have hsl : ((List.range t.size).map (H.length+2+·)).length=t.size:=by simp
 have hsn : ((List.range t.size).map (H.length+2+·)).Nodup:=nodup_map (fun i j h=>by omega)
 have hsi : ∀ i,i < t.size→((List.range t.size).map (H.length+2+·))[i]? = some (H.length+2+i):=fun i hi=>by simp[hi]
 have hN : ∀ j,j < t.size→newId H.length ((List.range t.size).map (H.length+2+·)) (H.length+2+j)=some (H.length+j):=fun j hj=>newId_atT hsn (hsi j hj) (by omega)
 rw[lntB_lays]
 refine weak_lays _ ((List.range t.size).map (H.length+2+·)) (by rw[hsl];simp[obL,lntO_length]) hsn (fun s hs=>?_) (fun i hi=>?_) (fun i k s hb hs=>?_) ?_
 ·obtain ⟨i,_,rfl⟩:=List.mem_map.1 hs
  omega
 ·rw[AHeap.find_set_ne (by omega),AHeap.find_set_ne (by omega),f3 i hi]
 ·have hi : i < t.size:=by
   have:=(List.getElem?_eq_some_iff.1 hs).1
   rwa [hsl] at this
  rw[hsi i hi] at hs
  cases hs
  simp only[obL,List.getElem?_map,Option.map_eq_some_iff,Option.some.injEq] at hb
  obtain ⟨ys,hy,rfl⟩:=hb
  obtain ⟨xs,hx,hg⟩:=lntO_gz (F:=AHeap.set (AHeap.set G H.length (some ⟨4,[.agg [.sc (.int .u8 t.kind),.sc (.string t.text),.sc (.int .i64 t.num),.vec 4 (H.length+2) 0 t.kids.length (some (t.kids.length+12))]],true,25⟩)) (H.length+1) (some ⟨4,[.agg [.sc (.int .u8 t.kind),.sc (.string t.text),.sc (.int .i64 t.num),.vec 4 (H.length+2) 0 t.kids.length (some (t.kids.length+12))]],true,25⟩)) (s0:=H.length+2) (c0:=H.length) hN t 0 (by omega) i ys hy
  refine ⟨⟨4,xs,true,25⟩,?_,rfl,rfl,fun h=>h,hg⟩
  rw[AHeap.find_set_ne (by omega),AHeap.find_set_ne (by omega)]
  exact hO i xs hx
 ·exact lntV_gz (s0:=H.length+2) (c0:=H.length) hN t 0 (by omega)
set_option maxHeartbeats 0 in
theorem lentNs_of (l : List Nd) (ih : ∀ t ∈ l,LentP t.kids) : LentP l:=by
 intro ro H hz
 have hlen:=Nd.len_le l
 refine D_of_DK (by simp;omega) (dk6 (E_of_ES ?_))
 simp only[ic6,ux]
 obtain ⟨m,hm⟩ : ∃ m,m=l.length+12:=⟨_,rfl⟩
 have e12 : ((l.length : Int)+12).toNat=m:=by omega
 have hl3:=ndL_length l
 refine ES_seq_gen fun L hL=>?_
 simp -implicitDefEqProofs (maxSteps:=99999999) (disch:=first | omega | (simp only[AHeap.set_length,killO_length,List.length_cons,List.length_nil];first | done | omega)) only[va,vg,vs,vw,Nat.reduceMul,ite_true,ite_false,eq_self,forall_const,implies_true,Nat.reduceAdd,Nat.reduceSub,Nat.reduceLT,Nat.reduceLeDiff,↓reduceIte,reduceCtorEq,Int.reduceEq,Int.reduceLT,Int.reduceLE,Int.reduceGT,Int.reduceGE,Int.reduceAdd,Int.reduceSub,Int.reduceNeg,Int.reduceToNat,Nat.reduceBEq,Nat.reduceEqDiff]
 refine hL _ _ ?_
 clear hL
 refine ES_seq_gen fun L hL=>?_
 simp -implicitDefEqProofs (maxSteps:=99999999) (disch:=first | omega | (simp only[AHeap.set_length,killO_length,List.length_cons,List.length_nil];first | done | omega)) only[hl3,e12,va,vg,vs,vw,Nat.reduceMul,ite_true,ite_false,eq_self,forall_const,implies_true,Nat.reduceAdd,Nat.reduceSub,Nat.reduceLT,Nat.reduceLeDiff,↓reduceIte,reduceCtorEq,Int.reduceEq,Int.reduceLT,Int.reduceLE,Int.reduceGT,Int.reduceGE,Int.reduceAdd,Int.reduceSub,Int.reduceNeg,Int.reduceToNat,Nat.reduceBEq,Nat.reduceEqDiff]
 refine ⟨by omega,?_⟩
 refine hL _ _ ?_
 clear hL
 refine ES_seq_gen fun L hL=>?_
 simp -implicitDefEqProofs (maxSteps:=99999999) (disch:=first | omega | (simp only[AHeap.set_length,killO_length,List.length_cons,List.length_nil];first | done | omega)) only[va,vg,vs,vw,Nat.reduceMul,ite_true,ite_false,eq_self,forall_const,implies_true,Nat.reduceAdd,Nat.reduceSub,Nat.reduceLT,Nat.reduceLeDiff,↓reduceIte,reduceCtorEq,Int.reduceEq,Int.reduceLT,Int.reduceLE,Int.reduceGT,Int.reduceGE,Int.reduceAdd,Int.reduceSub,Int.reduceNeg,Int.reduceToNat,Nat.reduceBEq,Nat.reduceEqDiff]
 refine ES_loopL (fun ts G=>∃ k : Nat,(k ≤ l.length ∧ G.length=H.length+1+Nd.sizeL (l.take k)+k ∧ AHeap.find G H.length=some ⟨4,rawL (l.take k) (H.length+1) ++ List.replicate (m - k) zeroN,true,25⟩ ∧ RawK G (l.take k) (H.length+1) ∧ ∀ i,i < H.length→AHeap.find G i=AHeap.find H i) ∧ Fr [some (.lst 4 (ndL l) ro),none,none,some (.vec 4 H.length 0 k (some m)),some (.sc (.int .i64 k)),none,none,none,none,none,none,none,none,none,none,none,none,none,none,none,none,none,none,none,none,none,none,none,none,none,none,none,none,none,none,none,none,none,none] ts) (fun ts _=>l.length - (intV (ts.getD 4 .top)).toNat) ?_ ?_
 ·refine ⟨0,⟨Nat.zero_le _,by simp[Nd.sizeL],?_,trivial,fun i hi=>?_⟩,by simp[Fr]⟩
  ·simp -implicitDefEqProofs (maxSteps:=99999999) (disch:=first | omega | (simp only[AHeap.set_length,killO_length,List.length_cons,List.length_nil];first | done | omega)) only[va,vg,vs,vw,Nat.reduceMul,ite_true,ite_false,eq_self,forall_const,implies_true,Nat.reduceAdd,Nat.reduceSub,Nat.reduceLT,Nat.reduceLeDiff,↓reduceIte,reduceCtorEq,Int.reduceEq,Int.reduceLT,Int.reduceLE,Int.reduceGT,Int.reduceGE,Int.reduceAdd,Int.reduceSub,Int.reduceNeg,Int.reduceToNat,Nat.reduceBEq,Nat.reduceEqDiff]
   simp[rawL]
  ·simp -implicitDefEqProofs (maxSteps:=99999999) (disch:=first | omega | (simp only[AHeap.set_length,killO_length,List.length_cons,List.length_nil];first | done | omega)) only[va,vg,vs,vw,Nat.reduceMul,ite_true,ite_false,eq_self,forall_const,implies_true,Nat.reduceAdd,Nat.reduceSub,Nat.reduceLT,Nat.reduceLeDiff,↓reduceIte,reduceCtorEq,Int.reduceEq,Int.reduceLT,Int.reduceLE,Int.reduceGT,Int.reduceGE,Int.reduceAdd,Int.reduceSub,Int.reduceNeg,Int.reduceToNat,Nat.reduceBEq,Nat.reduceEqDiff]
 ·rintro ts G ⟨k,⟨hk,q1,q2,q3,q4⟩,hfr⟩ L2 hL2
  obtain ⟨js,rfl⟩:=hfr.opened
  clear hfr
  by_cases hd : k < l.length
  ·have k0 : (0 : Int) ≤ (k : Int):=by omega
   have k1 : (k : Int) < l.length:=by omega
   have hg:=ndL_get hd
   have hmem:=nthN_mem hd
   have hsz:=Nd.sizeL_mem hmem
   have hln:=lentNode_of (nthN l k) (ih _ hmem) (by omega) none G
   rw[ndR_eq] at hln
   simp -implicitDefEqProofs (maxSteps:=99999999) (disch:=first | omega | (simp only[AHeap.set_length,killO_length,List.length_cons,List.length_nil];first | done | omega)) only[mk,hl3,hg,k0,k1,va,vg,vs,vw,Nat.reduceMul,ite_true,ite_false,eq_self,forall_const,implies_true,Nat.reduceAdd,Nat.reduceSub,Nat.reduceLT,Nat.reduceLeDiff,↓reduceIte,reduceCtorEq,Int.reduceEq,Int.reduceLT,Int.reduceLE,Int.reduceGT,Int.reduceGE,Int.reduceAdd,Int.reduceSub,Int.reduceNeg,Int.reduceToNat,Nat.reduceBEq,Nat.reduceEqDiff]
   refine callR_ret hln ?_
   obtain ⟨G2,hG2⟩ : ∃ G2,lntB (nthN l k) G.length ++ G=G2:=⟨_,rfl⟩
   rw[hG2]
   have g0 : G2.length=G.length+(nthN l k).size:=by rw[← hG2,List.length_append,lntB_length];omega
   have g1 : ∀ i,i < G.length→AHeap.find G2 i=AHeap.find G i:=fun i hi=>by rw[← hG2,AHeap.find_append hi]
   have g2 : AHeap.find G2 H.length=some ⟨4,rawL (l.take k) (H.length+1) ++ List.replicate (m - k) zeroN,true,25⟩:=by rw[g1 _ (by omega),q2]
   have g3 : LntO G2 (nthN l k) G.length:=fun i xs hx=>by
    rw[← hG2,lntB_lays]
    exact lays_new (by simp[obL,hx])
   clear hG2 hln
   have hpl:=rawL_length (l.take k) (H.length+1)
   rw[List.length_take,Nat.min_eq_left hk] at hpl
   have htk : (rawL (l.take k) (H.length+1) ++ List.replicate (m - k) zeroN).take k=rawL (l.take k) (H.length+1):=by rw[List.take_append_of_le_length (by omega),List.take_of_length_le (by omega)]
   have hdk : (rawL (l.take k) (H.length+1) ++ List.replicate (m - k) zeroN).drop (k+1)=List.replicate (m - (k+1)) zeroN:=by
    rw[List.drop_append,List.drop_of_length_le (by omega),hpl,List.nil_append,List.drop_replicate]
    congr 1
    omega
   have hll : (rawL (l.take k) (H.length+1) ++ List.replicate (m - k) zeroN).length=m:=by rw[List.length_append,hpl,List.length_replicate];omega
   have hroom : k+1 ≤ m:=by omega
   have hkm : k ≤ m:=by omega
   have hlim : k+1 ≤ 100000000:=by omega
   simp -implicitDefEqProofs (maxSteps:=99999999) (disch:=first | omega | (simp only[AHeap.set_length,killO_length,List.length_cons,List.length_nil];first | done | omega)) only[g2,htk,hdk,hll,hroom,hkm,hlim,lntV_eq,va,vg,vs,vw,Nat.reduceMul,ite_true,ite_false,eq_self,forall_const,implies_true,Nat.reduceAdd,Nat.reduceSub,Nat.reduceLT,Nat.reduceLeDiff,↓reduceIte,reduceCtorEq,Int.reduceEq,Int.reduceLT,Int.reduceLE,Int.reduceGT,Int.reduceGE,Int.reduceAdd,Int.reduceSub,Int.reduceNeg,Int.reduceToNat,Nat.reduceBEq,Nat.reduceEqDiff]
   have hst:=sizeL_take hd
   have hne : ∀ i,i < G.length→i ≠ H.length→∀ (b x : Option ABlk),AHeap.find (b :: AHeap.set G2 H.length x) i=AHeap.find G i:=fun i h1 h2 b x=>by
    rw[find_past (by rw[AHeap.set_length];omega),AHeap.find_set_ne h2,g1 i h1]
   have htl : (l.take k).length=k:=by rw[List.length_take];omega
   refine hL2 _ _ ⟨k+1,⟨by omega,by simp[AHeap.set_length];omega,?_,?_,fun i hi=>?_⟩,by simp[Fr]⟩ (by simp[intV,mk];omega)
   ·rw[find_past (by rw[AHeap.set_length];omega),AHeap.find_set_same (by omega),List.take_succ_eq_append_getElem hd,rawL_append,← nthN_eq hd,htl,← q1]
    simp only[rawL,List.append_assoc,List.singleton_append,lntV]
   ·rw[List.take_succ_eq_append_getElem hd,← nthN_eq hd]
    refine RawK.append (q3.of fun i h1 h2=>?_) ⟨?_,trivial⟩
    ·rw[htl] at h2
     exact hne i (by omega) (by omega) _ _
    ·rw[htl,← q1]
     refine g3.of fun i h1 h2=>?_
     rw[find_past (by rw[AHeap.set_length];omega),AHeap.find_set_ne (by omega)]
   ·rw[hne i (by omega) (by omega)]
    exact q4 i hi
  ·have hkl : k=l.length:=by omega
   subst hkl
   have k1 : ¬ ((l.length : Nat) : Int) < l.length:=by omega
   simp -implicitDefEqProofs (maxSteps:=99999999) (disch:=first | omega | (simp only[AHeap.set_length,killO_length,List.length_cons,List.length_nil];first | done | omega)) only[mk,hl3,k1,va,vg,vs,vw,Nat.reduceMul,ite_true,ite_false,eq_self,forall_const,implies_true,Nat.reduceAdd,Nat.reduceSub,Nat.reduceLT,Nat.reduceLeDiff,↓reduceIte,reduceCtorEq,Int.reduceEq,Int.reduceLT,Int.reduceLE,Int.reduceGT,Int.reduceGE,Int.reduceAdd,Int.reduceSub,Int.reduceNeg,Int.reduceToNat,Nat.reduceBEq,Nat.reduceEqDiff]
   refine hL _ _ ?_
   clear hL hL2
   refine ES_seq_gen fun L hL=>?_
   simp -implicitDefEqProofs (maxSteps:=99999999) (disch:=first | omega | (simp only[AHeap.set_length,killO_length,List.length_cons,List.length_nil];first | done | omega)) only[va,vg,vs,vw,Nat.reduceMul,ite_true,ite_false,eq_self,forall_const,implies_true,Nat.reduceAdd,Nat.reduceSub,Nat.reduceLT,Nat.reduceLeDiff,↓reduceIte,reduceCtorEq,Int.reduceEq,Int.reduceLT,Int.reduceLE,Int.reduceGT,Int.reduceGE,Int.reduceAdd,Int.reduceSub,Int.reduceNeg,Int.reduceToNat,Nat.reduceBEq,Nat.reduceEqDiff]
   have htk : l.take l.length=l:=List.take_length
   rw[htk] at q1 q2 q3
   have hpl:=rawL_length l (H.length+1)
   have ed : m - l.length=12:=by omega
   rw[ed] at q2
   refine ES_loopL (fun ts F=>∃ j : Nat,(j ≤ 12 ∧ F.length=G.length ∧ AHeap.find F H.length=some ⟨4,rawL l (H.length+1) ++ (marksN j ++ List.replicate (12 - j) zeroN),true,25⟩ ∧ ∀ i,i < G.length→i ≠ H.length→AHeap.find F i=AHeap.find G i) ∧ Fr [some (.lst 4 (ndL l) ro),none,none,some (.vec 4 H.length 0 (l.length+j) (some m)),none,none,some (.sc (.int .i64 j)),none,none,none,none,none,none,none,none,none,none,none,none,none,none,none,none,none,none,none,none,none,none,none,none,none,none,none,none,none,none,none,none] ts) (fun ts _=>12 - (intV (ts.getD 6 .top)).toNat) ⟨0,⟨by omega,rfl,by simpa [marksN] using q2,fun _ _ _=>rfl⟩,by simp[Fr]⟩ ?_
   rintro ts F ⟨j,⟨hj,p1,p2,p3⟩,hfr⟩ L2 hL2
   obtain ⟨js,rfl⟩:=hfr.opened
   clear hfr
   simp -implicitDefEqProofs (maxSteps:=99999999) (disch:=first | omega | (simp only[AHeap.set_length,killO_length,List.length_cons,List.length_nil];first | done | omega)) only[mk,va,vg,vs,vw,Nat.reduceMul,ite_true,ite_false,eq_self,forall_const,implies_true,Nat.reduceAdd,Nat.reduceSub,Nat.reduceLT,Nat.reduceLeDiff,↓reduceIte,reduceCtorEq,Int.reduceEq,Int.reduceLT,Int.reduceLE,Int.reduceGT,Int.reduceGE,Int.reduceAdd,Int.reduceSub,Int.reduceNeg,Int.reduceToNat,Nat.reduceBEq,Nat.reduceEqDiff]
   refine condR_if (fun h=>?_) (fun h=>?_)
   ·have h1 : j < 12:=by omega
    simp -implicitDefEqProofs (maxSteps:=99999999) (disch:=first | omega | (simp only[AHeap.set_length,killO_length,List.length_cons,List.length_nil];first | done | omega)) only[va,vg,vs,vw,Nat.reduceMul,ite_true,ite_false,eq_self,forall_const,implies_true,Nat.reduceAdd,Nat.reduceSub,Nat.reduceLT,Nat.reduceLeDiff,↓reduceIte,reduceCtorEq,Int.reduceEq,Int.reduceLT,Int.reduceLE,Int.reduceGT,Int.reduceGE,Int.reduceAdd,Int.reduceSub,Int.reduceNeg,Int.reduceToNat,Nat.reduceBEq,Nat.reduceEqDiff]
    refine callR_ret (markNode_d _ _ _) ?_
    have hml:=marksN_length (j:=j)
    have htk : (rawL l (H.length+1) ++ (marksN j ++ List.replicate (12 - j) zeroN)).take (l.length+j)=rawL l (H.length+1) ++ marksN j:=by
     rw[← List.append_assoc,List.take_append_of_le_length (by simp[hpl,hml]),List.take_of_length_le (by simp[hpl,hml])]
    have hdk : (rawL l (H.length+1) ++ (marksN j ++ List.replicate (12 - j) zeroN)).drop (l.length+(j+1))=List.replicate (12 - (j+1)) zeroN:=by
     rw[← List.append_assoc,List.drop_append,List.drop_of_length_le (by simp[hpl,hml]),List.length_append,hpl,hml,List.nil_append,List.drop_replicate]
     congr 1
     omega
    have hll : (rawL l (H.length+1) ++ (marksN j ++ List.replicate (12 - j) zeroN)).length=m:=by rw[List.length_append,List.length_append,hpl,hml,List.length_replicate];omega
    have hroom : l.length+(j+1) ≤ m:=by omega
    have hkm : l.length+j ≤ m:=by omega
    have hlim : l.length+(j+1) ≤ 100000000:=by omega
    simp -implicitDefEqProofs (maxSteps:=99999999) (disch:=first | omega | (simp only[AHeap.set_length,killO_length,List.length_cons,List.length_nil];first | done | omega)) only[p2,htk,hdk,hll,hroom,hkm,hlim,markN_eq,va,vg,vs,vw,Nat.reduceMul,ite_true,ite_false,eq_self,forall_const,implies_true,Nat.reduceAdd,Nat.reduceSub,Nat.reduceLT,Nat.reduceLeDiff,↓reduceIte,reduceCtorEq,Int.reduceEq,Int.reduceLT,Int.reduceLE,Int.reduceGT,Int.reduceGE,Int.reduceAdd,Int.reduceSub,Int.reduceNeg,Int.reduceToNat,Nat.reduceBEq,Nat.reduceEqDiff]
    refine hL2 _ _ ⟨j+1,⟨by omega,by rw[AHeap.set_length];exact p1,?_,fun i h2 h3=>?_⟩,by simp[Fr]⟩ (by simp[intV,mk];omega)
    ·rw[AHeap.find_set_same (by omega),marksN_succ]
     simp only[List.append_assoc,List.singleton_append,List.cons_append,List.nil_append]
     rfl
    ·rw[AHeap.find_set_ne h3]
     exact p3 i h2 h3
   ·have hj12 : j=12:=by omega
    subst hj12
    refine hL _ _ ?_
    clear hL hL2
    have hkm : l.length ≤ m:=by omega
    have h0m : 0 < m:=by omega
    simp -implicitDefEqProofs (maxSteps:=99999999) (disch:=first | omega | (simp only[AHeap.set_length,killO_length,List.length_cons,List.length_nil];first | done | omega)) only[hl3,hkm,h0m,Nat.sub_zero,va,vg,vs,vw,Nat.reduceMul,ite_true,ite_false,eq_self,forall_const,implies_true,Nat.reduceAdd,Nat.reduceSub,Nat.reduceLT,Nat.reduceLeDiff,↓reduceIte,reduceCtorEq,Int.reduceEq,Int.reduceLT,Int.reduceLE,Int.reduceGT,Int.reduceGE,Int.reduceAdd,Int.reduceSub,Int.reduceNeg,Int.reduceToNat,Nat.reduceBEq,Nat.reduceEqDiff]
    refine ⟨⟨by omega,rfl,by omega⟩,?_⟩
    simp only[Nat.sub_self,List.replicate_zero,List.append_nil] at p2
    obtain ⟨src,hsrc⟩ : ∃ src,src=H.length :: srcL l (H.length+1):=⟨_,rfl⟩
    have slen : src.length=1+Nd.sizeL l:=by rw[hsrc,List.length_cons,srcL_length];omega
    have snd : src.Nodup:=by
     rw[hsrc]
     refine List.nodup_cons.2 ⟨fun h=>?_,srcL_nodup _ _⟩
     have:=srcL_ge _ _ _ h
     omega
    have sge : ∀ s ∈ src,H.length ≤ s:=fun s hs=>by
     rw[hsrc] at hs
     rcases List.mem_cons.1 hs with rfl | hs
     ·exact Nat.le_refl _
     ·have:=srcL_ge _ _ _ hs;omega
    have s0 : newId H.length src H.length=some H.length:=newId_atT (i:=0) snd (by rw[hsrc];rfl) (Nat.le_refl _)
    have hwin : WinK H.length src l (H.length+1) (H.length+1):=winK_of l _ _ fun i s hs=>by
     rw[show H.length+1+i=H.length+(i+1) by omega]
     have hs' : src[i+1]? = some s:=by rw[hsrc,List.getElem?_cons_succ];exact hs
     exact newId_atT snd hs' (sge s (List.mem_of_getElem? hs'))
    have hraw : RawK F l (H.length+1):=q3.of fun i h1 h2=>p3 i (by omega) (by omega)
    have hfin : lntBL l (H.length+1) ++ (lntB1 (lntC l H.length) :: H)=lays (obL (lntC l H.length :: lntOL l (H.length+1))) H:=by
     rw[lntBL_lays]
     rfl
    rw[hfin]
    have eV : lntS l.length H.length = .vec 4 H.length 0 l.length (some m):=by rw[hm]
    rw[eV]
    refine weak_lays _ src (by rw[slen];simp[obL,lntOL_length];omega) snd sge (fun i hi=>(p3 i (by omega) (by omega)).trans (q4 i hi)) (fun i kb s hb hs=>?_) (.vecR s0 (.inl rfl))
    cases i with
    | zero =>
     rw[hsrc] at hs
     simp only[List.getElem?_cons_zero,Option.some.injEq] at hs
     simp only[obL,List.map_cons,List.getElem?_cons_zero,Option.some.injEq] at hb
     subst hs hb
     exact ⟨_,p2,rfl,rfl,fun h=>h,GzL.append (rawL_gz hwin) (marksN_gz 12)⟩
    | succ i =>
     rw[hsrc,List.getElem?_cons_succ] at hs
     simp only[obL,List.map_cons,List.getElem?_cons_succ,List.getElem?_map,Option.map_eq_some_iff,Option.some.injEq] at hb
     obtain ⟨ys,hy,rfl⟩:=hb
     obtain ⟨s',z1,xs,z2,z3⟩:=rawB_gz (F:=F) hwin hraw i ys hy
     rw[hs] at z1
     cases z1
     exact ⟨⟨4,xs,true,25⟩,z2,rfl,rfl,fun h=>h,z3⟩
theorem lentNs_all (l : List Nd) : LentP l:=by
 have key : ∀ n : Nat,∀ l : List Nd,Nd.sizeL l ≤ n→LentP l:=by
  intro n
  induction n with
  | zero =>
   intro l h
   refine lentNs_of l fun t ht=>?_
   have:=Nd.sizeL_mem ht
   have:=t.size_pos
   omega
  | succ n ih =>
   intro l h
   refine lentNs_of l fun t ht=>ih _ ?_
   have:=Nd.sizeL_mem ht
   have:=Nd.size_eq t
   omega
 exact key _ l (Nat.le_refl _)
theorem lentNodes_d (l : List Nd) (hz : Nd.sizeL l ≤ 1000000) (ro : Option (List AV)) (H : AHeap) : D Tryz.prog 6 [.lst 4 (ndL l) ro] H (.ret (lntS l.length H.length)) (lntBL l (H.length+1) ++ (lntB1 (lntC l H.length) :: H)):=lentNs_all l ro H hz
end Go.Proofs.YtfnahogjkgcklaaGreatDoor
namespace Go.Proofs.YtfnahogjkgcklaaGreatDoor
open Go.RowKit
set_option maxRecDepth 100000
set_option linter.unusedVariables false
set_option linter.unusedSimpArgs false
theorem sameMark_d (k i : Int) (H : AHeap) : D Tryz.prog 11 [markN k i,markN k i] H (.ret (.sc (.bool true))) H:=by
 have h:=sameNode_d ⟨0,⟨#[]⟩,markI k i,[]⟩ (by simp[Nd.size,Nd.sizeL]) ⟨0,⟨#[]⟩,markI k i,[]⟩ none none H
 rw[sameN_refl] at h
 have hl : Le (markN k i) (ndR ⟨0,⟨#[]⟩,markI k i,[]⟩ none):=.agg (.cons .refl (.cons .refl (.cons .refl (.cons .nil .nil))))
 exact D_le (.cons hl (.cons hl .nil)) h
theorem LntO.over {H G : AHeap} {t : Nd} {a : Nat} (h : LntO H t a) (ho : Over H G) : LntO G t a:=fun i xs hx=>by
 have h1:=h i xs hx
 rw[Over.find ho (AHeap.find_lt h1)]
 exact h1
theorem LntR.over {H G : AHeap} {l : List Nd} {a : Nat} (h : LntR H l a) (ho : Over H G) : LntR G l a where
 row:=by rw[Over.find ho (AHeap.find_lt h.row)];exact h.row
 kids:=fun i xs hx=>by
  have h1:=h.kids i xs hx
  rw[Over.find ho (AHeap.find_lt h1)]
  exact h1
def KeptP (l : List Nd) : Prop:=∀ (rl : Option (List AV)) (a : Nat) (H : AHeap),Nd.sizeL l ≤ 1000000→LntR H l a→D Tryz.prog 12 [lntS l.length a,.lst 4 (ndL l) rl] H (.ret (.sc (.bool true))) H
theorem nd_view {H : AHeap} (t : Nd) : View H (ndA t) (ndA t):=by
 induction t using Nd.ind with
 | _ t ih =>
  have key : ∀ l : List Nd,(∀ k ∈ l,View H (ndA k) (ndA k))→ViewL H (ndL l) (ndL l):=by
   intro l
   induction l with
   | nil=>intro _;exact .nil
   | cons x r ihr=>intro h;exact .cons (h x (by simp)) (ihr fun k hk=>h k (by simp[hk]))
  rw[ndA_eq]
  exact .agg (.cons .sc (.cons .sc (.cons .sc (.cons (.lst (key _ ih)) .nil))))
theorem sameLent_d {H : AHeap} {t : Nd} {a : Nat} (hz : t.size ≤ 1000000) (h : LntO H t a) : D Tryz.prog 11 [lntV t a,ndR t none] H (.ret (.sc (.bool true))) H:=by
 have hs:=sameNode_d t hz t none none []
 rw[sameN_refl,ndR_none] at hs
 rw[ndR_none]
 exact D_view (.cons (lntV_view t h) (.cons (nd_view t) .nil)) .sc hs
set_option maxHeartbeats 0 in
theorem keptNode_of (t : Nd) (h : KeptP t.kids) (hz : t.size ≤ 1000000) (a : Nat) (H : AHeap) (hl : LntO H t a) : D Tryz.prog 26 [lntV t a,ndR t none] H (.ret (.sc (.bool true))) H:=by
 have hse:=Nd.size_eq t
 have hsm:=fun (G : AHeap) hg=>sameLent_d (H:=G) (a:=a) hz hg
 have hkk:=fun G hg=>h none a G (by omega) hg
 rw[ndR_eq,lntV_eq] at *
 refine D_of_DK (Nat.le_refl _) (dk26 (E_of_ES ?_))
 simp only[ic26,ux]
 refine ES_seq_gen fun L hL=>?_
 simp -implicitDefEqProofs (maxSteps:=99999999) (disch:=first | omega | (simp only[AHeap.set_length,killO_length,List.length_cons,List.length_nil];first | done | omega)) only[vu,va,vg,vs,vw,Nat.reduceMul,ite_true,ite_false,eq_self,forall_const,implies_true,Nat.reduceAdd,Nat.reduceSub,Nat.reduceLT,Nat.reduceLeDiff,↓reduceIte,reduceCtorEq,Int.reduceEq,Int.reduceLT,Int.reduceLE,Int.reduceGT,Int.reduceGE,Int.reduceAdd,Int.reduceSub,Int.reduceNeg,Int.reduceToNat,Nat.reduceBEq,Nat.reduceEqDiff]
 refine hL _ _ ?_
 clear hL
 refine ES_seq_gen fun L hL=>?_
 simp -implicitDefEqProofs (maxSteps:=99999999) (disch:=first | omega | (simp only[AHeap.set_length,killO_length,List.length_cons,List.length_nil];first | done | omega)) only[vu,va,vg,vs,vw,Nat.reduceMul,ite_true,ite_false,eq_self,forall_const,implies_true,Nat.reduceAdd,Nat.reduceSub,Nat.reduceLT,Nat.reduceLeDiff,↓reduceIte,reduceCtorEq,Int.reduceEq,Int.reduceLT,Int.reduceLE,Int.reduceGT,Int.reduceGE,Int.reduceAdd,Int.reduceSub,Int.reduceNeg,Int.reduceToNat,Nat.reduceBEq,Nat.reduceEqDiff]
 refine callR_ret (hsm _ (hl.over (.cons (.cons .refl)))) ?_
 simp -implicitDefEqProofs (maxSteps:=99999999) (disch:=first | omega | (simp only[AHeap.set_length,killO_length,List.length_cons,List.length_nil];first | done | omega)) only[vu,va,vg,vs,vw,Nat.reduceMul,ite_true,ite_false,eq_self,forall_const,implies_true,Nat.reduceAdd,Nat.reduceSub,Nat.reduceLT,Nat.reduceLeDiff,↓reduceIte,reduceCtorEq,Int.reduceEq,Int.reduceLT,Int.reduceLE,Int.reduceGT,Int.reduceGE,Int.reduceAdd,Int.reduceSub,Int.reduceNeg,Int.reduceToNat,Nat.reduceBEq,Nat.reduceEqDiff]
 refine callR_ret (hkk _ (hl.row.over (.cons (.cons .refl)))) ?_
 simp -implicitDefEqProofs (maxSteps:=99999999) (disch:=first | omega | (simp only[AHeap.set_length,killO_length,List.length_cons,List.length_nil];first | done | omega)) only[vu,va,vg,vs,vw,Nat.reduceMul,ite_true,ite_false,eq_self,forall_const,implies_true,Nat.reduceAdd,Nat.reduceSub,Nat.reduceLT,Nat.reduceLeDiff,↓reduceIte,reduceCtorEq,Int.reduceEq,Int.reduceLT,Int.reduceLE,Int.reduceGT,Int.reduceGE,Int.reduceAdd,Int.reduceSub,Int.reduceNeg,Int.reduceToNat,Nat.reduceBEq,Nat.reduceEqDiff]
 refine hL _ _ ?_
 clear hL
 simp -implicitDefEqProofs (maxSteps:=99999999) (disch:=first | omega | (simp only[AHeap.set_length,killO_length,List.length_cons,List.length_nil];first | done | omega)) only[vu,va,vg,vs,vw,Nat.reduceMul,ite_true,ite_false,eq_self,forall_const,implies_true,Nat.reduceAdd,Nat.reduceSub,Nat.reduceLT,Nat.reduceLeDiff,↓reduceIte,reduceCtorEq,Int.reduceEq,Int.reduceLT,Int.reduceLE,Int.reduceGT,Int.reduceGE,Int.reduceAdd,Int.reduceSub,Int.reduceNeg,Int.reduceToNat,Nat.reduceBEq,Nat.reduceEqDiff]
 exact weak_sc (.cons (.cons .refl))
set_option maxHeartbeats 0 in
theorem keptNs_of (l : List Nd) (ih : ∀ t ∈ l,KeptP t.kids) : KeptP l:=by
 intro rl a H hz hr
 have hlen:=Nd.len_le l
 have hrow:=hr.row
 refine D_of_DK (Nat.le_refl _) (dk12 (E_of_ES ?_))
 simp only[ic12,ux]
 obtain ⟨m,hm⟩ : ∃ m,m=l.length+12:=⟨_,rfl⟩
 have e12 : ((l.length : Int)+12).toNat=m:=by omega
 have c0 : 0 < m:=by omega
 have hl3:=ndL_length l
 have hla : (lntC l a).length=m:=by rw[lntC_length,hm]
 rw[show lntS l.length a = .vec 4 a 0 l.length (some m) from by rw[hm]]
 refine ES_seq_gen fun L hL=>?_
 simp -implicitDefEqProofs (maxSteps:=99999999) (disch:=first | omega | (simp only[AHeap.set_length,killO_length,List.length_cons,List.length_nil];first | done | omega)) only[va,vg,vs,vw,Nat.reduceMul,ite_true,ite_false,eq_self,forall_const,implies_true,Nat.reduceAdd,Nat.reduceSub,Nat.reduceLT,Nat.reduceLeDiff,↓reduceIte,reduceCtorEq,Int.reduceEq,Int.reduceLT,Int.reduceLE,Int.reduceGT,Int.reduceGE,Int.reduceAdd,Int.reduceSub,Int.reduceNeg,Int.reduceToNat,Nat.reduceBEq,Nat.reduceEqDiff]
 refine hL _ _ ?_
 clear hL
 refine ES_seq_gen fun L hL=>?_
 simp -implicitDefEqProofs (maxSteps:=99999999) (disch:=first | omega | (simp only[AHeap.set_length,killO_length,List.length_cons,List.length_nil];first | done | omega)) only[hl3,ne_eq,va,vg,vs,vw,Nat.reduceMul,ite_true,ite_false,eq_self,forall_const,implies_true,Nat.reduceAdd,Nat.reduceSub,Nat.reduceLT,Nat.reduceLeDiff,↓reduceIte,reduceCtorEq,Int.reduceEq,Int.reduceLT,Int.reduceLE,Int.reduceGT,Int.reduceGE,Int.reduceAdd,Int.reduceSub,Int.reduceNeg,Int.reduceToNat,Nat.reduceBEq,Nat.reduceEqDiff]
 refine hL _ _ ?_
 clear hL
 refine ES_seq_gen fun L hL=>?_
 simp -implicitDefEqProofs (maxSteps:=99999999) (disch:=first | omega | (simp only[AHeap.set_length,killO_length,List.length_cons,List.length_nil];first | done | omega)) only[hl3,e12,c0,Nat.sub_zero,va,vg,vs,vw,Nat.reduceMul,ite_true,ite_false,eq_self,forall_const,implies_true,Nat.reduceAdd,Nat.reduceSub,Nat.reduceLT,Nat.reduceLeDiff,↓reduceIte,reduceCtorEq,Int.reduceEq,Int.reduceLT,Int.reduceLE,Int.reduceGT,Int.reduceGE,Int.reduceAdd,Int.reduceSub,Int.reduceNeg,Int.reduceToNat,Nat.reduceBEq,Nat.reduceEqDiff]
 refine ⟨⟨by omega,rfl,by omega,by omega⟩,?_⟩
 refine hL _ _ ?_
 clear hL
 refine ES_seq_gen fun L hL=>?_
 simp -implicitDefEqProofs (maxSteps:=99999999) (disch:=first | omega | (simp only[AHeap.set_length,killO_length,List.length_cons,List.length_nil];first | done | omega)) only[va,vg,vs,vw,Nat.reduceMul,ite_true,ite_false,eq_self,forall_const,implies_true,Nat.reduceAdd,Nat.reduceSub,Nat.reduceLT,Nat.reduceLeDiff,↓reduceIte,reduceCtorEq,Int.reduceEq,Int.reduceLT,Int.reduceLE,Int.reduceGT,Int.reduceGE,Int.reduceAdd,Int.reduceSub,Int.reduceNeg,Int.reduceToNat,Nat.reduceBEq,Nat.reduceEqDiff]
 refine ES_loopL (fun ts G=>∃ j : Nat,(j ≤ m ∧ G=H) ∧ Fr [some (.vec 4 a 0 l.length (some m)),some (.lst 4 (ndL l) rl),none,none,some (.sc (.bool false)),some (.vec 4 a 0 m (some m)),some (.sc (.int .i64 j)),none,none,none,none,none,none,none,none,none,none,none,none,none,none,none,none,none,none,none,none,none,none,none,none,none,none,none,none,none,none,none,none,none,none,none,none,none,none,none,none,none,none,none,none,none,none,none,none,none,none,none] ts) (fun ts _=>m - (intV (ts.getD 6 .top)).toNat) ⟨0,⟨by omega,rfl⟩,by simp[Fr]⟩ ?_
 rintro ts H ⟨j,⟨hj,rfl⟩,hfr⟩ L2 hL2
 obtain ⟨js,rfl⟩:=hfr.opened
 clear hfr
 simp -implicitDefEqProofs (maxSteps:=99999999) (disch:=first | omega | (simp only[AHeap.set_length,killO_length,List.length_cons,List.length_nil];first | done | omega)) only[mk,va,vg,vs,vw,Nat.reduceMul,ite_true,ite_false,eq_self,forall_const,implies_true,Nat.reduceAdd,Nat.reduceSub,Nat.reduceLT,Nat.reduceLeDiff,↓reduceIte,reduceCtorEq,Int.reduceEq,Int.reduceLT,Int.reduceLE,Int.reduceGT,Int.reduceGE,Int.reduceAdd,Int.reduceSub,Int.reduceNeg,Int.reduceToNat,Nat.reduceBEq,Nat.reduceEqDiff]
 refine condR_if (fun h=>?_) (fun h=>?_)
 ·have h1 : j < m:=by omega
  have j0 : (0 : Int) ≤ (j : Int):=by omega
  have j1 : (j : Int) < m:=by omega
  by_cases c1 : j < l.length
  ·have c2 : (j : Int) < l.length:=by omega
   have c3 : ¬ ((j : Int) ≥ l.length):=by omega
   have hg1:=lntC_get (a:=a) c1
   have hg2:=ndL_get c1
   have hmem:=nthN_mem c1
   have hsz:=Nd.sizeL_mem hmem
   have hk:=keptNode_of (nthN l j) (ih _ hmem) (by omega) _ H (hr.kids.at_ c1)
   obtain ⟨q,hq⟩ : ∃ q,a+1+Nd.sizeL (l.take j)=q:=⟨_,rfl⟩
   rw[hq,lntV_eq] at hg1 hk
   rw[ndR_eq] at hk
   simp -implicitDefEqProofs (maxSteps:=99999999) (disch:=first | omega | (simp only[AHeap.set_length,killO_length,List.length_cons,List.length_nil];first | done | omega)) only[hrow,hl3,hla,h1,j0,j1,c1,c2,c3,hg1,hg2,va,vg,vs,vw,Nat.reduceMul,ite_true,ite_false,eq_self,forall_const,implies_true,Nat.reduceAdd,Nat.reduceSub,Nat.reduceLT,Nat.reduceLeDiff,↓reduceIte,reduceCtorEq,Int.reduceEq,Int.reduceLT,Int.reduceLE,Int.reduceGT,Int.reduceGE,Int.reduceAdd,Int.reduceSub,Int.reduceNeg,Int.reduceToNat,Nat.reduceBEq,Nat.reduceEqDiff]
   refine callD_same hk ?_
   simp -implicitDefEqProofs (maxSteps:=99999999) (disch:=first | omega | (simp only[AHeap.set_length,killO_length,List.length_cons,List.length_nil];first | done | omega)) only[hrow,hl3,hla,h1,j0,j1,c1,c2,c3,hg1,hg2,va,vg,vs,vw,Nat.reduceMul,ite_true,ite_false,eq_self,forall_const,implies_true,Nat.reduceAdd,Nat.reduceSub,Nat.reduceLT,Nat.reduceLeDiff,↓reduceIte,reduceCtorEq,Int.reduceEq,Int.reduceLT,Int.reduceLE,Int.reduceGT,Int.reduceGE,Int.reduceAdd,Int.reduceSub,Int.reduceNeg,Int.reduceToNat,Nat.reduceBEq,Nat.reduceEqDiff]
   exact hL2 _ _ ⟨j+1,⟨by omega,rfl⟩,by simp[Fr]⟩ (by simp[intV,mk];omega)
  ·obtain ⟨t,rfl⟩ : ∃ t,j=l.length+t:=⟨j - l.length,by omega⟩
   have c2 : ¬ (((l.length+t : Nat) : Int) < l.length):=by omega
   have c3 : ((l.length+t : Nat) : Int) ≥ l.length:=by omega
   have hg1:=lntC_mark (l:=l) (a:=a) (t:=t) (by omega)
   have hmk:=markNode_d
   have hsm:=sameMark_d
   simp only[markN_eq] at hg1 hmk hsm
   have e2 : ((l.length+t : Nat) : Int) - l.length=t:=by omega
   simp -implicitDefEqProofs (maxSteps:=99999999) (disch:=first | omega | (simp only[AHeap.set_length,killO_length,List.length_cons,List.length_nil];first | done | omega)) only[hrow,hl3,hla,h1,j0,j1,c1,c2,c3,hg1,e2,va,vg,vs,vw,Nat.reduceMul,ite_true,ite_false,eq_self,forall_const,implies_true,Nat.reduceAdd,Nat.reduceSub,Nat.reduceLT,Nat.reduceLeDiff,↓reduceIte,reduceCtorEq,Int.reduceEq,Int.reduceLT,Int.reduceLE,Int.reduceGT,Int.reduceGE,Int.reduceAdd,Int.reduceSub,Int.reduceNeg,Int.reduceToNat,Nat.reduceBEq,Nat.reduceEqDiff]
   refine callD_same (hmk _ _ _) ?_
   simp -implicitDefEqProofs (maxSteps:=99999999) (disch:=first | omega | (simp only[AHeap.set_length,killO_length,List.length_cons,List.length_nil];first | done | omega)) only[hrow,hl3,hla,h1,j0,j1,c1,c2,c3,hg1,e2,va,vg,vs,vw,Nat.reduceMul,ite_true,ite_false,eq_self,forall_const,implies_true,Nat.reduceAdd,Nat.reduceSub,Nat.reduceLT,Nat.reduceLeDiff,↓reduceIte,reduceCtorEq,Int.reduceEq,Int.reduceLT,Int.reduceLE,Int.reduceGT,Int.reduceGE,Int.reduceAdd,Int.reduceSub,Int.reduceNeg,Int.reduceToNat,Nat.reduceBEq,Nat.reduceEqDiff]
   refine callD_same (hsm _ _ _) ?_
   simp -implicitDefEqProofs (maxSteps:=99999999) (disch:=first | omega | (simp only[AHeap.set_length,killO_length,List.length_cons,List.length_nil];first | done | omega)) only[hrow,hl3,hla,h1,j0,j1,c1,c2,c3,hg1,e2,va,vg,vs,vw,Nat.reduceMul,ite_true,ite_false,eq_self,forall_const,implies_true,Nat.reduceAdd,Nat.reduceSub,Nat.reduceLT,Nat.reduceLeDiff,↓reduceIte,reduceCtorEq,Int.reduceEq,Int.reduceLT,Int.reduceLE,Int.reduceGT,Int.reduceGE,Int.reduceAdd,Int.reduceSub,Int.reduceNeg,Int.reduceToNat,Nat.reduceBEq,Nat.reduceEqDiff]
   exact hL2 _ _ ⟨l.length+t+1,⟨by omega,rfl⟩,by simp[Fr]⟩ (by simp[intV,mk];omega)
 ·refine hL _ _ ?_
  clear hL
  simp -implicitDefEqProofs (maxSteps:=99999999) (disch:=first | omega | (simp only[AHeap.set_length,killO_length,List.length_cons,List.length_nil];first | done | omega)) only[va,vg,vs,vw,Nat.reduceMul,ite_true,ite_false,eq_self,forall_const,implies_true,Nat.reduceAdd,Nat.reduceSub,Nat.reduceLT,Nat.reduceLeDiff,↓reduceIte,reduceCtorEq,Int.reduceEq,Int.reduceLT,Int.reduceLE,Int.reduceGT,Int.reduceGE,Int.reduceAdd,Int.reduceSub,Int.reduceNeg,Int.reduceToNat,Nat.reduceBEq,Nat.reduceEqDiff]
  exact Weak.refl _ _ _
theorem keptNs_all (l : List Nd) : KeptP l:=by
 have key : ∀ n : Nat,∀ l : List Nd,Nd.sizeL l ≤ n→KeptP l:=by
  intro n
  induction n with
  | zero =>
   intro l h
   refine keptNs_of l fun t ht=>?_
   have:=Nd.sizeL_mem ht
   have:=t.size_pos
   omega
  | succ n ih =>
   intro l h
   refine keptNs_of l fun t ht=>ih _ ?_
   have:=Nd.sizeL_mem ht
   have:=Nd.size_eq t
   omega
 exact key _ l (Nat.le_refl _)
theorem keptNodes_d (l : List Nd) (hz : Nd.sizeL l ≤ 1000000) (rl : Option (List AV)) (a : Nat) (H : AHeap) (h : LntR H l a) : D Tryz.prog 12 [lntS l.length a,.lst 4 (ndL l) rl] H (.ret (.sc (.bool true))) H:=keptNs_all l rl a H hz h
end Go.Proofs.YtfnahogjkgcklaaGreatDoor
