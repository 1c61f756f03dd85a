import Derived.Test.YtdjnccnecgblmaaGreatDoorTD
namespace Go.Proofs.YtdjnccnecgblmaaGreatDoor
open Go.RowKit
set_option maxRecDepth 100000
set_option linter.unusedVariables false
set_option linter.unusedSimpArgs false
mutual
def cpV : Nd→Nat→AV
 | ⟨k,s,n,l⟩,a=>.agg [.sc (.int .u8 k),.sc (.string s),.sc (.int .i64 n),OwnV 4 (cpL l (a+1)) a]
def cpL : List Nd→Nat→List AV
 | [],_=>[]
 | t :: r,a=>cpV t a :: cpL r (a+t.size)
end
mutual
def cpB : Nd→Nat→AHeap
 | ⟨_,_,_,l⟩,a=>cpBL l (a+1) ++ [OwnB 4 143 (cpL l (a+1))]
def cpBL : List Nd→Nat→AHeap
 | [],_=>[]
 | t :: r,a=>cpBL r (a+t.size) ++ cpB t a
end
theorem cpV_eq (t : Nd) (a : Nat) : cpV t a = .agg [.sc (.int .u8 t.kind),.sc (.string t.text),.sc (.int .i64 t.num),OwnV 4 (cpL t.kids (a+1)) a]:=by cases t;simp[cpV,Nd.kind,Nd.text,Nd.num,Nd.kids]
theorem cpB_eq (t : Nd) (a : Nat) : cpB t a=cpBL t.kids (a+1) ++ [OwnB 4 143 (cpL t.kids (a+1))]:=by cases t;simp[cpB,Nd.kids]
theorem cpL_length (l : List Nd) : ∀ a,(cpL l a).length=l.length:=by
 induction l with
 | nil=>intro a;rfl
 | cons x r ih=>intro a;simp[cpL,ih]
theorem cpB_length (t : Nd) : ∀ a,(cpB t a).length=t.size:=by
 induction t using Nd.ind with
 | _ t ih =>
  intro a
  have key : ∀ (l : List Nd),(∀ k ∈ l,∀ a,(cpB k a).length=k.size)→∀ a,(cpBL l a).length=Nd.sizeL l:=by
   intro l
   induction l with
   | nil=>intro _ a;rfl
   | cons x r ihr =>
    intro h a
    simp only[cpBL,List.length_append,Nd.sizeL,ihr fun k hk=>h k (by simp[hk]),h x (by simp)]
    omega
  rw[cpB_eq,List.length_append,key _ ih,Nd.size_eq]
  simp
  omega
theorem cpBL_length (l : List Nd) : ∀ a,(cpBL l a).length=Nd.sizeL l:=by
 induction l with
 | nil=>intro a;rfl
 | cons x r ih =>
  intro a
  simp only[cpBL,List.length_append,Nd.sizeL,ih,cpB_length]
  omega
theorem cpL_append (p q : List Nd) : ∀ a,cpL (p ++ q) a=cpL p a ++ cpL q (a+Nd.sizeL p):=by
 induction p with
 | nil=>intro a;simp[cpL,Nd.sizeL]
 | cons x r ih =>
  intro a
  simp only[List.cons_append,cpL,ih,Nd.sizeL]
  rw[show a+(x.size+Nd.sizeL r)=a+x.size+Nd.sizeL r by omega]
theorem cpBL_append (p q : List Nd) : ∀ a,cpBL (p ++ q) a=cpBL q (a+Nd.sizeL p) ++ cpBL p a:=by
 induction p with
 | nil=>intro a;simp[cpBL,Nd.sizeL]
 | cons x r ih =>
  intro a
  simp only[List.cons_append,cpBL,ih,Nd.sizeL,List.append_assoc]
  rw[show a+(x.size+Nd.sizeL r)=a+x.size+Nd.sizeL r by omega]
theorem weak_ownT {H F : AHeap} {k io : Nat} {ty : TypeId} {xs : List AV} (ho : ∀ id,id < H.length→AHeap.find F id=AHeap.find H id) (hf : xs ≠ []→AHeap.find F io=OwnB k ty xs ∧ H.length ≤ io) (hz : ∀ s,GzL F H.length [s] xs xs) {x : AV} (hx : xs=[]→∃ k',x = .lst k' [] (some [])) (hx2 : xs ≠ []→x=OwnV k xs io) :
  Weak H (.ret x) F (.ret (OwnV k xs H.length)) (OwnB k ty xs :: H):=by
 by_cases e : xs=[]
 ·subst e
  obtain ⟨k',rfl⟩:=hx rfl
  refine weak_gen [H.length] (by simp) (by simp) (by simp) (fun id k hid hk=>.inl ?_) (fun i s k hs hk=>?_) .nil0
  ·rw[find_past (by omega)] at hk
   exact ⟨hk,by rw[ho id hid];exact hk⟩
  ·rcases i with _ | i
   ·rw[Nat.add_zero,find_top rfl] at hk
    simp[OwnB] at hk
   ·simp at hs
 ·obtain ⟨h1,h2⟩:=hf e
  rw[hx2 e,OwnV_ne e,OwnV_ne e]
  rw[OwnB_ne e] at h1 ⊢
  refine weak_gen [io] (by simp) (by simp) (by simpa using h2) (fun id k hid hk=>.inl ?_) (fun i s k hs hk=>?_) (.vecR (newId_one h2) (.inl rfl))
  ·rw[find_past (by omega)] at hk
   exact ⟨hk,by rw[ho id hid];exact hk⟩
  ·rcases i with _ | i
   ·simp at hs
    subst hs
    rw[Nat.add_zero,find_top rfl] at hk
    cases hk
    exact ⟨_,h1,rfl,rfl,fun h=>h,hz _⟩
   ·simp at hs
theorem ndA_gz {H1 : AHeap} {n0 : Nat} {src : List Nat} (t : Nd) : Gz H1 n0 src (ndA t) (ndA t):=by
 induction t using Nd.ind with
 | _ t ih =>
  have key : ∀ l : List Nd,(∀ k ∈ l,Gz H1 n0 src (ndA k) (ndA k))→GzL H1 n0 src (ndL l) (ndL l):=by
   intro l
   induction l with
   | nil=>intro _;exact .nil
   | cons x r ihr=>intro h;exact .cons (h x (by simp)) (ihr fun k hk=>h k (by simp[hk]))
  rw[ndA_eq]
  exact .agg (.cons (.same trivial) (.cons (.same trivial) (.cons (.same trivial) (.cons (.lst (key _ ih)) .nil))))
set_option maxHeartbeats 0 in
theorem cloneN_d (l : List Nd) (hl : l.length ≤ 90000000) (ro : Option (List AV)) (H : AHeap) : D Tryz.prog 227 [.lst 4 (ndL l) ro] H (.ret (OwnV 4 (ndL l) H.length)) (OwnB 4 143 (ndL l) :: H):=by
 refine D_of_DK (by simp) (dk227 (E_of_ES ?_))
 simp only[ic227,ux]
 cases l with
 | nil =>
  rw[ndL_nil]
  simp -implicitDefEqProofs (maxSteps:=99999999) (disch:=first | omega | (simp only[vl];first | done | omega)) only[vu,va,vg,vs,vw,vk,simprocAttr]
  refine condR_u ?_ ?_
  ·simp -implicitDefEqProofs (maxSteps:=99999999) (disch:=first | omega | (simp only[vl];first | done | omega)) only[vu,va,vg,vs,vw,vk,simprocAttr]
   exact weak_ownT (io:=0) (fun _ _=>rfl) (fun h=>(h rfl).elim) (fun _=>.nil) (fun _=>⟨_,rfl⟩) (fun h=>(h rfl).elim)
  ·simp -implicitDefEqProofs (maxSteps:=99999999) (disch:=first | omega | (simp only[vl];first | done | omega)) only[vu,va,vg,vs,vw,vk,simprocAttr]
   exact weak_ownT (io:=0) (fun _ _=>rfl) (fun h=>(h rfl).elim) (fun _=>.nil) (fun _=>⟨_,rfl⟩) (fun h=>(h rfl).elim)
 | cons x r =>
  rw[ndL_cons]
  simp -implicitDefEqProofs (maxSteps:=99999999) (disch:=first | omega | (simp only[vl];first | done | omega)) only[vu,va,vg,vs,vw,vk,simprocAttr]
  exact ⟨by rw[ndL_length];simp at hl;omega,Weak.refl _ _ _⟩
end Go.Proofs.YtdjnccnecgblmaaGreatDoor
namespace Go.Proofs.YtdjnccnecgblmaaGreatDoor
open Go.RowKit
set_option maxRecDepth 100000
set_option linter.unusedVariables false
set_option linter.unusedSimpArgs false
def midL (l : List Nd) (k a : Nat) : List AV:=cpL (l.take k) a ++ ndL (l.drop k)
theorem midL_length (l : List Nd) (k a : Nat) : (midL l k a).length=l.length:=by
 simp only[midL,List.length_append,cpL_length,ndL_length,List.length_take,List.length_drop]
 omega
theorem midL_get {l : List Nd} {k : Nat} (h : k < l.length) (a : Nat) : (midL l k a).getD k .top = .agg [.sc (.int .u8 (nthN l k).kind),.sc (.string (nthN l k).text),.sc (.int .i64 (nthN l k).num),.lst 4 (ndL (nthN l k).kids) none]:=by
 have hk : (cpL (l.take k) a).length=k:=by rw[cpL_length,List.length_take];omega
 unfold midL
 rw[List.getD_eq_getElem?_getD,List.getElem?_append_right (by omega),hk,Nat.sub_self,ndL_map,List.drop_eq_getElem_cons h]
 simp[nthN_eq h,ndA_eq,h]
theorem midL_set {l : List Nd} {k : Nat} (h : k < l.length) (a : Nat) : (midL l k a).set k (cpV (nthN l k) (a+Nd.sizeL (l.take k)))=midL l (k+1) a:=by
 have hk : (cpL (l.take k) a).length=k:=by rw[cpL_length,List.length_take];omega
 unfold midL
 rw[List.set_append,if_neg (by omega),hk,Nat.sub_self,List.drop_eq_getElem_cons h,ndL_cons,List.set_cons_zero,List.take_succ_eq_append_getElem h,cpL_append,List.append_assoc,nthN_eq h]
 simp[cpL]
theorem midL_zero (l : List Nd) (a : Nat) : midL l 0 a=ndL l:=by simp[midL,cpL]
theorem midL_all {l : List Nd} {k : Nat} (h : ¬ k < l.length) (a : Nat) : midL l k a=cpL l a:=by
 unfold midL
 rw[List.take_of_length_le (by omega),List.drop_of_length_le (by omega)]
 simp[ndL]
theorem set_appendT {A B : AHeap} {i : Nat} {x : Option ABlk} (h : i < B.length) : AHeap.set (A ++ B) i x=A ++ AHeap.set B i x:=by
 induction A with
 | nil=>rfl
 | cons y r ih=>rw[List.cons_append,set_past (by simp;omega),ih];rfl
mutual
def cpO : Nd→Nat→List (List AV)
 | ⟨_,_,_,l⟩,a=>cpL l (a+1) :: cpOL l (a+1)
def cpOL : List Nd→Nat→List (List AV)
 | [],_=>[]
 | t :: r,a=>cpO t a ++ cpOL r (a+t.size)
end
theorem cpO_eq (t : Nd) (a : Nat) : cpO t a=cpL t.kids (a+1) :: cpOL t.kids (a+1):=by cases t;simp[cpO,Nd.kids]
theorem lays_app : ∀ (p q : List (Option ABlk)) (H : AHeap),lays (p ++ q) H=lays q (lays p H)
 | [],_,_=>rfl
 | x :: r,q,H=>by simp only[List.cons_append,lays,lays_app r q]
def obs (l : List (List AV)) : List (Option ABlk):=l.map (OwnB 4 143)
theorem cpB_lays (t : Nd) : ∀ (a : Nat) (H : AHeap),cpB t a ++ H=lays (obs (cpO t a)) H:=by
 induction t using Nd.ind with
 | _ t ih =>
  intro a H
  have key : ∀ (l : List Nd),(∀ k ∈ l,∀ (a : Nat) (H : AHeap),cpB k a ++ H=lays (obs (cpO k a)) H)→∀ (a : Nat) (H : AHeap),cpBL l a ++ H=lays (obs (cpOL l a)) H:=by
   intro l
   induction l with
   | nil=>intro _ a H;rfl
   | cons x r ihr =>
    intro h a H
    simp only[cpBL,cpOL,obs,List.map_append,lays_app,List.append_assoc]
    have h1:=h x (by simp) a H
    have h2:=ihr (fun k hk=>h k (by simp[hk])) (a+x.size) (lays (obs (cpO x a)) H)
    rw[h1,h2]
    rfl
  rw[cpB_eq,cpO_eq,List.append_assoc]
  have:=key t.kids ih (a+1) (OwnB 4 143 (cpL t.kids (a+1)) :: H)
  rw[List.singleton_append,this]
  rfl
theorem cpBL_lays (l : List Nd) : ∀ (a : Nat) (H : AHeap),cpBL l a ++ H=lays (obs (cpOL l a)) H:=by
 induction l with
 | nil=>intro a H;rfl
 | cons x r ih =>
  intro a H
  simp only[cpBL,cpOL,obs,List.map_append,lays_app,List.append_assoc]
  rw[cpB_lays,ih]
  rfl
theorem OwnV_len {k id : Nat} {xs ys : List AV} (h : xs.length=ys.length) : OwnV k xs id=OwnV k ys id:=by
 cases xs <;> cases ys <;> simp_all [OwnV]
theorem cpV_gz {F : AHeap} {n0 s0 m : Nat} {src : List Nat} (hN : ∀ j,j < m→newId n0 src (s0+j)=some (n0+j)) (t : Nd) : ∀ j,j+t.size ≤ m→Gz F n0 src (cpV t (s0+j)) (cpV t (n0+j)):=by
 induction t using Nd.ind with
 | _ t ih =>
  intro j hj
  have:=t.size_pos
  rw[cpV_eq,cpV_eq]
  refine .agg (.cons (.same trivial) (.cons (.same trivial) (.cons (.same trivial) (.cons ?_ .nil))))
  rw[OwnV_len (show (cpL t.kids (n0+j+1)).length=(cpL t.kids (s0+j+1)).length by rw[cpL_length,cpL_length])]
  exact OwnV_gz fun _=>hN j (by omega)
theorem cpL_gz {F : AHeap} {n0 s0 m : Nat} {src : List Nat} (hN : ∀ j,j < m→newId n0 src (s0+j)=some (n0+j)) (l : List Nd) : ∀ j,j+Nd.sizeL l ≤ m→GzL F n0 src (cpL l (s0+j)) (cpL l (n0+j)):=by
 induction l with
 | nil=>intro j _;exact .nil
 | cons x r ih =>
  intro j hj
  simp only[Nd.sizeL] at hj
  simp only[cpL]
  have:=ih (j+x.size) (by omega)
  rw[← Nat.add_assoc,← Nat.add_assoc] at this
  exact .cons (cpV_gz hN x j (by omega)) this
theorem cpOL_gz {F : AHeap} {n0 s0 m : Nat} {src : List Nat} (l : List Nd) (ih : ∀ t ∈ l,∀ j,j+t.size ≤ m→∀ (i : Nat) (ys : List AV),(cpO t (n0+j))[i]? = some ys→∃ xs,(cpO t (s0+j))[i]? = some xs ∧ GzL F n0 src xs ys) (hlen : ∀ (t : Nd) (a b : Nat),(cpO t a).length=(cpO t b).length) : ∀ j,j+Nd.sizeL l ≤ m→∀ (i : Nat) (ys : List AV),(cpOL l (n0+j))[i]? = some ys→∃ xs,(cpOL l (s0+j))[i]? = some xs ∧ GzL F n0 src xs ys:=by
 induction l with
 | nil=>intro j _ i ys h;simp[cpOL] at h
 | cons x r ihr =>
  intro j hj i ys h
  simp only[Nd.sizeL] at hj
  simp only[cpOL] at h ⊢
  have hx:=hlen x (n0+j) (s0+j)
  by_cases c : i < (cpO x (n0+j)).length
  ·rw[List.getElem?_append_left c] at h
   rw[List.getElem?_append_left (by omega)]
   exact ih x (by simp) j (by omega) i ys h
  ·rw[List.getElem?_append_right (by omega)] at h
   rw[List.getElem?_append_right (by omega),← hx]
   have:=ihr (fun t ht=>ih t (by simp[ht])) (j+x.size) (by omega) (i - (cpO x (n0+j)).length) ys
   rw[← Nat.add_assoc,← Nat.add_assoc] at this
   exact this h
theorem cpO_length (t : Nd) : ∀ a,(cpO t a).length=t.size:=by
 induction t using Nd.ind with
 | _ t ih =>
  intro a
  have key : ∀ (l : List Nd),(∀ k ∈ l,∀ a,(cpO k a).length=k.size)→∀ a,(cpOL l a).length=Nd.sizeL l:=by
   intro l
   induction l with
   | nil=>intro _ a;rfl
   | cons x r ihr =>
    intro h a
    simp only[cpOL,List.length_append,Nd.sizeL,ihr fun k hk=>h k (by simp[hk]),h x (by simp)]
  rw[cpO_eq,List.length_cons,key _ ih,Nd.size_eq]
  omega
theorem cpO_gz {F : AHeap} {n0 s0 m : Nat} {src : List Nat} (hN : ∀ j,j < m→newId n0 src (s0+j)=some (n0+j)) (t : Nd) : ∀ j,j+t.size ≤ m→∀ (i : Nat) (ys : List AV),(cpO t (n0+j))[i]? = some ys→∃ xs,(cpO t (s0+j))[i]? = some xs ∧ GzL F n0 src xs ys:=by
 induction t using Nd.ind with
 | _ t ih =>
  intro j hj i ys h
  rw[Nd.size_eq] at hj
  rw[cpO_eq] at h ⊢
  cases i with
  | zero =>
   simp only[List.getElem?_cons_zero,Option.some.injEq] at h
   refine ⟨_,List.getElem?_cons_zero,?_⟩
   rw[← h]
   have:=cpL_gz (F:=F) hN t.kids (j+1) (by omega)
   rw[← Nat.add_assoc,← Nat.add_assoc] at this
   exact this
  | succ i =>
   rw[List.getElem?_cons_succ] at h
   rw[List.getElem?_cons_succ]
   have:=cpOL_gz (F:=F) t.kids ih (fun t a b=>by rw[cpO_length,cpO_length]) (j+1) (by omega) i ys
   rw[← Nat.add_assoc,← Nat.add_assoc] at this
   exact this h
theorem newId_atT {n0 : Nat} {src : List Nat} (hn : src.Nodup) {i s : Nat} (h : src[i]? = some s) (hs : n0 ≤ s) : newId n0 src s=some (n0+i):=by
 unfold newId
 rw[if_neg (by omega),get_idxOf? hn h]
 rfl
set_option maxHeartbeats 0 in
theorem copied_d (t : Nd) : ∀ (hz : t.size ≤ 1000000) (ro : Option (List AV)) (H : AHeap),D Tryz.prog 222 [ndR t ro] H (.ret (cpV t H.length)) (cpB t H.length ++ H):=by
 induction t using Nd.ind with
 | _ t ih =>
  intro hz ro H
  have hkl:=Nd.kids_le t
  have hcl:=fun H=>cloneN_d t.kids (by omega) ro H
  rw[ndR_eq]
  refine D_of_DK (by simp) (dk222 (E_of_ES ?_))
  simp only[ic222,ux]
  refine ES_seq_gen fun L hL=>?_
  simp -implicitDefEqProofs (maxSteps:=99999999) (disch:=first | omega | (simp only[vl];first | done | omega)) only[vu,va,vg,vs,vw,vk,simprocAttr]
  refine hL _ _ ?_
  clear hL
  refine ES_seq_gen fun L hL=>?_
  simp -implicitDefEqProofs (maxSteps:=99999999) (disch:=first | omega | (simp only[vl];first | done | omega)) only[vu,va,vg,vs,vw,vk,simprocAttr]
  refine callR_ret (hcl _) ?_
  obtain ⟨kv,hkv⟩ : ∃ kv,OwnV 4 (ndL t.kids) (H.length+2)=kv:=⟨_,rfl⟩
  have k1 : kv.isTop=false ∧ kv.isAgg=false ∧ kv.ncells=1 ∧ kv.cells=[kv] ∧ lenN kv=t.kids.length ∧ lenOk kv:=by
   rw[← hkv]
   refine ⟨OwnV_top,OwnV_isAgg,OwnV_ncells,OwnV_cells,?_,?_⟩
   ·rw[OwnV_lenN,ndL_length]
   ·rw[OwnV_lenOk];trivial
  obtain ⟨q1,q2,q3,q4,q5,q6⟩:=k1
  simp only[List.length_cons,hkv,Nat.add_assoc,Nat.reduceAdd]
  simp -implicitDefEqProofs (maxSteps:=99999999) (disch:=first | omega | (simp only[vl];first | done | omega)) only[vu,hkv,q1,q2,q3,q4,va,vg,vs,vw,vk,simprocAttr]
  refine hL _ _ ?_
  clear hL
  refine ES_seq_gen fun L hL=>?_
  simp -implicitDefEqProofs (maxSteps:=99999999) (disch:=first | omega | (simp only[vl];first | done | omega)) only[vu,q5,q6,q1,q2,q3,q4,va,vg,vs,vw,vk,simprocAttr]
  obtain ⟨bx1,hbx1⟩ : ∃ b,b=(⟨4,[.agg [.sc (.int .u8 t.kind),.sc (.string t.text),.sc (.int .i64 t.num),kv]],true,143⟩ : ABlk):=⟨_,rfl⟩
  obtain ⟨bx2,hbx2⟩ : ∃ b,b=(⟨4,[AV.agg [.sc (.int .u8 0),.sc (.string ⟨#[]⟩),.sc (.int .i64 0),.lst 0 [] (some [])]],true,143⟩ : ABlk):=⟨_,rfl⟩
  rw[← hbx1,← hbx2]
  refine ES_loopL (fun ts F=>∃ k : Nat,k ≤ t.kids.length ∧ F=cpBL (t.kids.take k) (H.length+3) ++ (OwnB 4 143 (midL t.kids k (H.length+3)) :: some bx2 :: some bx1 :: H) ∧ Fr [none,some (.ptr 4 H.length 0 0),some (.ptr 4 (H.length+1) 0 0),none,none,none,none,none,none,none,some (.sc (.int .i64 t.kids.length)),some (.sc (.int .i64 k)),none,none,none,none,none,none,none,none,none,none,none,none,none,none] ts) (fun ts _=>t.kids.length - (intV (ts.getD 11 .top)).toNat) ?_ ?_
  ·exact ⟨0,Nat.zero_le _,by rw[midL_zero];rfl,by simp[Fr]⟩
  rintro ts F ⟨k,hk,hFe,hfr⟩ L2 hL2
  obtain ⟨js,rfl⟩:=hfr.opened
  clear hfr
  have f0 : F.length=Nd.sizeL (t.kids.take k)+(H.length+3):=by rw[hFe,List.length_append,cpBL_length];simp
  have f1 : AHeap.find F H.length=some bx1:=by
   rw[hFe,AHeap.find_append (by simp;omega),find_past (by simp;omega),find_past (by simp),find_top rfl]
  have f3 : AHeap.find F (H.length+1)=some bx2:=by
   rw[hFe,AHeap.find_append (by simp),find_past (by simp),find_top (by simp)]
  rw[hbx1] at f1
  by_cases hd : k < t.kids.length
  ·have d1 : (k : Int) < t.kids.length:=by omega
   have hne : ndL t.kids ≠ []:=fun e=>by have:=ndL_length t.kids;rw[e] at this;simp at this;omega
   have hmid : midL t.kids k (H.length+3) ≠ []:=fun e=>by have:=midL_length t.kids k (H.length+3);rw[e] at this;simp at this;omega
   have f2 : AHeap.find F (H.length+2)=some ⟨4,midL t.kids k (H.length+3),false,143⟩:=by
    rw[hFe,AHeap.find_append (by simp),find_top (by simp),OwnB_ne hmid]
   have hkv2 : kv = .vec 4 (H.length+2) 0 t.kids.length none:=by rw[← hkv,OwnV_ne hne,ndL_length]
   rw[hkv2] at f1
   have hg:=midL_get hd (H.length+3)
   have hml:=midL_length t.kids k (H.length+3)
   have hmem:=nthN_mem hd
   have hi:=ih _ hmem (by have:=Nd.kid_lt hmem;omega) none F
   rw[ndR_eq] at hi
   obtain ⟨G,hG⟩ : ∃ G,cpB (nthN t.kids k) F.length ++ F=G:=⟨_,rfl⟩
   have g2 : AHeap.find G (H.length+2)=some ⟨4,midL t.kids k (H.length+3),false,143⟩:=by
    rw[← hG,AHeap.find_append (by omega),f2]
   have hcv:=cpV_eq (nthN t.kids k) F.length
   simp -implicitDefEqProofs (maxSteps:=99999999) (disch:=first | omega | (simp only[vl];first | done | omega)) only[mk,d1,f1,f2,hg,hml,va,vg,vs,vw,vk,simprocAttr]
   refine ⟨by omega,by omega,callD_ret hi (chS_grow (by simp;omega)) ?_⟩
   rw[hG]
   obtain ⟨cv,hcv2⟩ : ∃ cv,cpV (nthN t.kids k) F.length=cv:=⟨_,rfl⟩
   rw[hcv2] at hcv ⊢
   have c1 : cv.isTop=false:=by rw[hcv];rfl
   have c2 : cv.isAgg=true:=by rw[hcv];rfl
   have c3 : cv.ncells=4:=by rw[hcv];rfl
   have hms:=midL_set hd (H.length+3)
   have hfl : F.length=H.length+3+Nd.sizeL (t.kids.take k):=by omega
   rw[← hfl,hcv2] at hms
   have hup : ((midL t.kids k (H.length+3)).getD k AV.top).upd 0 cv=cv:=by rw[hg,hcv];rfl
   have hel : 4 ≤ ((midL t.kids k (H.length+3)).getD k AV.top).ncells ∧ ((midL t.kids k (H.length+3)).getD k AV.top).isAgg=true:=by rw[hg];exact ⟨Nat.le_refl _,rfl⟩
   simp -implicitDefEqProofs (maxSteps:=99999999) (disch:=first | omega | (simp only[vl];first | done | omega)) only[mk,d1,g2,hml,c1,c2,c3,hup,hms,va,vg,vs,vw,vk,simprocAttr]
   refine ⟨by omega,⟨hd,hel⟩,hL2 _ _ ⟨k+1,by omega,?_,by simp[Fr]⟩ (by simp[intV,mk];omega)⟩
   have hm1 : midL t.kids (k+1) (H.length+3) ≠ []:=fun e=>by have:=midL_length t.kids (k+1) (H.length+3);rw[e] at this;simp at this;omega
   rw[← hG,set_appendT (by omega),List.take_succ_eq_append_getElem hd,cpBL_append,OwnB_ne hm1,← nthN_eq hd]
   simp only[cpBL,List.nil_append,List.append_assoc]
   rw[← hfl]
   congr 1
   rw[hFe,set_appendT (by simp),set_top (by simp)]
  ·have d1 : ¬ (k : Int) < t.kids.length:=by omega
   have ht : t.kids.take k=t.kids:=List.take_of_length_le (by omega)
   rw[ht,midL_all hd] at hFe
   rw[ht] at f0
   rw[hbx2] at f3
   simp -implicitDefEqProofs (maxSteps:=99999999) (disch:=first | omega | (simp only[vl];first | done | omega)) only[mk,d1,va,vg,vs,vw,vk,simprocAttr]
   refine hL _ _ ?_
   clear hL
   simp -implicitDefEqProofs (maxSteps:=99999999) (disch:=first | omega | (simp only[vl];first | done | omega)) only[vu,f1,f3,q1,q2,q3,q4,va,vg,vs,vw,vk,simprocAttr]
   rw[cpV_eq]
   have hkv3 : kv=OwnV 4 (cpL t.kids (H.length+2+1)) (H.length+2):=by
    rw[← hkv]
    exact OwnV_len (by rw[ndL_length,cpL_length])
   have hFl : F=lays (obs (cpO t (H.length+2))) (some bx2 :: some bx1 :: H):=by
    rw[hFe,cpBL_lays,cpO_eq]
    rfl
   have hse:=Nd.size_eq t
   have hsl : ((List.range t.size).map (·+(H.length+2))).length=t.size:=by simp
   have hsn : ((List.range t.size).map (·+(H.length+2))).Nodup:=nodup_map (fun i j h=>by omega)
   have hsi : ∀ i,i < t.size→((List.range t.size).map (·+(H.length+2)))[i]? = some (H.length+2+i):=fun i hi=>by simp[hi];omega
   have hN : ∀ j,j < t.size→newId H.length ((List.range t.size).map (·+(H.length+2))) (H.length+2+j)=some (H.length+j):=fun j hj=>newId_atT hsn (hsi j hj) (by omega)
   refine weak_gen ((List.range t.size).map (·+(H.length+2))) (by rw[List.length_append,cpB_length,hsl];omega) hsn (fun s hs=>?_) (fun id b hid hb=>?_) (fun i s b hs hb=>?_) ?_
   ·obtain ⟨i,_,rfl⟩:=List.mem_map.1 hs
    omega
   ·rw[AHeap.find_append hid] at hb
    refine .inl ⟨hb,?_⟩
    rw[AHeap.find_set_ne (by omega),hFl,lays_old (by simp;omega),find_past (by simp;omega),find_past hid,hb]
   ·have hi : i < t.size:=by
     have:=(List.getElem?_eq_some_iff.1 hs).1
     rwa [hsl] at this
    rw[hsi i hi] at hs
    cases hs
    obtain ⟨ys,hy⟩ : ∃ ys,(cpO t H.length)[i]? = some ys:=⟨_,List.getElem?_eq_getElem (by rw[cpO_length];exact hi)⟩
    rw[cpB_lays,lays_new (b:=OwnB 4 143 ys) (by simp[obs,hy])] at hb
    obtain ⟨hn,rfl⟩:=OwnB_some hb
    obtain ⟨xs,hx,hg⟩:=cpO_gz (F:=AHeap.set F (H.length+1) (some ⟨4,[.agg [.sc (.int .u8 t.kind),.sc (.string t.text),.sc (.int .i64 t.num),kv]],true,143⟩)) (s0:=H.length+2) (n0:=H.length) hN t 0 (by omega) i ys hy
    have hxn : xs ≠ []:=fun e=>hn (by have:=hg.len;rw[e] at this;exact List.length_eq_zero_iff.1 (by simpa using this))
    refine ⟨⟨4,xs,false,143⟩,?_,rfl,rfl,fun h=>h,hg⟩
    have:=lays_new (H:=some bx2 :: some bx1 :: H) (b:=OwnB 4 143 xs) (bs:=obs (cpO t (H.length+2))) (i:=i) (by simpa [obs] using ⟨_,hx,rfl⟩)
    rw[AHeap.find_set_ne (by omega),hFl,← OwnB_ne hxn,← this]
    congr 1
   ·refine .agg (.cons (.same trivial) (.cons (.same trivial) (.cons (.same trivial) (.cons ?_ .nil))))
    rw[hkv3,OwnV_len (show (cpL t.kids (H.length+1)).length=(cpL t.kids (H.length+2+1)).length by rw[cpL_length,cpL_length])]
    exact OwnV_gz fun _=>hN 0 (by omega)
end Go.Proofs.YtdjnccnecgblmaaGreatDoor
namespace Go.Proofs.YtdjnccnecgblmaaGreatDoor
open Go.RowKit
set_option maxRecDepth 100000
set_option linter.unusedVariables false
set_option linter.unusedSimpArgs false
def pthA (l : List Int) : List AV:=l.map fun n=>.sc (.int .i64 n)
theorem pthA_length (l : List Int) : (pthA l).length=l.length:=by simp[pthA]
theorem pthA_get {l : List Int} {k : Nat} (h : k < l.length) : (pthA l).getD k .top = .sc (.int .i64 (l.getD k 0)):=by simp[pthA,List.getD,h]
def getN : Nd→List Int→Option Nd
 | t,[]=>some t
 | t,k :: r=>if 0 ≤ k ∧ k < t.kids.length then getN (nthN t.kids k.toNat) r else none
theorem getN_drop {t : Nd} {p : List Int} {k : Nat} (h : k < p.length) : getN t (p.drop k)=if 0 ≤ p.getD k 0 ∧ p.getD k 0 < t.kids.length then getN (nthN t.kids (p.getD k 0).toNat) (p.drop (k+1)) else none:=by
 rw[List.drop_eq_getElem_cons h]
 simp[getN,List.getD,h]
def fndV (t : Nd) (id : Nat) (p : List Int) : AV:=if p=[] then .ptr 4 id 0 0 else match getN t p with
 | some u=>.lp (ndA u) 0
 | none=>.sc (.pointer none)
set_option maxHeartbeats 0 in
theorem find_d (t : Nd) (ro : Option (List AV)) (p : List Int) (hp : p.length ≤ 1000000) (rp : Option (List AV)) (id : Nat) (H : AHeap) (hf : AHeap.find H id=some ⟨4,[ndR t ro],true,143⟩) : D Tryz.prog 221 [.ptr 4 id 0 0,.lst 1 (pthA p) rp] H (.ret (fndV t id p)) H:=by
 have hid:=AHeap.find_lt hf
 rw[ndR_eq] at hf
 refine D_of_DK (Nat.le_refl _) (dk221 (E_of_ES ?_))
 simp only[ic221,ux]
 refine ES_seq_gen fun L hL=>?_
 simp -implicitDefEqProofs (maxSteps:=99999999) (disch:=first | omega | (simp only[vl];first | done | omega)) only[vu,va,vg,vs,vw,vk,simprocAttr]
 refine hL _ _ ?_
 clear hL
 refine ES_seq_gen fun L hL=>?_
 simp -implicitDefEqProofs (maxSteps:=99999999) (disch:=first | omega | (simp only[vl];first | done | omega)) only[vu,pthA_length,va,vg,vs,vw,vk,simprocAttr]
 refine ES_loopL (fun ts F=>∃ (k : Nat) (u : Nd) (P : AV),(k ≤ p.length ∧ getN u (p.drop k)=getN t p ∧ ((k=0 ∧ u=t ∧ P = .ptr 4 id 0 0) ∨ (0 < k ∧ P = .lp (ndA u) 0))) ∧ F=H ∧ Fr [some (P),none,none,none,none,none,none,some (.lst 1 (pthA p) rp),some (.sc (.int .i64 p.length)),some (.sc (.int .i64 k)),none,none,none,none,none,none,none,none,none,none,none,none,none,none,none,none,none,none,none,none,none,none] ts) (fun ts _=>p.length - (intV (ts.getD 9 .top)).toNat) ?_ ?_
 ·exact ⟨0,t,_,⟨Nat.zero_le _,rfl,.inl ⟨rfl,rfl,rfl⟩⟩,rfl,by simp[Fr]⟩
 rintro ts F ⟨k,u,P,⟨hk,hg,hP⟩,rfl,hfr⟩ L2 hL2
 obtain ⟨js,rfl⟩:=hfr.opened
 clear hfr
 by_cases hd : k < p.length
 ·have d1 : (k : Int) < p.length:=by omega
  have hpg:=pthA_get hd
  have hpn : p ≠ []:=fun e=>by rw[e] at hd;simp at hd
  rw[getN_drop hd] at hg
  generalize p.getD k 0=q at *
  by_cases c1 : q < 0
  ·rw[if_neg (by omega)] at hg
   have hv : fndV t id p = .sc (.pointer none):=by unfold fndV;rw[if_neg hpn,← hg]
   simp -implicitDefEqProofs (maxSteps:=99999999) (disch:=first | omega | (simp only[vl];first | done | omega)) only[mk,d1,hpg,pthA_length,c1,va,vg,vs,vw,vk,simprocAttr]
   refine ⟨by omega,?_⟩
   rw[hv]
   exact weak_sc .refl
  rcases hP with ⟨hk0,rfl,rfl⟩ | ⟨hk0,rfl⟩
  ·skip
   by_cases c2 : q ≥ u.kids.length
   ·rw[if_neg (by omega)] at hg
    have hv : fndV u id p = .sc (.pointer none):=by unfold fndV;rw[if_neg hpn,← hg]
    simp -implicitDefEqProofs (maxSteps:=99999999) (disch:=first | omega | (simp only[vl];first | done | omega)) only[mk,d1,hpg,pthA_length,ndL_length,c1,c2,hf,va,vg,vs,vw,vk,simprocAttr]
    refine ⟨by omega,?_⟩
    rw[hv]
    exact weak_sc .refl
   ·rw[if_pos (by omega)] at hg
    have hq : q.toNat < u.kids.length:=by omega
    have hga:=ndL_getA hq
    simp -implicitDefEqProofs (maxSteps:=99999999) (disch:=first | omega | (simp only[vl];first | done | omega)) only[mk,d1,hpg,pthA_length,ndL_length,c1,c2,hf,hga,va,vg,vs,vw,vk,simprocAttr]
    exact ⟨by omega,by omega,hL2 _ _ ⟨k+1,nthN u.kids q.toNat,_,⟨by omega,hg,.inr ⟨by omega,rfl⟩⟩,rfl,by simp[Fr]⟩ (by simp[intV,mk];omega)⟩
  ·have hua:=ndA_eq u
   by_cases c2 : q ≥ u.kids.length
   ·rw[if_neg (by omega)] at hg
    have hv : fndV t id p = .sc (.pointer none):=by unfold fndV;rw[if_neg hpn,← hg]
    simp -implicitDefEqProofs (maxSteps:=99999999) (disch:=first | omega | (simp only[vl];first | done | omega)) only[mk,d1,hpg,pthA_length,ndL_length,c1,c2,hf,hua,va,vg,vs,vw,vk,simprocAttr]
    refine ⟨by omega,?_⟩
    rw[hv]
    exact weak_sc .refl
   ·rw[if_pos (by omega)] at hg
    have hq : q.toNat < u.kids.length:=by omega
    have hga:=ndL_getA hq
    simp -implicitDefEqProofs (maxSteps:=99999999) (disch:=first | omega | (simp only[vl];first | done | omega)) only[mk,d1,hpg,pthA_length,ndL_length,c1,c2,hf,hua,hga,va,vg,vs,vw,vk,simprocAttr]
    exact ⟨by omega,by omega,hL2 _ _ ⟨k+1,nthN u.kids q.toNat,_,⟨by omega,hg,.inr ⟨by omega,rfl⟩⟩,rfl,by simp[Fr]⟩ (by simp[intV,mk];omega)⟩
 ·have d1 : ¬ (k : Int) < p.length:=by omega
  have hdr : p.drop k=[]:=List.drop_of_length_le (by omega)
  rw[hdr] at hg
  have hv : fndV t id p=P:=by
   unfold fndV
   rcases hP with ⟨hk0,rfl,rfl⟩ | ⟨hk0,rfl⟩
   ·rw[if_pos (List.length_eq_zero_iff.1 (by omega))]
   ·rw[if_neg (fun e=>by rw[e] at hk;simp at hk;omega),← hg]
    rfl
  simp -implicitDefEqProofs (maxSteps:=99999999) (disch:=first | omega | (simp only[vl];first | done | omega)) only[mk,d1,va,vg,vs,vw,vk,simprocAttr]
  refine hL _ _ ?_
  clear hL
  simp -implicitDefEqProofs (maxSteps:=99999999) (disch:=first | omega | (simp only[vl];first | done | omega)) only[vu,va,vg,vs,vw,vk,simprocAttr]
  rw[hv]
  exact Weak.refl _ _ _
end Go.Proofs.YtdjnccnecgblmaaGreatDoor
namespace Go.Proofs.YtdjnccnecgblmaaGreatDoor
open Go.RowKit
set_option maxRecDepth 100000
set_option linter.unusedVariables false
set_option linter.unusedSimpArgs false
def LiesO (F : AHeap) (t : Nd) (a : Nat) : Prop:=∀ (i : Nat) (xs : List AV),(cpO t a)[i]? = some xs→AHeap.find F (a+i)=OwnB 4 143 xs
def LiesL (F : AHeap) (l : List Nd) (a : Nat) : Prop:=∀ (i : Nat) (xs : List AV),(cpOL l a)[i]? = some xs→AHeap.find F (a+i)=OwnB 4 143 xs
theorem LiesO.head {F : AHeap} {t : Nd} {a : Nat} (h : LiesO F t a) : AHeap.find F a=OwnB 4 143 (cpL t.kids (a+1)):=h 0 _ (by rw[cpO_eq];rfl)
theorem LiesO.kids {F : AHeap} {t : Nd} {a : Nat} (h : LiesO F t a) : LiesL F t.kids (a+1):=fun i xs hx=>by
 rw[show a+1+i=a+(i+1) by omega]
 exact h (i+1) xs (by rw[cpO_eq,List.getElem?_cons_succ];exact hx)
theorem LiesL.first {F : AHeap} {t : Nd} {r : List Nd} {a : Nat} (h : LiesL F (t :: r) a) : LiesO F t a:=fun i xs hx=>by
 refine h i xs ?_
 simp only[cpOL]
 rw[List.getElem?_append_left (List.getElem?_eq_some_iff.1 hx).1]
 exact hx
theorem LiesL.rest {F : AHeap} {t : Nd} {r : List Nd} {a : Nat} (h : LiesL F (t :: r) a) : LiesL F r (a+t.size):=fun i xs hx=>by
 rw[show a+t.size+i=a+(t.size+i) by omega]
 refine h (t.size+i) xs ?_
 simp only[cpOL]
 rw[List.getElem?_append_right (by rw[cpO_length];omega),cpO_length,Nat.add_sub_cancel_left]
 exact hx
theorem liesO_lays {t : Nd} {H : AHeap} : LiesO (cpB t H.length ++ H) t H.length:=fun i xs hx=>by
 rw[cpB_lays]
 exact lays_new (by simp[obs,hx])
theorem LiesO.of {F G : AHeap} {t : Nd} {a : Nat} (h : LiesO F t a) (hs : ∀ i,a ≤ i→i < a+t.size→AHeap.find G i=AHeap.find F i) : LiesO G t a:=fun i xs hx=>by
 have hi:=(List.getElem?_eq_some_iff.1 hx).1
 rw[cpO_length] at hi
 rw[hs _ (by omega) (by omega)]
 exact h i xs hx
theorem cpV_frz {F : AHeap} {n0 : Nat} (t : Nd) : ∀ {a : Nat},n0 ≤ a→LiesO F t a→Gz F n0 [] (cpV t a) (ndA t):=by
 induction t using Nd.ind with
 | _ t ih =>
  intro a ha h
  have key : ∀ (l : List Nd),(∀ k ∈ l,∀ {a : Nat},n0 ≤ a→LiesO F k a→Gz F n0 [] (cpV k a) (ndA k))→∀ a,n0 ≤ a→LiesL F l a→GzL F n0 [] (cpL l a) (ndL l):=by
   intro l
   induction l with
   | nil=>intro _ a _ _;exact .nil
   | cons x r ihr =>
    intro hx a ha hl
    exact .cons (hx x (by simp) ha hl.first) (ihr (fun k hk=>hx k (by simp[hk])) _ (by omega) hl.rest)
  rw[cpV_eq,ndA_eq]
  exact .agg (.cons (.same trivial) (.cons (.same trivial) (.cons (.same trivial) (.cons (OwnV_fz (fun _=>by unfold newId;rw[if_neg (by omega)];rfl) (fun _=>h.head) (key _ ih _ (by omega) h.kids)) .nil))))
def getV (t : Nd) (p : List Int) : AV:=match getN t p with
 | some u=>.tup [ndA u,.sc (.bool true)]
 | none=>.tup [ndA Nd.none,.sc (.bool false)]
theorem getN_size {t u : Nd} {p : List Int} (h : getN t p=some u) : u.size ≤ t.size:=by
 induction p generalizing t with
 | nil=>simp only[getN,Option.some.injEq] at h;subst h;exact Nat.le_refl _
 | cons k r ih =>
  simp only[getN] at h
  split at h
  ·rename_i hk
   have:=ih h
   have:=Nd.kid_lt (nthN_mem (l:=t.kids) (k:=k.toNat) (by omega))
   omega
  ·cases h
set_option maxHeartbeats 0 in
theorem get_d (t : Nd) (hz : t.size ≤ 1000000) (p : List Int) (hp : p.length ≤ 1000000) (rp : Option (List AV)) (H : AHeap) : D Tryz.prog 208 [ndR t none,.lst 1 (pthA p) rp] H (.ret (getV t p)) H:=by
 have hfd:=find_d t none p hp rp H.length
 refine D_of_DK (Nat.le_refl _) (dk208 (E_of_ES ?_))
 simp only[ic208,ux]
 rw[ndR_eq] at *
 refine ES_seq_gen fun L hL=>?_
 simp -implicitDefEqProofs (maxSteps:=99999999) (disch:=first | omega | (simp only[vl];first | done | omega)) only[vu,va,vg,vs,vw,vk,simprocAttr]
 refine hL _ _ ?_
 clear hL
 refine ES_seq_gen fun L hL=>?_
 simp -implicitDefEqProofs (maxSteps:=99999999) (disch:=first | omega | (simp only[vl];first | done | omega)) only[vu,va,vg,vs,vw,vk,simprocAttr]
 refine callR_ret (hfd _ (by rw[find_past (by simp),find_top rfl])) ?_
 have hgv : getV t p=match getN t p with
  | some u=>.tup [ndA u,.sc (.bool true)]
  | none=>.tup [ndA Nd.none,.sc (.bool false)]:=rfl
 cases hg : getN t p with
 | none =>
  have hpn : p ≠ []:=fun e=>by rw[e] at hg;simp[getN] at hg
  have hv : fndV t H.length p = .sc (.pointer none):=by unfold fndV;rw[if_neg hpn,hg]
  rw[hg] at hgv
  rw[hv]
  simp -implicitDefEqProofs (maxSteps:=99999999) (disch:=first | omega | (simp only[vl];first | done | omega)) only[vu,va,vg,vs,vw,vk,simprocAttr]
  refine hL _ _ ?_
  clear hL
  refine ES_seq_gen fun L hL=>?_
  simp -implicitDefEqProofs (maxSteps:=99999999) (disch:=first | omega | (simp only[vl];first | done | omega)) only[vu,va,vg,vs,vw,vk,simprocAttr]
  rw[hgv]
  refine weak_frz (fun i hi=>by rw[find_past (by simp;omega),find_past hi]) (.tup (.cons ?_ (.cons (.same trivial) .nil)))
  rw[ndA_eq]
  exact .agg (.cons (.same trivial) (.cons (.same trivial) (.cons (.same trivial) (.cons .nil .nil))))
 | some u =>
  rw[hg] at hgv
  have hus : u.size ≤ 1000000:=Nat.le_trans (getN_size hg) hz
  by_cases hpn : p=[]
  ·have hut : u=t:=by rw[hpn] at hg;simp only[getN,Option.some.injEq] at hg;exact hg.symm
   subst hut
   have hv : fndV u H.length p = .ptr 4 H.length 0 0:=by unfold fndV;rw[if_pos hpn]
   rw[hv]
   have hcp:=fun H=>copied_d u hus none H
   rw[ndR_eq] at hcp
   obtain ⟨cv,hcv⟩ : ∃ cv,cpV u (H.length+2)=cv:=⟨_,rfl⟩
   have hcv2:=cpV_eq u (H.length+2)
   rw[hcv] at hcv2
   have c1 : cv.isTop=false:=by rw[hcv2];rfl
   have c2 : cv.isAgg=true:=by rw[hcv2];rfl
   have c3 : cv.ncells=4:=by rw[hcv2];rfl
   have hc4 : 4 ≤ cv.cells.length:=by rw[hcv2];exact Nat.le_refl _
   have hcc : AV.agg (cv.cells.take 4)=cv:=by rw[hcv2];rfl
   simp -implicitDefEqProofs (maxSteps:=99999999) (disch:=first | omega | (simp only[vl];first | done | omega)) only[vu,va,vg,vs,vw,vk,simprocAttr]
   refine hL _ _ ?_
   clear hL
   refine ES_seq_gen fun L hL=>?_
   simp -implicitDefEqProofs (maxSteps:=99999999) (disch:=first | omega | (simp only[vl];first | done | omega)) only[vu,va,vg,vs,vw,vk,simprocAttr]
   refine hL _ _ ?_
   clear hL
   refine ES_seq_gen fun L hL=>?_
   simp -implicitDefEqProofs (maxSteps:=99999999) (disch:=first | omega | (simp only[vl];first | done | omega)) only[vu,va,vg,vs,vw,vk,simprocAttr]
   refine callR_ret (hcp _) ?_
   simp only[List.length_cons,Nat.add_assoc,Nat.reduceAdd,hcv]
   have hli:=liesO_lays (t:=u) (H:=some (⟨4,[.agg [.sc (.int .u8 0),.sc (.string ⟨#[]⟩),.sc (.int .i64 0),.lst 0 [] (some [])]],true,143⟩ : ABlk) :: some ⟨4,[.agg [.sc (.int .u8 u.kind),.sc (.string u.text),.sc (.int .i64 u.num),.lst 4 (ndL u.kids) none]],true,143⟩ :: H)
   simp only[List.length_cons,Nat.add_assoc,Nat.reduceAdd] at hli
   have hG0 : ∀ i,i < H.length+2→AHeap.find (cpB u (H.length+2) ++ some (⟨4,[.agg [.sc (.int .u8 0),.sc (.string ⟨#[]⟩),.sc (.int .i64 0),.lst 0 [] (some [])]],true,143⟩ : ABlk) :: some ⟨4,[.agg [.sc (.int .u8 u.kind),.sc (.string u.text),.sc (.int .i64 u.num),.lst 4 (ndL u.kids) none]],true,143⟩ :: H) i=AHeap.find (some (⟨4,[.agg [.sc (.int .u8 0),.sc (.string ⟨#[]⟩),.sc (.int .i64 0),.lst 0 [] (some [])]],true,143⟩ : ABlk) :: some ⟨4,[.agg [.sc (.int .u8 u.kind),.sc (.string u.text),.sc (.int .i64 u.num),.lst 4 (ndL u.kids) none]],true,143⟩ :: H) i:=fun i hi=>AHeap.find_append (by simp only[List.length_cons];omega)
   have hGl : ∀ i,i < H.length→AHeap.find (cpB u (H.length+2) ++ some (⟨4,[.agg [.sc (.int .u8 0),.sc (.string ⟨#[]⟩),.sc (.int .i64 0),.lst 0 [] (some [])]],true,143⟩ : ABlk) :: some ⟨4,[.agg [.sc (.int .u8 u.kind),.sc (.string u.text),.sc (.int .i64 u.num),.lst 4 (ndL u.kids) none]],true,143⟩ :: H) i=AHeap.find H i:=fun i hi=>by rw[hG0 i (by omega),find_past (by simp only[List.length_cons];omega),find_past hi]
   generalize cpB u (H.length+2) ++ some (⟨4,[.agg [.sc (.int .u8 0),.sc (.string ⟨#[]⟩),.sc (.int .i64 0),.lst 0 [] (some [])]],true,143⟩ : ABlk) :: some ⟨4,[.agg [.sc (.int .u8 u.kind),.sc (.string u.text),.sc (.int .i64 u.num),.lst 4 (ndL u.kids) none]],true,143⟩ :: H=G at *
   have g1 : AHeap.find G (H.length+1)=some ⟨4,[.agg [.sc (.int .u8 0),.sc (.string ⟨#[]⟩),.sc (.int .i64 0),.lst 0 [] (some [])]],true,143⟩:=by rw[hG0 _ (by omega),find_top (by simp)]
   have gl:=AHeap.find_lt g1
   have hup : (AV.agg [.sc (.int .u8 0),.sc (.string ⟨#[]⟩),.sc (.int .i64 0),.lst 0 [] (some [])]).upd 0 cv=cv:=by rw[hcv2];rfl
   simp -implicitDefEqProofs (maxSteps:=99999999) (disch:=first | omega | (simp only[vl];first | done | omega)) only[vu,g1,c1,c2,c3,va,vg,vs,vw,vk,simprocAttr]
   refine hL _ _ ?_
   clear hL
   simp -implicitDefEqProofs (maxSteps:=99999999) (disch:=first | omega | (simp only[vl];first | done | omega)) only[vu,g1,c1,c2,c3,va,vg,vs,vw,vk,simprocAttr]
   refine ⟨hc4,?_⟩
   rw[hcc,hgv]
   refine weak_frz (fun i hi=>by rw[AHeap.find_set_ne (by omega),hGl i hi]) (.tup (.cons ?_ (.cons (.same trivial) .nil)))
   rw[← hcv]
   exact cpV_frz u (by omega) (hli.of fun i h1 h2=>AHeap.find_set_ne (by omega))
  ·have hv : fndV t H.length p = .lp (.agg [.sc (.int .u8 u.kind),.sc (.string u.text),.sc (.int .i64 u.num),.lst 4 (ndL u.kids) none]) 0:=by unfold fndV;rw[if_neg hpn,hg,← ndA_eq]
   rw[hv]
   have hcp:=fun H=>copied_d u hus none H
   rw[ndR_eq] at hcp
   obtain ⟨cv,hcv⟩ : ∃ cv,cpV u (H.length+2)=cv:=⟨_,rfl⟩
   have hcv2:=cpV_eq u (H.length+2)
   rw[hcv] at hcv2
   have c1 : cv.isTop=false:=by rw[hcv2];rfl
   have c2 : cv.isAgg=true:=by rw[hcv2];rfl
   have c3 : cv.ncells=4:=by rw[hcv2];rfl
   have hc4 : 4 ≤ cv.cells.length:=by rw[hcv2];exact Nat.le_refl _
   have hcc : AV.agg (cv.cells.take 4)=cv:=by rw[hcv2];rfl
   have hnp : isNilP (.lp (.agg [.sc (.int .u8 u.kind),.sc (.string u.text),.sc (.int .i64 u.num),.lst 4 (ndL u.kids) none]) 0)=false:=rfl
   simp -implicitDefEqProofs (maxSteps:=99999999) (disch:=first | omega | (simp only[vl];first | done | omega)) only[vu,va,vg,vs,vw,vk,simprocAttr]
   refine hL _ _ ?_
   clear hL
   refine ES_seq_gen fun L hL=>?_
   simp -implicitDefEqProofs (maxSteps:=99999999) (disch:=first | omega | (simp only[vl];first | done | omega)) only[vu,hnp,va,vg,vs,vw,vk,simprocAttr]
   refine ⟨trivial,?_⟩
   refine hL _ _ ?_
   clear hL
   simp -implicitDefEqProofs (maxSteps:=99999999) (disch:=first | omega | (simp only[vl];first | done | omega)) only[vu,va,vg,vs,vw,vk,simprocAttr]
   refine callR_ret (hcp _) ?_
   simp only[List.length_cons,Nat.add_assoc,Nat.reduceAdd,hcv]
   have hli:=liesO_lays (t:=u) (H:=some (⟨4,[.agg [.sc (.int .u8 0),.sc (.string ⟨#[]⟩),.sc (.int .i64 0),.lst 0 [] (some [])]],true,143⟩ : ABlk) :: some ⟨4,[.agg [.sc (.int .u8 t.kind),.sc (.string t.text),.sc (.int .i64 t.num),.lst 4 (ndL t.kids) none]],true,143⟩ :: H)
   simp only[List.length_cons,Nat.add_assoc,Nat.reduceAdd] at hli
   have hG0 : ∀ i,i < H.length+2→AHeap.find (cpB u (H.length+2) ++ some (⟨4,[.agg [.sc (.int .u8 0),.sc (.string ⟨#[]⟩),.sc (.int .i64 0),.lst 0 [] (some [])]],true,143⟩ : ABlk) :: some ⟨4,[.agg [.sc (.int .u8 t.kind),.sc (.string t.text),.sc (.int .i64 t.num),.lst 4 (ndL t.kids) none]],true,143⟩ :: H) i=AHeap.find (some (⟨4,[.agg [.sc (.int .u8 0),.sc (.string ⟨#[]⟩),.sc (.int .i64 0),.lst 0 [] (some [])]],true,143⟩ : ABlk) :: some ⟨4,[.agg [.sc (.int .u8 t.kind),.sc (.string t.text),.sc (.int .i64 t.num),.lst 4 (ndL t.kids) none]],true,143⟩ :: H) i:=fun i hi=>AHeap.find_append (by simp only[List.length_cons];omega)
   have hGl : ∀ i,i < H.length→AHeap.find (cpB u (H.length+2) ++ some (⟨4,[.agg [.sc (.int .u8 0),.sc (.string ⟨#[]⟩),.sc (.int .i64 0),.lst 0 [] (some [])]],true,143⟩ : ABlk) :: some ⟨4,[.agg [.sc (.int .u8 t.kind),.sc (.string t.text),.sc (.int .i64 t.num),.lst 4 (ndL t.kids) none]],true,143⟩ :: H) i=AHeap.find H i:=fun i hi=>by rw[hG0 i (by omega),find_past (by simp only[List.length_cons];omega),find_past hi]
   generalize cpB u (H.length+2) ++ some (⟨4,[.agg [.sc (.int .u8 0),.sc (.string ⟨#[]⟩),.sc (.int .i64 0),.lst 0 [] (some [])]],true,143⟩ : ABlk) :: some ⟨4,[.agg [.sc (.int .u8 t.kind),.sc (.string t.text),.sc (.int .i64 t.num),.lst 4 (ndL t.kids) none]],true,143⟩ :: H=G at *
   have g1 : AHeap.find G (H.length+1)=some ⟨4,[.agg [.sc (.int .u8 0),.sc (.string ⟨#[]⟩),.sc (.int .i64 0),.lst 0 [] (some [])]],true,143⟩:=by rw[hG0 _ (by omega),find_top (by simp)]
   have gl:=AHeap.find_lt g1
   have hup : (AV.agg [.sc (.int .u8 0),.sc (.string ⟨#[]⟩),.sc (.int .i64 0),.lst 0 [] (some [])]).upd 0 cv=cv:=by rw[hcv2];rfl
   simp -implicitDefEqProofs (maxSteps:=99999999) (disch:=first | omega | (simp only[vl];first | done | omega)) only[vu,g1,c1,c2,c3,va,vg,vs,vw,vk,simprocAttr]
   refine ⟨hc4,?_⟩
   rw[hcc,hgv]
   refine weak_frz (fun i hi=>by rw[AHeap.find_set_ne (by omega),hGl i hi]) (.tup (.cons ?_ (.cons (.same trivial) .nil)))
   rw[← hcv]
   exact cpV_frz u (by omega) (hli.of fun i h1 h2=>AHeap.find_set_ne (by omega))
end Go.Proofs.YtdjnccnecgblmaaGreatDoor
