import Derived.Test.YtdjnccnecgblmaaGreatDoorUB
import Derived.Test.YtdjnccnecgblmaaGreatDoorUA
import Derived.Test.YtdjnccnecgblmaaGreatDoorUC
namespace Go.Proofs.YtdjnccnecgblmaaGreatDoor
open Go.RowKit Srt
set_option maxRecDepth 100000
set_option linter.unusedVariables false
set_option linter.unusedSimpArgs false
theorem bl_irrefl : ∀ x : List UInt8,Op.bytesLess x x=false
 | []=>rfl
 | a :: x=>by simp[Op.bytesLess,bl_irrefl x]
theorem bl_trans : ∀ x y z : List UInt8,Op.bytesLess x y=true→Op.bytesLess y z=true→Op.bytesLess x z=true
 | _,[],_,h,_=>by simp[Op.bytesLess] at h
 | _,_ :: _,[],_,h=>by simp[Op.bytesLess] at h
 | [],_ :: _,_ :: _,_,_=>rfl
 | a :: x,b :: y,c :: z,h1,h2=>by
  simp only[Op.bytesLess,Bool.or_eq_true,decide_eq_true_eq,Bool.and_eq_true,beq_iff_eq,UInt8.lt_iff_toNat_lt,← UInt8.toNat_inj] at h1 h2 ⊢
  rcases h1 with h1 | ⟨e1,h1⟩ <;> rcases h2 with h2 | ⟨e2,h2⟩
  ·left;omega
  ·left;omega
  ·left;omega
  ·right;exact ⟨by omega,bl_trans x y z h1 h2⟩
theorem bl_total : ∀ x y : List UInt8,Op.bytesLess x y=false→Op.bytesLess y x=false→x=y
 | [],[],_,_=>rfl
 | [],_ :: _,h,_=>by simp[Op.bytesLess] at h
 | _ :: _,[],_,h=>by simp[Op.bytesLess] at h
 | a :: x,b :: y,h1,h2=>by
  simp only[Op.bytesLess,Bool.or_eq_false_iff,decide_eq_false_iff_not,UInt8.lt_iff_toNat_lt,Nat.not_lt] at h1 h2
  have e : a=b:=UInt8.toNat_inj.1 (by omega)
  subst e
  simp only[beq_self_eq_true,Bool.true_and] at h1 h2
  rw[bl_total x y h1.2 h2.2]
theorem bl_asymm {x y : List UInt8} (h : Op.bytesLess x y=true) : Op.bytesLess y x=false:=by
 cases e : Op.bytesLess y x with
 | false=>rfl
 | true=>have:=bl_trans _ _ _ h e;rw[bl_irrefl] at this;cases this
theorem bl_lt : ∀ x y : List UInt8,x < y ↔ Op.bytesLess x y=true
 | [],[]=>by simp[Op.bytesLess]
 | [],_ :: _=>by simp[Op.bytesLess]
 | _ :: _,[]=>by simp[Op.bytesLess]
 | a :: x,b :: y=>by
  rw[List.cons_lt_cons_iff,bl_lt x y]
  simp[Op.bytesLess]
theorem bl_le (x y : List UInt8) : x ≤ y ↔ Op.bytesLess y x=false:=by
 rw[← Bool.not_eq_true,← bl_lt]
 exact Iff.rfl
theorem srt_pair (xs : List (List UInt8)) : (xs.mergeSort fun x y=>decide (x ≤ y)).Pairwise fun x y=>Op.bytesLess y x=false:=by
 refine (List.pairwise_mergeSort (le:=fun x y=>decide (x ≤ y)) ?_ ?_ xs).imp ?_
 ·intro a b c h1 h2
  simp only[decide_eq_true_eq,bl_le] at h1 h2 ⊢
  cases e : Op.bytesLess c a with
  | false=>rfl
  | true =>
   cases e2 : Op.bytesLess b c with
   | true=>rw[bl_trans _ _ _ e2 e] at h1;cases h1
   | false=>rw[bl_total _ _ h2 e2] at e;rw[e] at h1;cases h1
 ·intro a b
  simp only[Bool.or_eq_true,decide_eq_true_eq,bl_le]
  cases e : Op.bytesLess b a with
  | false=>exact .inl rfl
  | true=>exact .inr (bl_asymm e)
 ·intro a b h
  simpa only[decide_eq_true_eq,bl_le] using h
def stepS (T : List Nm) (x : Nm) : Int × List Nm :=
 if nmQ x.1=false then (2,T) else if rightP x.2=false then (4,T) else match mGet x.1 T with
  | some q=>if sameP q x.2=true then (0,T) else (7,T)
  | none=>(0,mSetL x.1 x.2 T)
def foldS : List Nm→List Nm→Int × List Nm
 | T,[]=>(0,T)
 | T,x :: r=>if (stepS T x).1=0 then foldS (stepS T x).2 r else ((stepS T x).1,T)
def putS (T l : List Nm) : Int × List Nm:=if (foldS T l).1=0 then foldS T l else ((foldS T l).1,T)
def okS (A N : List Nm) (x : Nm) : Bool:=nmQ x.1 && (rightP x.2 && (match (mGet x.1 A).or (mGet x.1 N) with
  | some q=>sameP q x.2
  | none=>true))
def okF (A : List Nm) : List Nm→List Nm→Bool
 | N,[]=>true
 | N,x :: r=>if okS A N x=true then okF A (mSetL x.1 x.2 N) r else false
def allS (A : List Nm) (l : List Nm) : List Nm:=l.foldl (fun A x=>mSetL x.1 x.2 A) A
theorem okF_fold (A : List Nm) : ∀ (l T N : List Nm),(∀ n,mGet n T=(mGet n A).or (mGet n N))→(okF A N l=true ↔ (foldS T l).1=0)
 | [],T,N,h=>by simp[okF,foldS]
 | x :: r,T,N,h=>by
  have hx:=h x.1
  unfold okF foldS
  cases e1 : nmQ x.1 with
  | false =>
   have c1 : okS A N x=false:=by simp[okS,e1]
   have c2 : (stepS T x).1=2:=by simp[stepS,e1]
   rw[c1,c2]
   simp[c2]
  | true =>
   cases e2 : rightP x.2 with
   | false =>
    have c1 : okS A N x=false:=by simp[okS,e2]
    have c2 : (stepS T x).1=4:=by simp[stepS,e1,e2]
    rw[c1,c2]
    simp[c2]
   | true =>
    cases e3 : mGet x.1 T with
    | some q =>
     rw[e3] at hx
     cases e4 : sameP q x.2 with
     | false =>
      have c1 : okS A N x=false:=by simp[okS,e1,e2,← hx,e4]
      have c2 : (stepS T x).1=7:=by simp[stepS,e1,e2,e3,e4]
      rw[c1,c2]
      simp[c2]
     | true =>
      have c1 : okS A N x=true:=by simp[okS,e1,e2,← hx,e4]
      have c2 : stepS T x=(0,T):=by simp[stepS,e1,e2,e3,e4]
      rw[c1,c2]
      simp only[if_true]
      refine okF_fold A r T _ fun n=>?_
      rw[mGet_set]
      by_cases en : n=x.1
      ·rw[if_pos en,en,e3]
       cases ea : mGet x.1 A with
       | some a=>rw[ea] at hx;exact hx
       | none=>rw[(sameP_iff _ _).1 e4];rfl
      ·rw[if_neg en];exact h n
    | none =>
     rw[e3] at hx
     have ha : mGet x.1 A=none:=by
      cases ea : mGet x.1 A with
      | some a=>rw[ea] at hx;cases hx
      | none=>rfl
     have hn : mGet x.1 N=none:=by rw[ha] at hx;exact hx.symm
     have c1 : okS A N x=true:=by simp[okS,e1,e2,ha,hn]
     have c2 : stepS T x=(0,mSetL x.1 x.2 T):=by simp[stepS,e1,e2,e3]
     rw[c1,c2]
     simp only[if_true]
     refine okF_fold A r _ _ fun n=>?_
     rw[mGet_set,mGet_set]
     by_cases en : n=x.1
     ·rw[if_pos en,if_pos en,en,ha];rfl
     ·rw[if_neg en,if_neg en];exact h n
theorem allS_fold : ∀ (l T A : List Nm),(∀ n,mGet n T=mGet n A)→(foldS T l).1=0→∀ n,mGet n (foldS T l).2=mGet n (allS A l)
 | [],T,A,h,_=>h
 | x :: r,T,A,h,h0=>by
  unfold foldS at h0 ⊢
  by_cases c : (stepS T x).1=0
  ·rw[if_pos c] at h0 ⊢
   refine allS_fold r _ (mSetL x.1 x.2 A) (fun n=>?_) h0
   unfold stepS at c ⊢
   split at c
   ·simp at c
   rename_i e1
   rw[if_neg e1]
   split at c
   ·simp at c
   rename_i e2
   rw[if_neg e2]
   cases e3 : mGet x.1 T with
   | none =>
    simp only
    rw[mGet_set,mGet_set,h n]
   | some q =>
    rw[e3] at c
    simp only at c ⊢
    split at c
    ·rename_i e4
     rw[if_pos e4,mGet_set]
     by_cases en : n=x.1
     ·rw[if_pos en,en,e3,(sameP_iff _ _).1 e4]
     ·rw[if_neg en];exact h n
    ·simp at c
  ·rw[if_neg c] at h0
   exact absurd h0 c
def GoodT (s : Pa→Prop) (T : List Nm) : Prop:=(T.map (·.1)).Nodup ∧ ∀ n q,mGet n T=some q→nmQ n=true ∧ rightP q=true ∧ s q
theorem stepS_good {s : Pa→Prop} {T : List Nm} {x : Nm} (h : GoodT s T) (hx : s x.2) : GoodT s (stepS T x).2:=by
 unfold stepS
 split
 ·exact h
 rename_i e1
 split
 ·exact h
 rename_i e2
 cases e3 : mGet x.1 T with
 | some q=>simp only;split <;> exact h
 | none =>
  refine ⟨mSetL_nodup h.1,fun n q hq=>?_⟩
  simp only at hq
  rw[mGet_set] at hq
  by_cases en : n=x.1
  ·rw[if_pos en] at hq
   cases hq
   rw[en]
   exact ⟨by simpa using e1,by simpa using e2,hx⟩
  ·rw[if_neg en] at hq;exact h.2 n q hq
theorem foldS_good {s : Pa→Prop} : ∀ {l T : List Nm},GoodT s T→(∀ x ∈ l,s x.2)→GoodT s (foldS T l).2
 | [],T,h,_=>h
 | x :: r,T,h,hx=>by
  unfold foldS
  split
  ·exact foldS_good (stepS_good h (hx x (by simp))) fun y hy=>hx y (by simp[hy])
  ·exact h
theorem putS_good {s : Pa→Prop} {l T : List Nm} (h : GoodT s T) (hx : ∀ x ∈ l,s x.2) : GoodT s (putS T l).2:=by
 unfold putS
 split
 ·exact foldS_good h hx
 ·exact h
theorem stepS_len {T : List Nm} {x : Nm} : (stepS T x).2.length ≤ T.length+1:=by
 unfold stepS
 split
 ·simp
 split
 ·simp
 cases mGet x.1 T with
 | some q=>simp only;split <;> simp
 | none=>exact mSetL_length_le
theorem foldS_len : ∀ {l T : List Nm},(foldS T l).2.length ≤ T.length+l.length
 | [],T=>by simp[foldS]
 | x :: r,T=>by
  unfold foldS
  split
  ·have h1:=foldS_len (l:=r) (T:=(stepS T x).2)
   have h2:=stepS_len (T:=T) (x:=x)
   simp only[List.length_cons]
   omega
  ·simp
theorem putS_len {l T : List Nm} : (putS T l).2.length ≤ T.length+l.length:=by
 unfold putS
 split
 ·exact foldS_len
 ·simp
theorem same_len {T A : List Nm} (hT : (T.map (·.1)).Nodup) (hA : (A.map (·.1)).Nodup) (h : ∀ n,mGet n T=mGet n A) : T.length=A.length:=by
 have k : ∀ {T A : List Nm},(T.map (·.1)).Nodup→(∀ n,mGet n T=mGet n A)→T.length ≤ A.length:=by
  intro T A hT h
  have:=nodup_le (m:=A.map (·.1)) hT fun n hn=>by
   rw[mGet_mem] at hn ⊢
   rw[← h n];exact hn
  simpa using this
 exact Nat.le_antisymm (k hT h) (k hA fun n=>(h n).symm)
theorem allS_nodup : ∀ {l A : List Nm},(A.map (·.1)).Nodup→((allS A l).map (·.1)).Nodup
 | [],A,h=>h
 | x :: r,A,h=>allS_nodup (l:=r) (mSetL_nodup h)
theorem allS_take {l A : List Nm} {k : Nat} (h : k < l.length) : allS A (l.take (k+1))=mSetL (l[k]).1 (l[k]).2 (allS A (l.take k)):=by
 unfold allS
 rw[List.take_succ_eq_append_getElem h,List.foldl_append]
 rfl
theorem again_fold {s : Pa→Prop} {T : List Nm} (h : GoodT s T) : ∀ {l : List Nm},(∀ x ∈ l,mGet x.1 T=some x.2)→foldS T l=(0,T)
 | [],_=>rfl
 | x :: r,hx=>by
  have h1:=hx x (by simp)
  obtain ⟨g1,g2,_⟩:=h.2 _ _ h1
  have c : stepS T x=(0,T):=by
   simp[stepS,g1,g2,h1,sameP_refl]
  unfold foldS
  rw[c]
  simp only[if_true]
  exact again_fold h fun y hy=>hx y (by simp[hy])
theorem again_put {s : Pa→Prop} {T l : List Nm} (h : GoodT s T) (hx : ∀ x ∈ l,mGet x.1 T=some x.2) : putS T l=(0,T):=by
 unfold putS
 rw[again_fold h hx]
 rfl
abbrev keyed (T : List Nm) : List (ByteArray × AV):=T.map fun p=>(p.1,paV p.2)
theorem keyed_E (T : List Nm) : nE (keyed T)=mE paV T:=by simp[nE,mE,keyed]
theorem nameR_len (l : List (ByteArray × AV)) : (nameR l).length=l.length:=by simp[nameR,ofL_length,toL]
theorem nameR_perm (l : List (ByteArray × AV)) : (nameR l).Perm (l.map (·.1)):=by
 unfold nameR
 have h1:=(List.mergeSort_perm (toL (l.map (·.1))) fun x y=>decide (x ≤ y)).map fun x=>(⟨x.toArray⟩ : ByteArray)
 have h2 : (toL (l.map (·.1))).map (fun x=>(⟨x.toArray⟩ : ByteArray))=l.map (·.1):=ofL_toL _
 rw[h2] at h1
 exact h1
theorem keyed_keys (T : List Nm) : (keyed T).map (·.1)=T.map (·.1):=by simp[keyed,Function.comp_def]
theorem names_mem {T : List Nm} {n : ByteArray} (h : n ∈ nameR (keyed T)) : (mGet n T).isSome=true:=by
 rw[(nameR_perm _).mem_iff,keyed_keys] at h
 exact mGet_mem.1 h
theorem names_rise {T : List Nm} (h : (T.map (·.1)).Nodup) {i : Nat} (hi : i+1 < (nameR (keyed T)).length) : Op.bytesLess (nthS (nameR (keyed T)) i).toList (nthS (nameR (keyed T)) (i+1)).toList=true:=by
 have hn : (nameR (keyed T)).Nodup:=(nameR_perm _).nodup_iff.2 (by rw[keyed_keys];exact h)
 rw[nthS_eq hi,nthS_eq (by omega)]
 have hp:=srt_pair (toL ((keyed T).map (·.1)))
 generalize hz : (toL ((keyed T).map (·.1))).mergeSort (fun x y=>decide (x ≤ y))=z at hp
 have hr : nameR (keyed T)=ofL z:=by unfold nameR;rw[hz]
 have hl : i+1 < z.length:=by rw[hr,ofL_length] at hi;exact hi
 have h1:=List.pairwise_iff_getElem.1 hp i (i+1) (by omega) hl (by omega)
 have e1 : ((nameR (keyed T))[i]'(by omega)).toList=z[i]'(by omega):=by
  rw[ByteArray.toList_eq]
  simp[hr,ofL]
 have e2 : ((nameR (keyed T))[i+1]'hi).toList=z[i+1]'hl:=by
  rw[ByteArray.toList_eq]
  simp[hr,ofL]
 rw[e1,e2]
 cases e : Op.bytesLess (z[i]'(by omega)) (z[i+1]'hl) with
 | true=>rfl
 | false =>
  have hb:=bl_total _ _ e h1
  rw[← e1,← e2] at hb
  have hne:=List.pairwise_iff_getElem.1 hn i (i+1) (by omega) hi (by omega)
  exact absurd (str_inj hb) hne
end Go.Proofs.YtdjnccnecgblmaaGreatDoor
namespace Go.Proofs.YtdjnccnecgblmaaGreatDoor
open Go.RowKit
set_option maxRecDepth 100000
set_option linter.unusedVariables false
set_option linter.unusedSimpArgs false
theorem strs_ids {p : Nat→Prop} (l : List ByteArray) : AV.idsL p (strs l):=by
 rw[AV.idsL_iff]
 intro x hx
 obtain ⟨s,_,rfl⟩:=List.mem_map.1 hx
 trivial
theorem pthA_ids {p : Nat→Prop} (l : List Int) : AV.idsL p (pthA l):=by
 rw[AV.idsL_iff]
 intro x hx
 obtain ⟨s,_,rfl⟩:=List.mem_map.1 hx
 trivial
theorem ndA_idsG {p : Nat→Prop} (t : Nd) : (ndA t).ids p:=by
 induction t using Nd.ind with
 | _ t ih =>
  rw[ndA_eq]
  refine ⟨trivial,trivial,trivial,⟨?_,trivial⟩,trivial⟩
  rw[ndL_map,AV.idsL_iff]
  intro x hx
  obtain ⟨k,hk,rfl⟩:=List.mem_map.1 hx
  exact ih k hk
theorem ndL_idsG {p : Nat→Prop} (l : List Nd) : AV.idsL p (ndL l):=by
 rw[ndL_map,AV.idsL_iff]
 intro x hx
 obtain ⟨k,hk,rfl⟩:=List.mem_map.1 hx
 exact ndA_idsG k
theorem paV_ids {p : Nat→Prop} (q : Pa) : (paV q).ids p:=⟨trivial,trivial,trivial,trivial,⟨strs_ids _,trivial⟩,⟨strs_ids _,trivial⟩,trivial,⟨pthA_ids _,trivial⟩,trivial,trivial,trivial,trivial,⟨ndL_idsG _,trivial⟩,⟨ndL_idsG _,trivial⟩,trivial⟩
theorem mE_ids {p : Nat→Prop} (T : List Nm) : AV.idsL p (mE paV T):=by
 rw[AV.idsL_iff]
 intro x hx
 obtain ⟨q,_,rfl⟩:=List.mem_map.1 hx
 exact ⟨trivial,paV_ids q.2,trivial⟩
theorem weak_panP {H G : AHeap} {x y : AV} (h : Over H G) (hz : Gz G H.length [] x y) : Weak H (.pan x) G (.pan y) H:=overG h hz
theorem mget_some {T : List Nm} {n : ByteArray} {q : Pa} (h : mGet n T=some q) : mIdx (.string n) (mE paV T) < (mE paV T).length ∧ ∀ z,mVal (.string n) z (mE paV T)=paV q:=by
 refine ⟨?_,fun z=>by rw[mVal_mE,h];rfl⟩
 rw[mIdx_mE,mE_length]
 have:=kIdx_lt (k:=n) (M:=T)
 rw[h] at this
 simpa using this
theorem mget_none {T : List Nm} {n : ByteArray} (h : mGet n T=none) : mIdx (.string n) (mE paV T)=(mE paV T).length ∧ ∀ z,mVal (.string n) z (mE paV T)=z:=by
 refine ⟨?_,fun z=>by rw[mVal_mE,h];rfl⟩
 rw[mIdx_mE,mE_length]
 have h1:=kIdx_lt (k:=n) (M:=T)
 have h2:=kIdx_le (k:=n) (M:=T)
 rw[h] at h1
 simp at h1
 omega
def TabS (T : List Nm) : Prop:=∀ n q,mGet n T=some q→q.sm
set_option maxHeartbeats 0 in
theorem addG_ok (x : Nm) (hx : Nm.sm x) (T : List Nm) (hT : TabS T) (ex : Bool) (m : Nat) (H : AHeap) (hm : AHeap.find H m=some ⟨0,mE paV T,ex,0⟩) (h0 : (stepS T x).1=0) :
  D Tryz.prog 33 [.agg [.ptr 0 m 0 0],nmV x] H (.ret (.tup [])) (AHeap.set H m (some ⟨0,mE paV (stepS T x).2,ex,0⟩)):=by
 have hmt:=fun (e : Value) H=>must_t e H
 have hmH:=AHeap.find_lt hm
 have hok:=mE_ok paV T
 have hnm:=fun H=>snameG_d x.1 hx.1 H
 have hrt:=fun H=>pright_d x.2 hx.2 H
 have e1' : nmQ x.1=true:=by
  cases e1 : nmQ x.1 with
  | true=>rfl
  | false=>simp[stepS,e1] at h0
 have e2' : rightP x.2=true:=by
  cases e2 : rightP x.2 with
  | true=>rfl
  | false=>simp[stepS,e1',e2] at h0
 rw[e1'] at hnm
 rw[e2'] at hrt
 have how:=fun H=>own_d x.2 e2' hx.2 H
 refine D_of_DK (by rw[AHeap.set_length];exact Nat.le_refl _) (dk33 (E_of_ES ?_))
 simp only[ic33,ux]
 refine ES_seq_gen fun L hL=>?_
 simp -implicitDefEqProofs (maxSteps:=99999999) (disch:=first | omega | (simp only[vl];first | done | omega)) only[vu,hm,va,vg,vs,vw,vk,simprocAttr]
 refine hL _ _ ?_
 clear hL
 refine ES_seq_gen fun L hL=>?_
 simp -implicitDefEqProofs (maxSteps:=99999999) (disch:=first | omega | (simp only[vl];first | done | omega)) only[vu,hm,va,vg,vs,vw,vk,simprocAttr]
 refine callR_ret (hnm _) ?_
 simp -implicitDefEqProofs (maxSteps:=99999999) (disch:=first | omega | (simp only[vl];first | done | omega)) only[vu,hm,va,vg,vs,vw,vk,simprocAttr]
 refine callR_ret (hmt _ _) ?_
 simp -implicitDefEqProofs (maxSteps:=99999999) (disch:=first | omega | (simp only[vl];first | done | omega)) only[vu,hm,va,vg,vs,vw,vk,simprocAttr]
 refine hL _ _ ?_
 clear hL
 refine ES_seq_gen fun L hL=>?_
 simp -implicitDefEqProofs (maxSteps:=99999999) (disch:=first | omega | (simp only[vl];first | done | omega)) only[vu,hm,va,vg,vs,vw,vk,simprocAttr]
 refine callR_ret (hrt _) ?_
 simp -implicitDefEqProofs (maxSteps:=99999999) (disch:=first | omega | (simp only[vl];first | done | omega)) only[vu,hm,va,vg,vs,vw,vk,simprocAttr]
 refine callR_ret (hmt _ _) ?_
 simp -implicitDefEqProofs (maxSteps:=99999999) (disch:=first | omega | (simp only[vl];first | done | omega)) only[vu,hm,va,vg,vs,vw,vk,simprocAttr]
 refine hL _ _ ?_
 clear hL
 refine ES_seq_gen fun L hL=>?_
 cases e3 : mGet x.1 T with
 | some q =>
  cases e4 : sameP q x.2 with
  | false=>simp[stepS,e1',e2',e3,e4] at h0
  | true =>
   have hS : stepS T x=(0,T):=by simp[stepS,e1',e2',e3,e4]
   obtain ⟨hix,hmv⟩:=mget_some e3
   have hsm:=fun H=>psame_d q x.2 (hT _ _ e3) H
   rw[e4] at hsm
   simp -implicitDefEqProofs (maxSteps:=99999999) (disch:=first | omega | (simp only[vl];first | done | omega)) only[vu,vg,hm,hok,hix,hmv,va,vg,vs,vw,vk,simprocAttr]
   refine hL _ _ ?_
   clear hL
   refine ES_seq_gen fun L hL=>?_
   simp -implicitDefEqProofs (maxSteps:=99999999) (disch:=first | omega | (simp only[vl];first | done | omega)) only[vu,hm,va,vg,vs,vw,vk,simprocAttr]
   refine callR_ret (hsm _) ?_
   simp -implicitDefEqProofs (maxSteps:=99999999) (disch:=first | omega | (simp only[vl];first | done | omega)) only[vu,hm,va,vg,vs,vw,vk,simprocAttr]
   refine callR_ret (hmt _ _) ?_
   simp -implicitDefEqProofs (maxSteps:=99999999) (disch:=first | omega | (simp only[vl];first | done | omega)) only[vu,hm,va,vg,vs,vw,vk,simprocAttr]
   refine hL _ _ ?_
   clear hL
   simp -implicitDefEqProofs (maxSteps:=99999999) (disch:=first | omega | (simp only[vl];first | done | omega)) only[vu,hm,va,vg,vs,vw,vk,simprocAttr]
   rw[hS,cnt_idem hm]
   exact weak_over (by repeat constructor) (.tup .nil)
 | none =>
  have hS : stepS T x=(0,mSetL x.1 x.2 T):=by simp[stepS,e1',e2',e3]
  obtain ⟨hix,hmv⟩:=mget_none e3
  have hmp : mPut (.string x.1) (paV x.2) (mE paV T)=mE paV (mSetL x.1 x.2 T):=mPut_mE
  simp -implicitDefEqProofs (maxSteps:=99999999) (disch:=first | omega | (simp only[vl];first | done | omega)) only[vu,vg,hm,hok,hix,hmv,Nat.lt_irrefl,va,vg,vs,vw,vk,simprocAttr]
  refine hL _ _ ?_
  clear hL
  refine ES_seq_gen fun L hL=>?_
  simp -implicitDefEqProofs (maxSteps:=99999999) (disch:=first | omega | (simp only[vl];first | done | omega)) only[vu,hm,va,vg,vs,vw,vk,simprocAttr]
  refine callR_ret (hmt _ _) ?_
  simp -implicitDefEqProofs (maxSteps:=99999999) (disch:=first | omega | (simp only[vl];first | done | omega)) only[vu,hm,va,vg,vs,vw,vk,simprocAttr]
  refine hL _ _ ?_
  clear hL
  simp -implicitDefEqProofs (maxSteps:=99999999) (disch:=first | omega | (simp only[vl];first | done | omega)) only[vu,hm,va,vg,vs,vw,vk,simprocAttr]
  refine callD_same (how _) ?_
  simp -implicitDefEqProofs (maxSteps:=99999999) (disch:=first | omega | (simp only[vl];first | done | omega)) only[vu,vg,hm,hok,hmp,va,vg,vs,vw,vk,simprocAttr]
  rw[hS]
  refine weak_ret (G:=[_,_,_]) (by rw[AHeap.set_length];exact Nat.le_refl _) (fun id k hk=>?_) (.tup .nil)
  by_cases e : id=m
  ·subst e
   rw[AHeap.find_set_same hmH] at hk
   cases hk
   exact .inr (mE_ids _)
  ·rw[AHeap.find_set_ne e] at hk
   exact .inl ⟨AHeap.find_lt hk,hk⟩
set_option maxHeartbeats 0 in
theorem addG_no (x : Nm) (hx : Nm.sm x) (T : List Nm) (hT : TabS T) (ex : Bool) (m : Nat) (H : AHeap) (hm : AHeap.find H m=some ⟨0,mE paV T,ex,0⟩) (h0 : ¬ (stepS T x).1=0) :
  D Tryz.prog 33 [.agg [.ptr 0 m 0 0],nmV x] H (.pan (.ifc 31 (.sc (.int .i64 (stepS T x).1)))) H:=by
 have hmt:=fun (e : Value) H=>must_t e H
 have hmp:=fun (e : Value) H=>must_p e H
 have hmH:=AHeap.find_lt hm
 have hok:=mE_ok paV T
 have hnm:=fun H=>snameG_d x.1 hx.1 H
 have hrt:=fun H=>pright_d x.2 hx.2 H
 refine D_of_DK (Nat.le_refl _) (dk33 (E_of_ES ?_))
 simp only[ic33,ux]
 refine ES_seq_gen fun L hL=>?_
 simp -implicitDefEqProofs (maxSteps:=99999999) (disch:=first | omega | (simp only[vl];first | done | omega)) only[vu,hm,va,vg,vs,vw,vk,simprocAttr]
 refine hL _ _ ?_
 clear hL
 refine ES_seq_gen fun L hL=>?_
 simp -implicitDefEqProofs (maxSteps:=99999999) (disch:=first | omega | (simp only[vl];first | done | omega)) only[vu,hm,va,vg,vs,vw,vk,simprocAttr]
 refine callR_ret (hnm _) ?_
 cases e1 : nmQ x.1 with
 | false =>
  have e : (stepS T x).1=2:=by simp[stepS,e1]
  simp -implicitDefEqProofs (maxSteps:=99999999) (disch:=first | omega | (simp only[vl];first | done | omega)) only[vu,hm,va,vg,vs,vw,vk,simprocAttr]
  refine callR_pan (hmp _ _) ?_
  rw[e]
  exact weak_panP (by repeat constructor) (.ifc (.same trivial))
 | true =>
 simp -implicitDefEqProofs (maxSteps:=99999999) (disch:=first | omega | (simp only[vl];first | done | omega)) only[vu,hm,va,vg,vs,vw,vk,simprocAttr]
 refine callR_ret (hmt _ _) ?_
 simp -implicitDefEqProofs (maxSteps:=99999999) (disch:=first | omega | (simp only[vl];first | done | omega)) only[vu,hm,va,vg,vs,vw,vk,simprocAttr]
 refine hL _ _ ?_
 clear hL
 refine ES_seq_gen fun L hL=>?_
 simp -implicitDefEqProofs (maxSteps:=99999999) (disch:=first | omega | (simp only[vl];first | done | omega)) only[vu,hm,va,vg,vs,vw,vk,simprocAttr]
 refine callR_ret (hrt _) ?_
 cases e2 : rightP x.2 with
 | false =>
  have e : (stepS T x).1=4:=by simp[stepS,e1,e2]
  simp -implicitDefEqProofs (maxSteps:=99999999) (disch:=first | omega | (simp only[vl];first | done | omega)) only[vu,hm,va,vg,vs,vw,vk,simprocAttr]
  refine callR_pan (hmp _ _) ?_
  rw[e]
  exact weak_panP (by repeat constructor) (.ifc (.same trivial))
 | true =>
 simp -implicitDefEqProofs (maxSteps:=99999999) (disch:=first | omega | (simp only[vl];first | done | omega)) only[vu,hm,va,vg,vs,vw,vk,simprocAttr]
 refine callR_ret (hmt _ _) ?_
 simp -implicitDefEqProofs (maxSteps:=99999999) (disch:=first | omega | (simp only[vl];first | done | omega)) only[vu,hm,va,vg,vs,vw,vk,simprocAttr]
 refine hL _ _ ?_
 clear hL
 refine ES_seq_gen fun L hL=>?_
 cases e3 : mGet x.1 T with
 | none=>exact absurd (by simp[stepS,e1,e2,e3]) h0
 | some q =>
  cases e4 : sameP q x.2 with
  | true=>exact absurd (by simp[stepS,e1,e2,e3,e4]) h0
  | false =>
   have e : (stepS T x).1=7:=by simp[stepS,e1,e2,e3,e4]
   obtain ⟨hix,hmv⟩:=mget_some e3
   have hsm:=fun H=>psame_d q x.2 (hT _ _ e3) H
   rw[e4] at hsm
   simp -implicitDefEqProofs (maxSteps:=99999999) (disch:=first | omega | (simp only[vl];first | done | omega)) only[vu,vg,hm,hok,hix,hmv,va,vg,vs,vw,vk,simprocAttr]
   refine hL _ _ ?_
   clear hL
   refine ES_seq_gen fun L hL=>?_
   simp -implicitDefEqProofs (maxSteps:=99999999) (disch:=first | omega | (simp only[vl];first | done | omega)) only[vu,hm,va,vg,vs,vw,vk,simprocAttr]
   refine callR_ret (hsm _) ?_
   simp -implicitDefEqProofs (maxSteps:=99999999) (disch:=first | omega | (simp only[vl];first | done | omega)) only[vu,hm,va,vg,vs,vw,vk,simprocAttr]
   refine callR_pan (hmp _ _) ?_
   rw[e]
   exact weak_panP (by repeat constructor) (.ifc (.same trivial))
end Go.Proofs.YtdjnccnecgblmaaGreatDoor
namespace Go.Proofs.YtdjnccnecgblmaaGreatDoor
open Go.RowKit
set_option maxRecDepth 100000
set_option linter.unusedVariables false
set_option linter.unusedSimpArgs false
def StoreAt (b s : Nat) (T : List Nm) (H : AHeap) : Prop:=∃ m,(s ≠ m ∧ m ≠ b) ∧ AHeap.find H s=some (stB (.ptr 0 m 0 0)) ∧ AHeap.find H m=some ⟨0,mE paV T,true,0⟩
theorem StoreAt.keep {b s : Nat} {T : List Nm} {H G : AHeap} (h : StoreAt b s T H) (k : ∀ id,id < H.length→id ≠ b→AHeap.find G id=AHeap.find H id) (hb : s ≠ b) : StoreAt b s T G:=by
 obtain ⟨m,h0,h1,h2⟩:=h
 exact ⟨m,h0,by rw[k _ (AHeap.find_lt h1) hb];exact h1,by rw[k _ (AHeap.find_lt h2) h0.2];exact h2⟩
def PutG (b s : Nat) (H : AHeap) (e : Int) (T : List Nm) (en : AEnd) (H' : AHeap) : Prop:=en = .ret (.sc (.int .i64 e)) ∧ StoreAt b s T H' ∧ H.length ≤ H'.length ∧ ∀ id,id < H.length→id ≠ s→AHeap.find H' id=AHeap.find H id
theorem foldS_take {T l : List Nm} : ∀ {k : Nat},(foldS T (l.take k)).1=0→k < l.length→foldS T (l.take (k+1))=if (stepS (foldS T (l.take k)).2 (nthM l k)).1=0 then stepS (foldS T (l.take k)).2 (nthM l k) else ((stepS (foldS T (l.take k)).2 (nthM l k)).1,(foldS T (l.take k)).2):=by
 induction l generalizing T with
 | nil=>intro k _ h;simp at h
 | cons x r ih =>
  intro k h0 hk
  cases k with
  | zero =>
   simp only[List.take_zero,List.take_succ_cons,foldS]
   have : nthM (x :: r) 0=x:=by simp[nthM]
   rw[this]
   split
   ·rename_i h;rw[← h]
   ·rfl
  | succ k =>
   have hn : nthM (x :: r) (k+1)=nthM r k:=by simp[nthM]
   rw[List.take_succ_cons] at h0 ⊢
   rw[List.take_succ_cons,hn]
   simp only[foldS] at h0 ⊢
   by_cases c : (stepS T x).1=0
   ·simp only[if_pos c] at h0 ⊢
    exact ih h0 (by simpa using hk)
   ·rw[if_neg c] at h0
    exact absurd h0 c
theorem foldS_stop {T : List Nm} : ∀ {l : List Nm} {k : Nat},¬ (foldS T (l.take k)).1=0→foldS T l=foldS T (l.take k):=by
 intro l
 induction l generalizing T with
 | nil=>intro k _;simp
 | cons x r ih =>
  intro k h0
  cases k with
  | zero=>simp[foldS] at h0
  | succ k =>
   rw[List.take_succ_cons] at h0 ⊢
   simp only[foldS] at h0 ⊢
   by_cases c : (stepS T x).1=0
   ·simp only[if_pos c] at h0 ⊢
    exact ih h0
   ·simp only[if_neg c]
theorem TabS_step {T : List Nm} {x : Nm} (h : TabS T) (hx : x.2.sm) : TabS (stepS T x).2:=by
 intro n q hq
 unfold stepS at hq
 split at hq
 ·exact h n q hq
 split at hq
 ·exact h n q hq
 cases e3 : mGet x.1 T with
 | some q'=>rw[e3] at hq;simp only at hq;split at hq <;> exact h n q hq
 | none =>
  rw[e3] at hq
  simp only at hq
  rw[mGet_set] at hq
  by_cases en : n=x.1
  ·rw[if_pos en] at hq;cases hq;exact hx
  ·rw[if_neg en] at hq;exact h n q hq
theorem TabS_fold : ∀ {l T : List Nm},TabS T→(∀ x ∈ l,x.2.sm)→TabS (foldS T l).2
 | [],T,h,_=>h
 | x :: r,T,h,hx=>by
  unfold foldS
  split
  ·exact TabS_fold (TabS_step h (hx x (by simp))) fun y hy=>hx y (by simp[hy])
  ·exact h
set_option maxHeartbeats 0 in
theorem putG_d (b s : Nat) (T l : List Nm) (hT : TabS T) (hl : SmL l) (ro : Option (List AV)) (H : AHeap) (hb : b < H.length) (hsb : s ≠ b) (hs : StoreAt b s T H) :
  DK Tryz.prog 11 [.ptr 1 s 0 0,.lst 15 (pnR l) ro] H (PutG b s H (putS T l).1 (putS T l).2):=by
 have hsA:=hs
 obtain ⟨m,hsm,hs,hm⟩:=hs
 have hsl:=AHeap.find_lt hs
 have hml:=AHeap.find_lt hm
 have hll:=hl.1
 refine dk11 ?_
 simp -implicitDefEqProofs (maxSteps:=99999999) (disch:=first | omega | (simp only[vl];first | done | omega)) only[ic11,vu,va,vg,vs,vw,vk,simprocAttr]
 simp only[ic11b,ux]
 refine ES_seq_gen fun L hL=>?_
 simp -implicitDefEqProofs (maxSteps:=99999999) (disch:=first | omega | (simp only[vl];first | done | omega)) only[vu,va,vg,vs,vw,vk,simprocAttr]
 refine callR_ret (known_d s m _ (by rw[AHeap.find_cons hsl];exact hs)) ?_
 simp -implicitDefEqProofs (maxSteps:=99999999) (disch:=first | omega | (simp only[vl];first | done | omega)) only[vu,va,vg,vs,vw,vk,simprocAttr]
 refine callR_ret (must_t _ _) ?_
 simp -implicitDefEqProofs (maxSteps:=99999999) (disch:=first | omega | (simp only[vl];first | done | omega)) only[vu,va,vg,vs,vw,vk,simprocAttr]
 refine hL _ _ ?_
 clear hL
 refine ES_seq_gen fun L hL=>?_
 have hs':=hs
 unfold stB at hs'
 simp -implicitDefEqProofs (maxSteps:=99999999) (disch:=first | omega | (simp only[vl];first | done | omega)) only[vu,hs',va,vg,vs,vw,vk,simprocAttr]
 refine callR_ret (mapsClone_d m _ true _ (by rw[AHeap.find_cons hml];exact hm)) ?_
 simp -implicitDefEqProofs (maxSteps:=99999999) (disch:=first | omega | (simp only[vl];first | done | omega)) only[vu,hs',va,vg,vs,vw,vk,simprocAttr]
 refine hL _ _ ?_
 clear hL
 refine ES_seq_gen fun L hL=>?_
 refine ES_seq_gen fun L hL=>?_
 simp -implicitDefEqProofs (maxSteps:=99999999) (disch:=first | omega | (simp only[vl];first | done | omega)) only[vu,hs',va,vg,vs,vw,vk,simprocAttr]
 refine hL _ _ ?_
 clear hL
 refine ES_loopL (fun ts F=>∃ k : Nat,(k ≤ l.length ∧ (foldS T (l.take k)).1=0) ∧ (AHeap.find F H.length=some ⟨1,[.sc (.int .i64 0)],true,31⟩ ∧ AHeap.find F (H.length+1)=some ⟨0,mE paV (foldS T (l.take k)).2,true,0⟩ ∧ AHeap.find F (H.length+2)=some ⟨1,[.agg [.ptr 0 (H.length+1) 0 0]],true,67⟩ ∧ H.length+3 ≤ F.length ∧ ∀ id,id < H.length→AHeap.find F id=AHeap.find H id) ∧ Fr [some (.ptr 1 s 0 0),none,none,none,some (.ptr 1 H.length 0 0),some (.ptr 1 (H.length+2) 0 0),none,none,none,none,none,none,none,none,none,none,none,none,none,some (.lst 15 (pnR l) ro),some (.sc (.int .i64 l.length)),some (.sc (.int .i64 k)),none,none,none,none,none,none,none,none,none,none,none] ts) (fun ts _=>l.length - (intV (ts.getD 21 .top)).toNat) ?_ ?_
 ·refine ⟨0,⟨Nat.zero_le _,rfl⟩,⟨?_,?_,?_,by simp only[List.length_cons];omega,fun id hid=>?_⟩,by simp[Fr,pnR_length]⟩
  ·rw[find_past (by simp only[List.length_cons];omega),find_past (by simp only[List.length_cons];omega),find_top rfl]
  ·rw[find_past (by simp only[List.length_cons];omega),find_top (by simp)]
   rfl
  ·rw[find_top (by simp)]
  ·rw[find_past (by simp only[List.length_cons];omega),find_past (by simp only[List.length_cons];omega),find_past (by omega)]
 rintro ts F ⟨k,⟨hk,hf0⟩,⟨f1,f2,f3,f4,f5⟩,hfr⟩ L2 hL2
 obtain ⟨js,rfl⟩:=hfr.opened
 clear hfr
 by_cases hd : k < l.length
 ·have d1 : (k : Int) < l.length:=by omega
  have hg:=pnR_get hd
  have hx:=hl.nth hd
  have htk:=foldS_take hf0 hd
  have hTk : TabS (foldS T (l.take k)).2:=TabS_fold hT fun x hx=>(hl.2 x (List.mem_of_mem_take hx)).2
  have g2 : ∀ b,AHeap.find (b :: F) (H.length+1)=some ⟨0,mE paV (foldS T (l.take k)).2,true,0⟩:=fun b=>by rw[find_past (by omega),f2]
  generalize foldS T (l.take k)=P at *
  simp -implicitDefEqProofs (maxSteps:=99999999) (disch:=first | omega | (simp only[vl];first | done | omega)) only[mk,vu,d1,hg,f3,pnR_length,va,vg,vs,vw,vk,simprocAttr]
  by_cases c : (stepS P.2 (nthM l k)).1=0
  ·rw[if_pos c] at htk
   refine ⟨by omega,callR_ret (addG_ok (nthM l k) hx P.2 hTk true (H.length+1) _ (g2 _) c) ?_⟩
   simp -implicitDefEqProofs (maxSteps:=99999999) (disch:=first | omega | (simp only[vl];first | done | omega)) only[vu,va,vg,vs,vw,vk,simprocAttr]
   refine hL2 _ _ ⟨k+1,⟨by omega,by rw[htk];exact c⟩,⟨?_,?_,?_,by simp only[List.length_cons,AHeap.set_length];omega,fun id hid=>?_⟩,by simp[Fr]⟩ (by simp[intV,mk];omega)
   ·rw[find_past (by rw[AHeap.set_length];omega),AHeap.find_set_ne (by omega),f1]
   ·rw[find_past (by rw[AHeap.set_length];omega),AHeap.find_set_same (by omega),htk]
   ·rw[find_past (by rw[AHeap.set_length];omega),AHeap.find_set_ne (by omega),f3]
   ·rw[find_past (by rw[AHeap.set_length];omega),AHeap.find_set_ne (by omega),f5 id hid]
  ·rw[if_neg c] at htk
   have hst:=foldS_stop (T:=T) (l:=l) (k:=k+1) (by rw[htk];exact c)
   have hput : putS T l=((stepS P.2 (nthM l k)).1,T):=by
    unfold putS
    rw[hst,htk]
    exact if_neg c
   rw[hput]
   refine ⟨by omega,callR_pan (addG_no (nthM l k) hx P.2 hTk true (H.length+1) _ (g2 _) c) ?_⟩
   simp -implicitDefEqProofs (maxSteps:=99999999) (disch:=first | omega | (simp only[vl];first | done | omega)) only[ic29,ic29b,tassF,extF,vu,f1,va,vg,vs,vw,vk,simprocAttr]
   have hk : ∀ (x : Option ABlk) (b : Option ABlk) (id : Nat),id < H.length→AHeap.find (x :: AHeap.set F H.length b) id=AHeap.find H id:=fun x b id hid=>by
    rw[find_past (by rw[AHeap.set_length];omega),AHeap.find_set_ne (by omega),f5 id hid]
   exact ⟨rfl,hsA.keep (fun id hid _=>hk _ _ id hid) hsb,by simp only[List.length_cons,AHeap.set_length];omega,fun id hid _=>hk _ _ id hid⟩
 ·have d1 : ¬ (k : Int) < l.length:=by omega
  have hkl : l.take k=l:=List.take_of_length_le (by omega)
  rw[hkl] at f2 hf0
  have hput : putS T l=foldS T l:=by unfold putS;rw[if_pos hf0]
  rw[hput]
  simp -implicitDefEqProofs (maxSteps:=99999999) (disch:=first | omega | (simp only[vl];first | done | omega)) only[mk,vu,d1,va,vg,vs,vw,vk,simprocAttr]
  clear hL2
  refine hL _ _ ?_
  clear hL
  have fs:=(f5 s hsl).trans hs'
  have n1 : ¬ H.length=s:=by omega
  simp -implicitDefEqProofs (maxSteps:=99999999) (disch:=first | omega | (simp only[vl];first | done | omega)) only[ic29,ic29b,tassF,extF,vu,f1,f3,fs,n1,va,vg,vs,vw,vk,simprocAttr]
  refine ⟨by rw[hput,hf0],⟨H.length+1,⟨by omega,by omega⟩,?_,?_⟩,by simp only[AHeap.set_length];omega,fun id hid hne=>?_⟩
  ·rw[AHeap.find_set_ne (by omega),AHeap.find_set_same (by omega)]
   rfl
  ·rw[AHeap.find_set_ne (by omega),AHeap.find_set_ne (by omega),f2,hput]
  ·rw[AHeap.find_set_ne (by omega),AHeap.find_set_ne hne,f5 id hid]
def getR (T : List Nm) (n : ByteArray) : AV:=match mGet n T with
 | some q=>.tup [paV q,.sc (.bool true)]
 | none=>.tup [paV Pa.zero,.sc (.bool false)]
set_option maxHeartbeats 0 in
theorem getG_d (b s : Nat) (T : List Nm) (n : ByteArray) (hr : ∀ q,mGet n T=some q→rightP q=true ∧ q.sm) (H : AHeap) (hs : StoreAt b s T H) :
  D Tryz.prog 18 [.ptr 1 s 0 0,.sc (.string n)] H (.ret (getR T n)) H:=by
 obtain ⟨m,hsm,hs,hm⟩:=hs
 have hl:=AHeap.find_lt hs
 have hml:=AHeap.find_lt hm
 have hok:=mE_ok paV T
 have hm2 : ∀ b,AHeap.find (b :: H) m=some ⟨0,mE paV T,true,0⟩:=fun b=>by rw[AHeap.find_cons hml];exact hm
 have hs':=hs
 unfold stB at hs'
 have hR : getR T n=match mGet n T with
  | some q=>.tup [paV q,.sc (.bool true)]
  | none=>.tup [paV Pa.zero,.sc (.bool false)]:=rfl
 refine D_of_DK (Nat.le_refl _) (dk18 (E_of_ES ?_))
 simp only[ic18,ux]
 refine ES_seq_gen fun L hL=>?_
 simp -implicitDefEqProofs (maxSteps:=99999999) (disch:=first | omega | (simp only[vl];first | done | omega)) only[vu,va,vg,vs,vw,vk,simprocAttr]
 refine hL _ _ ?_
 clear hL
 refine ES_seq_gen fun L hL=>?_
 simp -implicitDefEqProofs (maxSteps:=99999999) (disch:=first | omega | (simp only[vl];first | done | omega)) only[vu,va,vg,vs,vw,vk,simprocAttr]
 refine callR_ret (known_d s m _ (by rw[AHeap.find_cons hl];exact hs)) ?_
 simp -implicitDefEqProofs (maxSteps:=99999999) (disch:=first | omega | (simp only[vl];first | done | omega)) only[vu,va,vg,vs,vw,vk,simprocAttr]
 refine hL _ _ ?_
 clear hL
 refine ES_seq_gen fun L hL=>?_
 cases hg : mGet n T with
 | none =>
  obtain ⟨hix,hmv⟩:=mget_none hg
  rw[hg] at hR
  simp -implicitDefEqProofs (maxSteps:=99999999) (disch:=first | omega | (simp only[vl];first | done | omega)) only[vu,vg,hs',hm,hm2,hok,hix,hmv,Nat.lt_irrefl,va,vg,vs,vw,vk,simprocAttr]
  refine hL _ _ ?_
  clear hL
  refine ES_seq_gen fun L hL=>?_
  simp -implicitDefEqProofs (maxSteps:=99999999) (disch:=first | omega | (simp only[vl];first | done | omega)) only[vu,va,vg,vs,vw,vk,simprocAttr]
  rw[hR]
  exact weak_over (by repeat constructor) (.tup (.cons (.agg (.cons (.same trivial) (.cons (.same trivial) (.cons (.same trivial) (.cons (.same trivial) (.cons .nil (.cons .nil (.cons (.same trivial) (.cons .nil (.cons (.same trivial) (.cons (.same trivial) (.cons (.same trivial) (.cons (.same trivial) (.cons .nil (.cons .nil .nil))))))))))))))) (.cons (.same trivial) .nil)))
 | some q =>
  obtain ⟨hix,hmv⟩:=mget_some hg
  obtain ⟨h1,h2⟩:=hr q hg
  have how:=fun H=>own_d q h1 h2 H
  rw[hg] at hR
  simp -implicitDefEqProofs (maxSteps:=99999999) (disch:=first | omega | (simp only[vl];first | done | omega)) only[vu,vg,hs',hm,hm2,hok,hix,hmv,va,vg,vs,vw,vk,simprocAttr]
  refine hL _ _ ?_
  clear hL
  refine ES_seq_gen fun L hL=>?_
  simp -implicitDefEqProofs (maxSteps:=99999999) (disch:=first | omega | (simp only[vl];first | done | omega)) only[vu,va,vg,vs,vw,vk,simprocAttr]
  refine hL _ _ ?_
  clear hL
  simp -implicitDefEqProofs (maxSteps:=99999999) (disch:=first | omega | (simp only[vl];first | done | omega)) only[vu,va,vg,vs,vw,vk,simprocAttr]
  refine callR_ret (how _) ?_
  simp -implicitDefEqProofs (maxSteps:=99999999) (disch:=first | omega | (simp only[vl];first | done | omega)) only[vu,va,vg,vs,vw,vk,simprocAttr]
  rw[hR]
  exact weak_over (by repeat constructor) (.tup (.cons (paV_fz q) (.cons (.same trivial) .nil)))
theorem namesG_d (b s : Nat) (T : List Nm) (hl : T.length ≤ 1000000) (H : AHeap) (hs : StoreAt b s T H) : D Tryz.prog 15 [.ptr 1 s 0 0] H (.ret (.lst 1 (strs (nameR (keyed T))) none)) H:=by
 obtain ⟨m,hsm,hs,hm⟩:=hs
 exact storeNames_d (keyed T) (by simpa [keyed] using hl) true s m H hs (by rw[keyed_E];exact hm)
theorem DK_frz {P : Program} {f : FuncId} {args args' : List AV} {H : AHeap} {K : AEnd→AHeap→Prop} {id : Nat} {blk : ABlk} (hf : AHeap.find H id=some blk) (hz : FrzL id blk args args') (h : DK P f args' (AHeap.set H id none) K) : DK P f args H K:=fun φ w vs hR ha=>by
 obtain ⟨r1,r2⟩:=hR.kill id
 exact (h φ w vs r1 (hz.Rt hR hf ha)).mono fun en w' ⟨e,H',φ',h1,h2,h3,h4⟩=>⟨e,H',φ',h1,h2,h3,r2.trans h4⟩
theorem DK_le {P : Program} {f : FuncId} {args args' : List AV} {H : AHeap} {K : AEnd→AHeap→Prop} (hl : LeL args args') (h : DK P f args' H K) : DK P f args H K:=fun φ w vs hR ha=>h φ w vs hR (hl.Rt ha)
theorem newG_d (H : AHeap) : D Tryz.prog 8 [] H (.ret (.ptr 1 (H.length+1) 0 0)) (some (stB (.ptr 0 H.length 0 0)) :: some ⟨0,mE paV [],true,0⟩ :: H):=new_d H
end Go.Proofs.YtdjnccnecgblmaaGreatDoor
