import Derived.Test.YtdjnccnecgblmaaGreatDoorSA
import Derived.Test.YtdjnccnecgblmaaGreatDoorIc50
import Derived.Test.YtdjnccnecgblmaaGreatDoorV36
import Derived.Test.YtdjnccnecgblmaaGreatDoorLZ
import Derived.Test.YtdjnccnecgblmaaGreatDoorV41
import Derived.Test.YtdjnccnecgblmaaGreatDoorIc13
import Derived.Test.YtdjnccnecgblmaaGreatDoorIc16
import Derived.Test.YtdjnccnecgblmaaGreatDoorIc40
import Derived.Test.YtdjnccnecgblmaaGreatDoorIc51
import Derived.Test.YtdjnccnecgblmaaGreatDoorIc12
import Derived.Test.YtdjnccnecgblmaaGreatDoorIc43
namespace Go.Proofs.YtdjnccnecgblmaaGreatDoor
open Go.RowKit
set_option maxRecDepth 100000
set_option linter.unusedVariables false
set_option linter.unusedSimpArgs false
def stB (x : AV) : ABlk:=⟨1,[.agg [x]],true,69⟩
theorem must_d (b : Bool) (e : Value) (H : AHeap) : D Tryz.prog 30 [.sc (.bool b),.sc e] H (if b then .ret (.tup []) else .pan (.ifc 31 (.sc e))) H:=by
 refine D_of_DK (by simp) (dk30 (E_of_ES ?_))
 cases b with
 | true =>
  simp -implicitDefEqProofs (maxSteps:=99999999) (disch:=omega) only[ic30,va,vg,vs,vh,Nat.reduceMul,ite_true,ite_false,eq_self,forall_const,implies_true,Nat.reduceAdd,Nat.reduceSub,Nat.reduceLT,Nat.reduceLeDiff,↓reduceIte,reduceCtorEq,Int.reduceEq,Int.reduceLT,Int.reduceLE,Int.reduceGT,Int.reduceGE,Int.reduceAdd,Int.reduceSub,Int.reduceNeg,Int.reduceToNat,Nat.reduceBEq,Nat.reduceEqDiff]
  exact Weak.refl _ _ _
 | false =>
  simp -implicitDefEqProofs (maxSteps:=99999999) (disch:=omega) only[ic30,va,vg,vs,vh,Nat.reduceMul,ite_true,ite_false,eq_self,forall_const,implies_true,Nat.reduceAdd,Nat.reduceSub,Nat.reduceLT,Nat.reduceLeDiff,↓reduceIte,reduceCtorEq,Int.reduceEq,Int.reduceLT,Int.reduceLE,Int.reduceGT,Int.reduceGE,Int.reduceAdd,Int.reduceSub,Int.reduceNeg,Int.reduceToNat,Nat.reduceBEq,Nat.reduceEqDiff]
  exact Weak.refl _ _ _
theorem known_d (s m : Nat) (H : AHeap) (hs : AHeap.find H s=some (stB (.ptr 0 m 0 0))) : D Tryz.prog 31 [.ptr 1 s 0 0] H (.ret (.sc (.bool true))) H:=by
 unfold stB at hs
 refine D_of_DK (by simp) (dk31 (E_of_ES ?_))
 simp -implicitDefEqProofs (maxSteps:=99999999) (disch:=first | omega | (simp only[AHeap.set_length,killO_length,List.length_cons,List.length_nil];first | done | omega)) only[ic31,vi,vu,hs,va,vg,vs,vw,Nat.reduceMul,ite_true,ite_false,eq_self,forall_const,implies_true,Nat.reduceAdd,Nat.reduceSub,Nat.reduceLT,Nat.reduceLeDiff,↓reduceIte,reduceCtorEq,Int.reduceEq,Int.reduceLT,Int.reduceLE,Int.reduceGT,Int.reduceGE,Int.reduceAdd,Int.reduceSub,Int.reduceNeg,Int.reduceToNat,Nat.reduceBEq,Nat.reduceEqDiff]
 exact Weak.refl _ _ _
theorem mapsClone_d (m : Nat) (es : List AV) (ex : Bool) (H : AHeap) (hm : AHeap.find H m=some ⟨0,es,ex,0⟩) : D Tryz.prog 32 [.ptr 0 m 0 0] H (.ret (.ptr 0 H.length 0 0)) (some ⟨0,es,true,0⟩ :: H):=by
 refine D_of_DK (by simp) (dk32 (E_of_ES ?_))
 simp -implicitDefEqProofs (maxSteps:=99999999) (disch:=first | omega | (simp only[AHeap.set_length,killO_length,List.length_cons,List.length_nil];first | done | omega)) only[ic32,vi,vu,vg,hm,va,vg,vs,vw,Nat.reduceMul,ite_true,ite_false,eq_self,forall_const,implies_true,Nat.reduceAdd,Nat.reduceSub,Nat.reduceLT,Nat.reduceLeDiff,↓reduceIte,reduceCtorEq,Int.reduceEq,Int.reduceLT,Int.reduceLE,Int.reduceGT,Int.reduceGE,Int.reduceAdd,Int.reduceSub,Int.reduceNeg,Int.reduceToNat,Nat.reduceBEq,Nat.reduceEqDiff]
 exact Weak.refl _ _ _
theorem new_d (H : AHeap) : D Tryz.prog 8 [] H (.ret (.ptr 1 (H.length+1) 0 0)) (some (stB (.ptr 0 H.length 0 0)) :: some ⟨0,[],true,0⟩ :: H):=by
 refine D_of_DK (by simp;omega) (dk8 (E_of_ES ?_))
 simp -implicitDefEqProofs (maxSteps:=99999999) (disch:=omega) only[ic8,vi,vu,vg,va,vg,vs,vh,Nat.reduceMul,ite_true,ite_false,eq_self,forall_const,implies_true,Nat.reduceAdd,Nat.reduceSub,Nat.reduceLT,Nat.reduceLeDiff,↓reduceIte,reduceCtorEq,Int.reduceEq,Int.reduceLT,Int.reduceLE,Int.reduceGT,Int.reduceGE,Int.reduceAdd,Int.reduceSub,Int.reduceNeg,Int.reduceToNat,Nat.reduceBEq,Nat.reduceEqDiff]
 exact Weak.refl _ _ _
end Go.Proofs.YtdjnccnecgblmaaGreatDoor
namespace Go.Proofs.YtdjnccnecgblmaaGreatDoor
namespace Srt
open Go.RowKit Go.Shelf Go.Sort
set_option maxRecDepth 100000
set_option linter.unusedVariables false
set_option linter.unusedSimpArgs false
theorem strs_ne {l : List ByteArray} (h : l ≠ []) : strs l ≠ []:=by cases l <;> simp[strs] at h ⊢
theorem Rl_strs {φ : Phi} {O : Nat→Prop} {w : World} {b : Nat} : ∀ (l : List ByteArray) (off : Nat),(∀ j (h : j < l.length),memAt w b (off+j) 0=some (.string l[j]))→Rl φ O w b 1 (strs l) off
 | [],_,_=>trivial
 | x :: r,off,h=>by
  have h0:=h 0 (by simp)
  simp only[Nat.add_zero,List.getElem_cons_zero] at h0
  refine ⟨rfl,fun _=>⟨_,h0,rfl⟩,h0,Rl_strs r (off+1) fun j hj=>?_⟩
  have:=h (j+1) (by simp;omega)
  rw[show off+1+j=off+(j+1) by omega]
  simpa using this
def ofL (zs : List (List UInt8)) : List ByteArray:=zs.map fun x=>⟨x.toArray⟩
def toL (xs : List ByteArray) : List (List UInt8):=xs.map fun x=>x.data.toList
theorem ofL_toL (xs : List ByteArray) : ofL (toL xs)=xs:=by
 simp[ofL,toL,Function.comp_def]
theorem toL_length (xs : List ByteArray) : (toL xs).length=xs.length:=by simp[toL]
theorem ofL_length (zs : List (List UInt8)) : (ofL zs).length=zs.length:=by simp[ofL]
theorem modify_at {w : World} {b : Nat} {cur : Array Value} {e : TypeId} {fr : Nat × Nat} (f : Array Value→Array Value) (h : w.heap[b]? = some (.cells cur e fr)) : (mapBlock w b f).heap[b]? = some (.cells (f cur) e fr):=by
 unfold mapBlock
 simp only[Array.getElem?_modify,if_true,h,Option.map_some,onCells]
theorem modify_else {w : World} {b b' : Nat} (f : Array Value→Array Value) (h : b' ≠ b) : (mapBlock w b f).heap[b']? = w.heap[b']?:=by
 unfold mapBlock
 simp only[Array.getElem?_modify,if_neg (fun e=>h (Eq.symm e))]
theorem enc_at (zs : List (List UInt8)) (j : Nat) (h : j < zs.length) : encStr zs.toArray[j]! = .string ((ofL zs)[j]'(by rw[ofL_length];exact h)):=by
 simp[encStr,ofL,h]
theorem row_holds {φ : Phi} {O : Nat→Prop} {w : World} {b : Nat} {xs : List ByteArray} {cur : Array Value} {e : TypeId} (hb : w.heap[b]? = some (.cells cur e (0,0))) (h : Rl φ O w b 1 (strs xs) 0) : Holds encStr w b 0 (toL xs).toArray:=by
 intro j hj
 have hj' : j < xs.length:=by simpa [toL] using hj
 have hx : (strs xs)[j]? = some (.sc (.string xs[j])):=by simp[strs,hj']
 obtain ⟨b1,b2,b3⟩:=Rl_nth h hx
 have b4 : memAt w b (0+j * 1) 0=some (.string xs[j]):=b3
 refine ⟨?_,by simp[World.frozen?,hb]⟩
 unfold memAt at b4
 rw[show 0+j * 1+0=0+j by omega] at b4
 rw[b4,enc_at (toL xs) j (by rw[toL_length];exact hj')]
 simp[ofL_toL]
theorem putRow_rel {φ : Phi} {H : AHeap} {w : World} (hR : Rel φ H w) {id b : Nat} {xs : List ByteArray} (hm : φ id=some b) (hf : AHeap.find H id=some ⟨1,strs xs,false,9⟩) (zs : List (List UInt8)) (hl : zs.length=xs.length) (n : Nat) (os : Array Obj) :
  Rel φ (AHeap.set H id (some ⟨1,strs (ofL zs),false,9⟩)) (grow (putRow encStr (Sort.ahead w n) b 0 zs.toArray) os) ∧ Step φ H w φ (AHeap.set H id (some ⟨1,strs (ofL zs),false,9⟩)) (grow (putRow encStr (Sort.ahead w n) b 0 zs.toArray) os):=by
 obtain ⟨cur,cap,a1,a2,a3,a4,a5,a6⟩:=(hR.blk id b _ hm hf).cells (by show 0 < 1;omega)
 have a1' : (Sort.ahead w n).heap[b]? = some (.cells cur 9 (0,0)):=a1
 simp only[strs_length] at a3
 simp only[Nat.mul_one] at a2
 have hw1 : (putRow encStr (Sort.ahead w n) b 0 zs.toArray).heap[b]? = some (.cells (putCells encStr 0 zs.toArray cur) 9 (0,0)):=modify_at _ a1'
 have hcs : (putCells encStr 0 zs.toArray cur).size=cur.size:=by simp[putCells]
 have h1:=hR.writeO (w':=putRow encStr (Sort.ahead w n) b 0 zs.toArray) hm hf (some ⟨1,strs (ofL zs),false,9⟩) (by simp[Sort.ahead]) (fun b' hb'=>modify_else _ hb') (by unfold World.shape?;rw[hw1,a1];simp[hcs]) rfl rfl rfl (fun k hk hlt=>by
  cases hk
  refine .inl ⟨Nat.one_pos,_,cap,hw1,by rw[hcs,a2,Nat.mul_one],by rw[strs_length,ofL_length,hl];exact a3,fun h=>by simp at h,a5,Rl_strs (ofL zs) 0 fun j hj=>?_⟩
  have hj2 : j < zs.length:=by rwa [ofL_length] at hj
  unfold memAt World.cell?
  simp only[hw1,Nat.zero_add,Nat.add_zero]
  have hjc : j < cur.size:=by omega
  simp only[putCells,Array.getElem?_mapIdx,Array.getElem?_eq_getElem hjc,Option.map_some,Nat.zero_le,true_and,Nat.zero_add,List.size_toArray,if_pos hj2,Nat.sub_zero]
  rw[enc_at zs j hj2]
  rfl)
 have hold : ∀ b',b' < (putRow encStr (Sort.ahead w n) b 0 zs.toArray).heap.size→(grow (putRow encStr (Sort.ahead w n) b 0 zs.toArray) os).heap[b']? = (putRow encStr (Sort.ahead w n) b 0 zs.toArray).heap[b']?:=fun b' hb'=>by
  unfold grow
  rw[Array.getElem?_append_left hb']
 exact ⟨h1.1.grow (by rw[size_grow];omega) hold,h1.2.trans (grow_step rfl rfl rfl (by rw[size_grow];omega) hold)⟩
theorem sort_o (xs : List ByteArray) (hx : xs.length ≤ 100000000) (io : Nat) (H : AHeap) (hf : xs ≠ []→AHeap.find H io=OwnB 1 9 (strs xs)) : D Tryz.prog 42 [OwnV 1 (strs xs) io] H (.ret (.tup [])) (if xs=[] then H else AHeap.set H io (some ⟨1,strs (ofL ((toL xs).mergeSort fun x y=>decide (x ≤ y))),false,9⟩)):=by
 by_cases e : xs=[]
 ·subst e
  rw[if_pos rfl]
  refine ⟨Nat.le_refl _,fun φ w vs hR ha=>?_⟩
  obtain ⟨a,r,e1,a1,a2,e3⟩:=ha
  have e3' : r=[]:=e3
  obtain ⟨p,c,hv,_⟩:=VR_lst (show VR φ (Own φ H) w (.lst 0 [] (some [])) a from ⟨a1,a2⟩)
  have hvs : vs=#[.slice p 0 c]:=by
   cases vs
   simp only at e1
   rw[e1,hv,e3']
   rfl
  rw[hvs]
  refine (Any.slices_Sort_string_none lays190 p c w).mono fun en w' ⟨he,hw⟩=>?_
  subst hw
  refine ⟨φ,?_,hR,.refl _ _ _⟩
  rw[he]
  exact ⟨⟨_,rfl⟩,⟨_,rfl,rfl⟩⟩
 rw[if_neg e]
 have hf':=hf e
 rw[OwnB_ne (strs_ne e)] at hf'
 refine ⟨by rw[AHeap.set_length];exact Nat.le_refl _,fun φ w vs hR ha=>?_⟩
 rw[OwnV_ne (strs_ne e)] at ha
 obtain ⟨a,r,e1,a1,a2,e3⟩:=ha
 have e3' : r=[]:=e3
 obtain ⟨b,c',cur,et,fr,v1,hv,v3,v4,v5,v6,v7⟩:=VR_vec (show VR φ (Own φ H) w (.vec 1 io 0 (strs xs).length none) a from ⟨a1,a2⟩)
 obtain ⟨cur2,cap,g1,g2,g3,g4,g5,g6⟩:=(hR.blk io b _ v1 hf').cells (by show 0 < 1;omega)
 have hvs : vs=#[.slice (some ⟨b,0,none⟩) (toL xs).length c']:=by
  cases vs
  simp only at e1
  rw[e1,hv,e3',strs_length,toL_length]
 rw[hvs]
 refine (Any.slices_Sort_string lays190 b 0 c' (toL xs) w (row_holds g1 g6) (heap_lt g1) (by rw[toL_length];omega)).mono fun en w' ⟨he,n,os,hw⟩=>?_
 obtain ⟨r1,r2⟩:=putRow_rel hR v1 hf' ((toL xs).mergeSort fun x y=>decide (x ≤ y)) (by rw[List.length_mergeSort,toL_length]) n os
 rw[← hw] at r1 r2
 refine ⟨φ,?_,r1,r2⟩
 rw[he]
 exact ⟨⟨_,rfl⟩,⟨_,rfl,rfl⟩⟩
end Srt
end Go.Proofs.YtdjnccnecgblmaaGreatDoor
namespace Go.Proofs.YtdjnccnecgblmaaGreatDoor
open Go.RowKit Go.Shelf Go.Sort Srt
set_option maxRecDepth 100000
set_option linter.unusedVariables false
set_option linter.unusedSimpArgs false
def nE (l : List (ByteArray × AV)) : List AV:=l.map fun p=>.tup [.sc (.string p.1),p.2]
theorem nE_length (l : List (ByteArray × AV)) : (nE l).length=l.length:=by simp[nE]
def nameR (l : List (ByteArray × AV)) : List ByteArray:=ofL ((toL (l.map (·.1))).mergeSort fun x y=>decide (x ≤ y))
def keyAt (l : List (ByteArray × AV)) (i : Nat) : ByteArray:=(l.map (·.1)).getD i ⟨#[]⟩
theorem nE_get {l : List (ByteArray × AV)} {i : Nat} {k : Value} {v : AV} (h : (nE l)[i]? = some (.tup [.sc k,v])) : i < l.length ∧ k = .string (keyAt l i):=by
 unfold nE at h
 rw[List.getElem?_map,Option.map_eq_some_iff] at h
 obtain ⟨p,h1,h2⟩:=h
 simp only[AV.tup.injEq,List.cons.injEq,AV.sc.injEq,and_true] at h2
 refine ⟨(List.getElem?_eq_some_iff.1 h1).1,?_⟩
 rw[← h2.1]
 simp[keyAt,List.getD,h1]
theorem nE_shape {l : List (ByteArray × AV)} : ∀ x ∈ nE l,∃ (k : Value) (v : AV),x = .tup [.sc k,v]:=by
 intro x hx
 obtain ⟨p,_,rfl⟩:=List.mem_map.1 hx
 exact ⟨_,_,rfl⟩
theorem keys_all {l : List (ByteArray × AV)} {js : List Nat} (hn : js.Nodup) (hj : ∀ j ∈ js,j < l.length) (hall : ∀ i,i < l.length→i ∈ js) : (js.map (keyAt l)).Perm (l.map (·.1)):=by
 have h1 : js.Perm (List.range l.length):=(List.perm_ext_iff_of_nodup hn List.nodup_range).2 fun a=>⟨fun h=>List.mem_range.2 (hj a h),fun h=>hall a (List.mem_range.1 h)⟩
 have h2 : (List.range l.length).map (keyAt l)=l.map (·.1):=by
  apply List.ext_getElem?
  intro i
  rw[List.getElem?_map]
  by_cases hi : i < l.length
  ·simp[hi,keyAt]
  ·simp[hi]
 rw[← h2]
 exact h1.map _
theorem nd_len : ∀ (n : Nat) (js : List Nat),js.Nodup→(∀ j ∈ js,j < n)→js.length ≤ n
 | 0,js,_,h2=>by
  cases js with
  | nil=>simp
  | cons a r=>exact absurd (h2 a (by simp)) (by omega)
 | n+1,js,h1,h2=>by
  have:=nd_len n (js.erase n) (h1.erase n) (fun j hj=>by
   have h3:=(List.Nodup.mem_erase_iff h1).1 hj
   have:=h2 j h3.2
   have:=h3.1
   omega)
  rw[List.length_erase] at this
  split at this <;> omega
theorem strs_gz {H1 : AHeap} {n0 : Nat} {src : List Nat} : ∀ xs : List ByteArray,GzL H1 n0 src (strs xs) (strs xs)
 | []=>.nil
 | _ :: r=>.cons (.same trivial) (strs_gz r)
theorem sort_perm {a b : List (List UInt8)} (h : a.Perm b) : a.mergeSort (fun x y=>decide (x ≤ y))=b.mergeSort fun x y=>decide (x ≤ y):=by
 have tr : ∀ x y z : List UInt8,decide (x ≤ y)=true→decide (y ≤ z)=true→decide (x ≤ z)=true:=fun x y z h1 h2=>by
  simp only[decide_eq_true_eq] at *
  exact List.le_trans h1 h2
 have tot : ∀ x y : List UInt8,(decide (x ≤ y) || decide (y ≤ x))=true:=fun x y=>by
  simp only[Bool.or_eq_true,decide_eq_true_eq]
  exact List.le_total x y
 refine List.Perm.eq_of_pairwise (le:=fun x y=>decide (x ≤ y)=true) ?_ (List.pairwise_mergeSort tr tot a) (List.pairwise_mergeSort tr tot b) ((List.mergeSort_perm a _).trans (h.trans (List.mergeSort_perm b _).symm))
 intro x y _ _ h1 h2
 simp only[decide_eq_true_eq] at h1 h2
 exact List.le_antisymm h1 h2
set_option maxHeartbeats 4000000 in
theorem storeNames_d (l : List (ByteArray × AV)) (hl : l.length ≤ 1000000) (ex : Bool) (s m : Nat) (H : AHeap) (hs : AHeap.find H s=some (stB (.ptr 0 m 0 0))) (hm : AHeap.find H m=some ⟨0,nE l,ex,0⟩) :
  D Tryz.prog 15 [.ptr 1 s 0 0] H (.ret (.lst 1 (strs (nameR l)) none)) H:=by
 refine D_of_DK (by simp) (dk15 (E_of_ES ?_))
 simp only[ic15,ux]
 have hk:=known_d s m H hs
 have hs':=hs
 unfold stB at hs'
 refine ES_seq_gen fun L hL=>?_
 simp -implicitDefEqProofs (maxSteps:=99999999) (disch:=first | omega | (simp only[AHeap.set_length,killO_length,List.length_cons,List.length_nil];first | done | omega)) only[vu,va,vg,vs,vw,Nat.reduceMul,ite_true,ite_false,eq_self,forall_const,implies_true,Nat.reduceAdd,Nat.reduceSub,Nat.reduceLT,Nat.reduceLeDiff,↓reduceIte,reduceCtorEq,Int.reduceEq,Int.reduceLT,Int.reduceLE,Int.reduceGT,Int.reduceGE,Int.reduceAdd,Int.reduceSub,Int.reduceNeg,Int.reduceToNat,Nat.reduceBEq,Nat.reduceEqDiff]
 refine hL _ _ ?_
 clear hL
 refine ES_seq_gen fun L hL=>?_
 simp -implicitDefEqProofs (maxSteps:=99999999) (disch:=first | omega | (simp only[AHeap.set_length,killO_length,List.length_cons,List.length_nil];first | done | omega)) only[vu,va,vg,vs,vw,Nat.reduceMul,ite_true,ite_false,eq_self,forall_const,implies_true,Nat.reduceAdd,Nat.reduceSub,Nat.reduceLT,Nat.reduceLeDiff,↓reduceIte,reduceCtorEq,Int.reduceEq,Int.reduceLT,Int.reduceLE,Int.reduceGT,Int.reduceGE,Int.reduceAdd,Int.reduceSub,Int.reduceNeg,Int.reduceToNat,Nat.reduceBEq,Nat.reduceEqDiff]
 refine callR_ret hk ?_
 simp -implicitDefEqProofs (maxSteps:=99999999) (disch:=first | omega | (simp only[AHeap.set_length,killO_length,List.length_cons,List.length_nil];first | done | omega)) only[vu,va,vg,vs,vw,Nat.reduceMul,ite_true,ite_false,eq_self,forall_const,implies_true,Nat.reduceAdd,Nat.reduceSub,Nat.reduceLT,Nat.reduceLeDiff,↓reduceIte,reduceCtorEq,Int.reduceEq,Int.reduceLT,Int.reduceLE,Int.reduceGT,Int.reduceGE,Int.reduceAdd,Int.reduceSub,Int.reduceNeg,Int.reduceToNat,Nat.reduceBEq,Nat.reduceEqDiff]
 refine hL _ _ ?_
 clear hL
 refine ES_seq_gen fun L hL=>?_
 simp -implicitDefEqProofs (maxSteps:=99999999) (disch:=first | omega | (simp only[AHeap.set_length,killO_length,List.length_cons,List.length_nil];first | done | omega)) only[vu,va,vg,vs,vw,Nat.reduceMul,ite_true,ite_false,eq_self,forall_const,implies_true,Nat.reduceAdd,Nat.reduceSub,Nat.reduceLT,Nat.reduceLeDiff,↓reduceIte,reduceCtorEq,Int.reduceEq,Int.reduceLT,Int.reduceLE,Int.reduceGT,Int.reduceGE,Int.reduceAdd,Int.reduceSub,Int.reduceNeg,Int.reduceToNat,Nat.reduceBEq,Nat.reduceEqDiff]
 refine hL _ _ ?_
 clear hL
 refine ES_seq_gen fun L hL=>?_
 refine ES_seq_gen fun L hL=>?_
 simp -implicitDefEqProofs (maxSteps:=99999999) (disch:=first | omega | (simp only[AHeap.set_length,killO_length,List.length_cons,List.length_nil];first | done | omega)) only[vu,hs',va,vg,vs,vw,Nat.reduceMul,ite_true,ite_false,eq_self,forall_const,implies_true,Nat.reduceAdd,Nat.reduceSub,Nat.reduceLT,Nat.reduceLeDiff,↓reduceIte,reduceCtorEq,Int.reduceEq,Int.reduceLT,Int.reduceLE,Int.reduceGT,Int.reduceGE,Int.reduceAdd,Int.reduceSub,Int.reduceNeg,Int.reduceToNat,Nat.reduceBEq,Nat.reduceEqDiff]
 refine ⟨nE l,ex,hm,fun clock bs hb1 hb2=>?_⟩
 rw[nE_length] at hb1
 have hmH:=AHeap.find_lt hm
 have hnd : bs.Nodup:=hb2.imp fun h=>by omega
 refine hL _ _ ?_
 clear hL
 clear L
 simp -implicitDefEqProofs (maxSteps:=99999999) (disch:=first | omega | (simp only[AHeap.set_length,killO_length,List.length_cons,List.length_nil];first | done | omega)) only[vu,va,vg,vs,vw,Nat.reduceMul,ite_true,ite_false,eq_self,forall_const,implies_true,Nat.reduceAdd,Nat.reduceSub,Nat.reduceLT,Nat.reduceLeDiff,↓reduceIte,reduceCtorEq,Int.reduceEq,Int.reduceLT,Int.reduceLE,Int.reduceGT,Int.reduceGE,Int.reduceAdd,Int.reduceSub,Int.reduceNeg,Int.reduceToNat,Nat.reduceBEq,Nat.reduceEqDiff]
 refine ES_loopL (fun ts F=>∃ (js : List Nat) (io : Nat),(js.Nodup ∧ (∀ j ∈ js,j < l.length) ∧ AHeap.find F H.length=some (itB m clock (js.map fun j=>bs.getD j 0)) ∧ AHeap.find F m=some (lkB clock bs (nE l) ex) ∧ (strs (js.map (keyAt l)) ≠ []→AHeap.find F io=OwnB 1 9 (strs (js.map (keyAt l))) ∧ H.length < io) ∧ (∀ id,id < H.length→id ≠ m→AHeap.find F id=AHeap.find H id) ∧ H.length < F.length) ∧ Fr [none,none,none,some (OwnV 1 (strs (js.map (keyAt l))) io),none,none,none,none,none,none,none,none,none,some (.ptr 0 H.length 0 2),none,none,none,none,none,none,none,none,none,none,none] ts) (fun ts _=>l.length - lenN (ts.getD 3 .top)) ?_ ?_
 ·refine ⟨[],0,⟨List.nodup_nil,by simp,?_,?_,fun h=>absurd rfl h,fun id h1 h2=>?_,by simp[AHeap.set_length]⟩,by simp[Fr];exact rfl⟩
  ·have:=AHeap.find_new (H:=AHeap.set H m (some (lkB clock bs (nE l) ex))) (b:=some (itB m clock []))
   rwa [AHeap.set_length] at this
  ·rw[AHeap.find_cons (by rw[AHeap.set_length];exact hmH),AHeap.find_set_same hmH]
  ·rw[AHeap.find_cons (by rw[AHeap.set_length];exact h1),AHeap.find_set_ne h2]
 rintro ts F ⟨js,io,⟨n1,n2,n3,n4,n5,n6,n7⟩,hfr⟩ L2 hL2
 obtain ⟨zs,rfl⟩:=hfr.opened
 clear hfr
 have hjl : js.length ≤ l.length:=nd_len _ _ n1 n2
 have fo : strs (js.map (keyAt l)) ≠ []→AHeap.find F io=OwnB 1 9 (strs (js.map (keyAt l))):=fun e=>(n5 e).1
 have lo : (strs (js.map (keyAt l))).length=js.length:=by rw[strs_length,List.length_map]
 have hmF:=AHeap.find_lt n4
 simp -implicitDefEqProofs (maxSteps:=99999999) (disch:=first | omega | (simp only[AHeap.set_length,killO_length,List.length_cons,List.length_nil];first | done | omega)) only[vu,mk,va,vg,vs,vw,Nat.reduceMul,ite_true,ite_false,eq_self,forall_const,implies_true,Nat.reduceAdd,Nat.reduceSub,Nat.reduceLT,Nat.reduceLeDiff,↓reduceIte,reduceCtorEq,Int.reduceEq,Int.reduceLT,Int.reduceLE,Int.reduceGT,Int.reduceGE,Int.reduceAdd,Int.reduceSub,Int.reduceNeg,Int.reduceToNat,Nat.reduceBEq,Nat.reduceEqDiff]
 refine ⟨m,clock,js.map fun j=>bs.getD j 0,bs,nE l,ex,n3,n4,nE_shape,fun hall=>?_,fun i b k v hb he hns=>?_⟩
 ·have hall' : ∀ i,i < l.length→i ∈ js:=by
   intro i hi
   have h1 : bs[i]? = some (bs.getD i 0):=by rw[List.getD,List.getElem?_eq_getElem (by omega)];rfl
   obtain ⟨j,hj,e⟩:=List.mem_map.1 (hall _ (List.mem_of_getElem? h1))
   have hjl':=n2 j hj
   have h2 : bs[j]'(by omega)=bs[i]'(by omega):=by simpa [List.getD,List.getElem?_eq_getElem (show j < bs.length by omega),List.getElem?_eq_getElem (show i < bs.length by omega)] using e
   have:=(List.getElem_inj hnd).1 h2
   rw[← this];exact hj
  have hp:=keys_all n1 n2 hall'
  simp -implicitDefEqProofs (maxSteps:=99999999) (disch:=first | omega | (simp only[AHeap.set_length,killO_length,List.length_cons,List.length_nil];first | done | omega)) only[vu,mk,va,vg,vs,vw,Nat.reduceMul,ite_true,ite_false,eq_self,forall_const,implies_true,Nat.reduceAdd,Nat.reduceSub,Nat.reduceLT,Nat.reduceLeDiff,↓reduceIte,reduceCtorEq,Int.reduceEq,Int.reduceLT,Int.reduceLE,Int.reduceGT,Int.reduceGE,Int.reduceAdd,Int.reduceSub,Int.reduceNeg,Int.reduceToNat,Nat.reduceBEq,Nat.reduceEqDiff]
  refine hL _ _ ?_
  clear hL
  refine ES_seq_gen fun L hL=>?_
  have fo2 : strs (js.map (keyAt l)) ≠ []→AHeap.find (AHeap.set F m (some ⟨0,nE l,ex,0⟩)) io=OwnB 1 9 (strs (js.map (keyAt l))):=fun e=>by
   rw[AHeap.find_set_ne (by have:=(n5 e).2;omega)];exact (n5 e).1
  have hrest : ∀ id,id < H.length→AHeap.find (AHeap.set F m (some ⟨0,nE l,ex,0⟩)) id=AHeap.find H id:=fun id hid=>by
   by_cases e : id=m
   ·subst e;rw[AHeap.find_set_same hmF,hm]
   ·rw[AHeap.find_set_ne e];exact n6 id hid e
  have hsrt : nameR l=ofL ((toL (js.map (keyAt l))).mergeSort fun x y=>decide (x ≤ y)):=by
   unfold nameR
   have hp2 : (toL (js.map (keyAt l))).Perm (toL (l.map (·.1))):=hp.map _
   rw[sort_perm hp2]
  have hlen : (nameR l).length=(js.map (keyAt l)).length:=by rw[hsrt,ofL_length,List.length_mergeSort,toL_length]
  simp -implicitDefEqProofs (maxSteps:=99999999) (disch:=first | omega | (simp only[AHeap.set_length,killO_length,List.length_cons,List.length_nil];first | done | omega)) only[vu,va,vg,vs,vw,Nat.reduceMul,ite_true,ite_false,eq_self,forall_const,implies_true,Nat.reduceAdd,Nat.reduceSub,Nat.reduceLT,Nat.reduceLeDiff,↓reduceIte,reduceCtorEq,Int.reduceEq,Int.reduceLT,Int.reduceLE,Int.reduceGT,Int.reduceGE,Int.reduceAdd,Int.reduceSub,Int.reduceNeg,Int.reduceToNat,Nat.reduceBEq,Nat.reduceEqDiff]
  refine callR_ret (sort_o (js.map (keyAt l)) (by rw[List.length_map];omega) io _ (fun e=>fo2 (Srt.strs_ne e))) ?_
  rw[← hsrt]
  generalize hks : js.map (keyAt l)=ks at *
  simp -implicitDefEqProofs (maxSteps:=99999999) (disch:=first | omega | (simp only[AHeap.set_length,killO_length,List.length_cons,List.length_nil];first | done | omega)) only[vu,va,vg,vs,vw,Nat.reduceMul,ite_true,ite_false,eq_self,forall_const,implies_true,Nat.reduceAdd,Nat.reduceSub,Nat.reduceLT,Nat.reduceLeDiff,↓reduceIte,reduceCtorEq,Int.reduceEq,Int.reduceLT,Int.reduceLE,Int.reduceGT,Int.reduceGE,Int.reduceAdd,Int.reduceSub,Int.reduceNeg,Int.reduceToNat,Nat.reduceBEq,Nat.reduceEqDiff]
  refine hL _ _ ?_
  clear hL
  simp -implicitDefEqProofs (maxSteps:=99999999) (disch:=first | omega | (simp only[AHeap.set_length,killO_length,List.length_cons,List.length_nil];first | done | omega)) only[vu,va,vg,vs,vw,Nat.reduceMul,ite_true,ite_false,eq_self,forall_const,implies_true,Nat.reduceAdd,Nat.reduceSub,Nat.reduceLT,Nat.reduceLeDiff,↓reduceIte,reduceCtorEq,Int.reduceEq,Int.reduceLT,Int.reduceLE,Int.reduceGT,Int.reduceGE,Int.reduceAdd,Int.reduceSub,Int.reduceNeg,Int.reduceToNat,Nat.reduceBEq,Nat.reduceEqDiff]
  have hio : ks ≠ []→H.length < io:=fun e=>(n5 (Srt.strs_ne e)).2
  by_cases e : ks=[]
  ·have e2 : nameR l=[]:=List.length_eq_zero_iff.1 (by rw[hlen,e];rfl)
   rw[if_pos e,e,e2]
   exact weak_frz hrest .nil
  ·rw[if_neg e]
   have e3 : nameR l ≠ []:=fun h=>e (List.length_eq_zero_iff.1 (by rw[← hlen,h];rfl))
   have e4 : OwnV 1 (strs ks) io=OwnV 1 (strs (nameR l)) io:=by
    rw[OwnV_ne (Srt.strs_ne e),OwnV_ne (Srt.strs_ne e3),strs_length,strs_length,hlen]
   rw[e4]
   have hio:=hio e
   have hfi:=AHeap.find_lt ((fo2 (Srt.strs_ne e)).trans (OwnB_ne (Srt.strs_ne e)))
   refine weak_frz (fun id hid=>?_) (OwnV_fz (ty:=9) (fun _=>?_) (fun _=>?_) ?_)
   ·rw[AHeap.find_set_ne (by omega)];exact hrest id hid
   ·unfold newId
    rw[if_neg (by omega)]
    simp
   ·rw[AHeap.find_set_same hfi,OwnB_ne (Srt.strs_ne e3)]
   ·exact strs_gz _
 ·obtain ⟨hil,rfl⟩:=nE_get he
  have hbi : bs.getD i 0=b:=by simp[List.getD,hb]
  have hij : i ∉ js:=fun h=>hns (List.mem_map.2 ⟨i,h,hbi⟩)
  simp -implicitDefEqProofs (maxSteps:=99999999) (disch:=first | omega | (simp only[AHeap.set_length,killO_length,List.length_cons,List.length_nil];first | done | omega)) only[vu,mk,va,vg,vs,vw,Nat.reduceMul,ite_true,ite_false,eq_self,forall_const,implies_true,Nat.reduceAdd,Nat.reduceSub,Nat.reduceLT,Nat.reduceLeDiff,↓reduceIte,reduceCtorEq,Int.reduceEq,Int.reduceLT,Int.reduceLE,Int.reduceGT,Int.reduceGE,Int.reduceAdd,Int.reduceSub,Int.reduceNeg,Int.reduceToNat,Nat.reduceBEq,Nat.reduceEqDiff]
  refine ⟨m,clock,js.map fun j=>bs.getD j 0,bs,nE l,ex,i,b,_,v,AHeap.find_set_same (AHeap.find_lt n3),?_,hb,he,?_⟩
  ·rw[AHeap.find_set_ne (by omega)];exact n4
  have q3:=AHeap.find_set_same (x:=some (itB m clock ((js.map fun j=>bs.getD j 0) ++ [b]))) (AHeap.find_lt n3)
  have q4 : ∀ id,id ≠ H.length→AHeap.find (AHeap.set F H.length (some (itB m clock ((js.map fun j=>bs.getD j 0) ++ [b])))) id=AHeap.find F id:=fun id h=>AHeap.find_set_ne h
  have q5 : (AHeap.set F H.length (some (itB m clock ((js.map fun j=>bs.getD j 0) ++ [b])))).length=F.length:=AHeap.set_length _ _ _
  generalize AHeap.set F H.length (some (itB m clock ((js.map fun j=>bs.getD j 0) ++ [b])))=F2 at *
  obtain ⟨io1,G1,p1,p2,p3,p4,p5,p6⟩:=apAny (H:=F2) (k:=1) (ty:=9) (ys:=[AV.sc (.string (keyAt l i))]) (fun e=>by rw[q4 io (by have:=(n5 e).2;omega)];exact fo e) (by rw[lo];simp;omega)
  have hap : strs (js.map (keyAt l)) ++ [AV.sc (.string (keyAt l i))]=strs ((js ++ [i]).map (keyAt l)):=by simp[strs]
  rw[hap] at p2 p4
  simp -implicitDefEqProofs (maxSteps:=99999999) (disch:=first | omega | (simp only[AHeap.set_length,killO_length,List.length_cons,List.length_nil];first | done | omega)) only[vu,p1,p2,p3,va,vg,vs,vw,Nat.reduceMul,ite_true,ite_false,eq_self,forall_const,implies_true,Nat.reduceAdd,Nat.reduceSub,Nat.reduceLT,Nat.reduceLeDiff,↓reduceIte,reduceCtorEq,Int.reduceEq,Int.reduceLT,Int.reduceLE,Int.reduceGT,Int.reduceGE,Int.reduceAdd,Int.reduceSub,Int.reduceNeg,Int.reduceToNat,Nat.reduceBEq,Nat.reduceEqDiff]
  have hjn : (js ++ [i]).Nodup:=List.nodup_append.2 ⟨n1,by simp,fun a ha b hb e=>hij (by rw[List.mem_singleton] at hb;rw[← hb,← e];exact ha)⟩
  have hja : ∀ j ∈ js ++ [i],j < l.length:=fun j hj=>by
   rcases List.mem_append.1 hj with h | h
   ·exact n2 j h
   ·rw[List.mem_singleton] at h;rw[h];exact hil
  have hjm:=nd_len _ _ hjn hja
  rw[List.length_append,List.length_singleton] at hjm
  have hne : ∀ id,id < H.length→strs (js.map (keyAt l)) ≠ []→id ≠ io:=fun id h e=>by have:=(n5 e).2;omega
  refine hL2 _ _ ⟨js ++ [i],io1,⟨hjn,hja,?_,?_,fun e=>⟨(p4 e).1,by have:=(p4 e).2;omega⟩,fun id h1 h2=>?_,by omega⟩,by simp[Fr]⟩ ?_
  ·rw[p6 _ (by omega) (fun e=>by have:=(n5 e).2;omega),q3,List.map_append,List.map_cons,List.map_nil,hbi]
  ·rw[p6 _ (by omega) (fun e=>hne m hmH e),q4 m (by omega)];exact n4
  ·rw[p6 _ (by omega) (fun e=>hne id h1 e),q4 id (by omega)];exact n6 id h1 h2
  ·show l.length - lenN (OwnV 1 (strs ((js ++ [i]).map (keyAt l))) io1) < l.length - lenN (OwnV 1 (strs (js.map (keyAt l))) io)
   rw[OwnV_lenN,OwnV_lenN,strs_length,strs_length,List.length_map,List.length_map,List.length_append,List.length_singleton]
   omega
end Go.Proofs.YtdjnccnecgblmaaGreatDoor
namespace Go.Proofs.YtdjnccnecgblmaaGreatDoor
open Go.RowKit
set_option maxRecDepth 100000
set_option linter.unusedVariables false
set_option linter.unusedSimpArgs false
abbrev e0 : ByteArray:=⟨#[]⟩
abbrev nlB : AV:=.lst 0 [] (some [])
def patA (k : Nat) (f t : ByteArray) : AV:=.agg [.sc (.int .u8 k),.sc (.string f),.sc (.string t),.sc (.int .i64 0),nlB,nlB,.sc (.int .u8 0),nlB,.sc (.int .i64 0),.sc (.int .i64 0),.sc (.string e0),.sc (.string e0),nlB,nlB]
theorem eqT_nil (H : AHeap) : D Tryz.prog 91 [nlB,nlB] H (.ret (.sc (.bool true))) H:=by
 refine D_of_DK (Nat.le_refl _) (dk91 (E_of_ES ?_))
 simp -implicitDefEqProofs (maxSteps:=99999999) (disch:=omega) only[ic91,vu,va,vg,vs,vh,Nat.reduceMul,ite_true,ite_false,eq_self,forall_const,implies_true,Nat.reduceAdd,Nat.reduceSub,Nat.reduceLT,Nat.reduceLeDiff,↓reduceIte,reduceCtorEq,Int.reduceEq,Int.reduceLT,Int.reduceLE,Int.reduceGT,Int.reduceGE,Int.reduceAdd,Int.reduceSub,Int.reduceNeg,Int.reduceToNat,Nat.reduceBEq,Nat.reduceEqDiff]
 refine ES_unroll (.s .o) (Lp_next fun L hL=>?_)
 simp -implicitDefEqProofs (maxSteps:=99999999) (disch:=omega) only[vu,va,vg,vs,vh,Nat.reduceMul,ite_true,ite_false,eq_self,forall_const,implies_true,Nat.reduceAdd,Nat.reduceSub,Nat.reduceLT,Nat.reduceLeDiff,↓reduceIte,reduceCtorEq,Int.reduceEq,Int.reduceLT,Int.reduceLE,Int.reduceGT,Int.reduceGE,Int.reduceAdd,Int.reduceSub,Int.reduceNeg,Int.reduceToNat,Nat.reduceBEq,Nat.reduceEqDiff]
 exact weak_sc .refl
theorem eqI_nil (H : AHeap) : D Tryz.prog 99 [nlB,nlB] H (.ret (.sc (.bool true))) H:=by
 refine D_of_DK (Nat.le_refl _) (dk99 (E_of_ES ?_))
 simp -implicitDefEqProofs (maxSteps:=99999999) (disch:=omega) only[ic99,vu,va,vg,vs,vh,Nat.reduceMul,ite_true,ite_false,eq_self,forall_const,implies_true,Nat.reduceAdd,Nat.reduceSub,Nat.reduceLT,Nat.reduceLeDiff,↓reduceIte,reduceCtorEq,Int.reduceEq,Int.reduceLT,Int.reduceLE,Int.reduceGT,Int.reduceGE,Int.reduceAdd,Int.reduceSub,Int.reduceNeg,Int.reduceToNat,Nat.reduceBEq,Nat.reduceEqDiff]
 refine ES_unroll (.s .o) (Lp_next fun L hL=>?_)
 simp -implicitDefEqProofs (maxSteps:=99999999) (disch:=omega) only[vu,va,vg,vs,vh,Nat.reduceMul,ite_true,ite_false,eq_self,forall_const,implies_true,Nat.reduceAdd,Nat.reduceSub,Nat.reduceLT,Nat.reduceLeDiff,↓reduceIte,reduceCtorEq,Int.reduceEq,Int.reduceLT,Int.reduceLE,Int.reduceGT,Int.reduceGE,Int.reduceAdd,Int.reduceSub,Int.reduceNeg,Int.reduceToNat,Nat.reduceBEq,Nat.reduceEqDiff]
 exact weak_sc .refl
theorem eqN_nil (f : AV) (H : AHeap) : D Tryz.prog 100 [nlB,nlB,f] H (.ret (.sc (.bool true))) H:=by
 refine D_of_DK (Nat.le_refl _) (dk100 (E_of_ES ?_))
 simp -implicitDefEqProofs (maxSteps:=99999999) (disch:=omega) only[ic100,vu,va,vg,vs,vh,Nat.reduceMul,ite_true,ite_false,eq_self,forall_const,implies_true,Nat.reduceAdd,Nat.reduceSub,Nat.reduceLT,Nat.reduceLeDiff,↓reduceIte,reduceCtorEq,Int.reduceEq,Int.reduceLT,Int.reduceLE,Int.reduceGT,Int.reduceGE,Int.reduceAdd,Int.reduceSub,Int.reduceNeg,Int.reduceToNat,Nat.reduceBEq,Nat.reduceEqDiff]
 refine ES_unroll (.s .o) (Lp_next fun L hL=>?_)
 simp -implicitDefEqProofs (maxSteps:=99999999) (disch:=omega) only[vu,va,vg,vs,vh,Nat.reduceMul,ite_true,ite_false,eq_self,forall_const,implies_true,Nat.reduceAdd,Nat.reduceSub,Nat.reduceLT,Nat.reduceLeDiff,↓reduceIte,reduceCtorEq,Int.reduceEq,Int.reduceLT,Int.reduceLE,Int.reduceGT,Int.reduceGE,Int.reduceAdd,Int.reduceSub,Int.reduceNeg,Int.reduceToNat,Nat.reduceBEq,Nat.reduceEqDiff]
 exact weak_sc .refl
theorem or97 : IntKind.u8.wrap ((BitVec.ofInt IntKind.u8.bits ((97 : Nat) : Int) ||| BitVec.ofInt IntKind.u8.bits 32).toNat : Int)=97:=by decide
theorem or98 : IntKind.u8.wrap ((BitVec.ofInt IntKind.u8.bits ((98 : Nat) : Int) ||| BitVec.ofInt IntKind.u8.bits 32).toNat : Int)=98:=by decide
theorem or99 : IntKind.u8.wrap ((BitVec.ofInt IntKind.u8.bits ((99 : Nat) : Int) ||| BitVec.ofInt IntKind.u8.bits 32).toNat : Int)=99:=by decide
theorem good_d (c : Nat) (hc : c=97 ∨ c=98 ∨ c=99) (H : AHeap) : D Tryz.prog 98 [.sc (.int .u8 c)] H (.ret (.sc (.bool true))) H:=by
 refine D_of_DK (Nat.le_refl _) (dk98 (E_of_ES ?_))
 rcases hc with rfl | rfl | rfl
 ·simp -implicitDefEqProofs (maxSteps:=99999999) (disch:=omega) only[ic98,vu,or97,va,vg,vs,vh,Nat.reduceMul,ite_true,ite_false,eq_self,forall_const,implies_true,Nat.reduceAdd,Nat.reduceSub,Nat.reduceLT,Nat.reduceLeDiff,↓reduceIte,reduceCtorEq,Int.reduceEq,Int.reduceLT,Int.reduceLE,Int.reduceGT,Int.reduceGE,Int.reduceAdd,Int.reduceSub,Int.reduceNeg,Int.reduceToNat,Nat.reduceBEq,Nat.reduceEqDiff]
  exact weak_sc .refl
 ·simp -implicitDefEqProofs (maxSteps:=99999999) (disch:=omega) only[ic98,vu,or98,va,vg,vs,vh,Nat.reduceMul,ite_true,ite_false,eq_self,forall_const,implies_true,Nat.reduceAdd,Nat.reduceSub,Nat.reduceLT,Nat.reduceLeDiff,↓reduceIte,reduceCtorEq,Int.reduceEq,Int.reduceLT,Int.reduceLE,Int.reduceGT,Int.reduceGE,Int.reduceAdd,Int.reduceSub,Int.reduceNeg,Int.reduceToNat,Nat.reduceBEq,Nat.reduceEqDiff]
  exact weak_sc .refl
 ·simp -implicitDefEqProofs (maxSteps:=99999999) (disch:=omega) only[ic98,vu,or99,va,vg,vs,vh,Nat.reduceMul,ite_true,ite_false,eq_self,forall_const,implies_true,Nat.reduceAdd,Nat.reduceSub,Nat.reduceLT,Nat.reduceLeDiff,↓reduceIte,reduceCtorEq,Int.reduceEq,Int.reduceLT,Int.reduceLE,Int.reduceGT,Int.reduceGE,Int.reduceAdd,Int.reduceSub,Int.reduceNeg,Int.reduceToNat,Nat.reduceBEq,Nat.reduceEqDiff]
  exact weak_sc .refl
theorem size1 (c : UInt8) : ByteArray.size ⟨#[c]⟩=1:=rfl
theorem ne1 (c : UInt8) : ((⟨#[c]⟩ : ByteArray)=⟨#[]⟩)=False:=by simp
def one (c : UInt8) : ByteArray:=⟨#[c]⟩
theorem pname_d (c : UInt8) (hc : c=97 ∨ c=98 ∨ c=99) (H : AHeap) : D Tryz.prog 51 [.sc (.string (one c))] H (.ret (.sc (.bool true))) H:=by
 refine D_of_DK (Nat.le_refl _) (dk51 (E_of_ES ?_))
 unfold one
 rcases hc with rfl | rfl | rfl
 ·simp -implicitDefEqProofs (maxSteps:=99999999) (disch:=omega) only[ic51,vu,va,vg,vs,vh,Nat.reduceMul,ite_true,ite_false,eq_self,forall_const,implies_true,Nat.reduceAdd,Nat.reduceSub,Nat.reduceLT,Nat.reduceLeDiff,↓reduceIte,reduceCtorEq,Int.reduceEq,Int.reduceLT,Int.reduceLE,Int.reduceGT,Int.reduceGE,Int.reduceAdd,Int.reduceSub,Int.reduceNeg,Int.reduceToNat,Nat.reduceBEq,Nat.reduceEqDiff]
  refine ES_unroll (.s (.s .o)) ?_
  refine Lp_next fun L hL=>?_
  simp -implicitDefEqProofs (maxSteps:=99999999) (disch:=omega) only[vu,size1,va,vg,vs,vh,Nat.reduceMul,ite_true,ite_false,eq_self,forall_const,implies_true,Nat.reduceAdd,Nat.reduceSub,Nat.reduceLT,Nat.reduceLeDiff,↓reduceIte,reduceCtorEq,Int.reduceEq,Int.reduceLT,Int.reduceLE,Int.reduceGT,Int.reduceGE,Int.reduceAdd,Int.reduceSub,Int.reduceNeg,Int.reduceToNat,Nat.reduceBEq,Nat.reduceEqDiff]
  refine ⟨by kernel_rfl,callR_ret (good_d 97 (.inl rfl) _) ?_⟩
  simp -implicitDefEqProofs (maxSteps:=99999999) (disch:=omega) only[vu,size1,va,vg,vs,vh,Nat.reduceMul,ite_true,ite_false,eq_self,forall_const,implies_true,Nat.reduceAdd,Nat.reduceSub,Nat.reduceLT,Nat.reduceLeDiff,↓reduceIte,reduceCtorEq,Int.reduceEq,Int.reduceLT,Int.reduceLE,Int.reduceGT,Int.reduceGE,Int.reduceAdd,Int.reduceSub,Int.reduceNeg,Int.reduceToNat,Nat.reduceBEq,Nat.reduceEqDiff]
  refine hL _ _ ?_
  clear hL
  refine Lp_next fun L hL=>?_
  simp -implicitDefEqProofs (maxSteps:=99999999) (disch:=omega) only[vu,size1,ne1,va,vg,vs,vh,Nat.reduceMul,ite_true,ite_false,eq_self,forall_const,implies_true,Nat.reduceAdd,Nat.reduceSub,Nat.reduceLT,Nat.reduceLeDiff,↓reduceIte,reduceCtorEq,Int.reduceEq,Int.reduceLT,Int.reduceLE,Int.reduceGT,Int.reduceGE,Int.reduceAdd,Int.reduceSub,Int.reduceNeg,Int.reduceToNat,Nat.reduceBEq,Nat.reduceEqDiff]
  exact weak_sc .refl
 ·simp -implicitDefEqProofs (maxSteps:=99999999) (disch:=omega) only[ic51,vu,va,vg,vs,vh,Nat.reduceMul,ite_true,ite_false,eq_self,forall_const,implies_true,Nat.reduceAdd,Nat.reduceSub,Nat.reduceLT,Nat.reduceLeDiff,↓reduceIte,reduceCtorEq,Int.reduceEq,Int.reduceLT,Int.reduceLE,Int.reduceGT,Int.reduceGE,Int.reduceAdd,Int.reduceSub,Int.reduceNeg,Int.reduceToNat,Nat.reduceBEq,Nat.reduceEqDiff]
  refine ES_unroll (.s (.s .o)) ?_
  refine Lp_next fun L hL=>?_
  simp -implicitDefEqProofs (maxSteps:=99999999) (disch:=omega) only[vu,size1,va,vg,vs,vh,Nat.reduceMul,ite_true,ite_false,eq_self,forall_const,implies_true,Nat.reduceAdd,Nat.reduceSub,Nat.reduceLT,Nat.reduceLeDiff,↓reduceIte,reduceCtorEq,Int.reduceEq,Int.reduceLT,Int.reduceLE,Int.reduceGT,Int.reduceGE,Int.reduceAdd,Int.reduceSub,Int.reduceNeg,Int.reduceToNat,Nat.reduceBEq,Nat.reduceEqDiff]
  refine ⟨by kernel_rfl,callR_ret (good_d 98 (.inr (.inl rfl)) _) ?_⟩
  simp -implicitDefEqProofs (maxSteps:=99999999) (disch:=omega) only[vu,size1,va,vg,vs,vh,Nat.reduceMul,ite_true,ite_false,eq_self,forall_const,implies_true,Nat.reduceAdd,Nat.reduceSub,Nat.reduceLT,Nat.reduceLeDiff,↓reduceIte,reduceCtorEq,Int.reduceEq,Int.reduceLT,Int.reduceLE,Int.reduceGT,Int.reduceGE,Int.reduceAdd,Int.reduceSub,Int.reduceNeg,Int.reduceToNat,Nat.reduceBEq,Nat.reduceEqDiff]
  refine hL _ _ ?_
  clear hL
  refine Lp_next fun L hL=>?_
  simp -implicitDefEqProofs (maxSteps:=99999999) (disch:=omega) only[vu,size1,ne1,va,vg,vs,vh,Nat.reduceMul,ite_true,ite_false,eq_self,forall_const,implies_true,Nat.reduceAdd,Nat.reduceSub,Nat.reduceLT,Nat.reduceLeDiff,↓reduceIte,reduceCtorEq,Int.reduceEq,Int.reduceLT,Int.reduceLE,Int.reduceGT,Int.reduceGE,Int.reduceAdd,Int.reduceSub,Int.reduceNeg,Int.reduceToNat,Nat.reduceBEq,Nat.reduceEqDiff]
  exact weak_sc .refl
 ·simp -implicitDefEqProofs (maxSteps:=99999999) (disch:=omega) only[ic51,vu,va,vg,vs,vh,Nat.reduceMul,ite_true,ite_false,eq_self,forall_const,implies_true,Nat.reduceAdd,Nat.reduceSub,Nat.reduceLT,Nat.reduceLeDiff,↓reduceIte,reduceCtorEq,Int.reduceEq,Int.reduceLT,Int.reduceLE,Int.reduceGT,Int.reduceGE,Int.reduceAdd,Int.reduceSub,Int.reduceNeg,Int.reduceToNat,Nat.reduceBEq,Nat.reduceEqDiff]
  refine ES_unroll (.s (.s .o)) ?_
  refine Lp_next fun L hL=>?_
  simp -implicitDefEqProofs (maxSteps:=99999999) (disch:=omega) only[vu,size1,va,vg,vs,vh,Nat.reduceMul,ite_true,ite_false,eq_self,forall_const,implies_true,Nat.reduceAdd,Nat.reduceSub,Nat.reduceLT,Nat.reduceLeDiff,↓reduceIte,reduceCtorEq,Int.reduceEq,Int.reduceLT,Int.reduceLE,Int.reduceGT,Int.reduceGE,Int.reduceAdd,Int.reduceSub,Int.reduceNeg,Int.reduceToNat,Nat.reduceBEq,Nat.reduceEqDiff]
  refine ⟨by kernel_rfl,callR_ret (good_d 99 (.inr (.inr rfl)) _) ?_⟩
  simp -implicitDefEqProofs (maxSteps:=99999999) (disch:=omega) only[vu,size1,va,vg,vs,vh,Nat.reduceMul,ite_true,ite_false,eq_self,forall_const,implies_true,Nat.reduceAdd,Nat.reduceSub,Nat.reduceLT,Nat.reduceLeDiff,↓reduceIte,reduceCtorEq,Int.reduceEq,Int.reduceLT,Int.reduceLE,Int.reduceGT,Int.reduceGE,Int.reduceAdd,Int.reduceSub,Int.reduceNeg,Int.reduceToNat,Nat.reduceBEq,Nat.reduceEqDiff]
  refine hL _ _ ?_
  clear hL
  refine Lp_next fun L hL=>?_
  simp -implicitDefEqProofs (maxSteps:=99999999) (disch:=omega) only[vu,size1,ne1,va,vg,vs,vh,Nat.reduceMul,ite_true,ite_false,eq_self,forall_const,implies_true,Nat.reduceAdd,Nat.reduceSub,Nat.reduceLT,Nat.reduceLeDiff,↓reduceIte,reduceCtorEq,Int.reduceEq,Int.reduceLT,Int.reduceLE,Int.reduceGT,Int.reduceGE,Int.reduceAdd,Int.reduceSub,Int.reduceNeg,Int.reduceToNat,Nat.reduceBEq,Nat.reduceEqDiff]
  exact weak_sc .refl
theorem sameA_d (k : Nat) (f g : ByteArray) (H : AHeap) : D Tryz.prog 52 [patA k f e0,patA k g e0] H (.ret (.sc (.bool (decide (f=g))))) H:=by
 refine D_of_DK (by simp) (dk52 (E_of_ES ?_))
 unfold patA
 by_cases h : f=g
 ·subst h
  simp -implicitDefEqProofs (maxSteps:=99999999) (disch:=omega) only[ic52,vu,va,vg,vs,vh,Nat.reduceMul,ite_true,ite_false,eq_self,forall_const,implies_true,Nat.reduceAdd,Nat.reduceSub,Nat.reduceLT,Nat.reduceLeDiff,↓reduceIte,reduceCtorEq,Int.reduceEq,Int.reduceLT,Int.reduceLE,Int.reduceGT,Int.reduceGE,Int.reduceAdd,Int.reduceSub,Int.reduceNeg,Int.reduceToNat,Nat.reduceBEq,Nat.reduceEqDiff]
  refine callR_ret (eqT_nil _) ?_
  simp -implicitDefEqProofs (maxSteps:=99999999) (disch:=omega) only[vu,va,vg,vs,vh,Nat.reduceMul,ite_true,ite_false,eq_self,forall_const,implies_true,Nat.reduceAdd,Nat.reduceSub,Nat.reduceLT,Nat.reduceLeDiff,↓reduceIte,reduceCtorEq,Int.reduceEq,Int.reduceLT,Int.reduceLE,Int.reduceGT,Int.reduceGE,Int.reduceAdd,Int.reduceSub,Int.reduceNeg,Int.reduceToNat,Nat.reduceBEq,Nat.reduceEqDiff]
  refine callR_ret (eqT_nil _) ?_
  simp -implicitDefEqProofs (maxSteps:=99999999) (disch:=omega) only[vu,va,vg,vs,vh,Nat.reduceMul,ite_true,ite_false,eq_self,forall_const,implies_true,Nat.reduceAdd,Nat.reduceSub,Nat.reduceLT,Nat.reduceLeDiff,↓reduceIte,reduceCtorEq,Int.reduceEq,Int.reduceLT,Int.reduceLE,Int.reduceGT,Int.reduceGE,Int.reduceAdd,Int.reduceSub,Int.reduceNeg,Int.reduceToNat,Nat.reduceBEq,Nat.reduceEqDiff]
  refine callR_ret (eqI_nil _) ?_
  simp -implicitDefEqProofs (maxSteps:=99999999) (disch:=omega) only[vu,va,vg,vs,vh,Nat.reduceMul,ite_true,ite_false,eq_self,forall_const,implies_true,Nat.reduceAdd,Nat.reduceSub,Nat.reduceLT,Nat.reduceLeDiff,↓reduceIte,reduceCtorEq,Int.reduceEq,Int.reduceLT,Int.reduceLE,Int.reduceGT,Int.reduceGE,Int.reduceAdd,Int.reduceSub,Int.reduceNeg,Int.reduceToNat,Nat.reduceBEq,Nat.reduceEqDiff]
  refine callR_ret (eqN_nil _ _) ?_
  simp -implicitDefEqProofs (maxSteps:=99999999) (disch:=omega) only[vu,va,vg,vs,vh,Nat.reduceMul,ite_true,ite_false,eq_self,forall_const,implies_true,Nat.reduceAdd,Nat.reduceSub,Nat.reduceLT,Nat.reduceLeDiff,↓reduceIte,reduceCtorEq,Int.reduceEq,Int.reduceLT,Int.reduceLE,Int.reduceGT,Int.reduceGE,Int.reduceAdd,Int.reduceSub,Int.reduceNeg,Int.reduceToNat,Nat.reduceBEq,Nat.reduceEqDiff]
  refine callR_ret (eqN_nil _ _) ?_
  simp -implicitDefEqProofs (maxSteps:=99999999) (disch:=omega) only[vu,va,vg,vs,vh,Nat.reduceMul,ite_true,ite_false,eq_self,forall_const,implies_true,Nat.reduceAdd,Nat.reduceSub,Nat.reduceLT,Nat.reduceLeDiff,↓reduceIte,reduceCtorEq,Int.reduceEq,Int.reduceLT,Int.reduceLE,Int.reduceGT,Int.reduceGE,Int.reduceAdd,Int.reduceSub,Int.reduceNeg,Int.reduceToNat,Nat.reduceBEq,Nat.reduceEqDiff]
  exact weak_sc (by repeat constructor)
 ·simp -implicitDefEqProofs (maxSteps:=99999999) (disch:=omega) only[ic52,vu,h,va,vg,vs,vh,Nat.reduceMul,ite_true,ite_false,eq_self,forall_const,implies_true,Nat.reduceAdd,Nat.reduceSub,Nat.reduceLT,Nat.reduceLeDiff,↓reduceIte,reduceCtorEq,Int.reduceEq,Int.reduceLT,Int.reduceLE,Int.reduceGT,Int.reduceGE,Int.reduceAdd,Int.reduceSub,Int.reduceNeg,Int.reduceToNat,Nat.reduceBEq,Nat.reduceEqDiff]
  exact weak_sc (by repeat constructor)
theorem same_bare (k : Nat) (f : ByteArray) (H : AHeap) : D Tryz.prog 52 [patA k f e0,patA k f e0] H (.ret (.sc (.bool true))) H:=by
 have:=sameA_d k f f H
 simpa using this
theorem rightA_d (k : Nat) (hk : k=1 ∨ k=2) (c : UInt8) (hc : c=97 ∨ c=98 ∨ c=99) (H : AHeap) : D Tryz.prog 25 [patA k (one c) e0] H (.ret (.sc (.bool true))) H:=by
 refine D_of_DK (by simp) (dk25 (E_of_ES ?_))
 have hs:=same_bare k (one c)
 unfold patA at *
 rcases hk with rfl | rfl
 ·simp -implicitDefEqProofs (maxSteps:=99999999) (disch:=omega) only[ic25,vu,va,vg,vs,vh,Nat.reduceMul,ite_true,ite_false,eq_self,forall_const,implies_true,Nat.reduceAdd,Nat.reduceSub,Nat.reduceLT,Nat.reduceLeDiff,↓reduceIte,reduceCtorEq,Int.reduceEq,Int.reduceLT,Int.reduceLE,Int.reduceGT,Int.reduceGE,Int.reduceAdd,Int.reduceSub,Int.reduceNeg,Int.reduceToNat,Nat.reduceBEq,Nat.reduceEqDiff]
  refine callR_ret (pname_d c hc _) ?_
  simp -implicitDefEqProofs (maxSteps:=99999999) (disch:=omega) only[vu,va,vg,vs,vh,Nat.reduceMul,ite_true,ite_false,eq_self,forall_const,implies_true,Nat.reduceAdd,Nat.reduceSub,Nat.reduceLT,Nat.reduceLeDiff,↓reduceIte,reduceCtorEq,Int.reduceEq,Int.reduceLT,Int.reduceLE,Int.reduceGT,Int.reduceGE,Int.reduceAdd,Int.reduceSub,Int.reduceNeg,Int.reduceToNat,Nat.reduceBEq,Nat.reduceEqDiff]
  refine callR_ret (hs _) ?_
  simp -implicitDefEqProofs (maxSteps:=99999999) (disch:=omega) only[vu,va,vg,vs,vh,Nat.reduceMul,ite_true,ite_false,eq_self,forall_const,implies_true,Nat.reduceAdd,Nat.reduceSub,Nat.reduceLT,Nat.reduceLeDiff,↓reduceIte,reduceCtorEq,Int.reduceEq,Int.reduceLT,Int.reduceLE,Int.reduceGT,Int.reduceGE,Int.reduceAdd,Int.reduceSub,Int.reduceNeg,Int.reduceToNat,Nat.reduceBEq,Nat.reduceEqDiff]
  exact weak_sc (by repeat constructor)
 ·simp -implicitDefEqProofs (maxSteps:=99999999) (disch:=omega) only[ic25,vu,va,vg,vs,vh,Nat.reduceMul,ite_true,ite_false,eq_self,forall_const,implies_true,Nat.reduceAdd,Nat.reduceSub,Nat.reduceLT,Nat.reduceLeDiff,↓reduceIte,reduceCtorEq,Int.reduceEq,Int.reduceLT,Int.reduceLE,Int.reduceGT,Int.reduceGE,Int.reduceAdd,Int.reduceSub,Int.reduceNeg,Int.reduceToNat,Nat.reduceBEq,Nat.reduceEqDiff]
  refine callR_ret (pname_d c hc _) ?_
  simp -implicitDefEqProofs (maxSteps:=99999999) (disch:=omega) only[vu,va,vg,vs,vh,Nat.reduceMul,ite_true,ite_false,eq_self,forall_const,implies_true,Nat.reduceAdd,Nat.reduceSub,Nat.reduceLT,Nat.reduceLeDiff,↓reduceIte,reduceCtorEq,Int.reduceEq,Int.reduceLT,Int.reduceLE,Int.reduceGT,Int.reduceGE,Int.reduceAdd,Int.reduceSub,Int.reduceNeg,Int.reduceToNat,Nat.reduceBEq,Nat.reduceEqDiff]
  refine callR_ret (hs _) ?_
  simp -implicitDefEqProofs (maxSteps:=99999999) (disch:=omega) only[vu,va,vg,vs,vh,Nat.reduceMul,ite_true,ite_false,eq_self,forall_const,implies_true,Nat.reduceAdd,Nat.reduceSub,Nat.reduceLT,Nat.reduceLeDiff,↓reduceIte,reduceCtorEq,Int.reduceEq,Int.reduceLT,Int.reduceLE,Int.reduceGT,Int.reduceGE,Int.reduceAdd,Int.reduceSub,Int.reduceNeg,Int.reduceToNat,Nat.reduceBEq,Nat.reduceEqDiff]
  exact weak_sc (by repeat constructor)
theorem invertA_d (c : UInt8) (hc : c=97 ∨ c=98 ∨ c=99) (H : AHeap) : D Tryz.prog 65 [patA 1 (one c) e0] H (.ret (patA 2 (one c) e0)) H ∧ D Tryz.prog 65 [patA 2 (one c) e0] H (.ret (patA 1 (one c) e0)) H:=by
 have h1:=rightA_d 1 (.inl rfl) c hc
 have h2:=rightA_d 2 (.inr rfl) c hc
 unfold patA at *
 constructor
 ·refine D_of_DK (by simp) (dk65 (E_of_ES ?_))
  simp -implicitDefEqProofs (maxSteps:=99999999) (disch:=omega) only[ic65,vu,va,vg,vs,vh,Nat.reduceMul,ite_true,ite_false,eq_self,forall_const,implies_true,Nat.reduceAdd,Nat.reduceSub,Nat.reduceLT,Nat.reduceLeDiff,↓reduceIte,reduceCtorEq,Int.reduceEq,Int.reduceLT,Int.reduceLE,Int.reduceGT,Int.reduceGE,Int.reduceAdd,Int.reduceSub,Int.reduceNeg,Int.reduceToNat,Nat.reduceBEq,Nat.reduceEqDiff]
  refine callR_ret (h1 _) ?_
  simp -implicitDefEqProofs (maxSteps:=99999999) (disch:=omega) only[vu,va,vg,vs,vh,Nat.reduceMul,ite_true,ite_false,eq_self,forall_const,implies_true,Nat.reduceAdd,Nat.reduceSub,Nat.reduceLT,Nat.reduceLeDiff,↓reduceIte,reduceCtorEq,Int.reduceEq,Int.reduceLT,Int.reduceLE,Int.reduceGT,Int.reduceGE,Int.reduceAdd,Int.reduceSub,Int.reduceNeg,Int.reduceToNat,Nat.reduceBEq,Nat.reduceEqDiff]
  exact weak_over (by repeat constructor) (by repeat constructor)
 ·refine D_of_DK (by simp) (dk65 (E_of_ES ?_))
  simp -implicitDefEqProofs (maxSteps:=99999999) (disch:=omega) only[ic65,vu,va,vg,vs,vh,Nat.reduceMul,ite_true,ite_false,eq_self,forall_const,implies_true,Nat.reduceAdd,Nat.reduceSub,Nat.reduceLT,Nat.reduceLeDiff,↓reduceIte,reduceCtorEq,Int.reduceEq,Int.reduceLT,Int.reduceLE,Int.reduceGT,Int.reduceGE,Int.reduceAdd,Int.reduceSub,Int.reduceNeg,Int.reduceToNat,Nat.reduceBEq,Nat.reduceEqDiff]
  refine callR_ret (h2 _) ?_
  simp -implicitDefEqProofs (maxSteps:=99999999) (disch:=omega) only[vu,va,vg,vs,vh,Nat.reduceMul,ite_true,ite_false,eq_self,forall_const,implies_true,Nat.reduceAdd,Nat.reduceSub,Nat.reduceLT,Nat.reduceLeDiff,↓reduceIte,reduceCtorEq,Int.reduceEq,Int.reduceLT,Int.reduceLE,Int.reduceGT,Int.reduceGE,Int.reduceAdd,Int.reduceSub,Int.reduceNeg,Int.reduceToNat,Nat.reduceBEq,Nat.reduceEqDiff]
  exact weak_over (by repeat constructor) (by repeat constructor)
theorem ownA_d (c : UInt8) (hc : c=97 ∨ c=98 ∨ c=99) (H : AHeap) : D Tryz.prog 43 [patA 1 (one c) e0] H (.ret (patA 1 (one c) e0)) H:=by
 have h1:=fun H=>(invertA_d c hc H).1
 have h2:=fun H=>(invertA_d c hc H).2
 refine D_of_DK (by simp) (dk43 (E_of_ES ?_))
 unfold patA at *
 simp -implicitDefEqProofs (maxSteps:=99999999) (disch:=omega) only[ic43,vu,va,vg,vs,vh,Nat.reduceMul,ite_true,ite_false,eq_self,forall_const,implies_true,Nat.reduceAdd,Nat.reduceSub,Nat.reduceLT,Nat.reduceLeDiff,↓reduceIte,reduceCtorEq,Int.reduceEq,Int.reduceLT,Int.reduceLE,Int.reduceGT,Int.reduceGE,Int.reduceAdd,Int.reduceSub,Int.reduceNeg,Int.reduceToNat,Nat.reduceBEq,Nat.reduceEqDiff]
 refine callR_ret (h1 _) ?_
 simp -implicitDefEqProofs (maxSteps:=99999999) (disch:=omega) only[vu,va,vg,vs,vh,Nat.reduceMul,ite_true,ite_false,eq_self,forall_const,implies_true,Nat.reduceAdd,Nat.reduceSub,Nat.reduceLT,Nat.reduceLeDiff,↓reduceIte,reduceCtorEq,Int.reduceEq,Int.reduceLT,Int.reduceLE,Int.reduceGT,Int.reduceGE,Int.reduceAdd,Int.reduceSub,Int.reduceNeg,Int.reduceToNat,Nat.reduceBEq,Nat.reduceEqDiff]
 refine callR_ret (h2 _) ?_
 simp -implicitDefEqProofs (maxSteps:=99999999) (disch:=omega) only[vu,va,vg,vs,vh,Nat.reduceMul,ite_true,ite_false,eq_self,forall_const,implies_true,Nat.reduceAdd,Nat.reduceSub,Nat.reduceLT,Nat.reduceLeDiff,↓reduceIte,reduceCtorEq,Int.reduceEq,Int.reduceLT,Int.reduceLE,Int.reduceGT,Int.reduceGE,Int.reduceAdd,Int.reduceSub,Int.reduceNeg,Int.reduceToNat,Nat.reduceBEq,Nat.reduceEqDiff]
 exact weak_over (by repeat constructor) (by repeat constructor)
end Go.Proofs.YtdjnccnecgblmaaGreatDoor
namespace Go.Proofs.YtdjnccnecgblmaaGreatDoor
open Go.RowKit
set_option maxRecDepth 100000
set_option linter.unusedVariables false
set_option linter.unusedSimpArgs false
theorem slIndex_d (s : ByteArray) (c : Nat) (H : AHeap) : D Tryz.prog 164 [.sc (.string s),.sc (.int .u8 c)] H (.ret (.sc (.int .i64 (firstIdx s ((c : Int).toNat.toUInt8))))) H:=by
 refine D_of_DK (Nat.le_refl _) (dk164 (E_of_ES ?_))
 simp -implicitDefEqProofs (maxSteps:=99999999) (disch:=omega) only[ic164,vu,vg,va,vg,vs,vh,Nat.reduceMul,ite_true,ite_false,eq_self,forall_const,implies_true,Nat.reduceAdd,Nat.reduceSub,Nat.reduceLT,Nat.reduceLeDiff,↓reduceIte,reduceCtorEq,Int.reduceEq,Int.reduceLT,Int.reduceLE,Int.reduceGT,Int.reduceGE,Int.reduceAdd,Int.reduceSub,Int.reduceNeg,Int.reduceToNat,Nat.reduceBEq,Nat.reduceEqDiff]
 exact weak_sc .refl
theorem sIndex_d (s : ByteArray) (c : Nat) (H : AHeap) : D Tryz.prog 106 [.sc (.string s),.sc (.int .u8 c)] H (.ret (.sc (.int .i64 (firstIdx s ((c : Int).toNat.toUInt8))))) H:=by
 refine D_of_DK (Nat.le_refl _) (dk106 (E_of_ES ?_))
 simp -implicitDefEqProofs (maxSteps:=99999999) (disch:=omega) only[ic106,vu,va,vg,vs,vh,Nat.reduceMul,ite_true,ite_false,eq_self,forall_const,implies_true,Nat.reduceAdd,Nat.reduceSub,Nat.reduceLT,Nat.reduceLeDiff,↓reduceIte,reduceCtorEq,Int.reduceEq,Int.reduceLT,Int.reduceLE,Int.reduceGT,Int.reduceGE,Int.reduceAdd,Int.reduceSub,Int.reduceNeg,Int.reduceToNat,Nat.reduceBEq,Nat.reduceEqDiff]
 refine callR_ret (slIndex_d s c _) ?_
 simp -implicitDefEqProofs (maxSteps:=99999999) (disch:=omega) only[vu,va,vg,vs,vh,Nat.reduceMul,ite_true,ite_false,eq_self,forall_const,implies_true,Nat.reduceAdd,Nat.reduceSub,Nat.reduceLT,Nat.reduceLeDiff,↓reduceIte,reduceCtorEq,Int.reduceEq,Int.reduceLT,Int.reduceLE,Int.reduceGT,Int.reduceGE,Int.reduceAdd,Int.reduceSub,Int.reduceNeg,Int.reduceToNat,Nat.reduceBEq,Nat.reduceEqDiff]
 exact weak_sc .refl
theorem odd_d (c : UInt8) (hc : c=112 ∨ c=113 ∨ c=114) (H : AHeap) : D Tryz.prog 105 [.sc (.int .u8 (c.toNat : Nat))] H (.ret (.sc (.bool false))) H:=by
 refine D_of_DK (Nat.le_refl _) (dk105 (E_of_ES ?_))
 simp -implicitDefEqProofs (maxSteps:=99999999) (disch:=omega) only[ic105,vu,va,vg,vs,vh,Nat.reduceMul,ite_true,ite_false,eq_self,forall_const,implies_true,Nat.reduceAdd,Nat.reduceSub,Nat.reduceLT,Nat.reduceLeDiff,↓reduceIte,reduceCtorEq,Int.reduceEq,Int.reduceLT,Int.reduceLE,Int.reduceGT,Int.reduceGE,Int.reduceAdd,Int.reduceSub,Int.reduceNeg,Int.reduceToNat,Nat.reduceBEq,Nat.reduceEqDiff]
 refine callR_ret (sIndex_d _ _ _) ?_
 generalize hfi : firstIdx _ _=n
 have hn : ¬ n < 0:=by
  rw[← hfi]
  rcases hc with rfl | rfl | rfl <;> decide
 clear hfi
 simp -implicitDefEqProofs (maxSteps:=99999999) (disch:=omega) only[vu,hn,va,vg,vs,vh,Nat.reduceMul,ite_true,ite_false,eq_self,forall_const,implies_true,Nat.reduceAdd,Nat.reduceSub,Nat.reduceLT,Nat.reduceLeDiff,↓reduceIte,reduceCtorEq,Int.reduceEq,Int.reduceLT,Int.reduceLE,Int.reduceGT,Int.reduceGE,Int.reduceAdd,Int.reduceSub,Int.reduceNeg,Int.reduceToNat,Nat.reduceBEq,Nat.reduceEqDiff]
 exact weak_sc .refl
theorem indexA_d (c : UInt8) (hc : c=112 ∨ c=113 ∨ c=114) (H : AHeap) : D Tryz.prog 165 [.lst 1 [.sc (.int .u8 (c.toNat : Nat))] none,.fn (.func 105) [] []] H (.ret (.sc (.int .i64 (-1)))) H:=by
 refine D_of_DK (Nat.le_refl _) (dk165 (E_of_ES ?_))
 simp -implicitDefEqProofs (maxSteps:=99999999) (disch:=omega) only[ic165,vu,va,vg,vs,vh,Nat.reduceMul,ite_true,ite_false,eq_self,forall_const,implies_true,Nat.reduceAdd,Nat.reduceSub,Nat.reduceLT,Nat.reduceLeDiff,↓reduceIte,reduceCtorEq,Int.reduceEq,Int.reduceLT,Int.reduceLE,Int.reduceGT,Int.reduceGE,Int.reduceAdd,Int.reduceSub,Int.reduceNeg,Int.reduceToNat,Nat.reduceBEq,Nat.reduceEqDiff]
 refine ES_unroll (.s (.s .o)) ?_
 refine Lp_next fun L hL=>?_
 simp -implicitDefEqProofs (maxSteps:=99999999) (disch:=omega) only[vu,va,vg,vs,vh,Nat.reduceMul,ite_true,ite_false,eq_self,forall_const,implies_true,Nat.reduceAdd,Nat.reduceSub,Nat.reduceLT,Nat.reduceLeDiff,↓reduceIte,reduceCtorEq,Int.reduceEq,Int.reduceLT,Int.reduceLE,Int.reduceGT,Int.reduceGE,Int.reduceAdd,Int.reduceSub,Int.reduceNeg,Int.reduceToNat,Nat.reduceBEq,Nat.reduceEqDiff]
 refine ⟨by kernel_rfl,callR_ret (odd_d c hc _) ?_⟩
 simp -implicitDefEqProofs (maxSteps:=99999999) (disch:=omega) only[vu,va,vg,vs,vh,Nat.reduceMul,ite_true,ite_false,eq_self,forall_const,implies_true,Nat.reduceAdd,Nat.reduceSub,Nat.reduceLT,Nat.reduceLeDiff,↓reduceIte,reduceCtorEq,Int.reduceEq,Int.reduceLT,Int.reduceLE,Int.reduceGT,Int.reduceGE,Int.reduceAdd,Int.reduceSub,Int.reduceNeg,Int.reduceToNat,Nat.reduceBEq,Nat.reduceEqDiff]
 refine hL _ _ ?_
 clear hL
 refine Lp_next fun L hL=>?_
 simp -implicitDefEqProofs (maxSteps:=99999999) (disch:=omega) only[vu,va,vg,vs,vh,Nat.reduceMul,ite_true,ite_false,eq_self,forall_const,implies_true,Nat.reduceAdd,Nat.reduceSub,Nat.reduceLT,Nat.reduceLeDiff,↓reduceIte,reduceCtorEq,Int.reduceEq,Int.reduceLT,Int.reduceLE,Int.reduceGT,Int.reduceGE,Int.reduceAdd,Int.reduceSub,Int.reduceNeg,Int.reduceToNat,Nat.reduceBEq,Nat.reduceEqDiff]
 exact weak_sc .refl
theorem snamed_d (c : UInt8) (hc : c=112 ∨ c=113 ∨ c=114) (H : AHeap) : D Tryz.prog 57 [.sc (.string (one c))] H (.ret (.sc (.bool true))) H:=by
 have hi:=indexA_d c hc
 have hcn : D Tryz.prog 107 [.lst 1 [.sc (.int .u8 (c.toNat : Nat))] none,.fn (.func 105) [] []] H (.ret (.sc (.bool false))) H:=by
  refine D_of_DK (Nat.le_refl _) (dk107 (E_of_ES ?_))
  simp -implicitDefEqProofs (maxSteps:=99999999) (disch:=omega) only[ic107,vu,va,vg,vs,vh,Nat.reduceMul,ite_true,ite_false,eq_self,forall_const,implies_true,Nat.reduceAdd,Nat.reduceSub,Nat.reduceLT,Nat.reduceLeDiff,↓reduceIte,reduceCtorEq,Int.reduceEq,Int.reduceLT,Int.reduceLE,Int.reduceGT,Int.reduceGE,Int.reduceAdd,Int.reduceSub,Int.reduceNeg,Int.reduceToNat,Nat.reduceBEq,Nat.reduceEqDiff]
  refine callR_ret (hi _) ?_
  simp -implicitDefEqProofs (maxSteps:=99999999) (disch:=omega) only[vu,va,vg,vs,vh,Nat.reduceMul,ite_true,ite_false,eq_self,forall_const,implies_true,Nat.reduceAdd,Nat.reduceSub,Nat.reduceLT,Nat.reduceLeDiff,↓reduceIte,reduceCtorEq,Int.reduceEq,Int.reduceLT,Int.reduceLE,Int.reduceGT,Int.reduceGE,Int.reduceAdd,Int.reduceSub,Int.reduceNeg,Int.reduceToNat,Nat.reduceBEq,Nat.reduceEqDiff]
  exact weak_sc .refl
 refine D_of_DK (Nat.le_refl _) (dk57 (E_of_ES ?_))
 unfold one
 simp -implicitDefEqProofs (maxSteps:=99999999) (disch:=omega) only[ic57,vu,size1,ne1,va,vg,vs,vh,Nat.reduceMul,ite_true,ite_false,eq_self,forall_const,implies_true,Nat.reduceAdd,Nat.reduceSub,Nat.reduceLT,Nat.reduceLeDiff,↓reduceIte,reduceCtorEq,Int.reduceEq,Int.reduceLT,Int.reduceLE,Int.reduceGT,Int.reduceGE,Int.reduceAdd,Int.reduceSub,Int.reduceNeg,Int.reduceToNat,Nat.reduceBEq,Nat.reduceEqDiff]
 refine callR_ret hcn ?_
 simp -implicitDefEqProofs (maxSteps:=99999999) (disch:=omega) only[vu,va,vg,vs,vh,Nat.reduceMul,ite_true,ite_false,eq_self,forall_const,implies_true,Nat.reduceAdd,Nat.reduceSub,Nat.reduceLT,Nat.reduceLeDiff,↓reduceIte,reduceCtorEq,Int.reduceEq,Int.reduceLT,Int.reduceLE,Int.reduceGT,Int.reduceGE,Int.reduceAdd,Int.reduceSub,Int.reduceNeg,Int.reduceToNat,Nat.reduceBEq,Nat.reduceEqDiff]
 exact weak_sc (by repeat constructor)
end Go.Proofs.YtdjnccnecgblmaaGreatDoor
namespace Go.Proofs.YtdjnccnecgblmaaGreatDoor
open Go.RowKit
set_option maxRecDepth 100000
set_option linter.unusedVariables false
set_option linter.unusedSimpArgs false
def nmA (n f : UInt8) : AV:=.agg [.sc (.string (one n)),.sc (.int .u8 1),.sc (.string (one f)),.sc (.string e0),.sc (.int .i64 0),nlB,nlB,.sc (.int .u8 0),nlB,.sc (.int .i64 0),.sc (.int .i64 0),.sc (.string e0),.sc (.string e0),nlB,nlB]
theorem overG {H G : AHeap} {x y : AV} (h : Over H G) (hz : Gz G H.length [] x y) : Weak H (.pan x) G (.pan y) H:=by
 obtain ⟨A,rfl⟩:=h.split
 exact weak_gen [] (by simp) (by simp) (by simp) (fun id k hid hk=>.inl ⟨hk,by rw[AHeap.find_append hid];exact hk⟩) (fun i s k hs=>by simp at hs) hz
theorem add_new (n f : UInt8) (hn : n=112 ∨ n=113 ∨ n=114) (hf : f=97 ∨ f=98 ∨ f=99) (es : List AV) (ex : Bool) (m : Nat) (H : AHeap) (hm : AHeap.find H m=some ⟨0,es,ex,0⟩) (hok : entsOk none es) (hix : mIdx (.string (one n)) es=es.length) (hids : AV.idsL (· < H.length) es) :
  D Tryz.prog 33 [.agg [.ptr 0 m 0 0],nmA n f] H (.ret (.tup [])) (AHeap.set H m (some ⟨0,es ++ [.tup [.sc (.string (one n)),patA 1 (one f) e0]],ex,0⟩)):=by
 have hnm:=snamed_d n hn
 have hrt:=rightA_d 1 (.inl rfl) f hf
 have how:=ownA_d f hf
 have hmt:=fun (e : Value) H=>must_d true e H
 have hmH:=AHeap.find_lt hm
 have hmv : ∀ z,mVal (.string (one n)) z es=z:=fun z=>by unfold mVal;rw[hix,if_neg (Nat.lt_irrefl _)]
 have hmp : ∀ v,mPut (.string (one n)) v es=es ++ [.tup [.sc (.string (one n)),v]]:=fun v=>by unfold mPut;rw[hix,if_neg (Nat.lt_irrefl _)]
 refine D_of_DK (by simp[AHeap.set_length]) (dk33 (E_of_ES ?_))
 simp only[ic33,ux]
 unfold nmA
 unfold patA at *
 refine ES_seq_gen fun L hL=>?_
 simp -implicitDefEqProofs (maxSteps:=99999999) (disch:=first | omega | (simp only[AHeap.set_length,killO_length,List.length_cons,List.length_nil];first | done | omega)) only[vu,hm,va,vg,vs,vw,Nat.reduceMul,ite_true,ite_false,eq_self,forall_const,implies_true,Nat.reduceAdd,Nat.reduceSub,Nat.reduceLT,Nat.reduceLeDiff,↓reduceIte,reduceCtorEq,Int.reduceEq,Int.reduceLT,Int.reduceLE,Int.reduceGT,Int.reduceGE,Int.reduceAdd,Int.reduceSub,Int.reduceNeg,Int.reduceToNat,Nat.reduceBEq,Nat.reduceEqDiff]
 refine hL _ _ ?_
 clear hL
 refine ES_seq_gen fun L hL=>?_
 simp -implicitDefEqProofs (maxSteps:=99999999) (disch:=first | omega | (simp only[AHeap.set_length,killO_length,List.length_cons,List.length_nil];first | done | omega)) only[vu,hm,va,vg,vs,vw,Nat.reduceMul,ite_true,ite_false,eq_self,forall_const,implies_true,Nat.reduceAdd,Nat.reduceSub,Nat.reduceLT,Nat.reduceLeDiff,↓reduceIte,reduceCtorEq,Int.reduceEq,Int.reduceLT,Int.reduceLE,Int.reduceGT,Int.reduceGE,Int.reduceAdd,Int.reduceSub,Int.reduceNeg,Int.reduceToNat,Nat.reduceBEq,Nat.reduceEqDiff]
 refine callR_ret (hnm _) ?_
 simp -implicitDefEqProofs (maxSteps:=99999999) (disch:=first | omega | (simp only[AHeap.set_length,killO_length,List.length_cons,List.length_nil];first | done | omega)) only[vu,hm,va,vg,vs,vw,Nat.reduceMul,ite_true,ite_false,eq_self,forall_const,implies_true,Nat.reduceAdd,Nat.reduceSub,Nat.reduceLT,Nat.reduceLeDiff,↓reduceIte,reduceCtorEq,Int.reduceEq,Int.reduceLT,Int.reduceLE,Int.reduceGT,Int.reduceGE,Int.reduceAdd,Int.reduceSub,Int.reduceNeg,Int.reduceToNat,Nat.reduceBEq,Nat.reduceEqDiff]
 refine callR_ret (hmt _ _) ?_
 simp -implicitDefEqProofs (maxSteps:=99999999) (disch:=first | omega | (simp only[AHeap.set_length,killO_length,List.length_cons,List.length_nil];first | done | omega)) only[vu,hm,va,vg,vs,vw,Nat.reduceMul,ite_true,ite_false,eq_self,forall_const,implies_true,Nat.reduceAdd,Nat.reduceSub,Nat.reduceLT,Nat.reduceLeDiff,↓reduceIte,reduceCtorEq,Int.reduceEq,Int.reduceLT,Int.reduceLE,Int.reduceGT,Int.reduceGE,Int.reduceAdd,Int.reduceSub,Int.reduceNeg,Int.reduceToNat,Nat.reduceBEq,Nat.reduceEqDiff]
 refine hL _ _ ?_
 clear hL
 refine ES_seq_gen fun L hL=>?_
 simp -implicitDefEqProofs (maxSteps:=99999999) (disch:=first | omega | (simp only[AHeap.set_length,killO_length,List.length_cons,List.length_nil];first | done | omega)) only[vu,hm,va,vg,vs,vw,Nat.reduceMul,ite_true,ite_false,eq_self,forall_const,implies_true,Nat.reduceAdd,Nat.reduceSub,Nat.reduceLT,Nat.reduceLeDiff,↓reduceIte,reduceCtorEq,Int.reduceEq,Int.reduceLT,Int.reduceLE,Int.reduceGT,Int.reduceGE,Int.reduceAdd,Int.reduceSub,Int.reduceNeg,Int.reduceToNat,Nat.reduceBEq,Nat.reduceEqDiff]
 refine callR_ret (hrt _) ?_
 simp -implicitDefEqProofs (maxSteps:=99999999) (disch:=first | omega | (simp only[AHeap.set_length,killO_length,List.length_cons,List.length_nil];first | done | omega)) only[vu,hm,va,vg,vs,vw,Nat.reduceMul,ite_true,ite_false,eq_self,forall_const,implies_true,Nat.reduceAdd,Nat.reduceSub,Nat.reduceLT,Nat.reduceLeDiff,↓reduceIte,reduceCtorEq,Int.reduceEq,Int.reduceLT,Int.reduceLE,Int.reduceGT,Int.reduceGE,Int.reduceAdd,Int.reduceSub,Int.reduceNeg,Int.reduceToNat,Nat.reduceBEq,Nat.reduceEqDiff]
 refine callR_ret (hmt _ _) ?_
 simp -implicitDefEqProofs (maxSteps:=99999999) (disch:=first | omega | (simp only[AHeap.set_length,killO_length,List.length_cons,List.length_nil];first | done | omega)) only[vu,hm,va,vg,vs,vw,Nat.reduceMul,ite_true,ite_false,eq_self,forall_const,implies_true,Nat.reduceAdd,Nat.reduceSub,Nat.reduceLT,Nat.reduceLeDiff,↓reduceIte,reduceCtorEq,Int.reduceEq,Int.reduceLT,Int.reduceLE,Int.reduceGT,Int.reduceGE,Int.reduceAdd,Int.reduceSub,Int.reduceNeg,Int.reduceToNat,Nat.reduceBEq,Nat.reduceEqDiff]
 refine hL _ _ ?_
 clear hL
 refine ES_seq_gen fun L hL=>?_
 simp -implicitDefEqProofs (maxSteps:=99999999) (disch:=first | omega | (simp only[AHeap.set_length,killO_length,List.length_cons,List.length_nil];first | done | omega)) only[vu,vg,hm,hok,hix,hmv,Nat.lt_irrefl,va,vg,vs,vw,Nat.reduceMul,ite_true,ite_false,eq_self,forall_const,implies_true,Nat.reduceAdd,Nat.reduceSub,Nat.reduceLT,Nat.reduceLeDiff,↓reduceIte,reduceCtorEq,Int.reduceEq,Int.reduceLT,Int.reduceLE,Int.reduceGT,Int.reduceGE,Int.reduceAdd,Int.reduceSub,Int.reduceNeg,Int.reduceToNat,Nat.reduceBEq,Nat.reduceEqDiff]
 refine hL _ _ ?_
 clear hL
 refine ES_seq_gen fun L hL=>?_
 simp -implicitDefEqProofs (maxSteps:=99999999) (disch:=first | omega | (simp only[AHeap.set_length,killO_length,List.length_cons,List.length_nil];first | done | omega)) only[vu,hm,va,vg,vs,vw,Nat.reduceMul,ite_true,ite_false,eq_self,forall_const,implies_true,Nat.reduceAdd,Nat.reduceSub,Nat.reduceLT,Nat.reduceLeDiff,↓reduceIte,reduceCtorEq,Int.reduceEq,Int.reduceLT,Int.reduceLE,Int.reduceGT,Int.reduceGE,Int.reduceAdd,Int.reduceSub,Int.reduceNeg,Int.reduceToNat,Nat.reduceBEq,Nat.reduceEqDiff]
 refine callR_ret (hmt _ _) ?_
 simp -implicitDefEqProofs (maxSteps:=99999999) (disch:=first | omega | (simp only[AHeap.set_length,killO_length,List.length_cons,List.length_nil];first | done | omega)) only[vu,hm,va,vg,vs,vw,Nat.reduceMul,ite_true,ite_false,eq_self,forall_const,implies_true,Nat.reduceAdd,Nat.reduceSub,Nat.reduceLT,Nat.reduceLeDiff,↓reduceIte,reduceCtorEq,Int.reduceEq,Int.reduceLT,Int.reduceLE,Int.reduceGT,Int.reduceGE,Int.reduceAdd,Int.reduceSub,Int.reduceNeg,Int.reduceToNat,Nat.reduceBEq,Nat.reduceEqDiff]
 refine hL _ _ ?_
 clear hL
 simp -implicitDefEqProofs (maxSteps:=99999999) (disch:=first | omega | (simp only[AHeap.set_length,killO_length,List.length_cons,List.length_nil];first | done | omega)) only[vu,hm,va,vg,vs,vw,Nat.reduceMul,ite_true,ite_false,eq_self,forall_const,implies_true,Nat.reduceAdd,Nat.reduceSub,Nat.reduceLT,Nat.reduceLeDiff,↓reduceIte,reduceCtorEq,Int.reduceEq,Int.reduceLT,Int.reduceLE,Int.reduceGT,Int.reduceGE,Int.reduceAdd,Int.reduceSub,Int.reduceNeg,Int.reduceToNat,Nat.reduceBEq,Nat.reduceEqDiff]
 refine callD_same (how _) ?_
 simp -implicitDefEqProofs (maxSteps:=99999999) (disch:=first | omega | (simp only[AHeap.set_length,killO_length,List.length_cons,List.length_nil];first | done | omega)) only[vu,vg,hm,hok,hmp,va,vg,vs,vw,Nat.reduceMul,ite_true,ite_false,eq_self,forall_const,implies_true,Nat.reduceAdd,Nat.reduceSub,Nat.reduceLT,Nat.reduceLeDiff,↓reduceIte,reduceCtorEq,Int.reduceEq,Int.reduceLT,Int.reduceLE,Int.reduceGT,Int.reduceGE,Int.reduceAdd,Int.reduceSub,Int.reduceNeg,Int.reduceToNat,Nat.reduceBEq,Nat.reduceEqDiff]
 refine weak_ret (G:=[_,_,_]) (by rw[AHeap.set_length];exact Nat.le_refl _) (fun id k hk=>?_) (.tup .nil)
 by_cases e : id=m
 ·subst e
  rw[AHeap.find_set_same hmH] at hk
  cases hk
  right
  rw[AHeap.set_length,AV.idsL_iff] at *
  intro x hx
  rcases List.mem_append.1 hx with h | h
  ·exact hids x h
  ·rw[List.mem_singleton] at h
   subst h
   repeat constructor
 ·rw[AHeap.find_set_ne e] at hk
  exact .inl ⟨AHeap.find_lt hk,hk⟩
theorem add_there (n f g : UInt8) (hn : n=112 ∨ n=113 ∨ n=114) (hf : f=97 ∨ f=98 ∨ f=99) (es : List AV) (ex : Bool) (m : Nat) (H : AHeap) (hm : AHeap.find H m=some ⟨0,es,ex,0⟩) (hok : entsOk none es) (hix : mIdx (.string (one n)) es < es.length) (hv : entV (es.getD (mIdx (.string (one n)) es) .top)=patA 1 (one g) e0) :
  D Tryz.prog 33 [.agg [.ptr 0 m 0 0],nmA n f] H (if one g=one f then .ret (.tup []) else .pan (.ifc 31 (.sc (.int .i64 7)))) H:=by
 have hnm:=snamed_d n hn
 have hrt:=rightA_d 1 (.inl rfl) f hf
 have hsm:=sameA_d 1 (one g) (one f)
 have hmt:=fun (e : Value) H=>must_d true e H
 have hmf:=fun (e : Value) H=>must_d false e H
 have hmH:=AHeap.find_lt hm
 have hmv : ∀ z,mVal (.string (one n)) z es=patA 1 (one g) e0:=fun z=>by unfold mVal;rw[if_pos hix,hv]
 refine D_of_DK (by simp) (dk33 (E_of_ES ?_))
 simp only[ic33,ux]
 unfold nmA
 unfold patA at *
 refine ES_seq_gen fun L hL=>?_
 simp -implicitDefEqProofs (maxSteps:=99999999) (disch:=first | omega | (simp only[AHeap.set_length,killO_length,List.length_cons,List.length_nil];first | done | omega)) only[vu,hm,va,vg,vs,vw,Nat.reduceMul,ite_true,ite_false,eq_self,forall_const,implies_true,Nat.reduceAdd,Nat.reduceSub,Nat.reduceLT,Nat.reduceLeDiff,↓reduceIte,reduceCtorEq,Int.reduceEq,Int.reduceLT,Int.reduceLE,Int.reduceGT,Int.reduceGE,Int.reduceAdd,Int.reduceSub,Int.reduceNeg,Int.reduceToNat,Nat.reduceBEq,Nat.reduceEqDiff]
 refine hL _ _ ?_
 clear hL
 refine ES_seq_gen fun L hL=>?_
 simp -implicitDefEqProofs (maxSteps:=99999999) (disch:=first | omega | (simp only[AHeap.set_length,killO_length,List.length_cons,List.length_nil];first | done | omega)) only[vu,hm,va,vg,vs,vw,Nat.reduceMul,ite_true,ite_false,eq_self,forall_const,implies_true,Nat.reduceAdd,Nat.reduceSub,Nat.reduceLT,Nat.reduceLeDiff,↓reduceIte,reduceCtorEq,Int.reduceEq,Int.reduceLT,Int.reduceLE,Int.reduceGT,Int.reduceGE,Int.reduceAdd,Int.reduceSub,Int.reduceNeg,Int.reduceToNat,Nat.reduceBEq,Nat.reduceEqDiff]
 refine callR_ret (hnm _) ?_
 simp -implicitDefEqProofs (maxSteps:=99999999) (disch:=first | omega | (simp only[AHeap.set_length,killO_length,List.length_cons,List.length_nil];first | done | omega)) only[vu,hm,va,vg,vs,vw,Nat.reduceMul,ite_true,ite_false,eq_self,forall_const,implies_true,Nat.reduceAdd,Nat.reduceSub,Nat.reduceLT,Nat.reduceLeDiff,↓reduceIte,reduceCtorEq,Int.reduceEq,Int.reduceLT,Int.reduceLE,Int.reduceGT,Int.reduceGE,Int.reduceAdd,Int.reduceSub,Int.reduceNeg,Int.reduceToNat,Nat.reduceBEq,Nat.reduceEqDiff]
 refine callR_ret (hmt _ _) ?_
 simp -implicitDefEqProofs (maxSteps:=99999999) (disch:=first | omega | (simp only[AHeap.set_length,killO_length,List.length_cons,List.length_nil];first | done | omega)) only[vu,hm,va,vg,vs,vw,Nat.reduceMul,ite_true,ite_false,eq_self,forall_const,implies_true,Nat.reduceAdd,Nat.reduceSub,Nat.reduceLT,Nat.reduceLeDiff,↓reduceIte,reduceCtorEq,Int.reduceEq,Int.reduceLT,Int.reduceLE,Int.reduceGT,Int.reduceGE,Int.reduceAdd,Int.reduceSub,Int.reduceNeg,Int.reduceToNat,Nat.reduceBEq,Nat.reduceEqDiff]
 refine hL _ _ ?_
 clear hL
 refine ES_seq_gen fun L hL=>?_
 simp -implicitDefEqProofs (maxSteps:=99999999) (disch:=first | omega | (simp only[AHeap.set_length,killO_length,List.length_cons,List.length_nil];first | done | omega)) only[vu,hm,va,vg,vs,vw,Nat.reduceMul,ite_true,ite_false,eq_self,forall_const,implies_true,Nat.reduceAdd,Nat.reduceSub,Nat.reduceLT,Nat.reduceLeDiff,↓reduceIte,reduceCtorEq,Int.reduceEq,Int.reduceLT,Int.reduceLE,Int.reduceGT,Int.reduceGE,Int.reduceAdd,Int.reduceSub,Int.reduceNeg,Int.reduceToNat,Nat.reduceBEq,Nat.reduceEqDiff]
 refine callR_ret (hrt _) ?_
 simp -implicitDefEqProofs (maxSteps:=99999999) (disch:=first | omega | (simp only[AHeap.set_length,killO_length,List.length_cons,List.length_nil];first | done | omega)) only[vu,hm,va,vg,vs,vw,Nat.reduceMul,ite_true,ite_false,eq_self,forall_const,implies_true,Nat.reduceAdd,Nat.reduceSub,Nat.reduceLT,Nat.reduceLeDiff,↓reduceIte,reduceCtorEq,Int.reduceEq,Int.reduceLT,Int.reduceLE,Int.reduceGT,Int.reduceGE,Int.reduceAdd,Int.reduceSub,Int.reduceNeg,Int.reduceToNat,Nat.reduceBEq,Nat.reduceEqDiff]
 refine callR_ret (hmt _ _) ?_
 simp -implicitDefEqProofs (maxSteps:=99999999) (disch:=first | omega | (simp only[AHeap.set_length,killO_length,List.length_cons,List.length_nil];first | done | omega)) only[vu,hm,va,vg,vs,vw,Nat.reduceMul,ite_true,ite_false,eq_self,forall_const,implies_true,Nat.reduceAdd,Nat.reduceSub,Nat.reduceLT,Nat.reduceLeDiff,↓reduceIte,reduceCtorEq,Int.reduceEq,Int.reduceLT,Int.reduceLE,Int.reduceGT,Int.reduceGE,Int.reduceAdd,Int.reduceSub,Int.reduceNeg,Int.reduceToNat,Nat.reduceBEq,Nat.reduceEqDiff]
 refine hL _ _ ?_
 clear hL
 refine ES_seq_gen fun L hL=>?_
 simp -implicitDefEqProofs (maxSteps:=99999999) (disch:=first | omega | (simp only[AHeap.set_length,killO_length,List.length_cons,List.length_nil];first | done | omega)) only[vu,vg,hm,hok,hix,hmv,va,vg,vs,vw,Nat.reduceMul,ite_true,ite_false,eq_self,forall_const,implies_true,Nat.reduceAdd,Nat.reduceSub,Nat.reduceLT,Nat.reduceLeDiff,↓reduceIte,reduceCtorEq,Int.reduceEq,Int.reduceLT,Int.reduceLE,Int.reduceGT,Int.reduceGE,Int.reduceAdd,Int.reduceSub,Int.reduceNeg,Int.reduceToNat,Nat.reduceBEq,Nat.reduceEqDiff]
 refine hL _ _ ?_
 clear hL
 refine ES_seq_gen fun L hL=>?_
 simp -implicitDefEqProofs (maxSteps:=99999999) (disch:=first | omega | (simp only[AHeap.set_length,killO_length,List.length_cons,List.length_nil];first | done | omega)) only[vu,hm,va,vg,vs,vw,Nat.reduceMul,ite_true,ite_false,eq_self,forall_const,implies_true,Nat.reduceAdd,Nat.reduceSub,Nat.reduceLT,Nat.reduceLeDiff,↓reduceIte,reduceCtorEq,Int.reduceEq,Int.reduceLT,Int.reduceLE,Int.reduceGT,Int.reduceGE,Int.reduceAdd,Int.reduceSub,Int.reduceNeg,Int.reduceToNat,Nat.reduceBEq,Nat.reduceEqDiff]
 refine callR_ret (hsm _) ?_
 by_cases e : one g=one f
 ·rw[if_pos e]
  simp -implicitDefEqProofs (maxSteps:=99999999) (disch:=first | omega | (simp only[AHeap.set_length,killO_length,List.length_cons,List.length_nil];first | done | omega)) only[vu,hm,e,va,vg,vs,vw,Nat.reduceMul,ite_true,ite_false,eq_self,forall_const,implies_true,Nat.reduceAdd,Nat.reduceSub,Nat.reduceLT,Nat.reduceLeDiff,↓reduceIte,reduceCtorEq,Int.reduceEq,Int.reduceLT,Int.reduceLE,Int.reduceGT,Int.reduceGE,Int.reduceAdd,Int.reduceSub,Int.reduceNeg,Int.reduceToNat,Nat.reduceBEq,Nat.reduceEqDiff]
  refine callR_ret (hmt _ _) ?_
  simp -implicitDefEqProofs (maxSteps:=99999999) (disch:=first | omega | (simp only[AHeap.set_length,killO_length,List.length_cons,List.length_nil];first | done | omega)) only[vu,hm,va,vg,vs,vw,Nat.reduceMul,ite_true,ite_false,eq_self,forall_const,implies_true,Nat.reduceAdd,Nat.reduceSub,Nat.reduceLT,Nat.reduceLeDiff,↓reduceIte,reduceCtorEq,Int.reduceEq,Int.reduceLT,Int.reduceLE,Int.reduceGT,Int.reduceGE,Int.reduceAdd,Int.reduceSub,Int.reduceNeg,Int.reduceToNat,Nat.reduceBEq,Nat.reduceEqDiff]
  refine hL _ _ ?_
  clear hL
  simp -implicitDefEqProofs (maxSteps:=99999999) (disch:=first | omega | (simp only[AHeap.set_length,killO_length,List.length_cons,List.length_nil];first | done | omega)) only[vu,hm,va,vg,vs,vw,Nat.reduceMul,ite_true,ite_false,eq_self,forall_const,implies_true,Nat.reduceAdd,Nat.reduceSub,Nat.reduceLT,Nat.reduceLeDiff,↓reduceIte,reduceCtorEq,Int.reduceEq,Int.reduceLT,Int.reduceLE,Int.reduceGT,Int.reduceGE,Int.reduceAdd,Int.reduceSub,Int.reduceNeg,Int.reduceToNat,Nat.reduceBEq,Nat.reduceEqDiff]
  rw[if_pos e]
  exact weak_over (by repeat constructor) (.tup .nil)
 ·rw[if_neg e]
  simp -implicitDefEqProofs (maxSteps:=99999999) (disch:=first | omega | (simp only[AHeap.set_length,killO_length,List.length_cons,List.length_nil];first | done | omega)) only[vu,hm,e,va,vg,vs,vw,Nat.reduceMul,ite_true,ite_false,eq_self,forall_const,implies_true,Nat.reduceAdd,Nat.reduceSub,Nat.reduceLT,Nat.reduceLeDiff,↓reduceIte,reduceCtorEq,Int.reduceEq,Int.reduceLT,Int.reduceLE,Int.reduceGT,Int.reduceGE,Int.reduceAdd,Int.reduceSub,Int.reduceNeg,Int.reduceToNat,Nat.reduceBEq,Nat.reduceEqDiff]
  refine callR_pan (hmf _ _) ?_
  exact overG (by repeat constructor) (.ifc (.same trivial))
end Go.Proofs.YtdjnccnecgblmaaGreatDoor
namespace Go.Proofs.YtdjnccnecgblmaaGreatDoor
open Go.RowKit
set_option maxRecDepth 100000
set_option linter.unusedVariables false
set_option linter.unusedSimpArgs false
theorem must_t (e : Value) (H : AHeap) : D Tryz.prog 30 [.sc (.bool true),.sc e] H (.ret (.tup [])) H:=by simpa using must_d true e H
theorem must_p (e : Value) (H : AHeap) : D Tryz.prog 30 [.sc (.bool false),.sc e] H (.pan (.ifc 31 (.sc e))) H:=by simpa using must_d false e H
end Go.Proofs.YtdjnccnecgblmaaGreatDoor
namespace Go.Proofs.YtdjnccnecgblmaaGreatDoor
open Go.RowKit
set_option maxRecDepth 100000
set_option linter.unusedVariables false
set_option linter.unusedSimpArgs false
theorem addN_d (n f : UInt8) (H : AHeap) : D Tryz.prog 23 [.sc (.string (one n)),.sc (.string (one f))] H (.ret (nmA n f)) H:=by
 refine D_of_DK (by simp) (dk23 (E_of_ES ?_))
 simp -implicitDefEqProofs (maxSteps:=99999999) (disch:=omega) only[ic23,vu,va,vg,vs,vh,Nat.reduceMul,ite_true,ite_false,eq_self,forall_const,implies_true,Nat.reduceAdd,Nat.reduceSub,Nat.reduceLT,Nat.reduceLeDiff,↓reduceIte,reduceCtorEq,Int.reduceEq,Int.reduceLT,Int.reduceLE,Int.reduceGT,Int.reduceGE,Int.reduceAdd,Int.reduceSub,Int.reduceNeg,Int.reduceToNat,Nat.reduceBEq,Nat.reduceEqDiff]
 exact weak_over (by repeat constructor) (by repeat constructor)
def enA (n f : UInt8) : AV:=.tup [.sc (.string (one n)),patA 1 (one f) e0]
def PutQ (s : Nat) (e : Int) (es : List AV) (en : AEnd) (H' : AHeap) : Prop:=en = .ret (.sc (.int .i64 e)) ∧ ∃ m ex,AHeap.find H' s=some (stB (.ptr 0 m 0 0)) ∧ AHeap.find H' m=some ⟨0,es,ex,0⟩
theorem put_one (s m : Nat) (ex : Bool) (H : AHeap) (hs : AHeap.find H s=some (stB (.ptr 0 m 0 0))) (hm : AHeap.find H m=some ⟨0,[],ex,0⟩) :
  DK Tryz.prog 11 [.ptr 1 s 0 0,.lst 15 [nmA 112 97,nmA 113 98] (some [])] H (PutQ s 0 [enA 112 97,enA 113 98]):=by
 have hsl:=AHeap.find_lt hs
 have hml:=AHeap.find_lt hm
 refine dk11 ?_
 simp -implicitDefEqProofs (maxSteps:=99999999) (disch:=first | omega | (simp only[AHeap.set_length,killO_length,List.length_cons,List.length_nil];first | done | omega)) only[ic11,vu,va,vg,vs,vw,Nat.reduceMul,ite_true,ite_false,eq_self,forall_const,implies_true,Nat.reduceAdd,Nat.reduceSub,Nat.reduceLT,Nat.reduceLeDiff,↓reduceIte,reduceCtorEq,Int.reduceEq,Int.reduceLT,Int.reduceLE,Int.reduceGT,Int.reduceGE,Int.reduceAdd,Int.reduceSub,Int.reduceNeg,Int.reduceToNat,Nat.reduceBEq,Nat.reduceEqDiff]
 simp only[ic11b,ux]
 refine ES_seq_gen fun L hL=>?_
 simp -implicitDefEqProofs (maxSteps:=99999999) (disch:=first | omega | (simp only[AHeap.set_length,killO_length,List.length_cons,List.length_nil];first | done | omega)) only[vu,va,vg,vs,vw,Nat.reduceMul,ite_true,ite_false,eq_self,forall_const,implies_true,Nat.reduceAdd,Nat.reduceSub,Nat.reduceLT,Nat.reduceLeDiff,↓reduceIte,reduceCtorEq,Int.reduceEq,Int.reduceLT,Int.reduceLE,Int.reduceGT,Int.reduceGE,Int.reduceAdd,Int.reduceSub,Int.reduceNeg,Int.reduceToNat,Nat.reduceBEq,Nat.reduceEqDiff]
 refine callR_ret (known_d s m _ (by rw[AHeap.find_cons hsl];exact hs)) ?_
 simp -implicitDefEqProofs (maxSteps:=99999999) (disch:=first | omega | (simp only[AHeap.set_length,killO_length,List.length_cons,List.length_nil];first | done | omega)) only[vu,va,vg,vs,vw,Nat.reduceMul,ite_true,ite_false,eq_self,forall_const,implies_true,Nat.reduceAdd,Nat.reduceSub,Nat.reduceLT,Nat.reduceLeDiff,↓reduceIte,reduceCtorEq,Int.reduceEq,Int.reduceLT,Int.reduceLE,Int.reduceGT,Int.reduceGE,Int.reduceAdd,Int.reduceSub,Int.reduceNeg,Int.reduceToNat,Nat.reduceBEq,Nat.reduceEqDiff]
 refine callR_ret (must_t _ _) ?_
 simp -implicitDefEqProofs (maxSteps:=99999999) (disch:=first | omega | (simp only[AHeap.set_length,killO_length,List.length_cons,List.length_nil];first | done | omega)) only[vu,va,vg,vs,vw,Nat.reduceMul,ite_true,ite_false,eq_self,forall_const,implies_true,Nat.reduceAdd,Nat.reduceSub,Nat.reduceLT,Nat.reduceLeDiff,↓reduceIte,reduceCtorEq,Int.reduceEq,Int.reduceLT,Int.reduceLE,Int.reduceGT,Int.reduceGE,Int.reduceAdd,Int.reduceSub,Int.reduceNeg,Int.reduceToNat,Nat.reduceBEq,Nat.reduceEqDiff]
 refine hL _ _ ?_
 clear hL
 refine ES_seq_gen fun L hL=>?_
 have hs':=hs
 unfold stB at hs'
 simp -implicitDefEqProofs (maxSteps:=99999999) (disch:=first | omega | (simp only[AHeap.set_length,killO_length,List.length_cons,List.length_nil];first | done | omega)) only[vu,hs',va,vg,vs,vw,Nat.reduceMul,ite_true,ite_false,eq_self,forall_const,implies_true,Nat.reduceAdd,Nat.reduceSub,Nat.reduceLT,Nat.reduceLeDiff,↓reduceIte,reduceCtorEq,Int.reduceEq,Int.reduceLT,Int.reduceLE,Int.reduceGT,Int.reduceGE,Int.reduceAdd,Int.reduceSub,Int.reduceNeg,Int.reduceToNat,Nat.reduceBEq,Nat.reduceEqDiff]
 refine callR_ret (mapsClone_d m [] ex _ (by rw[AHeap.find_cons hml];exact hm)) ?_
 simp -implicitDefEqProofs (maxSteps:=99999999) (disch:=first | omega | (simp only[AHeap.set_length,killO_length,List.length_cons,List.length_nil];first | done | omega)) only[vu,hs',va,vg,vs,vw,Nat.reduceMul,ite_true,ite_false,eq_self,forall_const,implies_true,Nat.reduceAdd,Nat.reduceSub,Nat.reduceLT,Nat.reduceLeDiff,↓reduceIte,reduceCtorEq,Int.reduceEq,Int.reduceLT,Int.reduceLE,Int.reduceGT,Int.reduceGE,Int.reduceAdd,Int.reduceSub,Int.reduceNeg,Int.reduceToNat,Nat.reduceBEq,Nat.reduceEqDiff]
 refine hL _ _ ?_
 clear hL
 refine ES_seq_gen fun L hL=>?_
 simp -implicitDefEqProofs (maxSteps:=99999999) (disch:=first | omega | (simp only[AHeap.set_length,killO_length,List.length_cons,List.length_nil];first | done | omega)) only[vu,hs',va,vg,vs,vw,Nat.reduceMul,ite_true,ite_false,eq_self,forall_const,implies_true,Nat.reduceAdd,Nat.reduceSub,Nat.reduceLT,Nat.reduceLeDiff,↓reduceIte,reduceCtorEq,Int.reduceEq,Int.reduceLT,Int.reduceLE,Int.reduceGT,Int.reduceGE,Int.reduceAdd,Int.reduceSub,Int.reduceNeg,Int.reduceToNat,Nat.reduceBEq,Nat.reduceEqDiff]
 simp only[nmA]
 refine ES_unroll (.s (.s (.s .o))) ?_
 refine Lp_next fun L2 hL2=>?_
 simp -implicitDefEqProofs (maxSteps:=99999999) (disch:=first | omega | (simp only[AHeap.set_length,killO_length,List.length_cons,List.length_nil];first | done | omega)) only[vu,va,vg,vs,vw,Nat.reduceMul,ite_true,ite_false,eq_self,forall_const,implies_true,Nat.reduceAdd,Nat.reduceSub,Nat.reduceLT,Nat.reduceLeDiff,↓reduceIte,reduceCtorEq,Int.reduceEq,Int.reduceLT,Int.reduceLE,Int.reduceGT,Int.reduceGE,Int.reduceAdd,Int.reduceSub,Int.reduceNeg,Int.reduceToNat,Nat.reduceBEq,Nat.reduceEqDiff]
 refine callR_ret (add_new 112 97 (.inl rfl) (.inl rfl) [] true (H.length+1) _ (by simp only[AHeap.find,List.length_cons];simp) (fun x hx=>by simp at hx) rfl trivial) ?_
 simp -implicitDefEqProofs (maxSteps:=99999999) (disch:=first | omega | (simp only[AHeap.set_length,killO_length,List.length_cons,List.length_nil];first | done | omega)) only[vu,va,vg,vs,vw,Nat.reduceMul,ite_true,ite_false,eq_self,forall_const,implies_true,Nat.reduceAdd,Nat.reduceSub,Nat.reduceLT,Nat.reduceLeDiff,↓reduceIte,reduceCtorEq,Int.reduceEq,Int.reduceLT,Int.reduceLE,Int.reduceGT,Int.reduceGE,Int.reduceAdd,Int.reduceSub,Int.reduceNeg,Int.reduceToNat,Nat.reduceBEq,Nat.reduceEqDiff]
 refine hL2 _ _ ?_
 clear hL2
 refine Lp_next fun L2 hL2=>?_
 simp -implicitDefEqProofs (maxSteps:=99999999) (disch:=first | omega | (simp only[AHeap.set_length,killO_length,List.length_cons,List.length_nil];first | done | omega)) only[vu,va,vg,vs,vw,Nat.reduceMul,ite_true,ite_false,eq_self,forall_const,implies_true,Nat.reduceAdd,Nat.reduceSub,Nat.reduceLT,Nat.reduceLeDiff,↓reduceIte,reduceCtorEq,Int.reduceEq,Int.reduceLT,Int.reduceLE,Int.reduceGT,Int.reduceGE,Int.reduceAdd,Int.reduceSub,Int.reduceNeg,Int.reduceToNat,Nat.reduceBEq,Nat.reduceEqDiff]
 refine callR_ret (add_new 113 98 (.inr (.inl rfl)) (.inr (.inl rfl)) [enA 112 97] true (H.length+1) _ ?_ ?_ ?_ ?_) ?_
 ·simp only[AHeap.find,List.length_cons]
  simp[enA]
 ·intro x hx
  rw[List.mem_singleton] at hx
  subst hx
  rfl
 ·simp[mIdx,entHit,enA,kSame,one]
 ·simp[AV.idsL,AV.idsM,enA,AV.ids,patA]
 simp -implicitDefEqProofs (maxSteps:=99999999) (disch:=first | omega | (simp only[AHeap.set_length,killO_length,List.length_cons,List.length_nil];first | done | omega)) only[vu,va,vg,vs,vw,Nat.reduceMul,ite_true,ite_false,eq_self,forall_const,implies_true,Nat.reduceAdd,Nat.reduceSub,Nat.reduceLT,Nat.reduceLeDiff,↓reduceIte,reduceCtorEq,Int.reduceEq,Int.reduceLT,Int.reduceLE,Int.reduceGT,Int.reduceGE,Int.reduceAdd,Int.reduceSub,Int.reduceNeg,Int.reduceToNat,Nat.reduceBEq,Nat.reduceEqDiff]
 refine hL2 _ _ ?_
 clear hL2
 refine Lp_next fun L2 hL2=>?_
 simp -implicitDefEqProofs (maxSteps:=99999999) (disch:=first | omega | (simp only[AHeap.set_length,killO_length,List.length_cons,List.length_nil];first | done | omega)) only[vu,va,vg,vs,vw,Nat.reduceMul,ite_true,ite_false,eq_self,forall_const,implies_true,Nat.reduceAdd,Nat.reduceSub,Nat.reduceLT,Nat.reduceLeDiff,↓reduceIte,reduceCtorEq,Int.reduceEq,Int.reduceLT,Int.reduceLE,Int.reduceGT,Int.reduceGE,Int.reduceAdd,Int.reduceSub,Int.reduceNeg,Int.reduceToNat,Nat.reduceBEq,Nat.reduceEqDiff]
 refine hL _ _ ?_
 clear hL
 refine ES_seq_gen fun L hL=>?_
 simp -implicitDefEqProofs (maxSteps:=99999999) (disch:=first | omega | (simp only[AHeap.set_length,killO_length,List.length_cons,List.length_nil];first | done | omega)) only[vu,hs',va,vg,vs,vw,Nat.reduceMul,ite_true,ite_false,eq_self,forall_const,implies_true,Nat.reduceAdd,Nat.reduceSub,Nat.reduceLT,Nat.reduceLeDiff,↓reduceIte,reduceCtorEq,Int.reduceEq,Int.reduceLT,Int.reduceLE,Int.reduceGT,Int.reduceGE,Int.reduceAdd,Int.reduceSub,Int.reduceNeg,Int.reduceToNat,Nat.reduceBEq,Nat.reduceEqDiff]
 refine hL _ _ ?_
 clear hL
 simp -implicitDefEqProofs (maxSteps:=99999999) (disch:=first | omega | (simp only[AHeap.set_length,killO_length,List.length_cons,List.length_nil];first | done | omega)) only[ic29,ic29b,tassF,extF,vu,va,vg,vs,vw,Nat.reduceMul,ite_true,ite_false,eq_self,forall_const,implies_true,Nat.reduceAdd,Nat.reduceSub,Nat.reduceLT,Nat.reduceLeDiff,↓reduceIte,reduceCtorEq,Int.reduceEq,Int.reduceLT,Int.reduceLE,Int.reduceGT,Int.reduceGE,Int.reduceAdd,Int.reduceSub,Int.reduceNeg,Int.reduceToNat,Nat.reduceBEq,Nat.reduceEqDiff]
 refine ⟨rfl,H.length+1,true,?_,?_⟩
 ·repeat rw[AHeap.find_cons (by simp only[List.length_cons,AHeap.set_length];omega)]
  rw[AHeap.find_set_same hsl]
  rfl
 ·simp only[AHeap.find,List.length_cons,AHeap.set_length]
  simp[enA]
theorem put_two (s m : Nat) (ex : Bool) (H : AHeap) (hs : AHeap.find H s=some (stB (.ptr 0 m 0 0))) (hm : AHeap.find H m=some ⟨0,[enA 112 97,enA 113 98],ex,0⟩) :
  DK Tryz.prog 11 [.ptr 1 s 0 0,.lst 15 [nmA 112 97] (some [])] H (PutQ s 0 [enA 112 97,enA 113 98]):=by
 have hsl:=AHeap.find_lt hs
 have hml:=AHeap.find_lt hm
 refine dk11 ?_
 simp -implicitDefEqProofs (maxSteps:=99999999) (disch:=first | omega | (simp only[AHeap.set_length,killO_length,List.length_cons,List.length_nil];first | done | omega)) only[ic11,vu,va,vg,vs,vw,Nat.reduceMul,ite_true,ite_false,eq_self,forall_const,implies_true,Nat.reduceAdd,Nat.reduceSub,Nat.reduceLT,Nat.reduceLeDiff,↓reduceIte,reduceCtorEq,Int.reduceEq,Int.reduceLT,Int.reduceLE,Int.reduceGT,Int.reduceGE,Int.reduceAdd,Int.reduceSub,Int.reduceNeg,Int.reduceToNat,Nat.reduceBEq,Nat.reduceEqDiff]
 simp only[ic11b,ux]
 refine ES_seq_gen fun L hL=>?_
 simp -implicitDefEqProofs (maxSteps:=99999999) (disch:=first | omega | (simp only[AHeap.set_length,killO_length,List.length_cons,List.length_nil];first | done | omega)) only[vu,va,vg,vs,vw,Nat.reduceMul,ite_true,ite_false,eq_self,forall_const,implies_true,Nat.reduceAdd,Nat.reduceSub,Nat.reduceLT,Nat.reduceLeDiff,↓reduceIte,reduceCtorEq,Int.reduceEq,Int.reduceLT,Int.reduceLE,Int.reduceGT,Int.reduceGE,Int.reduceAdd,Int.reduceSub,Int.reduceNeg,Int.reduceToNat,Nat.reduceBEq,Nat.reduceEqDiff]
 refine callR_ret (known_d s m _ (by rw[AHeap.find_cons hsl];exact hs)) ?_
 simp -implicitDefEqProofs (maxSteps:=99999999) (disch:=first | omega | (simp only[AHeap.set_length,killO_length,List.length_cons,List.length_nil];first | done | omega)) only[vu,va,vg,vs,vw,Nat.reduceMul,ite_true,ite_false,eq_self,forall_const,implies_true,Nat.reduceAdd,Nat.reduceSub,Nat.reduceLT,Nat.reduceLeDiff,↓reduceIte,reduceCtorEq,Int.reduceEq,Int.reduceLT,Int.reduceLE,Int.reduceGT,Int.reduceGE,Int.reduceAdd,Int.reduceSub,Int.reduceNeg,Int.reduceToNat,Nat.reduceBEq,Nat.reduceEqDiff]
 refine callR_ret (must_t _ _) ?_
 simp -implicitDefEqProofs (maxSteps:=99999999) (disch:=first | omega | (simp only[AHeap.set_length,killO_length,List.length_cons,List.length_nil];first | done | omega)) only[vu,va,vg,vs,vw,Nat.reduceMul,ite_true,ite_false,eq_self,forall_const,implies_true,Nat.reduceAdd,Nat.reduceSub,Nat.reduceLT,Nat.reduceLeDiff,↓reduceIte,reduceCtorEq,Int.reduceEq,Int.reduceLT,Int.reduceLE,Int.reduceGT,Int.reduceGE,Int.reduceAdd,Int.reduceSub,Int.reduceNeg,Int.reduceToNat,Nat.reduceBEq,Nat.reduceEqDiff]
 refine hL _ _ ?_
 clear hL
 refine ES_seq_gen fun L hL=>?_
 have hs':=hs
 unfold stB at hs'
 simp -implicitDefEqProofs (maxSteps:=99999999) (disch:=first | omega | (simp only[AHeap.set_length,killO_length,List.length_cons,List.length_nil];first | done | omega)) only[vu,hs',va,vg,vs,vw,Nat.reduceMul,ite_true,ite_false,eq_self,forall_const,implies_true,Nat.reduceAdd,Nat.reduceSub,Nat.reduceLT,Nat.reduceLeDiff,↓reduceIte,reduceCtorEq,Int.reduceEq,Int.reduceLT,Int.reduceLE,Int.reduceGT,Int.reduceGE,Int.reduceAdd,Int.reduceSub,Int.reduceNeg,Int.reduceToNat,Nat.reduceBEq,Nat.reduceEqDiff]
 refine callR_ret (mapsClone_d m _ ex _ (by rw[AHeap.find_cons hml];exact hm)) ?_
 simp -implicitDefEqProofs (maxSteps:=99999999) (disch:=first | omega | (simp only[AHeap.set_length,killO_length,List.length_cons,List.length_nil];first | done | omega)) only[vu,hs',va,vg,vs,vw,Nat.reduceMul,ite_true,ite_false,eq_self,forall_const,implies_true,Nat.reduceAdd,Nat.reduceSub,Nat.reduceLT,Nat.reduceLeDiff,↓reduceIte,reduceCtorEq,Int.reduceEq,Int.reduceLT,Int.reduceLE,Int.reduceGT,Int.reduceGE,Int.reduceAdd,Int.reduceSub,Int.reduceNeg,Int.reduceToNat,Nat.reduceBEq,Nat.reduceEqDiff]
 refine hL _ _ ?_
 clear hL
 refine ES_seq_gen fun L hL=>?_
 simp -implicitDefEqProofs (maxSteps:=99999999) (disch:=first | omega | (simp only[AHeap.set_length,killO_length,List.length_cons,List.length_nil];first | done | omega)) only[vu,hs',va,vg,vs,vw,Nat.reduceMul,ite_true,ite_false,eq_self,forall_const,implies_true,Nat.reduceAdd,Nat.reduceSub,Nat.reduceLT,Nat.reduceLeDiff,↓reduceIte,reduceCtorEq,Int.reduceEq,Int.reduceLT,Int.reduceLE,Int.reduceGT,Int.reduceGE,Int.reduceAdd,Int.reduceSub,Int.reduceNeg,Int.reduceToNat,Nat.reduceBEq,Nat.reduceEqDiff]
 simp only[nmA]
 refine ES_unroll (.s (.s .o)) ?_
 refine Lp_next fun L2 hL2=>?_
 simp -implicitDefEqProofs (maxSteps:=99999999) (disch:=first | omega | (simp only[AHeap.set_length,killO_length,List.length_cons,List.length_nil];first | done | omega)) only[vu,va,vg,vs,vw,Nat.reduceMul,ite_true,ite_false,eq_self,forall_const,implies_true,Nat.reduceAdd,Nat.reduceSub,Nat.reduceLT,Nat.reduceLeDiff,↓reduceIte,reduceCtorEq,Int.reduceEq,Int.reduceLT,Int.reduceLE,Int.reduceGT,Int.reduceGE,Int.reduceAdd,Int.reduceSub,Int.reduceNeg,Int.reduceToNat,Nat.reduceBEq,Nat.reduceEqDiff]
 refine callR_ret ((if_pos (rfl : one 97=one 97)) ▸ add_there 112 97 97 (.inl rfl) (.inl rfl) [enA 112 97,enA 113 98] true (H.length+1) _ (by simp only[AHeap.find,List.length_cons];simp[enA]) (fun x hx=>by simp only[List.mem_cons,List.not_mem_nil,or_false] at hx;rcases hx with rfl | rfl <;> rfl) (by simp[mIdx,entHit,enA,kSame,one]) (by simp[mIdx,entHit,enA,kSame,one,entV])) ?_
 simp -implicitDefEqProofs (maxSteps:=99999999) (disch:=first | omega | (simp only[AHeap.set_length,killO_length,List.length_cons,List.length_nil];first | done | omega)) only[vu,va,vg,vs,vw,Nat.reduceMul,ite_true,ite_false,eq_self,forall_const,implies_true,Nat.reduceAdd,Nat.reduceSub,Nat.reduceLT,Nat.reduceLeDiff,↓reduceIte,reduceCtorEq,Int.reduceEq,Int.reduceLT,Int.reduceLE,Int.reduceGT,Int.reduceGE,Int.reduceAdd,Int.reduceSub,Int.reduceNeg,Int.reduceToNat,Nat.reduceBEq,Nat.reduceEqDiff]
 refine hL2 _ _ ?_
 clear hL2
 refine Lp_next fun L2 hL2=>?_
 simp -implicitDefEqProofs (maxSteps:=99999999) (disch:=first | omega | (simp only[AHeap.set_length,killO_length,List.length_cons,List.length_nil];first | done | omega)) only[vu,va,vg,vs,vw,Nat.reduceMul,ite_true,ite_false,eq_self,forall_const,implies_true,Nat.reduceAdd,Nat.reduceSub,Nat.reduceLT,Nat.reduceLeDiff,↓reduceIte,reduceCtorEq,Int.reduceEq,Int.reduceLT,Int.reduceLE,Int.reduceGT,Int.reduceGE,Int.reduceAdd,Int.reduceSub,Int.reduceNeg,Int.reduceToNat,Nat.reduceBEq,Nat.reduceEqDiff]
 refine hL _ _ ?_
 clear hL
 refine ES_seq_gen fun L hL=>?_
 simp -implicitDefEqProofs (maxSteps:=99999999) (disch:=first | omega | (simp only[AHeap.set_length,killO_length,List.length_cons,List.length_nil];first | done | omega)) only[vu,hs',va,vg,vs,vw,Nat.reduceMul,ite_true,ite_false,eq_self,forall_const,implies_true,Nat.reduceAdd,Nat.reduceSub,Nat.reduceLT,Nat.reduceLeDiff,↓reduceIte,reduceCtorEq,Int.reduceEq,Int.reduceLT,Int.reduceLE,Int.reduceGT,Int.reduceGE,Int.reduceAdd,Int.reduceSub,Int.reduceNeg,Int.reduceToNat,Nat.reduceBEq,Nat.reduceEqDiff]
 refine hL _ _ ?_
 clear hL
 simp -implicitDefEqProofs (maxSteps:=99999999) (disch:=first | omega | (simp only[AHeap.set_length,killO_length,List.length_cons,List.length_nil];first | done | omega)) only[ic29,ic29b,tassF,extF,vu,va,vg,vs,vw,Nat.reduceMul,ite_true,ite_false,eq_self,forall_const,implies_true,Nat.reduceAdd,Nat.reduceSub,Nat.reduceLT,Nat.reduceLeDiff,↓reduceIte,reduceCtorEq,Int.reduceEq,Int.reduceLT,Int.reduceLE,Int.reduceGT,Int.reduceGE,Int.reduceAdd,Int.reduceSub,Int.reduceNeg,Int.reduceToNat,Nat.reduceBEq,Nat.reduceEqDiff]
 refine ⟨rfl,H.length+1,true,?_,?_⟩
 ·repeat rw[AHeap.find_cons (by simp only[List.length_cons,AHeap.set_length];omega)]
  rw[AHeap.find_set_same hsl]
  rfl
 ·simp only[AHeap.find,List.length_cons,AHeap.set_length]
  simp[enA]
theorem put_three (s m : Nat) (ex : Bool) (H : AHeap) (hs : AHeap.find H s=some (stB (.ptr 0 m 0 0))) (hm : AHeap.find H m=some ⟨0,[enA 112 97,enA 113 98],ex,0⟩) :
  DK Tryz.prog 11 [.ptr 1 s 0 0,.lst 15 [nmA 114 99,nmA 112 98] (some [])] H (PutQ s 7 [enA 112 97,enA 113 98]):=by
 have hsl:=AHeap.find_lt hs
 have hml:=AHeap.find_lt hm
 refine dk11 ?_
 simp -implicitDefEqProofs (maxSteps:=99999999) (disch:=first | omega | (simp only[AHeap.set_length,killO_length,List.length_cons,List.length_nil];first | done | omega)) only[ic11,vu,va,vg,vs,vw,Nat.reduceMul,ite_true,ite_false,eq_self,forall_const,implies_true,Nat.reduceAdd,Nat.reduceSub,Nat.reduceLT,Nat.reduceLeDiff,↓reduceIte,reduceCtorEq,Int.reduceEq,Int.reduceLT,Int.reduceLE,Int.reduceGT,Int.reduceGE,Int.reduceAdd,Int.reduceSub,Int.reduceNeg,Int.reduceToNat,Nat.reduceBEq,Nat.reduceEqDiff]
 simp only[ic11b,ux]
 refine ES_seq_gen fun L hL=>?_
 simp -implicitDefEqProofs (maxSteps:=99999999) (disch:=first | omega | (simp only[AHeap.set_length,killO_length,List.length_cons,List.length_nil];first | done | omega)) only[vu,va,vg,vs,vw,Nat.reduceMul,ite_true,ite_false,eq_self,forall_const,implies_true,Nat.reduceAdd,Nat.reduceSub,Nat.reduceLT,Nat.reduceLeDiff,↓reduceIte,reduceCtorEq,Int.reduceEq,Int.reduceLT,Int.reduceLE,Int.reduceGT,Int.reduceGE,Int.reduceAdd,Int.reduceSub,Int.reduceNeg,Int.reduceToNat,Nat.reduceBEq,Nat.reduceEqDiff]
 refine callR_ret (known_d s m _ (by rw[AHeap.find_cons hsl];exact hs)) ?_
 simp -implicitDefEqProofs (maxSteps:=99999999) (disch:=first | omega | (simp only[AHeap.set_length,killO_length,List.length_cons,List.length_nil];first | done | omega)) only[vu,va,vg,vs,vw,Nat.reduceMul,ite_true,ite_false,eq_self,forall_const,implies_true,Nat.reduceAdd,Nat.reduceSub,Nat.reduceLT,Nat.reduceLeDiff,↓reduceIte,reduceCtorEq,Int.reduceEq,Int.reduceLT,Int.reduceLE,Int.reduceGT,Int.reduceGE,Int.reduceAdd,Int.reduceSub,Int.reduceNeg,Int.reduceToNat,Nat.reduceBEq,Nat.reduceEqDiff]
 refine callR_ret (must_t _ _) ?_
 simp -implicitDefEqProofs (maxSteps:=99999999) (disch:=first | omega | (simp only[AHeap.set_length,killO_length,List.length_cons,List.length_nil];first | done | omega)) only[vu,va,vg,vs,vw,Nat.reduceMul,ite_true,ite_false,eq_self,forall_const,implies_true,Nat.reduceAdd,Nat.reduceSub,Nat.reduceLT,Nat.reduceLeDiff,↓reduceIte,reduceCtorEq,Int.reduceEq,Int.reduceLT,Int.reduceLE,Int.reduceGT,Int.reduceGE,Int.reduceAdd,Int.reduceSub,Int.reduceNeg,Int.reduceToNat,Nat.reduceBEq,Nat.reduceEqDiff]
 refine hL _ _ ?_
 clear hL
 refine ES_seq_gen fun L hL=>?_
 have hs':=hs
 unfold stB at hs'
 simp -implicitDefEqProofs (maxSteps:=99999999) (disch:=first | omega | (simp only[AHeap.set_length,killO_length,List.length_cons,List.length_nil];first | done | omega)) only[vu,hs',va,vg,vs,vw,Nat.reduceMul,ite_true,ite_false,eq_self,forall_const,implies_true,Nat.reduceAdd,Nat.reduceSub,Nat.reduceLT,Nat.reduceLeDiff,↓reduceIte,reduceCtorEq,Int.reduceEq,Int.reduceLT,Int.reduceLE,Int.reduceGT,Int.reduceGE,Int.reduceAdd,Int.reduceSub,Int.reduceNeg,Int.reduceToNat,Nat.reduceBEq,Nat.reduceEqDiff]
 refine callR_ret (mapsClone_d m _ ex _ (by rw[AHeap.find_cons hml];exact hm)) ?_
 simp -implicitDefEqProofs (maxSteps:=99999999) (disch:=first | omega | (simp only[AHeap.set_length,killO_length,List.length_cons,List.length_nil];first | done | omega)) only[vu,hs',va,vg,vs,vw,Nat.reduceMul,ite_true,ite_false,eq_self,forall_const,implies_true,Nat.reduceAdd,Nat.reduceSub,Nat.reduceLT,Nat.reduceLeDiff,↓reduceIte,reduceCtorEq,Int.reduceEq,Int.reduceLT,Int.reduceLE,Int.reduceGT,Int.reduceGE,Int.reduceAdd,Int.reduceSub,Int.reduceNeg,Int.reduceToNat,Nat.reduceBEq,Nat.reduceEqDiff]
 refine hL _ _ ?_
 clear hL
 refine ES_seq_gen fun L hL=>?_
 simp -implicitDefEqProofs (maxSteps:=99999999) (disch:=first | omega | (simp only[AHeap.set_length,killO_length,List.length_cons,List.length_nil];first | done | omega)) only[vu,hs',va,vg,vs,vw,Nat.reduceMul,ite_true,ite_false,eq_self,forall_const,implies_true,Nat.reduceAdd,Nat.reduceSub,Nat.reduceLT,Nat.reduceLeDiff,↓reduceIte,reduceCtorEq,Int.reduceEq,Int.reduceLT,Int.reduceLE,Int.reduceGT,Int.reduceGE,Int.reduceAdd,Int.reduceSub,Int.reduceNeg,Int.reduceToNat,Nat.reduceBEq,Nat.reduceEqDiff]
 simp only[nmA]
 refine ES_unroll (.s (.s (.s .o))) ?_
 refine Lp_next fun L2 hL2=>?_
 simp -implicitDefEqProofs (maxSteps:=99999999) (disch:=first | omega | (simp only[AHeap.set_length,killO_length,List.length_cons,List.length_nil];first | done | omega)) only[vu,va,vg,vs,vw,Nat.reduceMul,ite_true,ite_false,eq_self,forall_const,implies_true,Nat.reduceAdd,Nat.reduceSub,Nat.reduceLT,Nat.reduceLeDiff,↓reduceIte,reduceCtorEq,Int.reduceEq,Int.reduceLT,Int.reduceLE,Int.reduceGT,Int.reduceGE,Int.reduceAdd,Int.reduceSub,Int.reduceNeg,Int.reduceToNat,Nat.reduceBEq,Nat.reduceEqDiff]
 refine callR_ret (add_new 114 99 (.inr (.inr rfl)) (.inr (.inr rfl)) [enA 112 97,enA 113 98] true (H.length+1) _ (by simp only[AHeap.find,List.length_cons];simp[enA]) (fun x hx=>by simp only[List.mem_cons,List.not_mem_nil,or_false] at hx;rcases hx with rfl | rfl <;> rfl) (by simp[mIdx,entHit,enA,kSame,one]) (by simp[AV.idsL,AV.idsM,enA,AV.ids,patA])) ?_
 simp -implicitDefEqProofs (maxSteps:=99999999) (disch:=first | omega | (simp only[AHeap.set_length,killO_length,List.length_cons,List.length_nil];first | done | omega)) only[vu,va,vg,vs,vw,Nat.reduceMul,ite_true,ite_false,eq_self,forall_const,implies_true,Nat.reduceAdd,Nat.reduceSub,Nat.reduceLT,Nat.reduceLeDiff,↓reduceIte,reduceCtorEq,Int.reduceEq,Int.reduceLT,Int.reduceLE,Int.reduceGT,Int.reduceGE,Int.reduceAdd,Int.reduceSub,Int.reduceNeg,Int.reduceToNat,Nat.reduceBEq,Nat.reduceEqDiff]
 refine hL2 _ _ ?_
 clear hL2
 refine Lp_next fun L2 hL2=>?_
 simp -implicitDefEqProofs (maxSteps:=99999999) (disch:=first | omega | (simp only[AHeap.set_length,killO_length,List.length_cons,List.length_nil];first | done | omega)) only[vu,va,vg,vs,vw,Nat.reduceMul,ite_true,ite_false,eq_self,forall_const,implies_true,Nat.reduceAdd,Nat.reduceSub,Nat.reduceLT,Nat.reduceLeDiff,↓reduceIte,reduceCtorEq,Int.reduceEq,Int.reduceLT,Int.reduceLE,Int.reduceGT,Int.reduceGE,Int.reduceAdd,Int.reduceSub,Int.reduceNeg,Int.reduceToNat,Nat.reduceBEq,Nat.reduceEqDiff]
 refine callR_pan ((if_neg (by simp[one] : ¬ one 97=one 98)) ▸ add_there 112 98 97 (.inl rfl) (.inr (.inl rfl)) [enA 112 97,enA 113 98,enA 114 99] true (H.length+1) _ (by simp only[AHeap.find,List.length_cons];simp[enA]) (fun x hx=>by simp only[List.mem_cons,List.not_mem_nil,or_false] at hx;rcases hx with rfl | rfl | rfl <;> rfl) (by simp[mIdx,entHit,enA,kSame,one]) (by simp[mIdx,entHit,enA,kSame,one,entV])) ?_
 simp -implicitDefEqProofs (maxSteps:=99999999) (disch:=first | omega | (simp only[AHeap.set_length,killO_length,List.length_cons,List.length_nil];first | done | omega)) only[ic29,ic29b,tassF,extF,vu,va,vg,vs,vw,Nat.reduceMul,ite_true,ite_false,eq_self,forall_const,implies_true,Nat.reduceAdd,Nat.reduceSub,Nat.reduceLT,Nat.reduceLeDiff,↓reduceIte,reduceCtorEq,Int.reduceEq,Int.reduceLT,Int.reduceLE,Int.reduceGT,Int.reduceGE,Int.reduceAdd,Int.reduceSub,Int.reduceNeg,Int.reduceToNat,Nat.reduceBEq,Nat.reduceEqDiff]
 refine ⟨rfl,m,ex,?_,?_⟩
 ·repeat rw[AHeap.find_cons (by simp only[List.length_cons,AHeap.set_length];omega)]
  rw[AHeap.find_cons hsl]
  exact hs
 ·repeat rw[AHeap.find_cons (by simp only[List.length_cons,AHeap.set_length];omega)]
  rw[AHeap.find_cons hml]
  exact hm
end Go.Proofs.YtdjnccnecgblmaaGreatDoor
namespace Go.Proofs.YtdjnccnecgblmaaGreatDoor
open Go.RowKit Srt
set_option maxRecDepth 100000
set_option linter.unusedVariables false
set_option linter.unusedSimpArgs false
theorem get_none (n : ByteArray) (s m : Nat) (es : List AV) (ex : Bool) (H : AHeap) (hs : AHeap.find H s=some (stB (.ptr 0 m 0 0))) (hm : AHeap.find H m=some ⟨0,es,ex,0⟩) (hok : entsOk none es) (hix : mIdx (.string n) es=es.length) :
  D Tryz.prog 18 [.ptr 1 s 0 0,.sc (.string n)] H (.ret (.tup [patA 0 e0 e0,.sc (.bool false)])) H:=by
 refine D_of_DK (by simp) (dk18 (E_of_ES ?_))
 have hmv : ∀ z,mVal (.string n) z es=z:=fun z=>by unfold mVal;rw[hix,if_neg (Nat.lt_irrefl _)]
 have hl:=AHeap.find_lt hs
 have hml:=AHeap.find_lt hm
 have hm2 : ∀ b,AHeap.find (b :: H) m=some ⟨0,es,ex,0⟩:=fun b=>by rw[AHeap.find_cons hml];exact hm
 have hs':=hs
 unfold stB at hs'
 simp -implicitDefEqProofs (maxSteps:=99999999) (disch:=first | omega | (simp only[AHeap.set_length,killO_length,List.length_cons,List.length_nil];first | done | omega)) only[ic18,vu,va,vg,vs,vw,Nat.reduceMul,ite_true,ite_false,eq_self,forall_const,implies_true,Nat.reduceAdd,Nat.reduceSub,Nat.reduceLT,Nat.reduceLeDiff,↓reduceIte,reduceCtorEq,Int.reduceEq,Int.reduceLT,Int.reduceLE,Int.reduceGT,Int.reduceGE,Int.reduceAdd,Int.reduceSub,Int.reduceNeg,Int.reduceToNat,Nat.reduceBEq,Nat.reduceEqDiff]
 refine callR_ret (known_d s m _ (by rw[AHeap.find_cons hl];exact hs)) ?_
 simp -implicitDefEqProofs (maxSteps:=99999999) (disch:=first | omega | (simp only[AHeap.set_length,killO_length,List.length_cons,List.length_nil];first | done | omega)) only[vu,vg,hs',hm,hm2,hok,hix,hmv,Nat.lt_irrefl,va,vg,vs,vw,Nat.reduceMul,ite_true,ite_false,eq_self,forall_const,implies_true,Nat.reduceAdd,Nat.reduceSub,Nat.reduceLT,Nat.reduceLeDiff,↓reduceIte,reduceCtorEq,Int.reduceEq,Int.reduceLT,Int.reduceLE,Int.reduceGT,Int.reduceGE,Int.reduceAdd,Int.reduceSub,Int.reduceNeg,Int.reduceToNat,Nat.reduceBEq,Nat.reduceEqDiff]
 exact weak_over (by repeat constructor) (by repeat constructor)
theorem nameR_two (a b : AV) : nameR [(one 112,a),(one 113,b)]=[one 112,one 113]:=by
 unfold nameR
 show ofL (([[112],[113]] : List (List UInt8)).mergeSort fun x y=>decide (x ≤ y))=_
 have : (([[112],[113]] : List (List UInt8)).mergeSort fun x y=>decide (x ≤ y))=[[112],[113]]:=by
  have h1 : decide (([112] : List UInt8) ≤ [113])=true:=by decide
  simp[List.mergeSort,List.merge]
  try decide
 rw[this]
 rfl
theorem awake25_d : D Tryz.prog 7 [] [] (.ret (.sc (.bool true))) []:=by
 suffices h : ∀ H : AHeap,H=[]→D Tryz.prog 7 [] H (.ret (.sc (.bool true))) H from h [] rfl
 intro H hH
 refine D_of_DK (by simp) (dk7 (E_of_ES ?_))
 simp only[ic7,ux]
 refine ES_seq_gen fun L hL=>?_
 simp -implicitDefEqProofs (maxSteps:=99999999) (disch:=first | omega | (simp only[AHeap.set_length,killO_length,List.length_cons,List.length_nil];first | done | omega)) only[vu,va,vg,vs,vw,Nat.reduceMul,ite_true,ite_false,eq_self,forall_const,implies_true,Nat.reduceAdd,Nat.reduceSub,Nat.reduceLT,Nat.reduceLeDiff,↓reduceIte,reduceCtorEq,Int.reduceEq,Int.reduceLT,Int.reduceLE,Int.reduceGT,Int.reduceGE,Int.reduceAdd,Int.reduceSub,Int.reduceNeg,Int.reduceToNat,Nat.reduceBEq,Nat.reduceEqDiff]
 refine hL _ _ ?_
 clear hL
 refine ES_seq_gen fun L hL=>?_
 simp -implicitDefEqProofs (maxSteps:=99999999) (disch:=first | omega | (simp only[AHeap.set_length,killO_length,List.length_cons,List.length_nil];first | done | omega)) only[vu,va,vg,vs,vw,Nat.reduceMul,ite_true,ite_false,eq_self,forall_const,implies_true,Nat.reduceAdd,Nat.reduceSub,Nat.reduceLT,Nat.reduceLeDiff,↓reduceIte,reduceCtorEq,Int.reduceEq,Int.reduceLT,Int.reduceLE,Int.reduceGT,Int.reduceGE,Int.reduceAdd,Int.reduceSub,Int.reduceNeg,Int.reduceToNat,Nat.reduceBEq,Nat.reduceEqDiff]
 refine callR_ret (new_d _) ?_
 simp -implicitDefEqProofs (maxSteps:=99999999) (disch:=first | omega | (simp only[AHeap.set_length,killO_length,List.length_cons,List.length_nil];first | done | omega)) only[vu,va,vg,vs,vw,Nat.reduceMul,ite_true,ite_false,eq_self,forall_const,implies_true,Nat.reduceAdd,Nat.reduceSub,Nat.reduceLT,Nat.reduceLeDiff,↓reduceIte,reduceCtorEq,Int.reduceEq,Int.reduceLT,Int.reduceLE,Int.reduceGT,Int.reduceGE,Int.reduceAdd,Int.reduceSub,Int.reduceNeg,Int.reduceToNat,Nat.reduceBEq,Nat.reduceEqDiff]
 refine hL _ _ ?_
 clear hL
 refine ES_seq_gen fun L hL=>?_
 simp -implicitDefEqProofs (maxSteps:=99999999) (disch:=first | omega | (simp only[AHeap.set_length,killO_length,List.length_cons,List.length_nil];first | done | omega)) only[vu,va,vg,vs,vw,Nat.reduceMul,ite_true,ite_false,eq_self,forall_const,implies_true,Nat.reduceAdd,Nat.reduceSub,Nat.reduceLT,Nat.reduceLeDiff,↓reduceIte,reduceCtorEq,Int.reduceEq,Int.reduceLT,Int.reduceLE,Int.reduceGT,Int.reduceGE,Int.reduceAdd,Int.reduceSub,Int.reduceNeg,Int.reduceToNat,Nat.reduceBEq,Nat.reduceEqDiff]
 refine callR_ret (addN_d 112 97 _) ?_
 simp -implicitDefEqProofs (maxSteps:=99999999) (disch:=first | omega | (simp only[AHeap.set_length,killO_length,List.length_cons,List.length_nil];first | done | omega)) only[vu,va,vg,vs,vw,Nat.reduceMul,ite_true,ite_false,eq_self,forall_const,implies_true,Nat.reduceAdd,Nat.reduceSub,Nat.reduceLT,Nat.reduceLeDiff,↓reduceIte,reduceCtorEq,Int.reduceEq,Int.reduceLT,Int.reduceLE,Int.reduceGT,Int.reduceGE,Int.reduceAdd,Int.reduceSub,Int.reduceNeg,Int.reduceToNat,Nat.reduceBEq,Nat.reduceEqDiff]
 refine callR_ret (addN_d 113 98 _) ?_
 simp -implicitDefEqProofs (maxSteps:=99999999) (disch:=first | omega | (simp only[AHeap.set_length,killO_length,List.length_cons,List.length_nil];first | done | omega)) only[vu,va,vg,vs,vw,Nat.reduceMul,ite_true,ite_false,eq_self,forall_const,implies_true,Nat.reduceAdd,Nat.reduceSub,Nat.reduceLT,Nat.reduceLeDiff,↓reduceIte,reduceCtorEq,Int.reduceEq,Int.reduceLT,Int.reduceLE,Int.reduceGT,Int.reduceGE,Int.reduceAdd,Int.reduceSub,Int.reduceNeg,Int.reduceToNat,Nat.reduceBEq,Nat.reduceEqDiff]
 refine ⟨⟨⟨rfl,rfl⟩,rfl,rfl⟩,?_⟩
 refine callR_dk (put_one (H.length+1) H.length true _ (by simp only[AHeap.find,List.length_cons];simp) (by simp only[AHeap.find,List.length_cons];simp)) ?_
 rintro en H1 _ ⟨rfl,m1,x1,hs1,hm1⟩
 show runS _ _ _ _ _ _
 simp -implicitDefEqProofs (maxSteps:=99999999) (disch:=first | omega | (simp only[AHeap.set_length,killO_length,List.length_cons,List.length_nil];first | done | omega)) only[vu,va,vg,vs,vw,Nat.reduceMul,ite_true,ite_false,eq_self,forall_const,implies_true,Nat.reduceAdd,Nat.reduceSub,Nat.reduceLT,Nat.reduceLeDiff,↓reduceIte,reduceCtorEq,Int.reduceEq,Int.reduceLT,Int.reduceLE,Int.reduceGT,Int.reduceGE,Int.reduceAdd,Int.reduceSub,Int.reduceNeg,Int.reduceToNat,Nat.reduceBEq,Nat.reduceEqDiff]
 refine hL _ _ ?_
 clear hL
 refine ES_seq_gen fun L hL=>?_
 simp -implicitDefEqProofs (maxSteps:=99999999) (disch:=first | omega | (simp only[AHeap.set_length,killO_length,List.length_cons,List.length_nil];first | done | omega)) only[vu,va,vg,vs,vw,Nat.reduceMul,ite_true,ite_false,eq_self,forall_const,implies_true,Nat.reduceAdd,Nat.reduceSub,Nat.reduceLT,Nat.reduceLeDiff,↓reduceIte,reduceCtorEq,Int.reduceEq,Int.reduceLT,Int.reduceLE,Int.reduceGT,Int.reduceGE,Int.reduceAdd,Int.reduceSub,Int.reduceNeg,Int.reduceToNat,Nat.reduceBEq,Nat.reduceEqDiff]
 refine callR_ret (addN_d 112 97 _) ?_
 simp -implicitDefEqProofs (maxSteps:=99999999) (disch:=first | omega | (simp only[AHeap.set_length,killO_length,List.length_cons,List.length_nil];first | done | omega)) only[vu,va,vg,vs,vw,Nat.reduceMul,ite_true,ite_false,eq_self,forall_const,implies_true,Nat.reduceAdd,Nat.reduceSub,Nat.reduceLT,Nat.reduceLeDiff,↓reduceIte,reduceCtorEq,Int.reduceEq,Int.reduceLT,Int.reduceLE,Int.reduceGT,Int.reduceGE,Int.reduceAdd,Int.reduceSub,Int.reduceNeg,Int.reduceToNat,Nat.reduceBEq,Nat.reduceEqDiff]
 refine ⟨⟨rfl,rfl⟩,?_⟩
 refine callR_dk (put_two _ _ _ _ hs1 hm1) ?_
 rintro en H2 _ ⟨rfl,m2,x2,hs2,hm2⟩
 show runS _ _ _ _ _ _
 simp -implicitDefEqProofs (maxSteps:=99999999) (disch:=first | omega | (simp only[AHeap.set_length,killO_length,List.length_cons,List.length_nil];first | done | omega)) only[vu,va,vg,vs,vw,Nat.reduceMul,ite_true,ite_false,eq_self,forall_const,implies_true,Nat.reduceAdd,Nat.reduceSub,Nat.reduceLT,Nat.reduceLeDiff,↓reduceIte,reduceCtorEq,Int.reduceEq,Int.reduceLT,Int.reduceLE,Int.reduceGT,Int.reduceGE,Int.reduceAdd,Int.reduceSub,Int.reduceNeg,Int.reduceToNat,Nat.reduceBEq,Nat.reduceEqDiff]
 refine hL _ _ ?_
 clear hL
 refine ES_seq_gen fun L hL=>?_
 simp -implicitDefEqProofs (maxSteps:=99999999) (disch:=first | omega | (simp only[AHeap.set_length,killO_length,List.length_cons,List.length_nil];first | done | omega)) only[vu,va,vg,vs,vw,Nat.reduceMul,ite_true,ite_false,eq_self,forall_const,implies_true,Nat.reduceAdd,Nat.reduceSub,Nat.reduceLT,Nat.reduceLeDiff,↓reduceIte,reduceCtorEq,Int.reduceEq,Int.reduceLT,Int.reduceLE,Int.reduceGT,Int.reduceGE,Int.reduceAdd,Int.reduceSub,Int.reduceNeg,Int.reduceToNat,Nat.reduceBEq,Nat.reduceEqDiff]
 refine callR_ret (addN_d 114 99 _) ?_
 simp -implicitDefEqProofs (maxSteps:=99999999) (disch:=first | omega | (simp only[AHeap.set_length,killO_length,List.length_cons,List.length_nil];first | done | omega)) only[vu,va,vg,vs,vw,Nat.reduceMul,ite_true,ite_false,eq_self,forall_const,implies_true,Nat.reduceAdd,Nat.reduceSub,Nat.reduceLT,Nat.reduceLeDiff,↓reduceIte,reduceCtorEq,Int.reduceEq,Int.reduceLT,Int.reduceLE,Int.reduceGT,Int.reduceGE,Int.reduceAdd,Int.reduceSub,Int.reduceNeg,Int.reduceToNat,Nat.reduceBEq,Nat.reduceEqDiff]
 refine callR_ret (addN_d 112 98 _) ?_
 simp -implicitDefEqProofs (maxSteps:=99999999) (disch:=first | omega | (simp only[AHeap.set_length,killO_length,List.length_cons,List.length_nil];first | done | omega)) only[vu,va,vg,vs,vw,Nat.reduceMul,ite_true,ite_false,eq_self,forall_const,implies_true,Nat.reduceAdd,Nat.reduceSub,Nat.reduceLT,Nat.reduceLeDiff,↓reduceIte,reduceCtorEq,Int.reduceEq,Int.reduceLT,Int.reduceLE,Int.reduceGT,Int.reduceGE,Int.reduceAdd,Int.reduceSub,Int.reduceNeg,Int.reduceToNat,Nat.reduceBEq,Nat.reduceEqDiff]
 refine ⟨⟨⟨rfl,rfl⟩,rfl,rfl⟩,?_⟩
 refine callR_dk (put_three _ _ _ _ hs2 hm2) ?_
 rintro en H3 _ ⟨rfl,m3,x3,hs3,hm3⟩
 show runS _ _ _ _ _ _
 simp -implicitDefEqProofs (maxSteps:=99999999) (disch:=first | omega | (simp only[AHeap.set_length,killO_length,List.length_cons,List.length_nil];first | done | omega)) only[vu,va,vg,vs,vw,Nat.reduceMul,ite_true,ite_false,eq_self,forall_const,implies_true,Nat.reduceAdd,Nat.reduceSub,Nat.reduceLT,Nat.reduceLeDiff,↓reduceIte,reduceCtorEq,Int.reduceEq,Int.reduceLT,Int.reduceLE,Int.reduceGT,Int.reduceGE,Int.reduceAdd,Int.reduceSub,Int.reduceNeg,Int.reduceToNat,Nat.reduceBEq,Nat.reduceEqDiff]
 refine hL _ _ ?_
 clear hL
 refine ES_seq_gen fun L hL=>?_
 simp -implicitDefEqProofs (maxSteps:=99999999) (disch:=first | omega | (simp only[AHeap.set_length,killO_length,List.length_cons,List.length_nil];first | done | omega)) only[vu,va,vg,vs,vw,Nat.reduceMul,ite_true,ite_false,eq_self,forall_const,implies_true,Nat.reduceAdd,Nat.reduceSub,Nat.reduceLT,Nat.reduceLeDiff,↓reduceIte,reduceCtorEq,Int.reduceEq,Int.reduceLT,Int.reduceLE,Int.reduceGT,Int.reduceGE,Int.reduceAdd,Int.reduceSub,Int.reduceNeg,Int.reduceToNat,Nat.reduceBEq,Nat.reduceEqDiff]
 refine callR_ret (get_none (one 114) _ _ _ _ _ hs3 hm3 (fun x hx=>by simp only[List.mem_cons,List.not_mem_nil,or_false] at hx;rcases hx with rfl | rfl <;> rfl) (by simp[mIdx,entHit,enA,kSame,one])) ?_
 simp -implicitDefEqProofs (maxSteps:=99999999) (disch:=first | omega | (simp only[AHeap.set_length,killO_length,List.length_cons,List.length_nil];first | done | omega)) only[vu,va,vg,vs,vw,Nat.reduceMul,ite_true,ite_false,eq_self,forall_const,implies_true,Nat.reduceAdd,Nat.reduceSub,Nat.reduceLT,Nat.reduceLeDiff,↓reduceIte,reduceCtorEq,Int.reduceEq,Int.reduceLT,Int.reduceLE,Int.reduceGT,Int.reduceGE,Int.reduceAdd,Int.reduceSub,Int.reduceNeg,Int.reduceToNat,Nat.reduceBEq,Nat.reduceEqDiff]
 refine ⟨⟨rfl,rfl⟩,?_⟩
 refine hL _ _ ?_
 clear hL
 refine ES_seq_gen fun L hL=>?_
 simp -implicitDefEqProofs (maxSteps:=99999999) (disch:=first | omega | (simp only[AHeap.set_length,killO_length,List.length_cons,List.length_nil];first | done | omega)) only[vu,va,vg,vs,vw,Nat.reduceMul,ite_true,ite_false,eq_self,forall_const,implies_true,Nat.reduceAdd,Nat.reduceSub,Nat.reduceLT,Nat.reduceLeDiff,↓reduceIte,reduceCtorEq,Int.reduceEq,Int.reduceLT,Int.reduceLE,Int.reduceGT,Int.reduceGE,Int.reduceAdd,Int.reduceSub,Int.reduceNeg,Int.reduceToNat,Nat.reduceBEq,Nat.reduceEqDiff]
 have hl3:=AHeap.find_lt hs3
 have hl4:=AHeap.find_lt hm3
 have hnm:=storeNames_d [(one 112,patA 1 (one 97) e0),(one 113,patA 1 (one 98) e0)] (by simp) x3 (H.length+1) m3
 refine callR_ret (hnm _ (by rw[AHeap.find_cons hl3];exact hs3) (by rw[AHeap.find_cons hl4];exact hm3)) ?_
 simp -implicitDefEqProofs (maxSteps:=99999999) (disch:=first | omega | (simp only[AHeap.set_length,killO_length,List.length_cons,List.length_nil];first | done | omega)) only[vu,va,vg,vs,vw,Nat.reduceMul,ite_true,ite_false,eq_self,forall_const,implies_true,Nat.reduceAdd,Nat.reduceSub,Nat.reduceLT,Nat.reduceLeDiff,↓reduceIte,reduceCtorEq,Int.reduceEq,Int.reduceLT,Int.reduceLE,Int.reduceGT,Int.reduceGE,Int.reduceAdd,Int.reduceSub,Int.reduceNeg,Int.reduceToNat,Nat.reduceBEq,Nat.reduceEqDiff]
 refine callR_ret (sameTexts_d _ [one 112,one 113] _ _ _ (by rw[nameR_two];simp)) ?_
 rw[nameR_two]
 simp -implicitDefEqProofs (maxSteps:=99999999) (disch:=first | omega | (simp only[AHeap.set_length,killO_length,List.length_cons,List.length_nil];first | done | omega)) only[vu,va,vg,vs,vw,Nat.reduceMul,ite_true,ite_false,eq_self,forall_const,implies_true,Nat.reduceAdd,Nat.reduceSub,Nat.reduceLT,Nat.reduceLeDiff,↓reduceIte,reduceCtorEq,Int.reduceEq,Int.reduceLT,Int.reduceLE,Int.reduceGT,Int.reduceGE,Int.reduceAdd,Int.reduceSub,Int.reduceNeg,Int.reduceToNat,Nat.reduceBEq,Nat.reduceEqDiff]
 refine hL _ _ ?_
 clear hL
 simp -implicitDefEqProofs (maxSteps:=99999999) (disch:=first | omega | (simp only[AHeap.set_length,killO_length,List.length_cons,List.length_nil];first | done | omega)) only[vu,va,vg,vs,vw,Nat.reduceMul,ite_true,ite_false,eq_self,forall_const,implies_true,Nat.reduceAdd,Nat.reduceSub,Nat.reduceLT,Nat.reduceLeDiff,↓reduceIte,reduceCtorEq,Int.reduceEq,Int.reduceLT,Int.reduceLE,Int.reduceGT,Int.reduceGE,Int.reduceAdd,Int.reduceSub,Int.reduceNeg,Int.reduceToNat,Nat.reduceBEq,Nat.reduceEqDiff]
 subst hH
 exact weak_gen [] (by simp) (by simp) (by simp) (fun id k hid=>absurd hid (by simp)) (fun i s k h=>by simp at h) (.same trivial)
end Go.Proofs.YtdjnccnecgblmaaGreatDoor
