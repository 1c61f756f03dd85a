import Derived.Test.YtfnahogjkgcklaaGreatDoorTD
namespace Go.Proofs.YtfnahogjkgcklaaGreatDoor
open Go.RowKit Go.Shelf Go.Sort
set_option maxRecDepth 100000
set_option linter.unusedVariables false
set_option linter.unusedSimpArgs false
def ofL (zs : List (List UInt8)) : List ByteArray:=zs.map fun x=>⟨x.toArray⟩
def toL (xs : List ByteArray) : List (List UInt8):=xs.map fun x=>x.data.toList
theorem ofL_toL (xs : List ByteArray) : ofL (toL xs)=xs:=by
 simp[ofL,toL,Function.comp_def]
theorem toL_length (xs : List ByteArray) : (toL xs).length=xs.length:=by simp[toL]
theorem ofL_length (zs : List (List UInt8)) : (ofL zs).length=zs.length:=by simp[ofL]
theorem modify_at {w : World} {b : Nat} {cur : Array Value} {e : TypeId} {fr : Nat × Nat} (f : Array Value→Array Value) (h : w.heap[b]? = some (.cells cur e fr)) : (mapBlock w b f).heap[b]? = some (.cells (f cur) e fr):=by
 unfold mapBlock
 simp only[Array.getElem?_modify,if_true,h,Option.map_some,onCells]
theorem modify_else {w : World} {b b' : Nat} (f : Array Value→Array Value) (h : b' ≠ b) : (mapBlock w b f).heap[b']? = w.heap[b']?:=by
 unfold mapBlock
 simp only[Array.getElem?_modify,if_neg (fun e=>h (Eq.symm e))]
theorem enc_at (zs : List (List UInt8)) (j : Nat) (h : j < zs.length) : encStr zs.toArray[j]! = .string ((ofL zs)[j]'(by rw[ofL_length];exact h)):=by
 simp[encStr,ofL,h]
theorem row_holds {φ : Phi} {O : Nat→Prop} {w : World} {b : Nat} {xs : List ByteArray} {cur : Array Value} {e : TypeId} (hb : w.heap[b]? = some (.cells cur e (0,0))) (h : Rl φ O w b 1 (strs xs) 0) : Holds encStr w b 0 (toL xs).toArray:=by
 intro j hj
 have hj' : j < xs.length:=by simpa [toL] using hj
 have hx : (strs xs)[j]? = some (.sc (.string xs[j])):=by simp[strs,hj']
 obtain ⟨b1,b2,b3⟩:=Rl_nth h hx
 have b4 : memAt w b (0+j * 1) 0=some (.string xs[j]):=b3
 refine ⟨?_,by simp[World.frozen?,hb]⟩
 unfold memAt at b4
 rw[show 0+j * 1+0=0+j by omega] at b4
 rw[b4,enc_at (toL xs) j (by rw[toL_length];exact hj')]
 simp[ofL_toL]
theorem putRow_rel {φ : Phi} {H : AHeap} {w : World} (hR : Rel φ H w) {id b : Nat} {xs : List ByteArray} (hm : φ id=some b) (hf : AHeap.find H id=some ⟨1,strs xs,false,9⟩) (zs : List (List UInt8)) (hl : zs.length=xs.length) (n : Nat) (os : Array Obj) :
  Rel φ (AHeap.set H id (some ⟨1,strs (ofL zs),false,9⟩)) (grow (putRow encStr (Sort.ahead w n) b 0 zs.toArray) os) ∧ Step φ H w φ (AHeap.set H id (some ⟨1,strs (ofL zs),false,9⟩)) (grow (putRow encStr (Sort.ahead w n) b 0 zs.toArray) os):=by
 obtain ⟨cur,cap,a1,a2,a3,a4,a5,a6⟩:=(hR.blk id b _ hm hf).cells (by show 0 < 1;omega)
 have a1' : (Sort.ahead w n).heap[b]? = some (.cells cur 9 (0,0)):=a1
 simp only[strs_length] at a3
 simp only[Nat.mul_one] at a2
 have hw1 : (putRow encStr (Sort.ahead w n) b 0 zs.toArray).heap[b]? = some (.cells (putCells encStr 0 zs.toArray cur) 9 (0,0)):=modify_at _ a1'
 have hcs : (putCells encStr 0 zs.toArray cur).size=cur.size:=by simp[putCells]
 have h1:=hR.writeO (w':=putRow encStr (Sort.ahead w n) b 0 zs.toArray) hm hf (some ⟨1,strs (ofL zs),false,9⟩) (by simp[Sort.ahead]) (fun b' hb'=>modify_else _ hb') (by unfold World.shape?;rw[hw1,a1];simp[hcs]) rfl rfl rfl (fun k hk hlt=>by
  cases hk
  refine .inl ⟨Nat.one_pos,_,cap,hw1,by rw[hcs,a2,Nat.mul_one],by rw[strs_length,ofL_length,hl];exact a3,fun h=>by simp at h,a5,Rl_strs (ofL zs) 0 fun j hj=>?_⟩
  have hj2 : j < zs.length:=by rwa [ofL_length] at hj
  unfold memAt World.cell?
  simp only[hw1,Nat.zero_add,Nat.add_zero]
  have hjc : j < cur.size:=by omega
  simp only[putCells,Array.getElem?_mapIdx,Array.getElem?_eq_getElem hjc,Option.map_some,Nat.zero_le,true_and,Nat.zero_add,List.size_toArray,if_pos hj2,Nat.sub_zero]
  rw[enc_at zs j hj2]
  rfl)
 have hold : ∀ b',b' < (putRow encStr (Sort.ahead w n) b 0 zs.toArray).heap.size→(grow (putRow encStr (Sort.ahead w n) b 0 zs.toArray) os).heap[b']? = (putRow encStr (Sort.ahead w n) b 0 zs.toArray).heap[b']?:=fun b' hb'=>by
  unfold grow
  rw[Array.getElem?_append_left hb']
 exact ⟨h1.1.grow (by rw[size_grow];omega) hold,h1.2.trans (grow_step rfl rfl rfl (by rw[size_grow];omega) hold)⟩
theorem sort_o (xs : List ByteArray) (hx : xs.length ≤ 100000000) (io : Nat) (H : AHeap) (hf : xs ≠ []→AHeap.find H io=OwnB 1 9 (strs xs)) : D Tryz.prog 33 [OwnV 1 (strs xs) io] H (.ret (.tup [])) (if xs=[] then H else AHeap.set H io (some ⟨1,strs (ofL ((toL xs).mergeSort fun x y=>decide (x ≤ y))),false,9⟩)):=by
 by_cases e : xs=[]
 ·subst e
  rw[if_pos rfl]
  refine ⟨Nat.le_refl _,fun φ w vs hR ha=>?_⟩
  obtain ⟨a,r,e1,a1,a2,e3⟩:=ha
  have e3' : r=[]:=e3
  obtain ⟨p,c,hv,_⟩:=VR_lst (show VR φ (Own φ H) w (.lst 0 [] (some [])) a from ⟨a1,a2⟩)
  have hvs : vs=#[.slice p 0 c]:=by
   cases vs
   simp only at e1
   rw[e1,hv,e3']
   rfl
  rw[hvs]
  refine (Any.slices_Sort_string_none lays190 p c w).mono fun en w' ⟨he,hw⟩=>?_
  subst hw
  refine ⟨φ,?_,hR,.refl _ _ _⟩
  rw[he]
  exact ⟨⟨_,rfl⟩,⟨_,rfl,rfl⟩⟩
 rw[if_neg e]
 have hf':=hf e
 rw[OwnB_ne (strs_ne e)] at hf'
 refine ⟨by rw[AHeap.set_length];exact Nat.le_refl _,fun φ w vs hR ha=>?_⟩
 rw[OwnV_ne (strs_ne e)] at ha
 obtain ⟨a,r,e1,a1,a2,e3⟩:=ha
 have e3' : r=[]:=e3
 obtain ⟨b,c',cur,et,fr,v1,hv,v3,v4,v5,v6,v7⟩:=VR_vec (show VR φ (Own φ H) w (.vec 1 io 0 (strs xs).length none) a from ⟨a1,a2⟩)
 obtain ⟨cur2,cap,g1,g2,g3,g4,g5,g6⟩:=(hR.blk io b _ v1 hf').cells (by show 0 < 1;omega)
 have hvs : vs=#[.slice (some ⟨b,0,none⟩) (toL xs).length c']:=by
  cases vs
  simp only at e1
  rw[e1,hv,e3',strs_length,toL_length]
 rw[hvs]
 refine (Any.slices_Sort_string lays190 b 0 c' (toL xs) w (row_holds g1 g6) (heap_lt g1) (by rw[toL_length];omega)).mono fun en w' ⟨he,n,os,hw⟩=>?_
 obtain ⟨r1,r2⟩:=putRow_rel hR v1 hf' ((toL xs).mergeSort fun x y=>decide (x ≤ y)) (by rw[List.length_mergeSort,toL_length]) n os
 rw[← hw] at r1 r2
 refine ⟨φ,?_,r1,r2⟩
 rw[he]
 exact ⟨⟨_,rfl⟩,⟨_,rfl,rfl⟩⟩
def cmpL (zs : List (List UInt8)) : List (List UInt8):=Lib.compact zs ++ List.replicate (zs.length - (Lib.compact zs).length) []
theorem cmpL_length (zs : List (List UInt8)) (h : (Lib.compact zs).length ≤ zs.length) : (cmpL zs).length=zs.length:=by
 simp[cmpL];omega
theorem compact_le (zs : List (List UInt8)) : (Lib.compact zs).length ≤ zs.length:=by
 unfold Lib.compact Lib.compactUpTo
 rw[List.length_map]
 refine Nat.le_trans (List.length_filter_le _ _) ?_
 simp
theorem compact_o (xs : List ByteArray) (hne : xs ≠ []) (hx : xs.length ≤ 100000000) (io : Nat) (H : AHeap) (hf : AHeap.find H io=some ⟨1,strs xs,false,9⟩) : D Tryz.prog 34 [.vec 1 io 0 xs.length none] H (.ret (.vec 1 io 0 (Lib.compact (toL xs)).length none)) (AHeap.set H io (some ⟨1,strs (ofL (cmpL (toL xs))),false,9⟩)):=by
 refine ⟨by rw[AHeap.set_length];exact Nat.le_refl _,fun φ w vs hR ha=>?_⟩
 obtain ⟨a,r,e1,a1,a2,e3⟩:=ha
 have e3' : r=[]:=e3
 obtain ⟨b,c',cur,et,fr,v1,hv,v3,v4,v5,v6,v7⟩:=VR_vec (show VR φ (Own φ H) w (.vec 1 io 0 xs.length none) a from ⟨a1,a2⟩)
 obtain ⟨cur2,cap,g1,g2,g3,g4,g5,g6⟩:=(hR.blk io b _ v1 hf).cells (by show 0 < 1;omega)
 have hvs : vs=#[.slice (some ⟨b,0,none⟩) (toL xs).length c']:=by
  cases vs
  simp only at e1
  rw[e1,hv,e3',toL_length]
 rw[hvs]
 refine (Any.slices_Compact_string lays194 b 0 c' (toL xs) w (row_holds g1 g6) (by rw[toL_length];omega) (by rw[toL_length];exact v3)).mono fun en w' ⟨he,n,hw⟩=>?_
 have hcl:=compact_le (toL xs)
 have hcl2:=cmpL_length (toL xs) hcl
 rw[toL_length] at hcl hcl2
 obtain ⟨r1,r2⟩:=putRow_rel hR v1 hf (cmpL (toL xs)) hcl2 n #[]
 rw[grow_empty] at r1 r2
 have hw2 : w'=putRow encStr (Sort.ahead w n) b 0 (cmpL (toL xs)).toArray:=by rw[hw];rfl
 rw[← hw2] at r1 r2
 refine ⟨φ,?_,r1,r2⟩
 rw[he]
 obtain ⟨cur3,cap3,q1,q2,q3,q4,q5,q6⟩:=(r1.blk io b _ v1 (AHeap.find_set_same (AHeap.find_lt hf))).cells (by show 0 < 1;omega)
 have hsh:=r2.shape b (heap_lt v6)
 unfold World.shape? at hsh
 rw[q1,v6] at hsh
 have hsz : cur3.size=cur.size:=by
  simp at hsh
  exact hsh.2
 exact ⟨rfl,b,c',cur3,_,_,v1,by simp[cget,Value.cells],by omega,v4,(fun m h=>by cases h),q1,by rw[hsz];exact v7⟩
end Go.Proofs.YtfnahogjkgcklaaGreatDoor
namespace Go.Proofs.YtfnahogjkgcklaaGreatDoor
open Go.RowKit Go.Shelf Go.Sort
set_option maxRecDepth 100000
set_option linter.unusedVariables false
set_option linter.unusedSimpArgs false
theorem compact_n (H : AHeap) : D Tryz.prog 34 [.lst 0 [] (some [])] H (.ret (.lst 0 [] (some []))) H:=by
 refine ⟨Nat.le_refl _,fun φ w vs hR ha=>?_⟩
 obtain ⟨a,r,e1,a1,a2,e3⟩:=ha
 have e3' : r=[]:=e3
 obtain ⟨p,c,hv,_⟩:=VR_lst (show VR φ (Own φ H) w (.lst 0 [] (some [])) a from ⟨a1,a2⟩)
 have hvs : vs=#[.slice p 0 c]:=by
  cases vs
  simp only at e1
  rw[e1,hv,e3']
  rfl
 have hv' : a = .slice p 0 c:=hv
 rw[hvs]
 refine (Any.slices_Compact_string_empty lays194 p c w).mono fun en w' ⟨he,hw⟩=>?_
 subst hw
 refine ⟨φ,?_,hR,.refl _ _ _⟩
 rw[he]
 rw[hv'] at a1 a2
 exact ⟨a1,a2⟩
def srtL (xs : List ByteArray) : List ByteArray:=ofL ((toL xs).mergeSort fun x y=>decide (x ≤ y))
theorem srtL_length (xs : List ByteArray) : (srtL xs).length=xs.length:=by rw[srtL,ofL_length,List.length_mergeSort,toL_length]
def uniqT (xs : List ByteArray) : List ByteArray:=ofL (Lib.compact (toL (srtL xs)))
theorem uniqT_nil : uniqT []=[]:=by decide +kernel
theorem strs_gzT {H1 : AHeap} {n0 : Nat} {src : List Nat} : ∀ {l : List ByteArray},GzL H1 n0 src (strs l) (strs l)
 | []=>.nil
 | _ :: _=>.cons (.same trivial) strs_gzT
set_option maxHeartbeats 0 in
theorem names_d (l : List Nd) (ro : Option (List AV)) (hz : Nd.wtL l ≤ 2000000) (hs : Nd.sizeL l ≤ 2000000) (H : AHeap) : D Tryz.prog 14 [.lst 4 (ndL l) ro] H (.ret (.lst 1 (strs (uniqT (nmsL l))) none)) H:=by
 have hE:=eachNm_all l
 have hnl:=nmsL_len l
 refine D_of_DK (Nat.le_refl _) (dk14 (E_of_ES ?_))
 simp only[ic14,ux]
 refine ES_seq_gen fun L hL=>?_
 simp -implicitDefEqProofs (maxSteps:=99999999) (disch:=first | omega | (simp only[vl];first | done | omega)) only[vu,va,vg,vs,vw,vk,simprocAttr]
 refine hL _ _ ?_
 clear hL
 refine ES_seq_gen fun L hL=>?_
 simp -implicitDefEqProofs (maxSteps:=99999999) (disch:=first | omega | (simp only[vl];first | done | omega)) only[vu,va,vg,vs,vw,vk,simprocAttr]
 refine hL _ _ ?_
 clear hL
 refine ES_seq_gen fun L hL=>?_
 simp -implicitDefEqProofs (maxSteps:=99999999) (disch:=first | omega | (simp only[vl];first | done | omega)) only[vu,va,vg,vs,vw,vk,simprocAttr]
 have hw0 : OutW (some ⟨1,[.lst 0 [] (some [])],true,42⟩ :: H) H.length [] 0:=⟨find_top rfl,fun e=>(e rfl).elim⟩
 refine callR_rel (hE ro [] H.length 0 _ (by simp;omega) hz hw0) ?_
 rintro v G hGl ⟨rfl,io,hQ⟩
 rw[List.nil_append] at hQ
 have hbx:=hQ.out.box
 simp -implicitDefEqProofs (maxSteps:=99999999) (disch:=first | omega | (simp only[vl];first | done | omega)) only[vu,va,vg,vs,vw,vk,simprocAttr]
 refine hL _ _ ?_
 clear hL
 refine ES_seq_gen fun L hL=>?_
 simp -implicitDefEqProofs (maxSteps:=99999999) (disch:=first | omega | (simp only[vl];first | done | omega)) only[vu,hbx,va,vg,vs,vw,vk,simprocAttr]
 refine callR_ret (sort_o (nmsL l) (by omega) io _ (fun e=>(hQ.out.own e).1)) ?_
 simp -implicitDefEqProofs (maxSteps:=99999999) (disch:=first | omega | (simp only[vl];first | done | omega)) only[vu,va,vg,vs,vw,vk,simprocAttr]
 by_cases e : nmsL l=[]
 ·rw[if_pos e]
  rw[e] at hbx ⊢
  have hbx' : AHeap.find G H.length=some ⟨1,[.lst 0 [] (some [])],true,42⟩:=hbx
  refine hL _ _ ?_
  clear hL
  simp -implicitDefEqProofs (maxSteps:=99999999) (disch:=first | omega | (simp only[vl];first | done | omega)) only[vu,hbx',va,vg,vs,vw,vk,simprocAttr]
  refine callR_ret (compact_n _) ?_
  simp -implicitDefEqProofs (maxSteps:=99999999) (disch:=first | omega | (simp only[vl];first | done | omega)) only[vu,va,vg,vs,vw,vk,simprocAttr]
  rw[e,uniqT_nil]
  refine weak_frz (fun i hi=>?_) .nil
  rw[hQ.old i (by simp;omega) (by omega) (fun h=>(h rfl).elim),find_past hi]
 ·rw[if_neg e]
  obtain ⟨o1,o2⟩:=hQ.out.own e
  have o3 : H.length+1 ≤ io:=by
   rcases hQ.at_ e with ⟨h,_⟩ | h
   ·exact (h rfl).elim
   ·simpa using h
  rw[OwnB_ne (strs_ne e)] at o1
  have o4:=AHeap.find_lt o1
  have hbx' : AHeap.find (AHeap.set G io (some ⟨1,strs (srtL (nmsL l)),false,9⟩)) H.length=some ⟨1,[.vec 1 io 0 (srtL (nmsL l)).length none],true,42⟩:=by
   rw[AHeap.find_set_ne (fun h=>o2 h.symm),hbx,OwnV_ne (strs_ne e),strs_length,srtL_length]
  have hfs : AHeap.find (AHeap.set G io (some ⟨1,strs (srtL (nmsL l)),false,9⟩)) io=some ⟨1,strs (srtL (nmsL l)),false,9⟩:=AHeap.find_set_same o4
  have hne : srtL (nmsL l) ≠ []:=fun h=>e (by have:=srtL_length (nmsL l);rw[h] at this;exact List.length_eq_zero_iff.1 (by simpa using this.symm))
  rw[show ofL ((toL (nmsL l)).mergeSort fun x y=>decide (x ≤ y))=srtL (nmsL l) from rfl]
  have hco:=compact_o (srtL (nmsL l)) hne (by rw[srtL_length];omega) io _ hfs
  have hul : uniqT (nmsL l)=ofL (Lib.compact (toL (srtL (nmsL l)))):=rfl
  rw[hul] at hL
  generalize srtL (nmsL l)=S at *
  refine hL _ _ ?_
  clear hL
  simp -implicitDefEqProofs (maxSteps:=99999999) (disch:=first | omega | (simp only[vl];first | done | omega)) only[vu,hbx',va,vg,vs,vw,vk,simprocAttr]
  refine callR_ret hco ?_
  simp -implicitDefEqProofs (maxSteps:=99999999) (disch:=first | omega | (simp only[vl];first | done | omega)) only[vu,va,vg,vs,vw,vk,simprocAttr]
  rw[set_set]
  have hcl:=compact_le (toL S)
  refine weak_frz (fun i hi=>?_) ?_
  ·rw[AHeap.find_set_ne (by omega),hQ.old i (by simp;omega) (by omega) (fun h=>(h rfl).elim),find_past hi]
  ·refine .vec (by unfold newId;rw[if_neg (by omega)];rfl) (AHeap.find_set_same o4) rfl (by rw[strs_length,ofL_length,cmpL_length _ hcl,Nat.zero_add];exact hcl) ?_
   have ht : ((strs (ofL (cmpL (toL S)))).drop 0).take (Lib.compact (toL S)).length=strs (ofL (Lib.compact (toL S))):=by
    simp[strs,ofL,cmpL,List.map_append,List.take_append]
   rw[ht]
   exact strs_gzT
end Go.Proofs.YtfnahogjkgcklaaGreatDoor
namespace Go.Proofs.YtfnahogjkgcklaaGreatDoor
open Go.RowKit
set_option linter.unusedVariables false
set_option linter.unusedSimpArgs false
end Go.Proofs.YtfnahogjkgcklaaGreatDoor
