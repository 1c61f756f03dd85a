import Derived.Test.YtfnahogjkgcklaaGreatDoorTG
import Derived.Test.YtfnahogjkgcklaaGreatDoorIc42
import Derived.Test.YtfnahogjkgcklaaGreatDoorTB
namespace Go.Proofs.YtfnahogjkgcklaaGreatDoor
open Go.RowKit
set_option maxRecDepth 100000
set_option linter.unusedVariables false
set_option linter.unusedSimpArgs false
def smallQ (l : List Nd) : Bool:=decide (bulkL l 400 0 ≤ 400)
theorem bulkL_size (most : Int) : ∀ (l : List Nd) (c : Int),bulkL l most c ≤ most→c+Nd.sizeL l ≤ bulkL l most c
 | [],c,_=>by simp[bulkL,Nd.sizeL]
 | t :: r,c,h=>by
  unfold bulkL at h ⊢
  simp only[Nd.sizeL]
  split at h
  ·rename_i h1
   rw[if_pos h1]
   have h2:=bulkL_ge most r (c+bulk t (most - c))
   have h3:=bulk_size t (most - c) (by omega)
   have h4:=bulkL_size most r (c+bulk t (most - c)) h
   omega
  ·omega
theorem small_size {l : List Nd} (h : smallQ l=true) : Nd.sizeL l ≤ 400:=by
 have h1 : bulkL l 400 0 ≤ 400:=of_decide_eq_true h
 have:=bulkL_size 400 l 0 h1
 omega
set_option maxHeartbeats 0 in
theorem small_d (l : List Nd) (ro : Option (List AV)) (hz : Nd.wtL l ≤ 2000000) (H : AHeap) : D Tryz.prog 5 [.lst 4 (ndL l) ro] H (.ret (.sc (.bool (smallQ l)))) H:=by
 have hkl:=Nd.wtL_len l
 refine D_of_DK (Nat.le_refl _) (dk5 (E_of_ES ?_))
 simp only[ic5,ux]
 refine ES_seq_gen fun L hL=>?_
 simp -implicitDefEqProofs (maxSteps:=99999999) (disch:=first | omega | (simp only[vl];first | done | omega)) only[vu,va,vg,vs,vw,vk,simprocAttr]
 refine hL _ _ ?_
 clear hL
 refine ES_seq_gen fun L hL=>?_
 simp -implicitDefEqProofs (maxSteps:=99999999) (disch:=first | omega | (simp only[vl];first | done | omega)) only[vu,va,vg,vs,vw,vk,simprocAttr]
 refine hL _ _ ?_
 clear hL
 refine ES_seq_gen fun L hL=>?_
 simp -implicitDefEqProofs (maxSteps:=99999999) (disch:=first | omega | (simp only[vl];first | done | omega)) only[vu,va,vg,vs,vw,vk,simprocAttr]
 refine ES_loopL (fun ts F=>∃ (k : Nat) (c : Int),(k ≤ l.length ∧ 0 ≤ c ∧ c+Nd.wtL (l.drop k) ≤ Nd.wtL l ∧ bulkL (l.drop k) 400 c=bulkL l 400 0) ∧ F=H ∧ Fr [some (.lst 4 (ndL l) ro),none,none,some (.sc (.int .i64 c)),some (.sc (.int .i64 k)),none,none,none,none,none,none,none,none,none,none,none,none,none,none,none,none,none,none,none,none,none] ts) (fun ts _=>l.length - (intV (ts.getD 4 .top)).toNat) ?_ ?_
 ·exact ⟨0,0,⟨Nat.zero_le _,by omega,by rw[List.drop_zero];omega,by rw[List.drop_zero]⟩,rfl,by simp[Fr]⟩
 rintro ts F ⟨k,c,⟨hk,hc0,hc1,hb⟩,rfl,hfr⟩ L2 hL2
 obtain ⟨js,rfl⟩:=hfr.opened
 clear hfr
 by_cases hd : k < l.length
 ·have d1 : (k : Int) < l.length:=by omega
  have hg:=ndL_get hd
  have hmem:=nthN_mem hd
  have hwm:=Nd.wtL_mem hmem
  rw[bulkL_drop hd] at hb
  rw[wtL_drop hd] at hc1
  by_cases d2 : c ≤ 400
  ·rw[if_pos d2] at hb
   have hi:=fun H=>nodesOf_d (nthN l k) none (400 - c) (by omega) (by omega) H
   have hhi:=bulk_hi (nthN l k) (400 - c)
   have hlo:=bulk_lo (nthN l k) (400 - c)
   rw[ndR_eq] at hi
   simp -implicitDefEqProofs (maxSteps:=99999999) (disch:=first | omega | (simp only[vl];first | done | omega)) only[mk,d1,d2,hg,ndL_length,va,vg,vs,vw,vk,simprocAttr]
   refine ⟨by omega,callR_ret (hi _) ?_⟩
   simp -implicitDefEqProofs (maxSteps:=99999999) (disch:=first | omega | (simp only[vl];first | done | omega)) only[vu,va,vg,vs,vw,vk,simprocAttr]
   exact hL2 _ _ ⟨k+1,_,⟨by omega,by omega,by omega,hb⟩,rfl,by simp[Fr]⟩ (by simp[intV,mk];omega)
  ·rw[if_neg d2] at hb
   simp -implicitDefEqProofs (maxSteps:=99999999) (disch:=first | omega | (simp only[vl];first | done | omega)) only[mk,d1,d2,ndL_length,va,vg,vs,vw,vk,simprocAttr]
   refine hL _ _ ?_
   clear hL
   simp -implicitDefEqProofs (maxSteps:=99999999) (disch:=first | omega | (simp only[vl];first | done | omega)) only[va,vg,vs,vw,vk,simprocAttr]
   exact over_bN .refl (by unfold smallQ;rw[hb])
 ·have d1 : ¬ (k : Int) < l.length:=by omega
  have e : l.drop k=[]:=List.drop_of_length_le (by omega)
  rw[e] at hb
  simp only[bulkL] at hb
  simp -implicitDefEqProofs (maxSteps:=99999999) (disch:=first | omega | (simp only[vl];first | done | omega)) only[mk,d1,ndL_length,va,vg,vs,vw,vk,simprocAttr]
  refine hL _ _ ?_
  clear hL
  simp -implicitDefEqProofs (maxSteps:=99999999) (disch:=first | omega | (simp only[vl];first | done | omega)) only[va,vg,vs,vw,vk,simprocAttr]
  exact over_bN .refl (by unfold smallQ;rw[hb])
end Go.Proofs.YtfnahogjkgcklaaGreatDoor
namespace Go.Proofs.YtfnahogjkgcklaaGreatDoor
open Go.RowKit
set_option maxRecDepth 100000
set_option linter.unusedVariables false
set_option linter.unusedSimpArgs false
def oneN : Nd:=⟨20,⟨#[]⟩,1,[]⟩
def retN : Nd:=⟨10,⟨#[]⟩,0,[oneN]⟩
def blkN : Nd:=⟨5,⟨#[]⟩,0,[retN]⟩
def blk0 : Nd:=⟨5,⟨#[]⟩,0,[]⟩
def aN : Nd:=⟨22,⟨#[97]⟩,0,[]⟩
def calN : Nd:=⟨25,⟨#[102]⟩,0,[aN,aN]⟩
def oneA : AV:=.agg [.sc (.int .u8 20),.sc (.string ⟨#[]⟩),.sc (.int .i64 1),.lst 0 [] (some [])]
def retA : AV:=.agg [.sc (.int .u8 10),.sc (.string ⟨#[]⟩),.sc (.int .i64 0),.lst 4 [oneA] (some [])]
def blkA : AV:=.agg [.sc (.int .u8 5),.sc (.string ⟨#[]⟩),.sc (.int .i64 0),.lst 4 [retA] (some [])]
theorem one_le : Le oneA (ndR oneN none):=.agg (.cons .refl (.cons .refl (.cons .refl (.cons .nil .nil))))
theorem one_le' : Le oneA (ndA oneN):=by rw[← ndR_none];exact one_le
theorem ret_le : Le retA (ndA retN):=by
 rw[ndA_eq]
 exact .agg (.cons .refl (.cons .refl (.cons .refl (.cons (.lst (.cons one_le' .nil)) .nil))))
theorem blk_le : Le blkA (ndR blkN none):=by
 rw[ndR_eq]
 exact .agg (.cons .refl (.cons .refl (.cons .refl (.cons (.lst (.cons ret_le .nil)) .nil))))
theorem get_a : getV blkN [0,0] = .tup [ndA oneN,.sc (.bool true)]:=by
 have h : getN blkN [0,0]=some oneN:=by rfl
 unfold getV
 rw[h]
theorem put_a : putV blkN blk0 [0] = .tup [ndA ⟨5,⟨#[]⟩,0,[blk0]⟩,.sc (.int .i64 0)]:=by
 have h : getN blkN [0]=some retN:=by rfl
 have h2 : withN blkN blk0 [0]=⟨5,⟨#[]⟩,0,[blk0]⟩:=by rfl
 have h3 : rightN ⟨5,⟨#[]⟩,0,[blk0]⟩ 40=true:=by decide +kernel
 unfold putV
 rw[h,h2,h3]
 rfl
theorem put_b : putV blkN oneN [0] = .tup [ndA Nd.none,.sc (.int .i64 4)]:=by
 have h : getN blkN [0]=some retN:=by rfl
 have h2 : withN blkN oneN [0]=⟨5,⟨#[]⟩,0,[oneN]⟩:=by rfl
 have h3 : rightN ⟨5,⟨#[]⟩,0,[oneN]⟩ 40=false:=by decide +kernel
 unfold putV
 rw[h,h2,h3]
 rfl
theorem put_c : putV blkN oneN [1] = .tup [ndA Nd.none,.sc (.int .i64 6)]:=by
 have h : getN blkN [1]=none:=by rfl
 unfold putV
 rw[h]
theorem right_a : rightN blkN 40=true:=by decide +kernel
theorem size_a : blkN.size=3:=by decide +kernel
theorem srt_a : (toL (nmsL [calN])).mergeSort (fun x y=>decide (x ≤ y))=[[97],[97],[102]]:=by
 have h : toL (nmsL [calN])=[[102],[97],[97]]:=by decide +kernel
 rw[h]
 have h1 : ¬ ([102] : List UInt8) ≤ [97]:=by decide
 have h2 : ([97] : List UInt8) ≤ [97]:=by decide
 have h3 : ¬ ([97] : List UInt8) > [97]:=by decide
 simp[List.mergeSort,List.MergeSort.Internal.splitInTwo,List.merge,h1,h2]
theorem names_a : uniqT (nmsL [calN])=[⟨#[97]⟩,⟨#[102]⟩]:=by
 unfold uniqT srtL
 rw[srt_a]
 decide +kernel
end Go.Proofs.YtfnahogjkgcklaaGreatDoor
namespace Go.Proofs.YtfnahogjkgcklaaGreatDoor
open Go.RowKit
set_option maxRecDepth 100000
set_option linter.unusedVariables false
set_option linter.unusedSimpArgs false
set_option maxHeartbeats 0 in
theorem awake6_d (H : AHeap) : D Tryz.prog 4 [] H (.ret (.sc (.bool true))) H:=by
 have hget:=fun H=>D_le (.cons blk_le (.cons .refl .nil)) (get_d blkN (by decide +kernel) [0,0] (by decide) (some []) H)
 have n1 : ndA oneN = .agg [.sc (.int .u8 20),.sc (.string ⟨#[]⟩),.sc (.int .i64 1),.lst 4 [] none]:=by rfl
 have n0 : ndA Nd.none = .agg [.sc (.int .u8 0),.sc (.string ⟨#[]⟩),.sc (.int .i64 0),.lst 4 [] none]:=by rfl
 have nb : ndA ⟨5,⟨#[]⟩,0,[blk0]⟩ = .agg [.sc (.int .u8 5),.sc (.string ⟨#[]⟩),.sc (.int .i64 0),.lst 4 [ndA blk0] none]:=by rfl
 rw[get_a,n1] at hget
 have b0_le : Le (.agg [.sc (.int .u8 5),.sc (.string ⟨#[]⟩),.sc (.int .i64 0),.lst 0 [] (some [])]) (ndR blk0 none):=.agg (.cons .refl (.cons .refl (.cons .refl (.cons .nil .nil))))
 have hp1:=fun H=>D_le (.cons blk_le (.cons b0_le (.cons .refl .nil))) (put_d blkN blk0 (by decide +kernel) (by decide +kernel) [0] (by decide +kernel) (by decide) (some []) H)
 have hp2:=fun H=>D_le (.cons blk_le (.cons one_le (.cons .refl .nil))) (put_d blkN oneN (by decide +kernel) (by decide +kernel) [0] (by decide +kernel) (by decide) (some []) H)
 have hp3:=fun H=>D_le (.cons blk_le (.cons one_le (.cons .refl .nil))) (put_d blkN oneN (by decide +kernel) (by decide +kernel) [1] (by decide +kernel) (by decide) (some []) H)
 rw[put_a,nb] at hp1
 rw[put_b,n0] at hp2
 rw[put_c,n0] at hp3
 unfold blkA retA oneA at hget hp1 hp2 hp3
 have a_le : Le (.agg [.sc (.int .u8 22),.sc (.string ⟨#[97]⟩),.sc (.int .i64 0),.lst 0 [] (some [])]) (ndA aN):=by
  rw[ndA_eq]
  exact .agg (.cons .refl (.cons .refl (.cons .refl (.cons .nil .nil))))
 have cal_le : Le (.agg [.sc (.int .u8 25),.sc (.string ⟨#[102]⟩),.sc (.int .i64 0),.lst 4 [.agg [.sc (.int .u8 22),.sc (.string ⟨#[97]⟩),.sc (.int .i64 0),.lst 0 [] (some [])],.agg [.sc (.int .u8 22),.sc (.string ⟨#[97]⟩),.sc (.int .i64 0),.lst 0 [] (some [])]] (some [])]) (ndA calN):=by
  rw[ndA_eq]
  exact .agg (.cons .refl (.cons .refl (.cons .refl (.cons (.lst (.cons a_le (.cons a_le .nil))) .nil))))
 have hnm:=fun H=>D_le (.cons (.lst (room:=some []) (k:=4) (.cons cal_le .nil)) .nil) (names_d [calN] none (by decide +kernel) (by decide +kernel) H)
 rw[names_a] at hnm
 have hrt:=fun H=>D_le (.cons blk_le .nil) (tright_d blkN none (by decide +kernel) H)
 have hsz:=fun H=>D_le (.cons blk_le .nil) (size_d blkN (by decide +kernel) H)
 have hsm:=fun H=>D_le (.cons .refl (.cons one_le .nil)) (sameNode_d oneN (by decide +kernel) oneN none none H)
 rw[right_a] at hrt
 rw[size_a] at hsz
 rw[sameN_refl] at hsm
 unfold blkA retA oneA at hrt hsz
 unfold oneA at hsm
 have hst:=fun H=>sameTexts_d [⟨#[97]⟩,⟨#[102]⟩] [⟨#[97]⟩,⟨#[102]⟩] none (some []) H (by decide)
 refine D_of_DK (Nat.le_refl _) (dk4 (E_of_ES ?_))
 simp only[ic4,ux]
 refine ES_seq_gen fun L hL=>?_
 simp -implicitDefEqProofs (maxSteps:=99999999) (disch:=first | omega | (simp only[vl];first | done | omega)) only[vu,va,vg,vs,vw,vk,simprocAttr]
 refine hL _ _ ?_
 clear hL
 refine ES_seq_gen fun L hL=>?_
 simp -implicitDefEqProofs (maxSteps:=99999999) (disch:=first | omega | (simp only[vl];first | done | omega)) only[vu,va,vg,vs,vw,vk,simprocAttr]
 refine hL _ _ ?_
 clear hL
 refine ES_seq_gen fun L hL=>?_
 simp -implicitDefEqProofs (maxSteps:=99999999) (disch:=first | omega | (simp only[vl];first | done | omega)) only[vu,va,vg,vs,vw,vk,simprocAttr]
 refine hL _ _ ?_
 clear hL
 refine ES_seq_gen fun L hL=>?_
 simp -implicitDefEqProofs (maxSteps:=99999999) (disch:=first | omega | (simp only[vl];first | done | omega)) only[vu,va,vg,vs,vw,vk,simprocAttr]
 refine callR_ret (hget _) ?_
 simp -implicitDefEqProofs (maxSteps:=99999999) (disch:=first | omega | (simp only[vl];first | done | omega)) only[vu,va,vg,vs,vw,vk,simprocAttr]
 refine hL _ _ ?_
 clear hL
 refine ES_seq_gen fun L hL=>?_
 simp -implicitDefEqProofs (maxSteps:=99999999) (disch:=first | omega | (simp only[vl];first | done | omega)) only[vu,va,vg,vs,vw,vk,simprocAttr]
 refine callR_ret (hp1 _) ?_
 simp -implicitDefEqProofs (maxSteps:=99999999) (disch:=first | omega | (simp only[vl];first | done | omega)) only[vu,va,vg,vs,vw,vk,simprocAttr]
 refine hL _ _ ?_
 clear hL
 refine ES_seq_gen fun L hL=>?_
 simp -implicitDefEqProofs (maxSteps:=99999999) (disch:=first | omega | (simp only[vl];first | done | omega)) only[vu,va,vg,vs,vw,vk,simprocAttr]
 refine callR_ret (hp2 _) ?_
 simp -implicitDefEqProofs (maxSteps:=99999999) (disch:=first | omega | (simp only[vl];first | done | omega)) only[vu,va,vg,vs,vw,vk,simprocAttr]
 refine hL _ _ ?_
 clear hL
 refine ES_seq_gen fun L hL=>?_
 simp -implicitDefEqProofs (maxSteps:=99999999) (disch:=first | omega | (simp only[vl];first | done | omega)) only[vu,va,vg,vs,vw,vk,simprocAttr]
 refine callR_ret (hp3 _) ?_
 simp -implicitDefEqProofs (maxSteps:=99999999) (disch:=first | omega | (simp only[vl];first | done | omega)) only[vu,va,vg,vs,vw,vk,simprocAttr]
 refine hL _ _ ?_
 clear hL
 refine ES_seq_gen fun L hL=>?_
 simp -implicitDefEqProofs (maxSteps:=99999999) (disch:=first | omega | (simp only[vl];first | done | omega)) only[vu,va,vg,vs,vw,vk,simprocAttr]
 refine callR_ret (hnm _) ?_
 simp -implicitDefEqProofs (maxSteps:=99999999) (disch:=first | omega | (simp only[vl];first | done | omega)) only[vu,va,vg,vs,vw,vk,simprocAttr]
 refine hL _ _ ?_
 clear hL
 simp -implicitDefEqProofs (maxSteps:=99999999) (disch:=first | omega | (simp only[vl];first | done | omega)) only[vu,va,vg,vs,vw,vk,simprocAttr]
 refine callR_ret (hrt _) ?_
 simp -implicitDefEqProofs (maxSteps:=99999999) (disch:=first | omega | (simp only[vl];first | done | omega)) only[vu,va,vg,vs,vw,vk,simprocAttr]
 refine callR_ret (hsz _) ?_
 simp -implicitDefEqProofs (maxSteps:=99999999) (disch:=first | omega | (simp only[vl];first | done | omega)) only[vu,va,vg,vs,vw,vk,simprocAttr]
 refine callR_ret (hsm _) ?_
 simp -implicitDefEqProofs (maxSteps:=99999999) (disch:=first | omega | (simp only[vl];first | done | omega)) only[vu,va,vg,vs,vw,vk,simprocAttr]
 refine callR_ret (hst _) ?_
 simp -implicitDefEqProofs (maxSteps:=99999999) (disch:=first | omega | (simp only[vl];first | done | omega)) only[vu,va,vg,vs,vw,vk,simprocAttr]
 exact weak_sc (.cons (.cons (.cons (.cons (.cons (.cons .refl))))))
end Go.Proofs.YtfnahogjkgcklaaGreatDoor
