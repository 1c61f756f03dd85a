import Derived.Test.YtfnahogjkgcklaaGreatDoorS232
import Derived.Test.YtfnahogjkgcklaaGreatDoorIc45
namespace Go.Proofs.YtfnahogjkgcklaaGreatDoor
open Go.RowKit
set_option maxRecDepth 100000
set_option linter.unusedVariables false
set_option linter.unusedSimpArgs false
def kds (l : List Int) : List AV:=l.map fun n=>.sc (.int .u8 n)
theorem kds_length (l : List Int) : (kds l).length=l.length:=by simp[kds]
def nthK (xs : List Int) (k : Nat) : Int:=xs.getD k 0
theorem kds_get {l : List Int} {k : Nat} (h : k < l.length) : (kds l).getD k .top = .sc (.int .u8 (nthK l k)):=by
 simp[kds,nthK,List.getD,h]
def memK (l : List Int) (s : Int) : Bool:=l.any fun x=>decide (x=s)
def idxK (l : List Int) (s : Int) : Int:=if memK l s=true then (l.findIdx (fun x=>decide (x=s)) : Nat) else -1
theorem nthK_get {l : List Int} {k : Nat} (h : k < l.length) : nthK l k=l[k]:=by simp[nthK,List.getD,h]
theorem memK_at {l : List Int} {s : Int} {k : Nat} (h : k < l.length) (h1 : nthK l k=s) : memK l s=true:=by
 rw[nthK_get h] at h1
 exact List.any_eq_true.2 ⟨l[k],List.getElem_mem h,by simp[h1]⟩
theorem memK_none {l : List Int} {s : Int} (h2 : ∀ j,j < l.length→¬ nthK l j=s) : memK l s=false:=by
 cases h : memK l s
 ·rfl
 ·obtain ⟨x,hx,e⟩:=List.any_eq_true.1 h
  obtain ⟨j,hj,rfl⟩:=List.getElem_of_mem hx
  exact absurd (by rw[nthK_get hj];simpa using e) (h2 j hj)
theorem idxK_at {l : List Int} {s : Int} {k : Nat} (h : k < l.length) (h1 : nthK l k=s) (h2 : ∀ j,j < k→¬ nthK l j=s) : idxK l s=k:=by
 unfold idxK
 rw[if_pos (memK_at h h1),(List.findIdx_eq h).2 ⟨by rw[nthK_get h] at h1;simp[h1],fun j hj=>?_⟩]
 have:=h2 j hj
 rw[nthK_get (by omega)] at this
 simp[this]
theorem idxK_none {l : List Int} {s : Int} (h2 : ∀ j,j < l.length→¬ nthK l j=s) : idxK l s=-1:=by
 unfold idxK
 rw[memK_none h2]
 rfl
theorem idxK_ge (l : List Int) (s : Int) : decide (idxK l s ≥ 0)=memK l s:=by
 unfold idxK
 cases memK l s <;> simp
set_option maxHeartbeats 4000000 in
theorem indexK_d (l : List Int) (ro : Option (List AV)) (s : Int) (hl : l.length ≤ 1000000) (H : AHeap) : D Tryz.prog 106 [.lst 1 (kds l) ro,.sc (.int .u8 s)] H (.ret (.sc (.int .i64 (idxK l s)))) H:=by
 refine D_of_DK (Nat.le_refl _) (dk106 (E_of_ES ?_))
 simp only[ic106,ux]
 refine ES_seq_gen fun L hL=>?_
 simp -implicitDefEqProofs (maxSteps:=99999999) (disch:=first | omega | (simp only[vl];first | done | omega)) only[kds_length,va,vg,vs,vw,vk,simprocAttr]
 refine hL _ _ ?_
 clear hL
 refine ES_seq_gen fun L hL=>?_
 simp -implicitDefEqProofs (maxSteps:=99999999) (disch:=first | omega | (simp only[vl];first | done | omega)) only[kds_length,va,vg,vs,vw,vk,simprocAttr]
 refine ES_loopL (fun ts F=>∃ k : Nat,(k ≤ l.length ∧ ∀ j,j < k→¬ nthK l j=s) ∧ F=H ∧ Fr [some (.lst 1 (kds l) ro),some (.sc (.int .u8 s)),none,none,none,none,none,some (.sc (.int .i64 l.length)),some (.sc (.int .i64 k)),none,none,none,none,none,none,none,none,none,none] ts) (fun ts _=>l.length - (intV (ts.getD 8 .top)).toNat) ?_ ?_
 ·exact ⟨0,⟨Nat.zero_le _,fun j h=>absurd h (Nat.not_lt_zero _)⟩,rfl,by simp[Fr]⟩
 rintro ts F ⟨k,⟨hk,hp⟩,rfl,hfr⟩ L2 hL2
 obtain ⟨js,rfl⟩:=hfr.opened
 clear hfr
 by_cases hd : k < l.length
 ·have c1 : (k : Int) < l.length:=by omega
  have hg:=kds_get hd
  by_cases e : s=nthK l k
  ·have hi:=idxK_at hd e.symm hp
   simp -implicitDefEqProofs (maxSteps:=99999999) (disch:=first | omega | (simp only[vl];first | done | omega)) only[mk,c1,hg,kds_length,← e,va,vg,vs,vw,vk,simprocAttr]
   rw[hi]
   exact ⟨by omega,weak_sc .refl⟩
  ·simp -implicitDefEqProofs (maxSteps:=99999999) (disch:=first | omega | (simp only[vl];first | done | omega)) only[mk,c1,hg,kds_length,e,va,vg,vs,vw,vk,simprocAttr]
   refine ⟨by omega,hL2 _ _ ⟨k+1,⟨by omega,fun j hj=>?_⟩,rfl,by simp[Fr]⟩ (by simp[intV,mk];omega)⟩
   rcases Nat.lt_succ_iff_lt_or_eq.1 hj with h' | rfl
   ·exact hp j h'
   ·exact fun h=>e h.symm
 ·have c1 : ¬ (k : Int) < l.length:=by omega
  have hi:=idxK_none fun j hj=>hp j (by omega)
  simp -implicitDefEqProofs (maxSteps:=99999999) (disch:=first | omega | (simp only[vl];first | done | omega)) only[mk,c1,va,vg,vs,vw,vk,simprocAttr]
  refine hL _ _ ?_
  clear hL
  simp -implicitDefEqProofs (maxSteps:=99999999) (disch:=first | omega | (simp only[vl];first | done | omega)) only[va,vg,vs,vw,vk,simprocAttr]
  rw[hi]
  exact weak_sc .refl
theorem containsK_d (l : List Int) (ro : Option (List AV)) (s : Int) (hl : l.length ≤ 1000000) (H : AHeap) : D Tryz.prog 66 [.lst 1 (kds l) ro,.sc (.int .u8 s)] H (.ret (.sc (.bool (memK l s)))) H:=by
 refine D_of_DK (Nat.le_refl _) (dk66 (E_of_ES ?_))
 have he:=idxK_ge l s
 simp -implicitDefEqProofs (maxSteps:=99999999) (disch:=first | omega | (simp only[vl];first | done | omega)) only[vu,ic66,va,vg,vs,vw,vk,simprocAttr]
 refine callR_ret (indexK_d l ro s hl _) ?_
 simp -implicitDefEqProofs (maxSteps:=99999999) (disch:=first | omega | (simp only[vl];first | done | omega)) only[vu,va,vg,vs,vw,vk,simprocAttr]
 exact over_bN .refl he
def memS (l : List ByteArray) (s : ByteArray) : Bool:=l.any fun x=>decide (x=s)
def idxS (l : List ByteArray) (s : ByteArray) : Int:=if memS l s=true then (l.findIdx (fun x=>decide (x=s)) : Nat) else -1
theorem nthS_get {l : List ByteArray} {k : Nat} (h : k < l.length) : nthS l k=l[k]:=by simp[nthS,List.getD,h]
theorem memS_at {l : List ByteArray} {s : ByteArray} {k : Nat} (h : k < l.length) (h1 : nthS l k=s) : memS l s=true:=by
 rw[nthS_get h] at h1
 exact List.any_eq_true.2 ⟨l[k],List.getElem_mem h,by simp[h1]⟩
theorem memS_none {l : List ByteArray} {s : ByteArray} (h2 : ∀ j,j < l.length→¬ nthS l j=s) : memS l s=false:=by
 cases h : memS l s
 ·rfl
 ·obtain ⟨x,hx,e⟩:=List.any_eq_true.1 h
  obtain ⟨j,hj,rfl⟩:=List.getElem_of_mem hx
  exact absurd (by rw[nthS_get hj];simpa using e) (h2 j hj)
theorem idxS_at {l : List ByteArray} {s : ByteArray} {k : Nat} (h : k < l.length) (h1 : nthS l k=s) (h2 : ∀ j,j < k→¬ nthS l j=s) : idxS l s=k:=by
 unfold idxS
 rw[if_pos (memS_at h h1),(List.findIdx_eq h).2 ⟨by rw[nthS_get h] at h1;simp[h1],fun j hj=>?_⟩]
 have:=h2 j hj
 rw[nthS_get (by omega)] at this
 simp[this]
theorem idxS_none {l : List ByteArray} {s : ByteArray} (h2 : ∀ j,j < l.length→¬ nthS l j=s) : idxS l s=-1:=by
 unfold idxS
 rw[memS_none h2]
 rfl
theorem idxS_ge (l : List ByteArray) (s : ByteArray) : decide (idxS l s ≥ 0)=memS l s:=by
 unfold idxS
 cases memS l s <;> simp
set_option maxHeartbeats 4000000 in
theorem indexS_d (l : List ByteArray) (ro : Option (List AV)) (s : ByteArray) (hl : l.length ≤ 1000000) (H : AHeap) : D Tryz.prog 118 [.lst 1 (strs l) ro,.sc (.string s)] H (.ret (.sc (.int .i64 (idxS l s)))) H:=by
 refine D_of_DK (Nat.le_refl _) (dk118 (E_of_ES ?_))
 simp only[ic118,ux]
 refine ES_seq_gen fun L hL=>?_
 simp -implicitDefEqProofs (maxSteps:=99999999) (disch:=first | omega | (simp only[vl];first | done | omega)) only[strs_length,va,vg,vs,vw,vk,simprocAttr]
 refine hL _ _ ?_
 clear hL
 refine ES_seq_gen fun L hL=>?_
 simp -implicitDefEqProofs (maxSteps:=99999999) (disch:=first | omega | (simp only[vl];first | done | omega)) only[strs_length,va,vg,vs,vw,vk,simprocAttr]
 refine ES_loopL (fun ts F=>∃ k : Nat,(k ≤ l.length ∧ ∀ j,j < k→¬ nthS l j=s) ∧ F=H ∧ Fr [some (.lst 1 (strs l) ro),some (.sc (.string s)),none,none,none,none,none,some (.sc (.int .i64 l.length)),some (.sc (.int .i64 k)),none,none,none,none,none,none,none,none,none,none] ts) (fun ts _=>l.length - (intV (ts.getD 8 .top)).toNat) ?_ ?_
 ·exact ⟨0,⟨Nat.zero_le _,fun j h=>absurd h (Nat.not_lt_zero _)⟩,rfl,by simp[Fr]⟩
 rintro ts F ⟨k,⟨hk,hp⟩,rfl,hfr⟩ L2 hL2
 obtain ⟨js,rfl⟩:=hfr.opened
 clear hfr
 by_cases hd : k < l.length
 ·have c1 : (k : Int) < l.length:=by omega
  have hg:=strs_get hd
  by_cases e : s=nthS l k
  ·have hi:=idxS_at hd e.symm hp
   simp -implicitDefEqProofs (maxSteps:=99999999) (disch:=first | omega | (simp only[vl];first | done | omega)) only[mk,c1,hg,strs_length,← e,va,vg,vs,vw,vk,simprocAttr]
   rw[hi]
   exact ⟨by omega,weak_sc .refl⟩
  ·simp -implicitDefEqProofs (maxSteps:=99999999) (disch:=first | omega | (simp only[vl];first | done | omega)) only[mk,c1,hg,strs_length,e,va,vg,vs,vw,vk,simprocAttr]
   refine ⟨by omega,hL2 _ _ ⟨k+1,⟨by omega,fun j hj=>?_⟩,rfl,by simp[Fr]⟩ (by simp[intV,mk];omega)⟩
   rcases Nat.lt_succ_iff_lt_or_eq.1 hj with h' | rfl
   ·exact hp j h'
   ·exact fun h=>e h.symm
 ·have c1 : ¬ (k : Int) < l.length:=by omega
  have hi:=idxS_none fun j hj=>hp j (by omega)
  simp -implicitDefEqProofs (maxSteps:=99999999) (disch:=first | omega | (simp only[vl];first | done | omega)) only[mk,c1,va,vg,vs,vw,vk,simprocAttr]
  refine hL _ _ ?_
  clear hL
  simp -implicitDefEqProofs (maxSteps:=99999999) (disch:=first | omega | (simp only[vl];first | done | omega)) only[va,vg,vs,vw,vk,simprocAttr]
  rw[hi]
  exact weak_sc .refl
theorem containsS_d (l : List ByteArray) (ro : Option (List AV)) (s : ByteArray) (hl : l.length ≤ 1000000) (H : AHeap) : D Tryz.prog 73 [.lst 1 (strs l) ro,.sc (.string s)] H (.ret (.sc (.bool (memS l s)))) H:=by
 refine D_of_DK (Nat.le_refl _) (dk73 (E_of_ES ?_))
 have he:=idxS_ge l s
 simp -implicitDefEqProofs (maxSteps:=99999999) (disch:=first | omega | (simp only[vl];first | done | omega)) only[vu,ic73,va,vg,vs,vw,vk,simprocAttr]
 refine callR_ret (indexS_d l ro s hl _) ?_
 simp -implicitDefEqProofs (maxSteps:=99999999) (disch:=first | omega | (simp only[vl];first | done | omega)) only[vu,va,vg,vs,vw,vk,simprocAttr]
 exact over_bN .refl he
end Go.Proofs.YtfnahogjkgcklaaGreatDoor
