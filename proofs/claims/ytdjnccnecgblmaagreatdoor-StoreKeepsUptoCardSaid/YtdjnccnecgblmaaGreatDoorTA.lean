import Derived.Test.YtdjnccnecgblmaaGreatDoorLZ
import Derived.Test.YtdjnccnecgblmaaGreatDoorTS
namespace Go.Proofs.YtdjnccnecgblmaaGreatDoor
open Go.RowKit Go.Shelf
set_option maxRecDepth 100000
set_option linter.unusedVariables false
theorem tabS_of {φ : Phi} {H : AHeap} {w : World} (h : GOk φ H w) : Lib.TabIs Tryz.prog w "strings.asciiSpace" .u8 Lib.asciiSpaceTab := by
 obtain ⟨⟨e,fr,h1⟩,_⟩:=h _ (List.mem_cons_self ..)
 unfold Lib.TabIs World.var?
 have hg : Tryz.prog.globalNamed "strings.asciiSpace" = some 0 := by kernel_rfl
 rw[hg]
 simp only[Option.bind_some,h1]
 congr 2
theorem Rl_strs {φ : Phi} {O : Nat→Prop} {w : World} {b : Nat} : ∀ (l : List ByteArray) (off : Nat),(∀ j (h : j < l.length),memAt w b (off+j) 0=some (.string l[j]))→Rl φ O w b 1 (strs l) off
 | [],_,_=>trivial
 | x :: r,off,h=>by
  have h0:=h 0 (by simp)
  simp only[Nat.add_zero,List.getElem_cons_zero] at h0
  refine ⟨rfl,fun _=>⟨_,h0,rfl⟩,h0,Rl_strs r (off+1) fun j hj=>?_⟩
  have:=h (j+1) (by simp;omega)
  rw[show off+1+j=off+(j+1) by omega]
  simpa using this
theorem fields_d (s : ByteArray) (l : List ByteArray) (hl : (Lib.fields s.data.toList).map (fun x=>(⟨x.toArray⟩ : ByteArray))=l) (hs : s.size < 4294967281) (hascii : ∀ (j : Nat) b,s.data.toList[j]? = some b→b.toNat < 128) (hn : l.length ≤ 1000000) (H : AHeap) : D Tryz.prog 196 [.sc (.string s)] H (.ret (.lst 1 (strs l) none)) H:=by
 refine ⟨Nat.le_refl _,fun φ w vs hR ha=>?_⟩
 obtain ⟨a,r,e1,a1,a2,e3⟩:=ha
 have ea : a = .string s:=VR_sc ⟨a1,a2⟩
 have e3' : r=[]:=e3
 have hvs : vs=#[.string s]:=by
  cases vs
  simp only at e1
  rw[e1,ea,e3']
 rw[hvs]
 refine (Any.strings_Fields lays157 (by kernel_rfl) (by kernel_rfl) s w hs hascii (tabS_of hR.glob)).mono fun en w' ⟨he,hw⟩=>?_
 have hll : (Lib.fields s.data.toList).length=l.length:=by rw[← hl];simp
 have hcells : ((Lib.fields s.data.toList).map fun l=>Value.string ⟨l.toArray⟩)=l.map Value.string:=by rw[← hl];simp[Function.comp_def]
 rw[hcells] at hw
 rw[hll] at he
 have hold : ∀ b,b < w.heap.size→w'.heap[b]? = w.heap[b]?:=fun b hb=>by rw[hw];exact heap_alloc_old w _ hb
 have hsz : w'.heap.size=w.heap.size+1:=by rw[hw];exact World.size_alloc w _
 have hno : ¬ Own φ H w.heap.size:=by
  rintro ⟨id,k,g1,_⟩
  have:=(hR.dom id _ g1).2
  omega
 refine ⟨φ,?_,hR.grow (by omega) hold,grow_step (by rw[hw];rfl) (by rw[hw];rfl) (by rw[hw];rfl) (by omega) hold⟩
 rw[he]
 refine ⟨rfl,_,l.length,?_,?_,?_,fun h=>by simp at h,fun _=>⟨w.heap.size,0,rfl,hno,by omega,Rl_strs l 0 fun j hj=>?_⟩,trivial⟩
 ·simp[cget,Value.cells,strs]
 ·simp[strs]
 ·unfold maxLen;omega
 ·unfold memAt
  rw[hw,World.cell?_alloc_at _ _ _ _ rfl]
  rw[show 0+j+0=j by omega,List.getElem?_toArray,List.getElem?_map,List.getElem?_eq_getElem hj]
  rfl
end Go.Proofs.YtdjnccnecgblmaaGreatDoor
namespace Go.Proofs.YtdjnccnecgblmaaGreatDoor
open Go.RowKit
set_option maxRecDepth 100000
set_option linter.unusedVariables false
set_option linter.unusedSimpArgs false
def byteI (s : ByteArray) (k : Nat) : Int:=((s.data.getD k 0).toNat : Int)
theorem byteI_lo (s : ByteArray) (k : Nat) : 0 ≤ byteI s k:=by unfold byteI;omega
theorem byteI_hi (s : ByteArray) (k : Nat) : byteI s k < 256:=by
 unfold byteI
 have:=(s.data.getD k 0).toNat_lt
 omega
def wordB (k : Int) : Bool:=letQ k || digQ k
theorem wordP (s : ByteArray) (k : Nat) : (letP (byteI s k) || digQ (byteI s k))=wordB (byteI s k):=by
 rw[let_same (byteI_lo s k) (byteI_hi s k)];rfl
def allW (s : ByteArray) : Bool:=(List.range s.size).all fun k=>wordB (byteI s k)
theorem allW_t {s : ByteArray} {k : Nat} (hk : ¬ k < s.size) (h : ∀ j,j < k→wordB (byteI s j)=true) : allW s=true :=
 List.all_eq_true.2 fun j hj=>h j (by have:=List.mem_range.1 hj;omega)
theorem allW_f {s : ByteArray} {k : Nat} (hk : k < s.size) (h : wordB (byteI s k)=false) : allW s=false:=by
 cases e : allW s
 ·rfl
 ·have:=List.all_eq_true.1 e k (List.mem_range.2 hk)
  rw[h] at this
  cases this
def nameQ (s : ByteArray) : Bool:=!decide (s.size=0) && decide (s.size ≤ 24) && letQ (byteI s 0) && !memS wordsL s && allW s
theorem size0 {s : ByteArray} (h : ¬ s=⟨#[]⟩) : s.size ≠ 0:=fun e=>h (by
 cases s with
 | mk d=>exact congrArg _ (Array.eq_empty_of_size_eq_zero e))
theorem lexWords_d (H : AHeap) : D Tryz.prog 157 [] H (.ret (.lst 1 (strs wordsL) none)) H:=by
 have hf:=fields_d ⟨#[102,117,110,99,32,118,97,114,32,105,102,32,101,108,115,101,32,119,104,105,108,101,32,114,101,116,117,114,110,32,112,114,105,110,116,32,116,114,117,101,32,102,97,108,115,101,32,108,101,110,32,114,101,97,100]⟩ wordsL (by decide +kernel) (by decide +kernel) (fun j b h=>by
  have h2 : ∀ b ∈ ([102,117,110,99,32,118,97,114,32,105,102,32,101,108,115,101,32,119,104,105,108,101,32,114,101,116,117,114,110,32,112,114,105,110,116,32,116,114,117,101,32,102,97,108,115,101,32,108,101,110,32,114,101,97,100] : List UInt8),b.toNat < 128:=by decide +kernel
  exact h2 b (List.mem_of_getElem? h)) (by decide)
 refine D_of_DK (Nat.le_refl _) (dk157 (E_of_ES ?_))
 simp only[ic157,ux]
 simp -implicitDefEqProofs (maxSteps:=99999999) (disch:=first | omega | (simp only[vl];first | done | omega)) only[vu,va,vg,vs,vw,vk,simprocAttr]
 refine callR_ret (hf _) ?_
 simp -implicitDefEqProofs (maxSteps:=99999999) (disch:=first | omega | (simp only[vl];first | done | omega)) only[vu,va,vg,vs,vw,vk,simprocAttr]
 exact weak_over .refl (.same ⟨⟨trivial,trivial,trivial,trivial,trivial,trivial,trivial,trivial,trivial,trivial,trivial,trivial⟩,trivial⟩)
end Go.Proofs.YtdjnccnecgblmaaGreatDoor
namespace Go.Proofs.YtdjnccnecgblmaaGreatDoor
open Go.RowKit
set_option maxRecDepth 100000
set_option linter.unusedVariables false
set_option linter.unusedSimpArgs false
set_option maxHeartbeats 4000000 in
theorem name_d (s : ByteArray) (H : AHeap) : D Tryz.prog 95 [.sc (.string s)] H (.ret (.sc (.bool (nameQ s)))) H:=by
 refine D_of_DK (Nat.le_refl _) (dk95 (E_of_ES ?_))
 simp only[ic95,ux]
 have hb : ((s.data.getD (0 : Int).toNat 0).toNat : Int)=byteI s 0:=rfl
 have hb2 : ∀ k : Nat,((s.data.getD (k : Int).toNat 0).toNat : Int)=byteI s k:=fun k=>rfl
 have hb3 : ∀ k : Nat,((s.data.getD k 0).toNat : Int)=byteI s k:=fun k=>rfl
 refine ES_seq_gen fun L hL=>?_
 simp -implicitDefEqProofs (maxSteps:=99999999) (disch:=first | omega | (simp only[vl];first | done | omega)) only[vu,va,vg,vs,vw,vk,simprocAttr]
 refine hL _ _ ?_
 clear hL
 refine ES_seq_gen fun L hL=>?_
 by_cases c0 : s=⟨#[]⟩
 ·subst c0
  simp -implicitDefEqProofs (maxSteps:=99999999) (disch:=first | omega | (simp only[vl];first | done | omega)) only[vu,va,vg,vs,vw,vk,simprocAttr]
  exact over_bN .refl rfl
 have z0:=size0 c0
 by_cases c1 : (s.size : Int) > 24
 ·simp -implicitDefEqProofs (maxSteps:=99999999) (disch:=first | omega | (simp only[vl];first | done | omega)) only[vu,c0,c1,va,vg,vs,vw,vk,simprocAttr]
  exact over_bN .refl (by unfold nameQ;simp;omega)
 have hl0:=let_same (byteI_lo s 0) (byteI_hi s 0)
 cases c2 : letQ (byteI s 0)
 ·simp -implicitDefEqProofs (maxSteps:=99999999) (disch:=first | omega | (simp only[vl];first | done | omega)) only[vu,c0,c1,hb,hb2,hb3,va,vg,vs,vw,vk,simprocAttr]
  refine ⟨by omega,callR_ret (letter_d _ _) ?_⟩
  simp -implicitDefEqProofs (maxSteps:=99999999) (disch:=first | omega | (simp only[vl];first | done | omega)) only[vu,hl0,c2,va,vg,vs,vw,vk,simprocAttr]
  exact over_bN .refl (by simp[nameQ,c2])
 simp -implicitDefEqProofs (maxSteps:=99999999) (disch:=first | omega | (simp only[vl];first | done | omega)) only[vu,c0,c1,hb,hb2,hb3,va,vg,vs,vw,vk,simprocAttr]
 refine ⟨by omega,callR_ret (letter_d _ _) ?_⟩
 simp -implicitDefEqProofs (maxSteps:=99999999) (disch:=first | omega | (simp only[vl];first | done | omega)) only[vu,hl0,c2,va,vg,vs,vw,vk,simprocAttr]
 refine callR_ret (lexWords_d _) ?_
 simp -implicitDefEqProofs (maxSteps:=99999999) (disch:=first | omega | (simp only[vl];first | done | omega)) only[vu,c2,va,vg,vs,vw,vk,simprocAttr]
 refine callR_ret (containsS_d wordsL _ s (by decide) _) ?_
 cases c3 : memS wordsL s
 rotate_left
 ·simp -implicitDefEqProofs (maxSteps:=99999999) (disch:=first | omega | (simp only[vl];first | done | omega)) only[vu,va,vg,vs,vw,vk,simprocAttr]
  exact over_bN .refl (by simp[nameQ,c3])
 simp -implicitDefEqProofs (maxSteps:=99999999) (disch:=first | omega | (simp only[vl];first | done | omega)) only[vu,va,vg,vs,vw,vk,simprocAttr]
 refine hL _ _ ?_
 clear hL
 refine ES_seq_gen fun L hL=>?_
 simp -implicitDefEqProofs (maxSteps:=99999999) (disch:=first | omega | (simp only[vl];first | done | omega)) only[vu,va,vg,vs,vw,vk,simprocAttr]
 have hs : s.size ≤ 24:=by omega
 have hN : nameQ s=allW s:=by simp[nameQ,c2,c3,z0,hs]
 refine ES_loopL (fun ts F=>∃ k : Nat,(k ≤ s.size ∧ ∀ j,j < k→wordB (byteI s j)=true) ∧ F=H ∧ Fr [some (.sc (.string s)),none,some (.sc (.bool false)),none,none,none,none,none,none,none,none,none,none,none,none,none,none,none,none,none,none,none,none,some (.sc (.int .i64 s.size)),some (.sc (.int .i64 k)),none,none,none,none,none,none,none,none] ts) (fun ts _=>s.size - (intV (ts.getD 24 .top)).toNat) ?_ ?_
 ·exact ⟨0,⟨Nat.zero_le _,fun j h=>absurd h (Nat.not_lt_zero _)⟩,rfl,by simp[Fr]⟩
 rintro ts F ⟨k,⟨hk,hp⟩,rfl,hfr⟩ L2 hL2
 obtain ⟨js,rfl⟩:=hfr.opened
 clear hfr
 by_cases hd : k < s.size
 ·have d1 : (k : Int) < s.size:=by omega
  have hw:=wordP s k
  simp -implicitDefEqProofs (maxSteps:=99999999) (disch:=first | omega | (simp only[vl];first | done | omega)) only[mk,d1,hb,hb2,hb3,va,vg,vs,vw,vk,simprocAttr]
  refine ⟨by omega,callR_ret (wordy_d _ _) ?_⟩
  rw[hw]
  cases e1 : wordB (byteI s k)
  ·simp -implicitDefEqProofs (maxSteps:=99999999) (disch:=first | omega | (simp only[vl];first | done | omega)) only[vu,va,vg,vs,vw,vk,simprocAttr]
   exact over_bN .refl (by rw[hN,allW_f hd e1])
  ·simp -implicitDefEqProofs (maxSteps:=99999999) (disch:=first | omega | (simp only[vl];first | done | omega)) only[vu,va,vg,vs,vw,vk,simprocAttr]
   refine hL2 _ _ ⟨k+1,⟨by omega,fun j hj=>?_⟩,rfl,by simp[Fr]⟩ (by simp[intV,mk];omega)
   rcases Nat.lt_succ_iff_lt_or_eq.1 hj with h' | rfl
   ·exact hp j h'
   ·exact e1
 ·have d1 : ¬ (k : Int) < s.size:=by omega
  simp -implicitDefEqProofs (maxSteps:=99999999) (disch:=first | omega | (simp only[vl];first | done | omega)) only[mk,d1,va,vg,vs,vw,vk,simprocAttr]
  refine hL _ _ ?_
  clear hL
  simp -implicitDefEqProofs (maxSteps:=99999999) (disch:=first | omega | (simp only[vl];first | done | omega)) only[va,vg,vs,vw,vk,simprocAttr]
  exact over_bN .refl (by rw[hN,allW_t hd hp])
end Go.Proofs.YtdjnccnecgblmaaGreatDoor
namespace Go.Proofs.YtdjnccnecgblmaaGreatDoor
open Go.RowKit
set_option maxRecDepth 100000
set_option linter.unusedVariables false
set_option linter.unusedSimpArgs false
def amongQ (l : List ByteArray) (s : ByteArray) : Bool:=!decide (s=⟨#[]⟩) && memS l s
def unsL : List ByteArray:=[⟨#[45]⟩,⟨#[33]⟩]
def binsL : List ByteArray:=[⟨#[124,124]⟩,⟨#[38,38]⟩,⟨#[61,61]⟩,⟨#[33,61]⟩,⟨#[60]⟩,⟨#[60,61]⟩,⟨#[62]⟩,⟨#[62,61]⟩,⟨#[43]⟩,⟨#[45]⟩,⟨#[42]⟩,⟨#[47]⟩,⟨#[37]⟩]
def saysP (t : Nd) : Bool :=
 if t.kind=20 then decide (t.text=⟨#[]⟩) && decide (t.num ≥ 0)
 else if t.kind=21 then decide (t.text=⟨#[]⟩) && (decide (t.num=0) || decide (t.num=1))
 else if ¬ t.num=0 then false
 else if namedP t.kind then nameQ t.text
 else if t.kind=23 then amongQ unsL t.text
 else if t.kind=24 then amongQ binsL t.text
 else decide (t.text=⟨#[]⟩)
theorem among_d (s : ByteArray) (l : List ByteArray) (hl : l.length ≤ 1000000) (hf : ∀ H,D Tryz.prog 196 [.sc (.string s)] H (.ret (.lst 1 (strs l) none)) H) (t : Nd) (ro : Option (List AV)) (H : AHeap) : D Tryz.prog 214 [.sc (.string s),.ptr 4 H.length 0 0] (some ⟨4,[ndR t ro],true,143⟩ :: H) (.ret (.sc (.bool (amongQ l t.text)))) (some ⟨4,[ndR t ro],true,143⟩ :: H):=by
 refine D_of_DK (Nat.le_refl _) (dk214 (E_of_ES ?_))
 simp only[ic214,ux]
 rw[ndR_eq]
 obtain ⟨k,tx,n,kids⟩:=t
 simp only[Nd.kind,Nd.text,Nd.num,Nd.kids]
 refine ES_seq_gen fun L hL=>?_
 simp -implicitDefEqProofs (maxSteps:=99999999) (disch:=first | omega | (simp only[vl];first | done | omega)) only[vu,va,vg,vs,vw,vk,simprocAttr]
 refine hL _ _ ?_
 clear hL
 refine ES_seq_gen fun L hL=>?_
 by_cases c0 : tx=⟨#[]⟩
 ·subst c0
  simp -implicitDefEqProofs (maxSteps:=99999999) (disch:=first | omega | (simp only[vl];first | done | omega)) only[vu,va,vg,vs,vw,vk,simprocAttr]
  refine hL _ _ ?_
  clear hL
  simp -implicitDefEqProofs (maxSteps:=99999999) (disch:=first | omega | (simp only[vl];first | done | omega)) only[vu,va,vg,vs,vw,vk,simprocAttr]
  exact over_bN .refl (by simp[amongQ])
 ·simp -implicitDefEqProofs (maxSteps:=99999999) (disch:=first | omega | (simp only[vl];first | done | omega)) only[vu,c0,va,vg,vs,vw,vk,simprocAttr]
  refine callD_same (hf _) ?_
  simp -implicitDefEqProofs (maxSteps:=99999999) (disch:=first | omega | (simp only[vl];first | done | omega)) only[vu,va,vg,vs,vw,vk,simprocAttr]
  refine callD_same (containsS_d l none tx hl _) ?_
  simp -implicitDefEqProofs (maxSteps:=99999999) (disch:=first | omega | (simp only[vl];first | done | omega)) only[vu,va,vg,vs,vw,vk,simprocAttr]
  refine hL _ _ ?_
  clear hL
  simp -implicitDefEqProofs (maxSteps:=99999999) (disch:=first | omega | (simp only[vl];first | done | omega)) only[vu,va,vg,vs,vw,vk,simprocAttr]
  exact over_bN .refl (by simp[amongQ,c0])
theorem fieldsU (H : AHeap) : D Tryz.prog 196 [.sc (.string ⟨#[45,32,33]⟩)] H (.ret (.lst 1 (strs unsL) none)) H :=
 fields_d _ unsL (by decide +kernel) (by decide +kernel) (fun j b h=>by
  have h2 : ∀ b ∈ ([45,32,33] : List UInt8),b.toNat < 128:=by decide +kernel
  exact h2 b (List.mem_of_getElem? h)) (by decide) H
theorem fieldsB (H : AHeap) : D Tryz.prog 196 [.sc (.string ⟨#[124,124,32,38,38,32,61,61,32,33,61,32,60,32,60,61,32,62,32,62,61,32,43,32,45,32,42,32,47,32,37]⟩)] H (.ret (.lst 1 (strs binsL) none)) H :=
 fields_d _ binsL (by decide +kernel) (by decide +kernel) (fun j b h=>by
  have h2 : ∀ b ∈ ([124,124,32,38,38,32,61,61,32,33,61,32,60,32,60,61,32,62,32,62,61,32,43,32,45,32,42,32,47,32,37] : List UInt8),b.toNat < 128:=by decide +kernel
  exact h2 b (List.mem_of_getElem? h)) (by decide) H
theorem shr1 (n : Int) : decide (n.fdiv (2 ^ min 1 IntKind.i64.bits)=0)=(decide (n=0) || decide (n=1)):=by
 rw[show min 1 IntKind.i64.bits=1 from rfl,show (2 ^ 1 : Int)=2 from rfl,Int.fdiv_eq_ediv_of_nonneg _ (by omega),Bool.eq_iff_iff]
 simp
 omega
theorem says_d (t : Nd) (ro : Option (List AV)) (H : AHeap) : D Tryz.prog 199 [ndR t ro] H (.ret (.sc (.bool (saysP t)))) H:=by
 have hA:=fun H=>among_d _ unsL (by decide) fieldsU t ro H
 have hB:=fun H=>among_d _ binsL (by decide) fieldsB t ro H
 have cl : callable Tryz.prog 214=true:=by kernel_rfl
 refine D_of_DK (Nat.le_refl _) (dk199 (E_of_ES ?_))
 simp only[ic199,ux]
 rw[ndR_eq] at *
 have hP : saysP t=saysP ⟨t.kind,t.text,t.num,t.kids⟩:=by rw[← t.eta]
 rw[hP]
 clear hP
 obtain ⟨k,tx,n,kids⟩:=t
 simp only[Nd.kind,Nd.text,Nd.num,Nd.kids] at hA hB ⊢
 refine ES_seq_gen fun L hL=>?_
 simp -implicitDefEqProofs (maxSteps:=99999999) (disch:=first | omega | (simp only[vl];first | done | omega)) only[vu,va,vg,vs,vw,vk,simprocAttr]
 refine hL _ _ ?_
 clear hL
 refine ES_seq_gen fun L hL=>?_
 simp -implicitDefEqProofs (maxSteps:=99999999) (disch:=first | omega | (simp only[vl];first | done | omega)) only[vu,cl,va,vg,vs,vw,vk,simprocAttr]
 refine hL _ _ ?_
 clear hL
 refine ES_seq_gen fun L hL=>?_
 by_cases k20 : k=20
 ·subst k20
  by_cases c0 : tx=⟨#[]⟩
  ·subst c0
   simp -implicitDefEqProofs (maxSteps:=99999999) (disch:=first | omega | (simp only[vl];first | done | omega)) only[vu,va,vg,vs,vw,vk,simprocAttr]
   exact over_bN (.cons .refl) (by simp[saysP,Nd.kind,Nd.text,Nd.num])
  ·simp -implicitDefEqProofs (maxSteps:=99999999) (disch:=first | omega | (simp only[vl];first | done | omega)) only[vu,c0,va,vg,vs,vw,vk,simprocAttr]
   exact over_bN (.cons .refl) (by simp[saysP,Nd.kind,Nd.text,Nd.num,c0])
 by_cases k21 : k=21
 ·subst k21
  by_cases c0 : tx=⟨#[]⟩
  ·subst c0
   simp -implicitDefEqProofs (maxSteps:=99999999) (disch:=first | omega | (simp only[vl];first | done | omega)) only[vu,va,vg,vs,vw,vk,simprocAttr]
   exact over_bN (.cons .refl) (by simp[saysP,Nd.kind,Nd.text,Nd.num];exact shr1 n)
  ·simp -implicitDefEqProofs (maxSteps:=99999999) (disch:=first | omega | (simp only[vl];first | done | omega)) only[vu,c0,va,vg,vs,vw,vk,simprocAttr]
   exact over_bN (.cons .refl) (by simp[saysP,Nd.kind,Nd.text,Nd.num,c0])
 by_cases n0 : n=0
 rotate_left
 ·simp -implicitDefEqProofs (maxSteps:=99999999) (disch:=first | omega | (simp only[vl];first | done | omega)) only[vu,k20,k21,n0,va,vg,vs,vw,vk,simprocAttr]
  exact over_bN (.cons .refl) (by simp[saysP,Nd.kind,Nd.text,Nd.num,k20,k21,n0])
 subst n0
 cases hn : namedP k
 rotate_left
 ·simp -implicitDefEqProofs (maxSteps:=99999999) (disch:=first | omega | (simp only[vl];first | done | omega)) only[vu,k20,k21,va,vg,vs,vw,vk,simprocAttr]
  refine callR_ret (named_d _ _) ?_
  rw[hn]
  simp -implicitDefEqProofs (maxSteps:=99999999) (disch:=first | omega | (simp only[vl];first | done | omega)) only[vu,k20,k21,va,vg,vs,vw,vk,simprocAttr]
  refine callR_ret (name_d _ _) ?_
  simp -implicitDefEqProofs (maxSteps:=99999999) (disch:=first | omega | (simp only[vl];first | done | omega)) only[vu,va,vg,vs,vw,vk,simprocAttr]
  exact over_bN (.cons .refl) (by simp[saysP,Nd.kind,Nd.text,Nd.num,k20,k21,hn])
 simp -implicitDefEqProofs (maxSteps:=99999999) (disch:=first | omega | (simp only[vl];first | done | omega)) only[vu,k20,k21,va,vg,vs,vw,vk,simprocAttr]
 refine callR_ret (named_d _ _) ?_
 rw[hn]
 by_cases k23 : k=23
 ·subst k23
  simp -implicitDefEqProofs (maxSteps:=99999999) (disch:=first | omega | (simp only[vl];first | done | omega)) only[vu,va,vg,vs,vw,vk,simprocAttr]
  refine ⟨cl,callR_ret (hA _) ?_⟩
  simp -implicitDefEqProofs (maxSteps:=99999999) (disch:=first | omega | (simp only[vl];first | done | omega)) only[vu,va,vg,vs,vw,vk,simprocAttr]
  exact over_bN (.cons .refl) (by simp[saysP,Nd.kind,Nd.text,Nd.num,hn])
 by_cases k24 : k=24
 ·subst k24
  simp -implicitDefEqProofs (maxSteps:=99999999) (disch:=first | omega | (simp only[vl];first | done | omega)) only[vu,va,vg,vs,vw,vk,simprocAttr]
  refine ⟨cl,callR_ret (hB _) ?_⟩
  simp -implicitDefEqProofs (maxSteps:=99999999) (disch:=first | omega | (simp only[vl];first | done | omega)) only[vu,va,vg,vs,vw,vk,simprocAttr]
  exact over_bN (.cons .refl) (by simp[saysP,Nd.kind,Nd.text,Nd.num,hn])
 simp -implicitDefEqProofs (maxSteps:=99999999) (disch:=first | omega | (simp only[vl];first | done | omega)) only[vu,k23,k24,va,vg,vs,vw,vk,simprocAttr]
 refine hL _ _ ?_
 clear hL
 simp -implicitDefEqProofs (maxSteps:=99999999) (disch:=first | omega | (simp only[vl];first | done | omega)) only[vu,va,vg,vs,vw,vk,simprocAttr]
 exact over_bN (.cons .refl) (by rw[Bool.eq_iff_iff];simp[saysP,Nd.kind,Nd.text,Nd.num,hn,k20,k21,k23,k24];exact ⟨fun h=>decide_eq_true h,of_decide_eq_true⟩)
end Go.Proofs.YtdjnccnecgblmaaGreatDoor
namespace Go.Proofs.YtdjnccnecgblmaaGreatDoor
open Go.RowKit
set_option maxRecDepth 100000
set_option linter.unusedVariables false
set_option linter.unusedSimpArgs false
def textQ (t : Nd) : Bool :=
 if namedP t.kind then nameQ t.text
 else if t.kind=23 then decide (t.text=⟨#[45]⟩) || decide (t.text=⟨#[33]⟩)
 else if ¬ t.kind=24 then decide (t.text=⟨#[]⟩)
 else memS binsL t.text
theorem ams (l : List ByteArray) (s : ByteArray) (h : memS l ⟨#[]⟩=false) : amongQ l s=memS l s:=by
 unfold amongQ
 by_cases e : s=⟨#[]⟩
 ·rw[e,h];simp
 ·simp[e]
def locP (t : Nd) : Bool:=(rowR t.kind).isSome && saysP t && ((rowG t.kind).2 || decide (t.kids.length=(rowG t.kind).1.length))
def knownQ (k : Int) : Bool:=(decide (k ≥ 1) && decide (k ≤ 12)) || exprP k
def numQ (k n : Int) : Bool:=decide (n=0) || (decide (k=20) && decide (n > 0)) || (decide (k=21) && decide (n=1))
def locQ (t : Nd) : Bool:=knownQ t.kind && numQ t.kind t.num && textQ t && (decide (manyQ t.kind < 0) || decide ((t.kids.length : Int)=manyQ t.kind))
theorem loc_same (t : Nd) : locP t=locQ t:=by
 obtain ⟨k,s,n,l⟩:=t
 unfold locP locQ
 simp only[Nd.kind,Nd.kids,Nd.num]
 rcases rowR_cases k with ⟨h,hn⟩ | h
 ·have g : ∀ m : Int,m ∈ rowsL.map (·.1)→k ≠ m:=fun m hm=>by
   obtain ⟨x,hx,rfl⟩:=List.mem_map.1 hm
   exact hn x hx
  have e : knownQ k=false:=by
   have g1:=fun m (hm : m ∈ rowsL.map (·.1))=>g m hm
   simp only[rowsL,List.map_cons,List.map_nil] at g1
   have:=g1 1 (by decide);have:=g1 2 (by decide);have:=g1 3 (by decide);have:=g1 4 (by decide);have:=g1 5 (by decide);have:=g1 6 (by decide);have:=g1 7 (by decide);have:=g1 8 (by decide);have:=g1 9 (by decide);have:=g1 10 (by decide);have:=g1 11 (by decide);have:=g1 12 (by decide);have:=g1 20 (by decide);have:=g1 21 (by decide);have:=g1 22 (by decide);have:=g1 23 (by decide);have:=g1 24 (by decide);have:=g1 25 (by decide);have:=g1 26 (by decide);have:=g1 27 (by decide);have:=g1 28 (by decide);have:=g1 29 (by decide)
   unfold knownQ exprP
   rw[← Bool.not_eq_true]
   simp
   omega
  rw[h,e]
  simp
 ·simp only[rowsL,List.map_cons,List.map_nil,List.mem_cons,List.not_mem_nil,or_false] at h
  have q1 : decide ((l.length : Int)=1)=decide (l.length=1):=by rw[Bool.eq_iff_iff];simp;omega
  have q2 : decide ((l.length : Int)=2)=decide (l.length=2):=by rw[Bool.eq_iff_iff];simp;omega
  have q3 : decide ((l.length : Int)=3)=decide (l.length=3):=by rw[Bool.eq_iff_iff];simp;omega
  have q0 : (decide (n=0) || decide (0 < n))=decide (0 ≤ n):=by rw[Bool.eq_iff_iff];simp;omega
  have e1:=ams unsL s (by decide +kernel)
  have e2:=ams binsL s (by decide +kernel)
  have e3 : memS unsL s=(decide (s=⟨#[45]⟩) || decide (s=⟨#[33]⟩)):=by
   simp[memS,unsL,eq_comm]
  rw[e3] at e1
  rcases h with rfl | rfl | rfl | rfl | rfl | rfl | rfl | rfl | rfl | rfl | rfl | rfl | rfl | rfl | rfl | rfl | rfl | rfl | rfl | rfl | rfl | rfl <;> simp[rowG,rowR,rowsL,iGet,knownQ,exprP,numQ,manyQ,saysP,textQ,Nd.kind,Nd.text,Nd.num,namedP,e1,e2]
  all_goals first
   | (simp only[q1,q2,q3];done)
   | rfl
   | (simp only[q0];ac_rfl)
   | (simp only[q1,q2,q3];rfl)
   | ac_rfl
end Go.Proofs.YtdjnccnecgblmaaGreatDoor
