import Derived.Test.YtdjnccnecgblmaaGreatDoorTA
import Derived.Test.YtdjnccnecgblmaaGreatDoorTU
import Derived.Test.YtdjnccnecgblmaaGreatDoorTF
import Derived.Test.YtdjnccnecgblmaaGreatDoorSK
import Derived.Test.YtdjnccnecgblmaaGreatDoorIc13
import Derived.Test.YtdjnccnecgblmaaGreatDoorIc16
import Derived.Test.YtdjnccnecgblmaaGreatDoorIc51
import Derived.Test.YtdjnccnecgblmaaGreatDoorIc12
import Derived.Test.YtdjnccnecgblmaaGreatDoorVE
import Derived.Test.YtdjnccnecgblmaaGreatDoorUA
import Derived.Test.YtdjnccnecgblmaaGreatDoorIc52
import Derived.Test.YtdjnccnecgblmaaGreatDoorTB
namespace Go.Proofs.YtdjnccnecgblmaaGreatDoor
open Go.RowKit
set_option maxRecDepth 100000
set_option linter.unusedVariables false
set_option linter.unusedSimpArgs false
structure Ed where
 k : Int
 path : List Int
 at_ : Int
 far : Int
 fr : ByteArray
 to_ : ByteArray
 old : List Nd
 new : List Nd
structure Pa where
 k : Int
 file : ByteArray
 text : ByteArray
 h : Hk
 e : Ed
def Hk.turn (h : Hk) : Hk:=⟨h.at_,h.new,h.old⟩
def ez : ByteArray:=⟨#[]⟩
def Hk.zero : Hk:=⟨0,[],[]⟩
def Ed.zero : Ed:=⟨0,[],0,0,ez,ez,[],[]⟩
def Pa.zero : Pa:=⟨0,ez,ez,.zero,.zero⟩
abbrev edV (e : Ed) : AV:=.agg [.sc (.int .u8 e.k),.lst 1 (pthA e.path) none,.sc (.int .i64 e.at_),.sc (.int .i64 e.far),.sc (.string e.fr),.sc (.string e.to_),.lst 4 (ndL e.old) none,.lst 4 (ndL e.new) none]
abbrev paV (p : Pa) : AV:=.agg [.sc (.int .u8 p.k),.sc (.string p.file),.sc (.string p.text),.sc (.int .i64 p.h.at_),.lst 1 (strs p.h.old) none,.lst 1 (strs p.h.new) none,.sc (.int .u8 p.e.k),.lst 1 (pthA p.e.path) none,.sc (.int .i64 p.e.at_),.sc (.int .i64 p.e.far),.sc (.string p.e.fr),.sc (.string p.e.to_),.lst 4 (ndL p.e.old) none,.lst 4 (ndL p.e.new) none]
abbrev Nm:=ByteArray × Pa
abbrev nmV (x : Nm) : AV:=.agg [.sc (.string x.1),.sc (.int .u8 x.2.k),.sc (.string x.2.file),.sc (.string x.2.text),.sc (.int .i64 x.2.h.at_),.lst 1 (strs x.2.h.old) none,.lst 1 (strs x.2.h.new) none,.sc (.int .u8 x.2.e.k),.lst 1 (pthA x.2.e.path) none,.sc (.int .i64 x.2.e.at_),.sc (.int .i64 x.2.e.far),.sc (.string x.2.e.fr),.sc (.string x.2.e.to_),.lst 4 (ndL x.2.e.old) none,.lst 4 (ndL x.2.e.new) none]
def sameE (a b : Ed) : Bool:=decide (a.k=b.k) && (decide (a.path=b.path) && (decide (a.at_=b.at_) && (decide (a.far=b.far) && (decide (a.fr=b.fr) && (decide (a.to_=b.to_) && (sameL a.old b.old && sameL a.new b.new))))))
def sameP (a b : Pa) : Bool:=decide (a.k=b.k) && (decide (a.file=b.file) && (decide (a.text=b.text) && (sameH a.h b.h && sameE a.e b.e)))
theorem sameE_iff (a b : Ed) : sameE a b=true ↔ a=b:=by
 cases a;cases b
 simp only[sameE,Bool.and_eq_true,decide_eq_true_eq,sameL_iff,Ed.mk.injEq]
theorem sameP_iff (a b : Pa) : sameP a b=true ↔ a=b:=by
 obtain ⟨k,f,t,⟨a1,o1,n1⟩,e⟩:=a
 obtain ⟨k',f',t',⟨a2,o2,n2⟩,e'⟩:=b
 simp only[sameP,sameH,Bool.and_eq_true,decide_eq_true_eq,sameE_iff,Pa.mk.injEq,Hk.mk.injEq]
theorem sameP_refl (a : Pa) : sameP a a=true:=(sameP_iff a a).2 rfl
def pnumQ (n : Int) : Bool:=decide (0 ≤ n) && decide (n ≤ 1073741824)
def partQ (l : List Nd) : Bool:=match l with
 | [t]=>rightN t 40
 | _=>false
def rightE (e : Ed) : Bool:=e.path.all pnumQ && pnumQ e.at_ && pnumQ e.far &&
 if e.k=1 then decide (e.at_=0) && decide (e.far=0) && decide (e.path ≠ []) && (nameQ e.fr && nameQ e.to_ && decide (e.fr ≠ e.to_)) && decide (e.old=[]) && decide (e.new=[])
 else if e.k=2 then decide (e.far=0) && decide (e.fr=ez) && decide (e.to_=ez) && decide (e.old=[]) && partQ e.new
 else if e.k=3 then decide (e.far=0) && decide (e.fr=ez) && decide (e.to_=ez) && decide (e.new=[]) && partQ e.old
 else if e.k=4 then decide (e.at_=0) && decide (e.far=0) && decide (e.path ≠ []) && decide (e.fr=ez) && decide (e.to_=ez) && partQ e.old && partQ e.new && !sameL e.old e.new
 else if e.k=5 then decide (e.at_ ≠ e.far) && decide (e.fr=ez) && decide (e.to_=ez) && decide (e.new=[]) && partQ e.old
 else false
def pSign (n : Nat) : Bool:=(decide (97 ≤ n) && decide (n ≤ 122)) || (decide (65 ≤ n) && decide (n ≤ 90)) || (decide (48 ≤ n) && decide (n ≤ 57)) || decide (n=46) || decide (n=95)
def pSignB (b : UInt8) : Bool:=pSign b.toNat
def nmQ (s : ByteArray) : Bool:=s.data.toList.all pSignB && decide (1 ≤ s.size) && decide (s.size ≤ 24)
def bareP (p : Pa) : Pa:=⟨p.k,p.file,if p.k=1 ∨ p.k=2 then p.text else ez,if p.k=3 then p.h else .zero,if p.k=4 then p.e else .zero⟩
def okP (p : Pa) : Bool:=if p.k=1 ∨ p.k=2 then true else if p.k=3 then rightB p.h else if p.k=4 then rightE p.e else false
def rightP (p : Pa) : Bool:=okP p && (nmQ p.file && sameP p (bareP p))
def Ed.inv (e : Ed) : Ed:=if e.k=5 then { e with fr:=e.to_,to_:=e.fr,at_:=e.far,far:=e.at_ } else { e with fr:=e.to_,to_:=e.fr,old:=e.new,new:=e.old,k:=if e.k=2 then 3 else if e.k=3 then 2 else e.k }
def Pa.inv (p : Pa) : Pa:={ p with k:=if p.k=1 then 2 else if p.k=2 then 1 else p.k,h:=if p.k=3 then p.h.turn else p.h,e:=if p.k=4 then p.e.inv else p.e }
theorem Hk.turn_turn (h : Hk) : h.turn.turn=h:=rfl
theorem Ed.inv_inv (e : Ed) : e.inv.inv=e:=by
 obtain ⟨k,p,a,f,x,y,o,n⟩:=e
 by_cases h5 : k=5
 ·simp[Ed.inv,h5]
 by_cases h2 : k=2
 ·simp[Ed.inv,h2]
 by_cases h3 : k=3
 ·simp[Ed.inv,h3]
 simp[Ed.inv,h5,h2,h3]
theorem Pa.inv_inv (p : Pa) : p.inv.inv=p:=by
 obtain ⟨k,f,t,h,e⟩:=p
 by_cases h1 : k=1
 ·simp[Pa.inv,h1]
 by_cases h2 : k=2
 ·simp[Pa.inv,h2]
 by_cases h3 : k=3
 ·simp[Pa.inv,h3,Hk.turn_turn]
 by_cases h4 : k=4
 ·simp[Pa.inv,h4,Ed.inv_inv]
 simp[Pa.inv,h1,h2,h3,h4]
theorem rightB_turn (h : Hk) : rightB h.turn=rightB h:=by
 simp only[rightB,Hk.turn]
 by_cases e : h.old=h.new
 ·simp[e]
 ·have e2 : ¬ h.new=h.old:=fun x=>e x.symm
  simp only[e,e2]
  cases linesB h.old <;> cases linesB h.new <;> first | rfl | (simp;done) | (simp;rfl)
theorem sameL_comm (a b : List Nd) : sameL a b=sameL b a:=by
 have h1:=sameL_iff a b
 have h2:=sameL_iff b a
 cases e1 : sameL a b <;> cases e2 : sameL b a <;> simp_all
theorem rightE_inv (e : Ed) (h : rightE e=true) : rightE e.inv=true:=by
 obtain ⟨k,p,a,f,x,y,o,n⟩:=e
 unfold rightE at h ⊢
 simp only[Bool.and_eq_true] at h ⊢
 obtain ⟨⟨⟨h1,h2⟩,h3⟩,h4⟩:=h
 by_cases k1 : k=1
 ·subst k1
  simp[Ed.inv] at *
  simp_all
  exact fun e=>h4.1.1.2.2 e.symm
 by_cases k2 : k=2
 ·subst k2
  simp[Ed.inv] at *
  simp_all
 by_cases k3 : k=3
 ·subst k3
  simp[Ed.inv] at *
  simp_all
 by_cases k4 : k=4
 ·subst k4
  simp[Ed.inv] at *
  rw[sameL_comm]
  simp_all
 by_cases k5 : k=5
 ·subst k5
  simp[Ed.inv] at *
  simp_all
  exact fun e=>h4.1.1.1.1 e.symm
 simp[k1,k2,k3,k4,k5] at h4
theorem rightP_inv (p : Pa) (h : rightP p=true) : rightP p.inv=true:=by
 unfold rightP at h ⊢
 simp only[Bool.and_eq_true,sameP_iff] at h ⊢
 obtain ⟨h1,h2,h3⟩:=h
 have hf : p.inv.file=p.file:=rfl
 refine ⟨?_,by rw[hf];exact h2,?_⟩
 ·unfold okP at h1 ⊢
  by_cases k1 : p.k=1
  ·simp[Pa.inv,k1]
  by_cases k2 : p.k=2
  ·simp[Pa.inv,k2]
  by_cases k3 : p.k=3
  ·simp only[k3] at h1
   simp[Pa.inv,k3,rightB_turn]
   simpa using h1
  by_cases k4 : p.k=4
  ·simp only[k4] at h1
   simp[Pa.inv,k4]
   exact rightE_inv _ (by simpa using h1)
  simp[k1,k2,k3,k4] at h1
 ·rw[h3]
  by_cases k1 : p.k=1
  ·simp[Pa.inv,bareP,k1]
  by_cases k2 : p.k=2
  ·simp[Pa.inv,bareP,k2]
  by_cases k3 : p.k=3
  ·simp[Pa.inv,bareP,k3]
  by_cases k4 : p.k=4
  ·simp[Pa.inv,bareP,k4]
  simp[Pa.inv,bareP,k1,k2,k3,k4]
end Go.Proofs.YtdjnccnecgblmaaGreatDoor
namespace Go.Proofs.YtdjnccnecgblmaaGreatDoor
open Go.RowKit
set_option maxRecDepth 100000
set_option linter.unusedVariables false
set_option linter.unusedSimpArgs false
def fi {α : Type} (p : α→Bool) (l : List α) : Int:=if l.any p=true then (l.findIdx p : Nat) else -1
theorem fi_at {α : Type} {p : α→Bool} {l : List α} {k : Nat} (h : k < l.length) (hk : p l[k]=true) (hb : ∀ j (hj : j < l.length),j < k→p l[j]=false) : fi p l=k:=by
 have h1 : l.any p=true:=List.any_eq_true.2 ⟨_,List.getElem_mem h,hk⟩
 unfold fi
 rw[if_pos h1]
 congr 1
 rcases Nat.lt_trichotomy (l.findIdx p) k with h2 | h2 | h2
 ·have h3 : p (l[l.findIdx p]'(by omega))=true:=List.findIdx_getElem
  rw[hb _ (by omega) h2] at h3
  simp at h3
 ·exact h2
 ·have:=List.not_of_lt_findIdx h2
  rw[hk] at this
  simp at this
theorem fi_no {α : Type} {p : α→Bool} {l : List α} (hb : ∀ j (hj : j < l.length),p l[j]=false) : fi p l=-1:=by
 have h1 : ¬ l.any p=true:=by
  rw[List.any_eq_true]
  rintro ⟨x,hx,hp⟩
  obtain ⟨j,hj,rfl⟩:=List.getElem_of_mem hx
  rw[hb j hj] at hp
  simp at hp
 unfold fi
 rw[if_neg h1]
theorem fi_ge {α : Type} {p : α→Bool} {l : List α} : decide (fi p l ≥ 0)=l.any p:=by
 unfold fi
 split
 ·rename_i h;rw[h];simp
 ·rename_i h;simp at h;simpa using h
def nthB (s : ByteArray) (k : Nat) : UInt8:=s.data.toList.getD k 0
theorem byteL_length (s : ByteArray) : (byteL s).length=s.size:=by
 unfold byteL;rw[List.length_map,Array.length_toList];rfl
theorem bytes_length (s : ByteArray) : s.data.toList.length=s.size:=by rw[Array.length_toList];rfl
theorem nthB_eq {s : ByteArray} {k : Nat} (h : k < s.data.toList.length) : nthB s k=s.data.toList[k]:=by
 unfold nthB
 rw[List.getD,List.getElem?_eq_getElem h]
 rfl
theorem byteL_get {s : ByteArray} {k : Nat} (h : k < s.size) : (byteL s).getD k .top = .sc (.int .u8 ((nthB s k).toNat : Nat)):=by
 rw[← bytes_length] at h
 rw[nthB_eq h]
 unfold byteL
 rw[List.getD,List.getElem?_map,List.getElem?_eq_getElem h]
 rfl
theorem indexFuncB_d (s : ByteArray) (room : Option (List AV)) (f : FuncId) (p : UInt8→Bool) (H : AHeap) (hc : callable Tryz.prog f=true) (hf : ∀ b : UInt8,D Tryz.prog f [.sc (.int .u8 (b.toNat : Nat))] H (.ret (.sc (.bool (p b)))) H) (hl : s.size ≤ 100000000) :
  D Tryz.prog 165 [.lst 1 (byteL s) room,.fn (.func f) [] []] H (.ret (.sc (.int .i64 (fi p s.data.toList)))) H:=by
 refine D_of_DK (Nat.le_refl _) (dk165 (E_of_ES ?_))
 simp -implicitDefEqProofs (maxSteps:=99999999) (disch:=omega) only[byteL_length,ic165,va,vg,vs,vh,vk,simprocAttr]
 refine ES_loop (fun ts H'=>H'=H ∧ ∃ k : Nat,(k ≤ s.size ∧ ∀ j (hj : j < s.data.toList.length),j < k→p s.data.toList[j]=false) ∧ Fr [some (.lst 1 (byteL s) room),some (.fn (.func f) [] []),none,none,none,none,none,some (.sc (.int .i64 s.size)),some (.sc (.int .i64 k)),none,none,none,none,none,none,none,none,none,none] ts) (fun ts _=>s.size - (intV (ts.getD 8 .top)).toNat) ?_ ?_
 ·exact ⟨rfl,0,⟨Nat.zero_le _,fun j _ h=>absurd h (Nat.not_lt_zero _)⟩,by simp[Fr]⟩
 rintro ts _ ⟨rfl,k,⟨hk,hp⟩,hfr⟩
 obtain ⟨js,rfl⟩:=hfr.opened
 clear hfr
 simp -implicitDefEqProofs (maxSteps:=99999999) (disch:=omega) only[byteL_length,mk,va,vg,vs,vh,vk,simprocAttr]
 refine condR_if (fun h=>?_) (fun h=>?_)
 ·have h1 : k < s.size:=by omega
  have h2 : k < s.data.toList.length:=by rw[bytes_length];exact h1
  simp -implicitDefEqProofs (maxSteps:=99999999) (disch:=omega) only[byteL_length,byteL_get h1,hc,va,vg,vs,vh,vk,simprocAttr]
  refine ⟨by omega,callR_ret (hf _) ?_⟩
  rw[nthB_eq h2]
  cases hb : p s.data.toList[k] with
  | true =>
   simp -implicitDefEqProofs (maxSteps:=99999999) (disch:=omega) only[fi_at h2 hb (fun j hj h=>hp j hj h),va,vg,vs,vh,vk,simprocAttr]
   exact weak_sc .refl
  | false =>
   simp -implicitDefEqProofs (maxSteps:=99999999) (disch:=omega) only[va,vg,vs,vh,vk,simprocAttr]
   refine ⟨⟨k+1,⟨by omega,fun j hj h=>?_⟩,by simp[Fr]⟩,by omega⟩
   rcases Nat.lt_succ_iff_lt_or_eq.1 h with h' | rfl
   ·exact hp j hj h'
   ·exact hb
 ·have hno : fi p s.data.toList=-1:=fi_no fun j hj=>hp j hj (by rw[bytes_length] at hj;omega)
  simp -implicitDefEqProofs (maxSteps:=99999999) (disch:=omega) only[hno,va,vg,vs,vh,vk,simprocAttr]
  exact weak_sc .refl
theorem containsFuncB_d (s : ByteArray) (room : Option (List AV)) (f : FuncId) (p : UInt8→Bool) (H : AHeap) (hc : callable Tryz.prog f=true) (hf : ∀ b : UInt8,D Tryz.prog f [.sc (.int .u8 (b.toNat : Nat))] H (.ret (.sc (.bool (p b)))) H) (hl : s.size ≤ 100000000) :
  D Tryz.prog 107 [.lst 1 (byteL s) room,.fn (.func f) [] []] H (.ret (.sc (.bool (s.data.toList.any p)))) H:=by
 refine D_of_DK (Nat.le_refl _) (dk107 (E_of_ES ?_))
 simp -implicitDefEqProofs (maxSteps:=99999999) (disch:=omega) only[ic107,va,vg,vs,vh,vk,simprocAttr]
 refine callR_ret (indexFuncB_d s room f p _ hc hf hl) ?_
 simp -implicitDefEqProofs (maxSteps:=99999999) (disch:=omega) only[va,vg,vs,vh,vk,simprocAttr]
 rw[fi_ge]
 exact weak_sc .refl
def nums (l : List Int) : List AV:=l.map fun i=>.sc (.int .i64 i)
theorem nums_length (l : List Int) : (nums l).length=l.length:=by simp[nums]
theorem nums_nil : nums []=[]:=rfl
theorem nums_cons (s : Int) (l : List Int) : nums (s :: l) = .sc (.int .i64 s) :: nums l:=rfl
def nthI (xs : List Int) (k : Nat) : Int:=xs.getD k 0
theorem nthI_eq {xs : List Int} {k : Nat} (h : k < xs.length) : nthI xs k=xs[k]:=by simp[nthI,List.getD,h]
theorem nums_get {l : List Int} {k : Nat} (h : k < l.length) : (nums l).getD k .top = .sc (.int .i64 (nthI l k)):=by
 simp[nums,nthI,List.getD,h]
theorem nthI_ext {xs ys : List Int} (hl : xs.length=ys.length) (h : ∀ i,i < xs.length→nthI xs i=nthI ys i) : xs=ys:=by
 apply List.ext_getElem hl
 intro i h1 h2
 have:=h i h1
 rwa [nthI_eq h1,nthI_eq h2] at this
theorem nums_fz {H : AHeap} {n : Nat} : ∀ {l : List Int},FzL H n (nums l) (nums l)
 | []=>.nil
 | _ :: _=>.cons (.same trivial) nums_fz
theorem nums_gz {H : AHeap} {n : Nat} {src : List Nat} : ∀ {l : List Int},GzL H n src (nums l) (nums l)
 | []=>.nil
 | _ :: _=>.cons (.same trivial) nums_gz
theorem sameInts_d (a b : List Int) (ra rb : Option (List AV)) (H : AHeap) (hl : a.length ≤ 100000000) : D Tryz.prog 66 [.lst 1 (nums a) ra,.lst 1 (nums b) rb] H (.ret (.sc (.bool (decide (a=b))))) H:=by
 refine D_of_DK (Nat.le_refl _) (dk66 (E_of_ES ?_))
 simp -implicitDefEqProofs (maxSteps:=99999999) (disch:=omega) only[nums_length,ic66,va,vg,vs,vh,vk,simprocAttr]
 refine condR_if (fun h=>?_) (fun h=>?_)
 ·have hne : ¬ a=b:=fun e=>by simp[e] at h
  simp -implicitDefEqProofs (maxSteps:=99999999) (disch:=omega) only[nums_length,hne,va,vg,vs,vh,vk,simprocAttr]
  exact weak_sc .refl
 have hl2 : a.length=b.length:=by omega
 simp -implicitDefEqProofs (maxSteps:=99999999) (disch:=omega) only[nums_length,va,vg,vs,vh,vk,simprocAttr]
 refine ES_loop (fun ts H'=>H'=H ∧ ∃ k : Nat,(k ≤ a.length ∧ ∀ j,j < k→nthI a j=nthI b j) ∧ Fr [some (.lst 1 (nums a) ra),some (.lst 1 (nums b) rb),none,none,some (.sc (.bool false)),some (.sc (.int .i64 k)),none,none,none,none,none,none,none,none,none,none,none,none,none,none,none,none,none,none,none,none] ts) (fun ts _=>a.length - (intV (ts.getD 5 .top)).toNat) ?_ ?_
 ·exact ⟨rfl,0,⟨Nat.zero_le _,fun j h=>absurd h (Nat.not_lt_zero _)⟩,by simp[Fr]⟩
 rintro ts _ ⟨rfl,k,⟨hk,hp⟩,hfr⟩
 obtain ⟨js,rfl⟩:=hfr.opened
 clear hfr
 simp -implicitDefEqProofs (maxSteps:=99999999) (disch:=omega) only[nums_length,mk,va,vg,vs,vh,vk,simprocAttr]
 refine condR_if (fun h=>?_) (fun h=>?_)
 ·have h1 : k < a.length:=by omega
  have h2 : k < b.length:=by omega
  simp -implicitDefEqProofs (maxSteps:=99999999) (disch:=omega) only[nums_length,nums_get h1,nums_get h2,va,vg,vs,vh,vk,simprocAttr]
  refine ⟨by omega,by omega,condR_if (fun h=>?_) (fun h=>?_)⟩
  ·have hne : ¬ a=b:=fun e=>by simp[e] at h
   simp -implicitDefEqProofs (maxSteps:=99999999) (disch:=omega) only[nums_length,hne,va,vg,vs,vh,vk,simprocAttr]
   exact weak_sc .refl
  ·simp -implicitDefEqProofs (maxSteps:=99999999) (disch:=omega) only[nums_length,va,vg,vs,vh,vk,simprocAttr]
   refine ⟨⟨k+1,⟨by omega,fun j hj=>?_⟩,by simp[Fr]⟩,by omega⟩
   rcases Nat.lt_succ_iff_lt_or_eq.1 hj with h' | rfl
   ·exact hp j h'
   ·exact Classical.not_not.1 h
 ·have hab : a=b:=nthI_ext hl2 (fun i hi=>hp i (by omega))
  simp -implicitDefEqProofs (maxSteps:=99999999) (disch:=omega) only[nums_length,hab,va,vg,vs,vh,vk,simprocAttr]
  exact weak_sc .refl
theorem equalI_d (a b : List Int) (ra rb : Option (List AV)) (H : AHeap) (hl : a.length ≤ 100000000) : D Tryz.prog 99 [.lst 1 (nums a) ra,.lst 1 (nums b) rb] H (.ret (.sc (.bool (decide (a=b))))) H:=by
 refine D_of_DK (Nat.le_refl _) (dk99 (E_of_ES ?_))
 simp -implicitDefEqProofs (maxSteps:=99999999) (disch:=omega) only[ic99,nums_length,va,vg,vs,vh,vk,simprocAttr]
 refine condR_if (fun h=>?_) (fun h=>?_)
 ·have hne : ¬ a=b:=fun e=>by simp[e] at h
  simp -implicitDefEqProofs (maxSteps:=99999999) (disch:=omega) only[hne,va,vg,vs,vh,vk,simprocAttr]
  exact weak_sc .refl
 have hl2 : a.length=b.length:=by omega
 simp -implicitDefEqProofs (maxSteps:=99999999) (disch:=omega) only[nums_length,va,vg,vs,vh,vk,simprocAttr]
 refine ES_loop (fun ts H'=>H'=H ∧ ∃ k : Nat,(k ≤ a.length ∧ ∀ j,j < k→nthI a j=nthI b j) ∧ Fr [some (.lst 1 (nums a) ra),some (.lst 1 (nums b) rb),none,none,some (.sc (.bool false)),none,none,none,none,none,none,none,some (.sc (.int .i64 a.length)),some (.sc (.int .i64 k)),none,none,none,none,none,none,none,none,none,none,none,none] ts) (fun ts _=>a.length - (intV (ts.getD 13 .top)).toNat) ?_ ?_
 ·exact ⟨rfl,0,⟨Nat.zero_le _,fun j h=>absurd h (Nat.not_lt_zero _)⟩,by simp[Fr]⟩
 rintro ts _ ⟨rfl,k,⟨hk,hp⟩,hfr⟩
 obtain ⟨js,rfl⟩:=hfr.opened
 clear hfr
 simp -implicitDefEqProofs (maxSteps:=99999999) (disch:=omega) only[mk,va,vg,vs,vh,vk,simprocAttr]
 refine condR_if (fun h=>?_) (fun h=>?_)
 ·have h1 : k < a.length:=by omega
  have h2 : k < b.length:=by omega
  simp -implicitDefEqProofs (maxSteps:=99999999) (disch:=omega) only[nums_get h1,nums_get h2,nums_length,va,vg,vs,vh,vk,simprocAttr]
  refine ⟨by omega,by omega,condR_if (fun h=>?_) (fun h=>?_)⟩
  ·have hne : ¬ a=b:=fun e=>by simp[e] at h
   simp -implicitDefEqProofs (maxSteps:=99999999) (disch:=omega) only[hne,va,vg,vs,vh,vk,simprocAttr]
   exact weak_sc .refl
  ·simp -implicitDefEqProofs (maxSteps:=99999999) (disch:=omega) only[va,vg,vs,vh,vk,simprocAttr]
   refine ⟨⟨k+1,⟨by omega,fun j hj=>?_⟩,by simp[Fr]⟩,by omega⟩
   rcases Nat.lt_succ_iff_lt_or_eq.1 hj with h' | rfl
   ·exact hp j h'
   ·exact Classical.not_not.1 h
 ·have hab : a=b:=nthI_ext hl2 (fun i hi=>hp i (by omega))
  simp -implicitDefEqProofs (maxSteps:=99999999) (disch:=omega) only[hab,va,vg,vs,vh,vk,simprocAttr]
  exact weak_sc .refl
theorem cloneI_d (l : List Int) (ro : Option (List AV)) (H : AHeap) (hl : l.length ≤ 100000000) : D Tryz.prog 188 [.lst 1 (nums l) ro] H (.ret (.lst 1 (nums l) none)) H:=by
 refine D_of_DK (Nat.le_refl _) (dk188 (E_of_ES ?_))
 cases l with
 | nil =>
  simp -implicitDefEqProofs (maxSteps:=99999999) (disch:=omega) only[ic188,nums_nil,va,vg,vs,vh,vk,simprocAttr]
  refine ⟨?_,?_⟩
  ·simp -implicitDefEqProofs (maxSteps:=99999999) (disch:=omega) only[va,vg,vs,vh,vk,simprocAttr]
   exact weak_over .refl .nil
  ·simp -implicitDefEqProofs (maxSteps:=99999999) (disch:=omega) only[va,vg,vs,vh,vk,simprocAttr]
   exact weak_over .refl .nil
 | cons x r =>
  simp only[List.length_cons] at hl
  simp -implicitDefEqProofs (maxSteps:=99999999) (disch:=omega) only[ic188,nums_cons,nums_length,va,vg,vs,vh,vk,simprocAttr]
  refine ⟨by omega,weak_frz (fun i hi=>by rw[find_past hi]) (.vec (by unfold newId;rw[if_neg (by omega)];rfl) (find_top rfl) rfl (by simp[nums_length]) ?_)⟩
  simp only[List.drop_zero]
  rw[List.take_of_length_le (by simp[nums_length])]
  exact nums_gz (l:=x :: r)
theorem numb_d (n : Int) (H : AHeap) : D Tryz.prog 94 [.sc (.int .i64 n)] H (.ret (.sc (.bool (pnumQ n)))) H:=by
 refine D_of_DK (Nat.le_refl _) (dk94 (E_of_ES ?_))
 by_cases h1 : n ≥ 0
 ·by_cases h2 : n ≤ 1073741824
  ·simp -implicitDefEqProofs (maxSteps:=99999999) (disch:=omega) only[ic94,vu,h1,h2,va,vg,vs,vh,vk,simprocAttr]
   have e : pnumQ n=true:=by simp[pnumQ];omega
   rw[e]
   exact weak_sc .refl
  ·simp -implicitDefEqProofs (maxSteps:=99999999) (disch:=omega) only[ic94,vu,h1,h2,va,vg,vs,vh,vk,simprocAttr]
   have e : pnumQ n=false:=by simp[pnumQ];omega
   rw[e]
   exact weak_sc .refl
 ·simp -implicitDefEqProofs (maxSteps:=99999999) (disch:=omega) only[ic94,vu,h1,va,vg,vs,vh,vk,simprocAttr]
  have e : pnumQ n=false:=by simp[pnumQ];omega
  rw[e]
  exact weak_sc .refl
theorem numc_d (n : Int) (H : AHeap) : D Tryz.prog 93 [.sc (.int .i64 n)] H (.ret (.sc (.bool (!pnumQ n)))) H:=by
 refine D_of_DK (Nat.le_refl _) (dk93 (E_of_ES ?_))
 simp -implicitDefEqProofs (maxSteps:=99999999) (disch:=omega) only[ic93,vu,va,vg,vs,vh,vk,simprocAttr]
 refine callR_ret (numb_d _ _) ?_
 simp -implicitDefEqProofs (maxSteps:=99999999) (disch:=omega) only[vu,va,vg,vs,vh,vk,simprocAttr]
 exact weak_sc .refl
theorem indexFuncI_d (l : List Int) (room : Option (List AV)) (f : FuncId) (p : Int→Bool) (H : AHeap) (hc : callable Tryz.prog f=true) (hf : ∀ b : Int,D Tryz.prog f [.sc (.int .i64 b)] H (.ret (.sc (.bool (p b)))) H) (hl : l.length ≤ 100000000) :
  D Tryz.prog 154 [.lst 1 (nums l) room,.fn (.func f) [] []] H (.ret (.sc (.int .i64 (fi p l)))) H:=by
 refine D_of_DK (Nat.le_refl _) (dk154 (E_of_ES ?_))
 simp -implicitDefEqProofs (maxSteps:=99999999) (disch:=omega) only[nums_length,ic154,va,vg,vs,vh,vk,simprocAttr]
 refine ES_loop (fun ts H'=>H'=H ∧ ∃ k : Nat,(k ≤ l.length ∧ ∀ j (hj : j < l.length),j < k→p l[j]=false) ∧ Fr [some (.lst 1 (nums l) room),some (.fn (.func f) [] []),none,none,none,none,none,some (.sc (.int .i64 l.length)),some (.sc (.int .i64 k)),none,none,none,none,none,none,none,none,none,none] ts) (fun ts _=>l.length - (intV (ts.getD 8 .top)).toNat) ?_ ?_
 ·exact ⟨rfl,0,⟨Nat.zero_le _,fun j _ h=>absurd h (Nat.not_lt_zero _)⟩,by simp[Fr]⟩
 rintro ts _ ⟨rfl,k,⟨hk,hp⟩,hfr⟩
 obtain ⟨js,rfl⟩:=hfr.opened
 clear hfr
 simp -implicitDefEqProofs (maxSteps:=99999999) (disch:=omega) only[nums_length,mk,va,vg,vs,vh,vk,simprocAttr]
 refine condR_if (fun h=>?_) (fun h=>?_)
 ·have h1 : k < l.length:=by omega
  simp -implicitDefEqProofs (maxSteps:=99999999) (disch:=omega) only[nums_length,nums_get h1,hc,va,vg,vs,vh,vk,simprocAttr]
  refine ⟨by omega,callR_ret (hf _) ?_⟩
  rw[nthI_eq h1]
  cases hb : p l[k] with
  | true =>
   simp -implicitDefEqProofs (maxSteps:=99999999) (disch:=omega) only[fi_at h1 hb (fun j hj h=>hp j hj h),va,vg,vs,vh,vk,simprocAttr]
   exact weak_sc .refl
  | false =>
   simp -implicitDefEqProofs (maxSteps:=99999999) (disch:=omega) only[va,vg,vs,vh,vk,simprocAttr]
   refine ⟨⟨k+1,⟨by omega,fun j hj h=>?_⟩,by simp[Fr]⟩,by omega⟩
   rcases Nat.lt_succ_iff_lt_or_eq.1 h with h' | rfl
   ·exact hp j hj h'
   ·exact hb
 ·have hno : fi p l=-1:=fi_no fun j hj=>hp j hj (by omega)
  simp -implicitDefEqProofs (maxSteps:=99999999) (disch:=omega) only[hno,va,vg,vs,vh,vk,simprocAttr]
  exact weak_sc .refl
theorem containsFuncI_d (l : List Int) (room : Option (List AV)) (f : FuncId) (p : Int→Bool) (H : AHeap) (hc : callable Tryz.prog f=true) (hf : ∀ b : Int,D Tryz.prog f [.sc (.int .i64 b)] H (.ret (.sc (.bool (p b)))) H) (hl : l.length ≤ 100000000) :
  D Tryz.prog 92 [.lst 1 (nums l) room,.fn (.func f) [] []] H (.ret (.sc (.bool (l.any p)))) H:=by
 refine D_of_DK (Nat.le_refl _) (dk92 (E_of_ES ?_))
 simp -implicitDefEqProofs (maxSteps:=99999999) (disch:=omega) only[ic92,va,vg,vs,vh,vk,simprocAttr]
 refine callR_ret (indexFuncI_d l room f p _ hc hf hl) ?_
 simp -implicitDefEqProofs (maxSteps:=99999999) (disch:=omega) only[va,vg,vs,vh,vk,simprocAttr]
 rw[fi_ge]
 exact weak_sc .refl
end Go.Proofs.YtdjnccnecgblmaaGreatDoor
namespace Go.Proofs.YtdjnccnecgblmaaGreatDoor
open Go.RowKit
set_option maxRecDepth 100000
set_option linter.unusedVariables false
set_option linter.unusedSimpArgs false
theorem geT {c a : Int} (h : a ≤ c) : (c ≥ a)=True:=eq_true h
theorem geF {c a : Int} (h : c < a) : (c ≥ a)=False:=eq_false (by omega)
theorem leT {c a : Int} (h : c ≤ a) : (c ≤ a)=True:=eq_true h
theorem leF {c a : Int} (h : a < c) : (c ≤ a)=False:=eq_false (by omega)
theorem iqT {c a : Int} (h : c=a) : (c=a)=True:=eq_true h
theorem iqF {c a : Int} (h : ¬ c=a) : (c=a)=False:=eq_false h
def oq32 (c : Int) : Int:=IntKind.u8.wrap ((BitVec.ofInt IntKind.u8.bits c ||| BitVec.ofInt IntKind.u8.bits 32).toNat : Int)
theorem or_fold (c : Int) : IntKind.u8.wrap ((BitVec.ofInt IntKind.u8.bits c ||| BitVec.ofInt IntKind.u8.bits 32).toNat : Int)=oq32 c:=rfl
theorem or_all : ((List.range 256).all fun n=>(decide (97 ≤ oq32 n) && decide (oq32 n ≤ 122)) == ((decide (97 ≤ n) && decide (n ≤ 122)) || (decide (65 ≤ n) && decide (n ≤ 90))))=true:=by kernel_rfl
theorem or_at (b : UInt8) : (97 ≤ oq32 (b.toNat : Nat) ∧ oq32 (b.toNat : Nat) ≤ 122) ↔ ((97 ≤ b.toNat ∧ b.toNat ≤ 122) ∨ (65 ≤ b.toNat ∧ b.toNat ≤ 90)):=by
 have h:=List.all_eq_true.1 or_all b.toNat (List.mem_range.2 b.toNat_lt)
 rw[beq_iff_eq] at h
 have h2 : (decide (97 ≤ oq32 (b.toNat : Nat)) && decide (oq32 (b.toNat : Nat) ≤ 122))=true ↔ ((decide (97 ≤ b.toNat) && decide (b.toNat ≤ 122)) || (decide (65 ≤ b.toNat) && decide (b.toNat ≤ 90)))=true:=by rw[h]
 simpa using h2
theorem goodP_d (b : UInt8) (H : AHeap) : D Tryz.prog 98 [.sc (.int .u8 (b.toNat : Nat))] H (.ret (.sc (.bool (pSignB b)))) H:=by
 refine D_of_DK (Nat.le_refl _) (dk98 (E_of_ES ?_))
 have hor:=or_at b
 have hlt:=b.toNat_lt
 unfold pSignB pSign
 generalize b.toNat=n at *
 obtain ⟨c,hc⟩ : ∃ c : Int,c=(n : Int):=⟨_,rfl⟩
 rw[← hc] at hor ⊢
 have tr : ∀ {x : Bool},(x=true ↔ ((97 ≤ n ∧ n ≤ 122) ∨ (65 ≤ n ∧ n ≤ 90) ∨ (48 ≤ n ∧ n ≤ 57) ∨ n=46 ∨ n=95))→Weak H (.ret (.sc (.bool x))) H (.ret (.sc (.bool ((decide (97 ≤ n) && decide (n ≤ 122)) || (decide (65 ≤ n) && decide (n ≤ 90)) || (decide (48 ≤ n) && decide (n ≤ 57)) || decide (n=46) || decide (n=95))))) H:=by
  intro x hx
  refine over_bN .refl ?_
  rw[Bool.eq_iff_iff,hx]
  simp[or_assoc]
 by_cases h1 : 97 ≤ oq32 c
 ·by_cases h2 : oq32 c ≤ 122
  ·simp -implicitDefEqProofs (maxSteps:=99999999) (disch:=omega) only[ic98,vu,or_fold,geT h1,leT h2,va,vg,vs,vh,vk,simprocAttr]
   exact tr (by simp;omega)
  ·rcases (by omega : c ≤ 45 ∨ c=46 ∨ c=47 ∨ (48 ≤ c ∧ c ≤ 57) ∨ (58 ≤ c ∧ c ≤ 94) ∨ c=95 ∨ 96 ≤ c) with hr | hr | hr | hr | hr | hr | hr
   all_goals
    simp -implicitDefEqProofs (maxSteps:=99999999) (disch:=omega) only[ic98,vu,or_fold,geT h1,leF (Int.not_le.1 h2),geT,geF,leT,leF,iqT,iqF,va,vg,vs,vh,vk,simprocAttr]
    exact tr (by simp;omega)
 ·rcases (by omega : c ≤ 45 ∨ c=46 ∨ c=47 ∨ (48 ≤ c ∧ c ≤ 57) ∨ (58 ≤ c ∧ c ≤ 94) ∨ c=95 ∨ 96 ≤ c) with hr | hr | hr | hr | hr | hr | hr
  all_goals
   simp -implicitDefEqProofs (maxSteps:=99999999) (disch:=omega) only[ic98,vu,or_fold,geF (Int.not_le.1 h1),geT,geF,leT,leF,iqT,iqF,va,vg,vs,vh,vk,simprocAttr]
   exact tr (by simp;omega)
theorem nmQ_no {s : ByteArray} {k : Nat} (h : k < s.data.toList.length) (hb : pSignB s.data.toList[k]=false) : nmQ s=false:=by
 have : s.data.toList.all pSignB=false:=by
  rw[List.all_eq_false]
  exact ⟨_,List.getElem_mem h,by rw[hb];simp⟩
 simp[nmQ,this]
theorem all_upto {s : ByteArray} (h : ∀ j (hj : j < s.data.toList.length),pSignB s.data.toList[j]=true) : s.data.toList.all pSignB=true:=by
 rw[List.all_eq_true]
 intro x hx
 obtain ⟨j,hj,rfl⟩:=List.getElem_of_mem hx
 exact h j hj
theorem getD_B {s : ByteArray} {k : Nat} (h1 : k < s.size) : s.data.getD k 0=nthB s k:=by
 rw[nthB_eq (by rw[bytes_length];exact h1)]
 have : k < s.data.size:=h1
 unfold Array.getD
 rw[dif_pos this]
 rfl
theorem size_ez {s : ByteArray} : s=⟨#[]⟩ ↔ s.size=0:=by
 constructor
 ·rintro rfl;rfl
 ·intro h
  obtain ⟨a⟩:=s
  have : a=#[]:=Array.eq_empty_of_size_eq_zero h
  rw[this]
theorem nmQ_done {s : ByteArray} (h : ∀ j (hj : j < s.data.toList.length),j < s.size→pSignB s.data.toList[j]=true) : nmQ s=(decide (1 ≤ s.size) && decide (s.size ≤ 24)):=by
 have : s.data.toList.all pSignB=true:=all_upto fun j hj=>h j hj (by rw[bytes_length] at hj;exact hj)
 simp[nmQ,this]
set_option maxHeartbeats 0 in
theorem pnameG_d (s : ByteArray) (hl : s.size ≤ 100000000) (H : AHeap) : D Tryz.prog 51 [.sc (.string s)] H (.ret (.sc (.bool (nmQ s)))) H:=by
 have hcl : callable Tryz.prog 98=true:=by kernel_rfl
 refine D_of_DK (Nat.le_refl _) (dk51 (E_of_ES ?_))
 simp only[ic51,ux]
 refine ES_seq_gen fun L hL=>?_
 simp -implicitDefEqProofs (maxSteps:=99999999) (disch:=first | omega | (simp only[vl];first | done | omega)) only[vu,va,vg,vs,vw,vk,simprocAttr]
 refine hL _ _ ?_
 clear hL
 refine ES_seq_gen fun L hL=>?_
 simp -implicitDefEqProofs (maxSteps:=99999999) (disch:=first | omega | (simp only[vl];first | done | omega)) only[vu,va,vg,vs,vw,vk,simprocAttr]
 refine hL _ _ ?_
 clear hL
 refine ES_seq_gen fun L hL=>?_
 refine ES_seq_gen fun L hL=>?_
 simp -implicitDefEqProofs (maxSteps:=99999999) (disch:=first | omega | (simp only[vl];first | done | omega)) only[vu,va,vg,vs,vw,vk,simprocAttr]
 refine hL _ _ ?_
 clear hL
 refine ES_loopL (fun ts F=>∃ k : Nat,(k ≤ s.size ∧ F=H ∧ ∀ j (hj : j < s.data.toList.length),j < k→pSignB s.data.toList[j]=true) ∧ Fr [some (.sc (.string s)),none,none,some (.fn (.func 98) [] []),none,none,some (.sc (.int .i64 s.size)),some (.sc (.int .i64 k)),none,none,none,none,none,none,none,none,none,none,none,none,none,none,none,none] ts) (fun ts _=>s.size - (intV (ts.getD 7 .top)).toNat) ?_ ?_
 ·exact ⟨0,⟨Nat.zero_le _,rfl,fun j _ h=>absurd h (Nat.not_lt_zero _)⟩,by simp[Fr]⟩
 rintro ts F ⟨k,⟨hk,rfl,hp⟩,hfr⟩ L2 hL2
 obtain ⟨js,rfl⟩:=hfr.opened
 clear hfr
 by_cases hd : k < s.size
 ·have d1 : (k : Int) < s.size:=by omega
  have h2 : k < s.data.toList.length:=by rw[bytes_length];exact hd
  have hb0:=getD_B hd
  simp -implicitDefEqProofs (maxSteps:=99999999) (disch:=first | omega | (simp only[vl];first | done | omega)) only[mk,vu,d1,hb0,va,vg,vs,vw,vk,simprocAttr]
  refine ⟨by omega,hcl,callR_ret (goodP_d _ _) ?_⟩
  rw[nthB_eq h2]
  cases hb : pSignB s.data.toList[k] with
  | true =>
   simp -implicitDefEqProofs (maxSteps:=99999999) (disch:=first | omega | (simp only[vl];first | done | omega)) only[vu,va,vg,vs,vw,vk,simprocAttr]
   refine hL2 _ _ ⟨k+1,⟨by omega,rfl,fun j hj h=>?_⟩,by simp[Fr]⟩ (by simp[intV,mk];omega)
   rcases Nat.lt_succ_iff_lt_or_eq.1 h with h' | rfl
   ·exact hp j hj h'
   ·exact hb
  | false =>
   simp -implicitDefEqProofs (maxSteps:=99999999) (disch:=first | omega | (simp only[vl];first | done | omega)) only[vu,va,vg,vs,vw,vk,simprocAttr]
   exact over_bN .refl (nmQ_no h2 hb).symm
 ·have d1 : ¬ (k : Int) < s.size:=by omega
  have hq:=nmQ_done fun j hj h=>hp j hj (by omega)
  simp -implicitDefEqProofs (maxSteps:=99999999) (disch:=first | omega | (simp only[vl];first | done | omega)) only[mk,vu,d1,va,vg,vs,vw,vk,simprocAttr]
  refine hL _ _ ?_
  clear hL
  by_cases e : s=⟨#[]⟩
  ·have h0:=size_ez.1 e
   simp -implicitDefEqProofs (maxSteps:=99999999) (disch:=first | omega | (simp only[vl];first | done | omega)) only[vu,e,va,vg,vs,vw,vk,simprocAttr]
   exact over_bN .refl (by rw[← e,hq];simp[h0])
  ·have h0 : ¬ s.size=0:=fun h=>e (size_ez.2 h)
   by_cases c : (s.size : Int) ≤ 24
   ·simp -implicitDefEqProofs (maxSteps:=99999999) (disch:=first | omega | (simp only[vl];first | done | omega)) only[vu,e,c,va,vg,vs,vw,vk,simprocAttr]
    exact over_bN .refl (by rw[hq];simp;omega)
   ·simp -implicitDefEqProofs (maxSteps:=99999999) (disch:=first | omega | (simp only[vl];first | done | omega)) only[vu,e,c,va,vg,vs,vw,vk,simprocAttr]
    exact over_bN .refl (by rw[hq];simp;omega)
def signsG : ByteArray:=⟨#[97,98,99,100,101,102,103,104,105,106,107,108,109,110,111,112,113,114,115,116,117,118,119,120,121,122,65,66,67,68,69,70,71,72,73,74,75,76,77,78,79,80,81,82,83,84,85,86,87,88,89,90,48,49,50,51,52,53,54,55,56,57,46,95]⟩
theorem signs_allG : ((List.range 256).all fun n=>(decide (firstIdx signsG n.toUInt8 < 0)) == !pSign n)=true:=by kernel_rfl
theorem signs_atG (b : UInt8) : decide (firstIdx signsG b < 0)=!pSignB b:=by
 have h:=List.all_eq_true.1 signs_allG b.toNat (List.mem_range.2 b.toNat_lt)
 simpa [pSignB] using h
theorem oddG_d (b : UInt8) (H : AHeap) : D Tryz.prog 105 [.sc (.int .u8 (b.toNat : Nat))] H (.ret (.sc (.bool (!pSignB b)))) H:=by
 refine D_of_DK (Nat.le_refl _) (dk105 (E_of_ES ?_))
 simp -implicitDefEqProofs (maxSteps:=99999999) (disch:=omega) only[ic105,vu,va,vg,vs,vh,vk,simprocAttr]
 refine callR_ret (sIndex_d signsG _ _) ?_
 simp -implicitDefEqProofs (maxSteps:=99999999) (disch:=omega) only[vu,va,vg,vs,vh,vk,simprocAttr]
 have h:=signs_atG b
 simp only[Int.toNat_natCast,UInt8.ofNat_toNat,Nat.toUInt8] at h ⊢
 rw[h]
 exact weak_sc .refl
theorem snameG_d (s : ByteArray) (hl : s.size ≤ 100000000) (H : AHeap) : D Tryz.prog 57 [.sc (.string s)] H (.ret (.sc (.bool (nmQ s)))) H:=by
 have ec : ∀ l : List UInt8,(!l.any fun b=>!pSignB b)=l.all pSignB:=fun l=>by
  induction l with
  | nil=>rfl
  | cons x r ih=>simp[Bool.not_or,← ih]
 refine D_of_DK (Nat.le_refl _) (dk57 (E_of_ES ?_))
 by_cases c0 : s=⟨#[]⟩
 ·have e : nmQ s=false:=by rw[c0];rfl
  simp -implicitDefEqProofs (maxSteps:=99999999) (disch:=omega) only[ic57,c0,va,vg,vs,vh,vk,simprocAttr]
  rw[← c0,e]
  exact weak_sc .refl
 have h0 : ¬ s.size=0:=fun h=>c0 (size_ez.2 h)
 by_cases c1 : (s.size : Int) ≤ 24
 ·have c1' : s.size ≤ 24:=by omega
  simp -implicitDefEqProofs (maxSteps:=99999999) (disch:=omega) only[ic57,c0,c1,va,vg,vs,vh,vk,simprocAttr]
  refine ⟨hl,callR_ret (containsFuncB_d s none 105 _ _ rfl (fun b=>oddG_d b _) hl) ?_⟩
  simp -implicitDefEqProofs (maxSteps:=99999999) (disch:=omega) only[va,vg,vs,vh,vk,simprocAttr]
  exact over_bN .refl (by rw[ec];simp[nmQ,c1'];omega)
 ·simp -implicitDefEqProofs (maxSteps:=99999999) (disch:=omega) only[ic57,c0,c1,va,vg,vs,vh,vk,simprocAttr]
  exact over_bN .refl (by simp[nmQ];omega)
set_option maxHeartbeats 0 in
theorem lname_d (s : ByteArray) (hl : s.size ≤ 100000000) (H : AHeap) : D Tryz.prog 24 [.sc (.string s)] H (.ret (.sc (.bool (nmQ s)))) H:=by
 refine D_of_DK (Nat.le_refl _) (dk24 (E_of_ES ?_))
 simp only[ic24,ux]
 refine ES_seq_gen fun L hL=>?_
 simp -implicitDefEqProofs (maxSteps:=99999999) (disch:=first | omega | (simp only[vl];first | done | omega)) only[vu,va,vg,vs,vw,vk,simprocAttr]
 refine hL _ _ ?_
 clear hL
 refine ES_seq_gen fun L hL=>?_
 refine ES_seq_gen fun L hL=>?_
 simp -implicitDefEqProofs (maxSteps:=99999999) (disch:=first | omega | (simp only[vl];first | done | omega)) only[vu,va,vg,vs,vw,vk,simprocAttr]
 refine hL _ _ ?_
 clear hL
 refine ES_loopL (fun ts F=>∃ k : Nat,(k ≤ s.size ∧ F=H ∧ ∀ j (hj : j < s.data.toList.length),j < k→pSignB s.data.toList[j]=true) ∧ Fr [some (.sc (.string s)),none,some (.sc (.bool false)),some (.sc (.int .i64 k)),none,none,none,none,none,none,none,none,none,none,none,none,none,none,none,none,none,none,none,none,none,none,none,none,none,none,none,none,none,none,none,none,none,none,none,none,none,none,none,none,none,none,none,none,none,none,none,none,none] ts) (fun ts _=>s.size - (intV (ts.getD 3 .top)).toNat) ?_ ?_
 ·exact ⟨0,⟨Nat.zero_le _,rfl,fun j _ h=>absurd h (Nat.not_lt_zero _)⟩,by simp[Fr]⟩
 rintro ts F ⟨k,⟨hk,rfl,hp⟩,hfr⟩ L2 hL2
 obtain ⟨js,rfl⟩:=hfr.opened
 clear hfr
 by_cases hd : k < s.size
 ·have d1 : (k : Int) < s.size:=by omega
  have h2 : k < s.data.toList.length:=by rw[bytes_length];exact hd
  have hb0:=getD_B hd
  rw[nthB_eq h2] at hb0
  have hN:=(s.data.toList[k]).toNat_lt
  have hsn : pSignB s.data.toList[k]=pSign (s.data.toList[k]).toNat:=rfl
  have hno:=nmQ_no h2
  have hgo : pSignB s.data.toList[k]=true→∀ j (hj : j < s.data.toList.length),j < k+1→pSignB s.data.toList[j]=true:=fun hb j hj h=>by
   rcases Nat.lt_succ_iff_lt_or_eq.1 h with h' | rfl
   ·exact hp j hj h'
   ·exact hb
  generalize s.data.toList[k]=b at *
  rw[hsn] at hno hgo
  obtain ⟨n,hn⟩ : ∃ n : Nat,n=b.toNat:=⟨_,rfl⟩
  rw[← hn] at hN hno hgo
  obtain ⟨c,hc⟩ : ∃ c : Int,c=(b.toNat : Int):=⟨_,rfl⟩
  have hpt : pSign n=true ↔ ((97 ≤ n ∧ n ≤ 122) ∨ (65 ≤ n ∧ n ≤ 90) ∨ (48 ≤ n ∧ n ≤ 57) ∨ n=46 ∨ n=95):=by simp[pSign,or_assoc]
  have hpf : pSign n=false ↔ ¬ ((97 ≤ n ∧ n ≤ 122) ∨ (65 ≤ n ∧ n ≤ 90) ∨ (48 ≤ n ∧ n ≤ 57) ∨ n=46 ∨ n=95):=by rw[← hpt];simp
  rcases (by omega : c ≤ 45 ∨ c=46 ∨ c=47 ∨ (48 ≤ c ∧ c ≤ 57) ∨ (58 ≤ c ∧ c ≤ 64) ∨ (65 ≤ c ∧ c ≤ 90) ∨ (91 ≤ c ∧ c ≤ 94) ∨ c=95 ∨ c=96 ∨ (97 ≤ c ∧ c ≤ 122) ∨ 123 ≤ c) with hr | hr | hr | hr | hr | hr | hr | hr | hr | hr | hr
  all_goals
   simp -implicitDefEqProofs (maxSteps:=99999999) (disch:=first | omega | (simp only[vl];first | done | omega)) only[mk,vu,d1,hb0,← hc,geT,geF,leT,leF,iqT,iqF,va,vg,vs,vw,vk,simprocAttr]
   first
   | exact hL2 _ _ ⟨k+1,⟨by omega,rfl,hgo (hpt.2 (by omega))⟩,by simp[Fr]⟩ (by simp[intV,mk];omega)
   | exact over_bN .refl (hno (hpf.2 (by omega))).symm
 ·have d1 : ¬ (k : Int) < s.size:=by omega
  have hq:=nmQ_done fun j hj h=>hp j hj (by omega)
  simp -implicitDefEqProofs (maxSteps:=99999999) (disch:=first | omega | (simp only[vl];first | done | omega)) only[mk,vu,d1,va,vg,vs,vw,vk,simprocAttr]
  refine hL _ _ ?_
  clear hL
  by_cases c1 : (s.size : Int) ≥ 1
  ·by_cases c : (s.size : Int) ≤ 24
   ·simp -implicitDefEqProofs (maxSteps:=99999999) (disch:=first | omega | (simp only[vl];first | done | omega)) only[vu,c1,c,va,vg,vs,vw,vk,simprocAttr]
    exact over_bN .refl (by rw[hq];simp;omega)
   ·simp -implicitDefEqProofs (maxSteps:=99999999) (disch:=first | omega | (simp only[vl];first | done | omega)) only[vu,c1,c,va,vg,vs,vw,vk,simprocAttr]
    exact over_bN .refl (by rw[hq];simp;omega)
  ·simp -implicitDefEqProofs (maxSteps:=99999999) (disch:=first | omega | (simp only[vl];first | done | omega)) only[vu,c1,va,vg,vs,vw,vk,simprocAttr]
   exact over_bN .refl (by rw[hq];simp;omega)
end Go.Proofs.YtdjnccnecgblmaaGreatDoor
namespace Go.Proofs.YtdjnccnecgblmaaGreatDoor
open Go.RowKit
set_option maxRecDepth 100000
set_option linter.unusedVariables false
set_option linter.unusedSimpArgs false
theorem part_d (l : List Nd) (ro : Option (List AV)) (hz : Nd.sizeL l ≤ 1000000) (H : AHeap) : D Tryz.prog 96 [.lst 4 (ndL l) ro] H (.ret (.sc (.bool (partQ l)))) H:=by
 refine D_of_DK (Nat.le_refl _) (dk96 (E_of_ES ?_))
 simp only[ic96,ux]
 match l,hz with
 | [],_ =>
  simp -implicitDefEqProofs (maxSteps:=99999999) (disch:=first | omega | (simp only[vl];first | done | omega)) only[vu,ndL_nil,va,vg,vs,vw,vk,simprocAttr]
  exact weak_sc .refl
 | [t],hz =>
  have hs : t.size ≤ 1000000:=by simp only[Nd.sizeL] at hz;omega
  have ht:=tright_d t none hs
  rw[ndR_none,ndA_eq] at ht
  simp only[ndL_cons,ndL_nil,ndA_eq]
  simp -implicitDefEqProofs (maxSteps:=99999999) (disch:=first | omega | (simp only[vl];first | done | omega)) only[vu,va,vg,vs,vw,vk,simprocAttr]
  refine callR_ret (ht _) ?_
  simp -implicitDefEqProofs (maxSteps:=99999999) (disch:=first | omega | (simp only[vl];first | done | omega)) only[vu,va,vg,vs,vw,vk,simprocAttr]
  exact over_bN .refl rfl
 | t :: u :: r,_ =>
  have h2 : ¬ ((r.length : Int)+1+1=1):=by omega
  have h3 : ¬ (((r.length+(1+1) : Nat) : Int)=1):=by omega
  have h4 : ¬ (((r.length+2 : Nat) : Int)=1):=by omega
  simp -implicitDefEqProofs (maxSteps:=99999999) (disch:=first | omega | (simp only[vl];first | done | omega)) only[vu,ndL_length,h2,h3,h4,va,vg,vs,vw,vk,simprocAttr]
  exact weak_sc .refl
set_option maxHeartbeats 0 in
theorem copE_d (l : List Nd) (hl : l.length ≤ 1) (ro : Option (List AV)) (hz : Nd.sizeL l ≤ 1000000) (H : AHeap) : D Tryz.prog 189 [.lst 4 (ndL l) ro] H (.ret (.lst 4 (ndL l) none)) H:=by
 refine D_of_DK (Nat.le_refl _) (dk189 (E_of_ES ?_))
 simp only[ic189,ux]
 match l,hl,hz with
 | [],_,_ =>
  refine ES_seq_gen fun L hL=>?_
  simp -implicitDefEqProofs (maxSteps:=99999999) (disch:=first | omega | (simp only[vl];first | done | omega)) only[vu,ndL_nil,va,vg,vs,vw,vk,simprocAttr]
  refine hL _ _ ?_
  clear hL
  refine ES_seq_gen fun L hL=>?_
  simp -implicitDefEqProofs (maxSteps:=99999999) (disch:=first | omega | (simp only[vl];first | done | omega)) only[vu,ndL_nil,va,vg,vs,vw,vk,simprocAttr]
  refine hL _ _ ?_
  clear hL
  refine ES_seq_gen fun L hL=>?_
  refine ES_seq_gen fun L hL=>?_
  simp -implicitDefEqProofs (maxSteps:=99999999) (disch:=first | omega | (simp only[vl];first | done | omega)) only[vu,ndL_nil,va,vg,vs,vw,vk,simprocAttr]
  refine hL _ _ ?_
  clear hL
  refine ES_unroll (.s .o) (Lp_next fun L2 hL2=>?_)
  simp -implicitDefEqProofs (maxSteps:=99999999) (disch:=first | omega | (simp only[vl];first | done | omega)) only[vu,ndL_nil,va,vg,vs,vw,vk,simprocAttr]
  refine hL _ _ ?_
  clear hL
  simp -implicitDefEqProofs (maxSteps:=99999999) (disch:=first | omega | (simp only[vl];first | done | omega)) only[vu,ndL_nil,va,vg,vs,vw,vk,simprocAttr]
  exact weak_over .refl .nil
 | [t],_,hz =>
  have hs : t.size ≤ 1000000:=by simp only[Nd.sizeL] at hz;omega
  have hg : ∀ H,D Tryz.prog 208 [ndR t none,.lst 0 [] (some [])] H (.ret (getV t [])) H:=fun H=>D_le (.cons .refl (.cons .nil .nil)) (get_d t hs [] (by simp) none H)
  have hv : getV t [] = .tup [ndA t,.sc (.bool true)]:=by simp[getV,getN]
  rw[hv,ndR_none,ndA_eq] at hg
  simp only[ndL_cons,ndL_nil,ndA_eq]
  refine ES_seq_gen fun L hL=>?_
  simp -implicitDefEqProofs (maxSteps:=99999999) (disch:=first | omega | (simp only[vl];first | done | omega)) only[vu,va,vg,vs,vw,vk,simprocAttr]
  refine hL _ _ ?_
  clear hL
  refine ES_seq_gen fun L hL=>?_
  simp -implicitDefEqProofs (maxSteps:=99999999) (disch:=first | omega | (simp only[vl];first | done | omega)) only[vu,va,vg,vs,vw,vk,simprocAttr]
  refine hL _ _ ?_
  clear hL
  refine ES_seq_gen fun L hL=>?_
  refine ES_seq_gen fun L hL=>?_
  simp -implicitDefEqProofs (maxSteps:=99999999) (disch:=first | omega | (simp only[vl];first | done | omega)) only[vu,va,vg,vs,vw,vk,simprocAttr]
  refine hL _ _ ?_
  clear hL
  refine ES_unroll (.s (.s .o)) (Lp_next fun L2 hL2=>?_)
  simp -implicitDefEqProofs (maxSteps:=99999999) (disch:=first | omega | (simp only[vl];first | done | omega)) only[vu,va,vg,vs,vw,vk,simprocAttr]
  refine callR_ret (hg _) ?_
  simp -implicitDefEqProofs (maxSteps:=99999999) (disch:=first | omega | (simp only[vl];first | done | omega)) only[vu,va,vg,vs,vw,vk,simprocAttr]
  refine hL2 _ _ ?_
  clear hL2
  refine Lp_next fun L2 hL2=>?_
  simp -implicitDefEqProofs (maxSteps:=99999999) (disch:=first | omega | (simp only[vl];first | done | omega)) only[vu,va,vg,vs,vw,vk,simprocAttr]
  refine hL _ _ ?_
  clear hL
  simp -implicitDefEqProofs (maxSteps:=99999999) (disch:=first | omega | (simp only[vl];first | done | omega)) only[vu,va,vg,vs,vw,vk,simprocAttr]
  refine weak_frz (fun i hi=>by repeat rw[find_past (by first | omega | (simp only[List.length_cons];omega))]) (.vec (by unfold newId;rw[if_neg (by omega)];rfl) (find_top (by simp)) rfl (by simp) (.cons ?_ .nil))
  have:=ndA_gz (H1:=some (⟨4,[.agg [.sc (.int .u8 t.kind),.sc (.string t.text),.sc (.int .i64 t.num),.lst 4 (ndL t.kids) none]],false,143⟩ : ABlk) :: some ⟨4,[.agg [.sc (.int .u8 t.kind),.sc (.string t.text),.sc (.int .i64 t.num),.lst 4 (ndL t.kids) none]],true,143⟩ :: some ⟨4,[.agg [.sc (.int .u8 t.kind),.sc (.string t.text),.sc (.int .i64 t.num),.lst 4 (ndL t.kids) none]],true,143⟩ :: H) (n0:=H.length) (src:=[]) t
  rwa [ndA_eq] at this
 | t :: u :: r,hl,_=>simp at hl
def Ed.sm (e : Ed) : Prop:=e.path.length ≤ 2000000 ∧ e.fr.size ≤ 100000000 ∧ e.to_.size ≤ 100000000 ∧ Nd.sizeL e.old ≤ 1000000 ∧ Nd.sizeL e.new ≤ 1000000 ∧ Nd.wtL e.old ≤ 2000000 ∧ Nd.wtL e.new ≤ 2000000
def Pa.sm (p : Pa) : Prop:=p.file.size ≤ 100000000 ∧ p.text.size ≤ 100000000 ∧ p.h.short ∧ p.e.sm
set_option maxHeartbeats 0 in
theorem psame_d (p q : Pa) (hp : p.sm) (H : AHeap) : D Tryz.prog 52 [paV p,paV q] H (.ret (.sc (.bool (sameP p q)))) H:=by
 obtain ⟨h1,h2,h3,h4⟩:=hp
 obtain ⟨g1,g2,g3,g4,g5,g6,g7⟩:=h4
 have e1:=fun H=>equal_d p.h.old q.h.old none none H h3.1.1
 have e2:=fun H=>equal_d p.h.new q.h.new none none H h3.2.1
 have e3:=fun H=>equalI_d p.e.path q.e.path none none H (by omega)
 have e4:=fun H=>equalF_of p.e.old g4 (fun a ha b H=>same_d a (by have:=Nd.sizeL_mem ha;omega) b none none H) q.e.old none none H
 have e5:=fun H=>equalF_of p.e.new g5 (fun a ha b H=>same_d a (by have:=Nd.sizeL_mem ha;omega) b none none H) q.e.new none none H
 have hS : sameP p q=(decide (p.k=q.k) && (decide (p.file=q.file) && (decide (p.text=q.text) && ((decide (p.h.at_=q.h.at_) && (decide (p.h.old=q.h.old) && decide (p.h.new=q.h.new))) && (decide (p.e.k=q.e.k) && (decide (p.e.path=q.e.path) && (decide (p.e.at_=q.e.at_) && (decide (p.e.far=q.e.far) && (decide (p.e.fr=q.e.fr) && (decide (p.e.to_=q.e.to_) && (sameL p.e.old q.e.old && sameL p.e.new q.e.new))))))))))):=rfl
 refine D_of_DK (Nat.le_refl _) (dk52 (E_of_ES ?_))
 simp only[ic52,ux]
 refine ES_seq_gen fun L hL=>?_
 simp -implicitDefEqProofs (maxSteps:=99999999) (disch:=first | omega | (simp only[vl];first | done | omega)) only[vu,va,vg,vs,vw,vk,simprocAttr]
 refine hL _ _ ?_
 clear hL
 refine ES_seq_gen fun L hL=>?_
 simp -implicitDefEqProofs (maxSteps:=99999999) (disch:=first | omega | (simp only[vl];first | done | omega)) only[vu,va,vg,vs,vw,vk,simprocAttr]
 refine hL _ _ ?_
 clear hL
 refine ES_seq_gen fun L hL=>?_
 by_cases c1 : p.k=q.k
 rotate_left
 ·simp -implicitDefEqProofs (maxSteps:=99999999) (disch:=first | omega | (simp only[vl];first | done | omega)) only[vu,c1,va,vg,vs,vw,vk,simprocAttr]
  exact over_bN (by repeat constructor) (by rw[hS];simp[c1])
 by_cases c2 : p.file=q.file
 rotate_left
 ·simp -implicitDefEqProofs (maxSteps:=99999999) (disch:=first | omega | (simp only[vl];first | done | omega)) only[vu,c1,c2,va,vg,vs,vw,vk,simprocAttr]
  exact over_bN (by repeat constructor) (by rw[hS];simp[c2])
 by_cases c3 : p.text=q.text
 rotate_left
 ·simp -implicitDefEqProofs (maxSteps:=99999999) (disch:=first | omega | (simp only[vl];first | done | omega)) only[vu,c1,c2,c3,va,vg,vs,vw,vk,simprocAttr]
  exact over_bN (by repeat constructor) (by rw[hS];simp[c3])
 by_cases c4 : p.h.at_=q.h.at_
 rotate_left
 ·simp -implicitDefEqProofs (maxSteps:=99999999) (disch:=first | omega | (simp only[vl];first | done | omega)) only[vu,c1,c2,c3,c4,va,vg,vs,vw,vk,simprocAttr]
  exact over_bN (by repeat constructor) (by rw[hS];simp[c4])
 by_cases c5 : p.e.k=q.e.k
 rotate_left
 ·simp -implicitDefEqProofs (maxSteps:=99999999) (disch:=first | omega | (simp only[vl];first | done | omega)) only[vu,c1,c2,c3,c4,c5,va,vg,vs,vw,vk,simprocAttr]
  exact over_bN (by repeat constructor) (by rw[hS];simp[c5])
 by_cases c6 : p.e.at_=q.e.at_
 rotate_left
 ·simp -implicitDefEqProofs (maxSteps:=99999999) (disch:=first | omega | (simp only[vl];first | done | omega)) only[vu,c1,c2,c3,c4,c5,c6,va,vg,vs,vw,vk,simprocAttr]
  exact over_bN (by repeat constructor) (by rw[hS];simp[c6])
 by_cases c7 : p.e.far=q.e.far
 rotate_left
 ·simp -implicitDefEqProofs (maxSteps:=99999999) (disch:=first | omega | (simp only[vl];first | done | omega)) only[vu,c1,c2,c3,c4,c5,c6,c7,va,vg,vs,vw,vk,simprocAttr]
  exact over_bN (by repeat constructor) (by rw[hS];simp[c7])
 by_cases c8 : p.e.fr=q.e.fr
 rotate_left
 ·simp -implicitDefEqProofs (maxSteps:=99999999) (disch:=first | omega | (simp only[vl];first | done | omega)) only[vu,c1,c2,c3,c4,c5,c6,c7,c8,va,vg,vs,vw,vk,simprocAttr]
  exact over_bN (by repeat constructor) (by rw[hS];simp[c8])
 by_cases c9 : p.e.to_=q.e.to_
 rotate_left
 ·simp -implicitDefEqProofs (maxSteps:=99999999) (disch:=first | omega | (simp only[vl];first | done | omega)) only[vu,c1,c2,c3,c4,c5,c6,c7,c8,c9,va,vg,vs,vw,vk,simprocAttr]
  exact over_bN (by repeat constructor) (by rw[hS];simp[c9])
 simp -implicitDefEqProofs (maxSteps:=99999999) (disch:=first | omega | (simp only[vl];first | done | omega)) only[vu,c1,c2,c3,c4,c5,c6,c7,c8,c9,va,vg,vs,vw,vk,simprocAttr]
 refine hL _ _ ?_
 clear hL
 simp -implicitDefEqProofs (maxSteps:=99999999) (disch:=first | omega | (simp only[vl];first | done | omega)) only[vu,va,vg,vs,vw,vk,simprocAttr]
 refine callR_ret (e1 _) ?_
 by_cases d1 : p.h.old=q.h.old
 rotate_left
 ·simp -implicitDefEqProofs (maxSteps:=99999999) (disch:=first | omega | (simp only[vl];first | done | omega)) only[vu,d1,va,vg,vs,vw,vk,simprocAttr]
  exact over_bN (by repeat constructor) (by rw[hS];simp[d1])
 simp -implicitDefEqProofs (maxSteps:=99999999) (disch:=first | omega | (simp only[vl];first | done | omega)) only[vu,d1,va,vg,vs,vw,vk,simprocAttr]
 refine callR_ret (e2 _) ?_
 by_cases d2 : p.h.new=q.h.new
 rotate_left
 ·simp -implicitDefEqProofs (maxSteps:=99999999) (disch:=first | omega | (simp only[vl];first | done | omega)) only[vu,d2,va,vg,vs,vw,vk,simprocAttr]
  exact over_bN (by repeat constructor) (by rw[hS];simp[d2])
 simp -implicitDefEqProofs (maxSteps:=99999999) (disch:=first | omega | (simp only[vl];first | done | omega)) only[vu,d2,va,vg,vs,vw,vk,simprocAttr]
 refine callR_ret (e3 _) ?_
 by_cases d3 : p.e.path=q.e.path
 rotate_left
 ·simp -implicitDefEqProofs (maxSteps:=99999999) (disch:=first | omega | (simp only[vl];first | done | omega)) only[vu,d3,va,vg,vs,vw,vk,simprocAttr]
  exact over_bN (by repeat constructor) (by rw[hS];simp[d3])
 simp -implicitDefEqProofs (maxSteps:=99999999) (disch:=first | omega | (simp only[vl];first | done | omega)) only[vu,d3,va,vg,vs,vw,vk,simprocAttr]
 refine callR_ret (e4 _) ?_
 cases d4 : sameL p.e.old q.e.old with
 | false =>
  simp -implicitDefEqProofs (maxSteps:=99999999) (disch:=first | omega | (simp only[vl];first | done | omega)) only[vu,d4,va,vg,vs,vw,vk,simprocAttr]
  exact over_bN (by repeat constructor) (by rw[hS];simp[d4])
 | true =>
  simp -implicitDefEqProofs (maxSteps:=99999999) (disch:=first | omega | (simp only[vl];first | done | omega)) only[vu,d4,va,vg,vs,vw,vk,simprocAttr]
  refine callR_ret (e5 _) ?_
  simp -implicitDefEqProofs (maxSteps:=99999999) (disch:=first | omega | (simp only[vl];first | done | omega)) only[vu,va,vg,vs,vw,vk,simprocAttr]
  exact over_bN (by repeat constructor) (by rw[hS];simp[c1,c2,c3,c4,c5,c6,c7,c8,c9,d1,d2,d3,d4])
end Go.Proofs.YtdjnccnecgblmaaGreatDoor
