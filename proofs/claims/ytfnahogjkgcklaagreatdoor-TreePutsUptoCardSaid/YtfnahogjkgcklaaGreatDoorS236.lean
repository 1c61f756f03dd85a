import Derived.Test.YtfnahogjkgcklaaGreatDoorS235
import Derived.Test.YtfnahogjkgcklaaGreatDoorIc45
namespace Go.Proofs.YtfnahogjkgcklaaGreatDoor
open Go.RowKit
set_option maxRecDepth 100000
set_option linter.unusedVariables false
set_option linter.unusedSimpArgs false
def or32 (k : Int) : Int:=IntKind.u8.wrap ↑(BitVec.ofInt IntKind.u8.bits k ||| BitVec.ofInt IntKind.u8.bits 32).toNat
theorem or32_eq (k : Int) : IntKind.u8.wrap ↑(BitVec.ofInt IntKind.u8.bits k ||| BitVec.ofInt IntKind.u8.bits 32).toNat=or32 k:=rfl
def letP (k : Int) : Bool:=decide (97 ≤ or32 k ∧ or32 k ≤ 122) || decide (k=95)
def letQ (k : Int) : Bool:=decide (97 ≤ k ∧ k ≤ 122) || decide (65 ≤ k ∧ k ≤ 90) || decide (k=95)
def digQ (k : Int) : Bool:=decide (48 ≤ k ∧ k ≤ 57)
theorem let_same {k : Int} (h0 : 0 ≤ k) (h1 : k < 256) : letP k=letQ k:=by
 have h : ∀ n : Fin 256,letP (n.val : Int)=letQ (n.val : Int):=by decide +kernel
 have:=h ⟨k.toNat,by omega⟩
 rwa [show ((k.toNat : Nat) : Int)=k by omega] at this
theorem letter_d (k : Int) (H : AHeap) : D Tryz.prog 121 [.sc (.int .u8 k)] H (.ret (.sc (.bool (letP k)))) H:=by
 refine D_of_DK (Nat.le_refl _) (dk121 (E_of_ES ?_))
 simp only[ic121,ux]
 by_cases g3 : k=95
 ·subst g3
  have g1 : or32 95 ≥ 97:=by decide +kernel
  have g2 : ¬ or32 95 ≤ 122:=by decide +kernel
  simp -implicitDefEqProofs (maxSteps:=99999999) (disch:=first | omega | (simp only[vl];first | done | omega)) only[vu,or32_eq,g1,g2,va,vg,vs,vw,vk,simprocAttr]
  exact over_bN .refl (by simp[letP])
 by_cases g1 : or32 k ≥ 97
 ·by_cases g2 : or32 k ≤ 122
  ·simp -implicitDefEqProofs (maxSteps:=99999999) (disch:=first | omega | (simp only[vl];first | done | omega)) only[vu,or32_eq,g1,g2,va,vg,vs,vw,vk,simprocAttr]
   exact over_bN .refl (by simp[letP,g1,g2])
  ·simp -implicitDefEqProofs (maxSteps:=99999999) (disch:=first | omega | (simp only[vl];first | done | omega)) only[vu,or32_eq,g1,g2,g3,va,vg,vs,vw,vk,simprocAttr]
   exact over_bN .refl (by simp[letP,g2,g3])
 ·have g2 : ¬ 97 ≤ or32 k:=g1
  simp -implicitDefEqProofs (maxSteps:=99999999) (disch:=first | omega | (simp only[vl];first | done | omega)) only[vu,or32_eq,g1,g3,va,vg,vs,vw,vk,simprocAttr]
  exact over_bN .refl (by simp[letP,g2,g3])
theorem wordy_d (k : Int) (H : AHeap) : D Tryz.prog 123 [.sc (.int .u8 k)] H (.ret (.sc (.bool (letP k || digQ k)))) H:=by
 refine D_of_DK (Nat.le_refl _) (dk123 (E_of_ES ?_))
 simp only[ic123,ux]
 simp -implicitDefEqProofs (maxSteps:=99999999) (disch:=first | omega | (simp only[vl];first | done | omega)) only[vu,va,vg,vs,vw,vk,simprocAttr]
 refine callR_ret (letter_d _ _) ?_
 cases h : letP k
 ·by_cases g1 : k ≥ 48
  ·by_cases g2 : k ≤ 57
   ·simp -implicitDefEqProofs (maxSteps:=99999999) (disch:=first | omega | (simp only[vl];first | done | omega)) only[vu,g1,g2,va,vg,vs,vw,vk,simprocAttr]
    exact over_bN .refl (by simp[digQ,g2];omega)
   ·simp -implicitDefEqProofs (maxSteps:=99999999) (disch:=first | omega | (simp only[vl];first | done | omega)) only[vu,g1,g2,va,vg,vs,vw,vk,simprocAttr]
    exact over_bN .refl (by simp[digQ,g2])
  ·simp -implicitDefEqProofs (maxSteps:=99999999) (disch:=first | omega | (simp only[vl];first | done | omega)) only[vu,g1,va,vg,vs,vw,vk,simprocAttr]
   exact over_bN .refl (by simp[digQ];omega)
 ·simp -implicitDefEqProofs (maxSteps:=99999999) (disch:=first | omega | (simp only[vl];first | done | omega)) only[vu,va,vg,vs,vw,vk,simprocAttr]
  exact over_bN .refl rfl
theorem letterR_d (k : Int) (H : AHeap) : D Tryz.prog 138 [.sc (.int .u8 k)] H (.ret (.sc (.bool (letQ k)))) H:=by
 refine D_of_DK (Nat.le_refl _) (dk138 (E_of_ES ?_))
 simp only[ic138,ux]
 by_cases g1 : k ≥ 97
 ·by_cases g2 : k ≤ 122
  ·simp -implicitDefEqProofs (maxSteps:=99999999) (disch:=first | omega | (simp only[vl];first | done | omega)) only[vu,g1,g2,va,vg,vs,vw,vk,simprocAttr]
   exact over_bN .refl (by simp[letQ,g2];omega)
  ·have g3 : k ≥ 65:=by omega
   have g4 : ¬ k ≤ 90:=by omega
   have g5 : ¬ k=95:=by omega
   simp -implicitDefEqProofs (maxSteps:=99999999) (disch:=first | omega | (simp only[vl];first | done | omega)) only[vu,g1,g2,g3,g4,g5,va,vg,vs,vw,vk,simprocAttr]
   exact over_bN .refl (by simp[letQ,g2,g4,g5])
 ·by_cases g3 : k ≥ 65
  ·by_cases g4 : k ≤ 90
   ·simp -implicitDefEqProofs (maxSteps:=99999999) (disch:=first | omega | (simp only[vl];first | done | omega)) only[vu,g1,g3,g4,va,vg,vs,vw,vk,simprocAttr]
    exact over_bN .refl (by simp[letQ,g4];omega)
   ·by_cases g5 : k=95
    ·simp -implicitDefEqProofs (maxSteps:=99999999) (disch:=first | omega | (simp only[vl];first | done | omega)) only[vu,g1,g3,g4,g5,va,vg,vs,vw,vk,simprocAttr]
     exact over_bN .refl (by simp[letQ,g5])
    ·simp -implicitDefEqProofs (maxSteps:=99999999) (disch:=first | omega | (simp only[vl];first | done | omega)) only[vu,g1,g3,g4,g5,va,vg,vs,vw,vk,simprocAttr]
     exact over_bN .refl (by simp[letQ,g4,g5];omega)
  ·have g5 : ¬ k=95:=by omega
   simp -implicitDefEqProofs (maxSteps:=99999999) (disch:=first | omega | (simp only[vl];first | done | omega)) only[vu,g1,g3,g5,va,vg,vs,vw,vk,simprocAttr]
   exact over_bN .refl (by simp[letQ,g5];omega)
theorem digitR_d (k : Int) (H : AHeap) : D Tryz.prog 141 [.sc (.int .u8 k)] H (.ret (.sc (.bool (digQ k)))) H:=by
 refine D_of_DK (Nat.le_refl _) (dk141 (E_of_ES ?_))
 simp only[ic141,ux]
 by_cases g1 : k ≥ 48
 ·by_cases g2 : k ≤ 57
  ·simp -implicitDefEqProofs (maxSteps:=99999999) (disch:=first | omega | (simp only[vl];first | done | omega)) only[vu,g1,g2,va,vg,vs,vw,vk,simprocAttr]
   exact over_bN .refl (by simp[digQ,g2];omega)
  ·simp -implicitDefEqProofs (maxSteps:=99999999) (disch:=first | omega | (simp only[vl];first | done | omega)) only[vu,g1,g2,va,vg,vs,vw,vk,simprocAttr]
   exact over_bN .refl (by simp[digQ,g2])
 ·simp -implicitDefEqProofs (maxSteps:=99999999) (disch:=first | omega | (simp only[vl];first | done | omega)) only[vu,g1,va,vg,vs,vw,vk,simprocAttr]
  exact over_bN .refl (by simp[digQ];omega)
def wordsL : List ByteArray:=[⟨#[102,117,110,99]⟩,⟨#[118,97,114]⟩,⟨#[105,102]⟩,⟨#[101,108,115,101]⟩,⟨#[119,104,105,108,101]⟩,⟨#[114,101,116,117,114,110]⟩,⟨#[112,114,105,110,116]⟩,⟨#[116,114,117,101]⟩,⟨#[102,97,108,115,101]⟩,⟨#[108,101,110]⟩,⟨#[114,101,97,100]⟩]
theorem wordsR_d (H : AHeap) : D Tryz.prog 140 [] H (.ret (.lst 1 (strs wordsL) (some []))) H:=by
 refine D_of_DK (Nat.le_refl _) (dk140 (E_of_ES ?_))
 simp only[ic140,ux]
 simp -implicitDefEqProofs (maxSteps:=99999999) (disch:=first | omega | (simp only[vl];first | done | omega)) only[vu,va,vg,vs,vw,vk,simprocAttr]
 exact weak_over .refl (.same ⟨⟨trivial,trivial,trivial,trivial,trivial,trivial,trivial,trivial,trivial,trivial,trivial,trivial⟩,trivial⟩)
end Go.Proofs.YtfnahogjkgcklaaGreatDoor
