/- The bag: what is put into it; all its rows are looked at. -/
import Derived.Test.YtigmpablpmanpaaDoorS38
import Derived.Test.YtigmpablpmanpaaDoorS45
import Derived.Test.YtigmpablpmanpaaDoorVE
namespace Go.Proofs.YtigmpablpmanpaaDoor
open Go.RowKit
set_option maxRecDepth 100000
set_option linter.unusedVariables false
set_option linter.unusedSimpArgs false
abbrev nilA : AV := .lst 0 [] (some [])
/-- The bag, with rows of texts and rows of hunks. -/
abbrev bagB (t h : AV) : ABlk := ⟨21,[.agg [nilA,nilA,nilA,nilA,t,nilA,nilA,nilA,nilA,nilA,nilA,nilA,h,nilA,nilA,nilA,nilA,nilA,nilA,nilA,nilA]],true,78⟩
abbrev tT : TypeId := 22
abbrev tH : TypeId := 28
theorem flatTexts_o {H : AHeap} {os : List ORow} {it : Nat} (hls : os ≠ [] → AHeap.find H it = OwnB 1 tT (ownRows 1 os)) (ok : OwnsOK shT H os) (hlid : it ∉ ownIds os) (hN : os.length ≤ 1000000) :
  D Tryd.prog 40 [OwnV 1 (ownRows 1 os) it] H (.ret (.sc (.bool true))) (killIds (if os = [] then [] else it :: ownIds os) H) := by
 by_cases e : os = []
 ·subst e
  rw [if_pos rfl]
  exact flat40_nil H
 ·rw [if_neg e]
  have hne : ownRows 1 os ≠ [] := fun h => e (by simpa [ownRows] using h)
  have h := hls e
  rw [OwnB_ne hne] at h
  rw [OwnV_ne hne,ownRows_length]
  exact flat_own shT (fun H rs lid exl lty cl h1 h2 h3 h4 => flatTexts_e H rs lid exl lty cl h1 h2 h3 h4) h ok hlid hN
theorem flatHunks_o {H : AHeap} {os : List ORow} {it : Nat} (hls : os ≠ [] → AHeap.find H it = OwnB 1 tH (ownRows 3 os)) (ok : OwnsOK shH H os) (hlid : it ∉ ownIds os) (hN : os.length ≤ 1000000) :
  D Tryd.prog 48 [OwnV 1 (ownRows 3 os) it] H (.ret (.sc (.bool true))) (killIds (if os = [] then [] else it :: ownIds os) H) := by
 by_cases e : os = []
 ·subst e
  rw [if_pos rfl]
  exact flat48_nil H
 ·rw [if_neg e]
  have hne : ownRows 3 os ≠ [] := fun h => e (by simpa [ownRows] using h)
  have h := hls e
  rw [OwnB_ne hne] at h
  rw [OwnV_ne hne,ownRows_length]
  exact flat_own shH (fun H rs lid exl lty cl h1 h2 h3 h4 => flatHunks_e H rs lid exl lty cl h1 h2 h3 h4) h ok hlid hN
theorem putTexts_d (F : AHeap) (bid it : Nat) (tx : List AV) (hs v : AV) (hb : AHeap.find F bid = some (bagB (OwnV 1 tx it) hs)) (ht : tx ≠ [] → AHeap.find F it = OwnB 1 tT tx) (hne : it ≠ bid) (hl : tx.length ≤ 10000000) (hv : v.isTop = false ∧ v.ncells = 1 ∧ v.isAgg = false) :
  D Tryd.prog 58 [.ptr 21 bid 0 0,v] F (.ret (.tup [])) (OwnB 1 tT (tx ++ [v]) :: AHeap.set (killO tx it F) bid (some (bagB (OwnV 1 (tx ++ [v]) F.length) hs))) := by
 have hbl := AHeap.find_lt hb
 have hc : v.cells = [v] := by cases v <;> first | rfl | (simp [AV.isAgg] at hv)
 refine D_of_DK (by simp [AHeap.set_length,killO_length]) (dk58 (E_of_ES ?_))
 cases tx with
 | nil =>
  have hO : OwnV 1 [] it = nilA := rfl
  have hO2 : OwnV 1 ([] ++ [v]) F.length = .vec 1 F.length 0 1 none := rfl
  have hB2 : OwnB 1 tT ([] ++ [v]) = some ⟨1,[v],false,tT⟩ := rfl
  have hK : killO [] it F = F := rfl
  rw [hO] at hb
  rw [hO2,hB2,hK]
  simp -implicitDefEqProofs (maxSteps := 99999999) (disch := first | omega | (simp only [AHeap.set_length,killO_length,List.length_cons,List.length_nil]; first | done | omega)) only [ic58,hb,hv,hc,va,vg,vs,vw,Nat.reduceMul,ite_true,ite_false,eq_self,forall_const,implies_true,Nat.reduceAdd,Nat.reduceSub,Nat.reduceLT,Nat.reduceLeDiff,↓reduceIte,reduceCtorEq,Int.reduceEq,Int.reduceLT,Int.reduceLE,Int.reduceGT,Int.reduceGE,Int.reduceAdd,Int.reduceSub,Int.reduceNeg,Int.reduceToNat,Nat.reduceBEq,Nat.reduceEqDiff]
  exact Weak.refl _ _ _
 | cons x r =>
  have hO : OwnV 1 (x :: r) it = .vec 1 it 0 (r.length + 1) none := rfl
  have hO2 : OwnV 1 ((x :: r) ++ [v]) F.length = .vec 1 F.length 0 (r.length + 1 + 1) none := by simp [OwnV]
  have hB : AHeap.find F it = some ⟨1,x :: r,false,tT⟩ := ht (by simp)
  have hB2 : OwnB 1 tT ((x :: r) ++ [v]) = some ⟨1,x :: (r ++ [v]),false,tT⟩ := rfl
  have hK : killO (x :: r) it F = AHeap.set F it none := rfl
  have hil := AHeap.find_lt hB
  rw [hO] at hb
  rw [hO2,hB2,hK]
  simp only [List.length_cons] at hl
  have hl2 : r.length + (1 + 1) ≤ 100000000 := by omega
  simp -implicitDefEqProofs (maxSteps := 99999999) (disch := first | omega | (simp only [AHeap.set_length,killO_length,List.length_cons,List.length_nil]; first | done | omega)) only [ic58,hb,hB,hv,hc,va,vg,vs,vw,Nat.reduceMul,ite_true,ite_false,eq_self,forall_const,implies_true,Nat.reduceAdd,Nat.reduceSub,Nat.reduceLT,Nat.reduceLeDiff,↓reduceIte,reduceCtorEq,Int.reduceEq,Int.reduceLT,Int.reduceLE,Int.reduceGT,Int.reduceGE,Int.reduceAdd,Int.reduceSub,Int.reduceNeg,Int.reduceToNat,Nat.reduceBEq,Nat.reduceEqDiff]
  exact ⟨by omega,Weak.refl _ _ _⟩
end Go.Proofs.YtigmpablpmanpaaDoor
