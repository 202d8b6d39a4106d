import Derived.Test.YtfgljddikcghhaaDoorVzRead
namespace Go.Proofs.YtfgljddikcghhaaDoor
open Go.RowKit
variable [Globs]
set_option linter.unusedSectionVars false
set_option linter.unusedVariables false
set_option linter.unusedSimpArgs false

theorem one_set {a b : TV} : (List.replicate 1 a).set 0 b = [b] := by simp
theorem take_one' {b : TV} : [b].take 1 = [b] := by simp
theorem len_one {b : TV} : [b].length = 1 := by simp
/-- A row of bytes of one's own, or none yet. -/
def Row8 (H : List Ob) (r : TV) (l : List UInt8) : Option Nat → Prop
 | none => r = .val (.slice none 0 0) ∧ l = []
 | some j => ∃ v, r = .os 1 j v [] 0 l.length l.length ∧ H[j]? = some (.obj v (.arr l.length 1 (l.map by8)))
theorem putV {id : Nat} {inn l : List UInt8} {held count : Nat} {most : Int} {o w : TV} {b : UInt8} {H : List Ob} {J : Option Nat} (h : H[id]? = some (rdr inn held count o (i64 most) w)) (hr : Row8 H o l J) (hJ : J ≠ some id) (hl : l.length ≤ 1000000) (hm : -9223372036854775808 ≤ most ∧ most ≤ 9223372036854775807) :
  VCallsP Tryd.prog 25 [.op id 0 [], by8 b] H
   (fun x H' => (l.length : Int) < most ∧ ∃ o' j, H'[id]? = some (rdr inn held count o' (i64 most) w) ∧ Row8 H' o' (l ++ [b]) (some j) ∧ j ≠ id ∧ (J = some j ∨ H.length ≤ j) ∧ (∀ i, i < H.length → i ≠ id → J ≠ some i → H'[i]? = H[i]?) ∧ H.length ≤ H'.length)
   (fun u H' => most ≤ (l.length : Int) ∧ u = longE ∧ H' = H) := by
 have hid : id < H.length := (List.getElem?_eq_some_iff.1 h).1
 refine gp_deflate_reader_put (by simp) ?_
 cases J with
 | none =>
  obtain ⟨rfl, rfl⟩ := hr
  by_cases hlm : most ≤ 0
  ·simp -dsimp (disch := first | assumption | omega | (simp only [vmLen]; done) | (simp only [vmLen]; omega)) only [↓vmPre, vmPost, vmWrd, vmDat, eq_self, forall_const, Nat.reduceLT, Nat.reduceEqDiff, Nat.reduceSub, Nat.reduceMul, Nat.reduceMod, Nat.reduceDiv, Nat.reducePow, UInt8.reduceToNat, Int.reduceEq, Int.reduceLT, Int.reduceLE, ↓reduceIte, Nat.reduceAdd, Int.reduceToNat, reduceCtorEq, Nat.reduceLeDiff, ↓u_deflate_reader_put, h]
   exact ⟨by simpa using hlm, rfl⟩
  ·simp -dsimp (disch := first | assumption | omega | (simp only [vmLen]; done) | (simp only [vmLen]; omega)) only [↓vmPre, vmPost, vmWrd, vmDat, eq_self, forall_const, Nat.reduceLT, Nat.reduceEqDiff, Nat.reduceSub, Nat.reduceMul, Nat.reduceMod, Nat.reduceDiv, Nat.reducePow, UInt8.reduceToNat, Int.reduceEq, Int.reduceLT, Int.reduceLE, ↓reduceIte, Nat.reduceAdd, Int.reduceToNat, reduceCtorEq, Nat.reduceLeDiff, ↓u_deflate_reader_put, h, one_set, take_one', len_one]
   refine ⟨by simpa using hlm, _, H.length + 1, rfl, ⟨1, rfl, ?_⟩, by omega, .inr (by omega), fun i hi hn _ => ?_, by omega⟩
   ·rw [List.getElem?_append_right (by simp)]; simp
   ·rw [List.append_assoc, List.getElem?_append_left (by simpa using hi), List.getElem?_set_ne (Ne.symm hn)]
 | some j =>
  obtain ⟨v, rfl, hj⟩ := hr
  have hne : j ≠ id := fun e => hJ (by rw [e])
  have hne' : id ≠ j := fun e => hne e.symm
  have hjl : j < H.length := (List.getElem?_eq_some_iff.1 hj).1
  by_cases hlm : most ≤ (l.length : Int)
  ·simp -dsimp (disch := first | assumption | omega | (simp only [vmLen]; done) | (simp only [vmLen]; omega)) only [↓vmPre, vmPost, vmWrd, vmDat, eq_self, forall_const, Nat.reduceLT, Nat.reduceEqDiff, Nat.reduceSub, Nat.reduceMul, Nat.reduceMod, Nat.reduceDiv, Nat.reducePow, UInt8.reduceToNat, Int.reduceEq, Int.reduceLT, Int.reduceLE, ↓reduceIte, Nat.reduceAdd, Int.reduceToNat, reduceCtorEq, Nat.reduceLeDiff, ↓u_deflate_reader_put, h]
   exact ⟨hlm, rfl⟩
  ·simp -dsimp (disch := first | assumption | omega | (simp only [vmLen]; done) | (simp only [vmLen]; omega)) only [↓vmPre, vmPost, vmWrd, vmDat, eq_self, forall_const, Nat.reduceLT, Nat.reduceEqDiff, Nat.reduceSub, Nat.reduceMul, Nat.reduceMod, Nat.reduceDiv, Nat.reducePow, UInt8.reduceToNat, Int.reduceEq, Int.reduceLT, Int.reduceLE, ↓reduceIte, Nat.reduceAdd, Int.reduceToNat, reduceCtorEq, Nat.reduceLeDiff, ↓u_deflate_reader_put, h, hj, one_set, take_one', len_one]
   refine ⟨by omega, _, j, rfl, ⟨v + 1, by simp, ?_⟩, hne, .inl rfl, fun i hi hn hn2 => ?_, by omega⟩
   ·rw [List.getElem?_append_left (by simpa using hjl), List.getElem?_set_ne hne', List.getElem?_set_self hjl, List.length_append, List.map_append]; rfl
   ·have hij : j ≠ i := fun e => hn2 (by rw [e])
    rw [List.getElem?_append_left (by simpa using hi), List.getElem?_set_ne (Ne.symm hn), List.getElem?_set_ne hij]
end Go.Proofs.YtfgljddikcghhaaDoor

