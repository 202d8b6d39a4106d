import Derived.Test.YtfgljddikcghhaaDoorVzRTold2
namespace Go.Proofs.YtfgljddikcghhaaDoor
open Go.RowKit
variable [Globs]
set_option linter.unusedSectionVars false
set_option linter.unusedVariables false
set_option linter.unusedSimpArgs false

theorem take_range {i : Nat} : List.take i (List.range i) = List.range i := List.take_of_length_le (by simp)
def fixF (i : Nat) : Nat := if 143 < i ∧ i < 256 then 9 else if 255 < i ∧ i < 280 then 7 else 8
set_option maxRecDepth 100000 in
theorem fixL_eq : (List.range 288).map fixF = fixL := by decide
theorem fixD_eq : (List.range 32).map (fun _ => 5) = fixD := by decide
set_option maxRecDepth 100000 in
theorem rfixedV : VPure Tryd.prog 37 [] (fun x => x = .tup [codeR fixL, codeR fixD]) := by
 refine VCalls.toPureV (go_ref1_fixed (by simp) ?_)
 simp -dsimp (disch := first | assumption | omega) only [↓vmPre, vmPost, vmWrd, vmDat, eq_self, forall_const, Nat.reduceLT, Nat.reduceEqDiff, Nat.reduceSub, Nat.reduceMul, Nat.reduceMod, Nat.reduceDiv, Nat.reducePow, UInt8.reduceToNat, Int.reduceEq, Int.reduceLT, Int.reduceLE, ↓reduceIte, Nat.reduceAdd, Int.reduceToNat, reduceCtorEq, Nat.reduceLeDiff, ↓u_ref1_fixed]
 refine w_loop (fun q e H => ∃ i v, q = 288 - i ∧ i ≤ 288 ∧ e = [(0, .op 0 0 []), (1, .op 1 0 []), (2, .os 1 2 v [] 0 i i), (3, i64 (i : Int))] ∧ H = [noCode, noCode, .obj v (.arr i 1 (((List.range i).map fixF).map fun (n : Nat) => i64 (n : Int)))]) 288 ?_ ?_
 ·exact ⟨0, 0, rfl, by omega, rfl, rfl⟩
 ·rintro q e H ⟨i, v, rfl, hi, rfl, rfl⟩
  have hstep : ((List.range i).map fixF).map (fun (n : Nat) => i64 (n : Int)) ++ [i64 ((fixF i : Nat) : Int)] = ((List.range (i + 1)).map fixF).map fun (n : Nat) => i64 (n : Int) := by rw [List.range_succ, List.map_append, List.map_append]; rfl
  by_cases hlt : i < 288
  ·by_cases c1 : 143 < i
   ·by_cases c2 : i < 256
    ·have hf : fixF i = 9 := by simp [fixF, c1, c2]
     simp -dsimp (disch := first | assumption | omega) only [↓vmPre, vmPost, vmWrd, vmDat, eq_self, forall_const, Nat.reduceLT, Nat.reduceEqDiff, Nat.reduceSub, Nat.reduceMul, Nat.reduceMod, Nat.reduceDiv, Nat.reducePow, UInt8.reduceToNat, Int.reduceEq, Int.reduceLT, Int.reduceLE, ↓reduceIte, Nat.reduceAdd, Int.reduceToNat, reduceCtorEq, Nat.reduceLeDiff, ↓u_ref1_fixed, one_set, take_one', len_one, List.length_range, take_range]
     exact Rnd_cut (288 - (i + 1)) 3 (by omega) (by simp) rfl rfl ⟨i + 1, v + 1, rfl, by omega, rfl, by rw [← hstep, hf]; rfl⟩
    ·by_cases c3 : i < 280
     ·have hf : fixF i = 7 := by
       have : 255 < i := by omega
       simp [fixF, c2, c3, this]
      simp -dsimp (disch := first | assumption | omega) only [↓vmPre, vmPost, vmWrd, vmDat, eq_self, forall_const, Nat.reduceLT, Nat.reduceEqDiff, Nat.reduceSub, Nat.reduceMul, Nat.reduceMod, Nat.reduceDiv, Nat.reducePow, UInt8.reduceToNat, Int.reduceEq, Int.reduceLT, Int.reduceLE, ↓reduceIte, Nat.reduceAdd, Int.reduceToNat, reduceCtorEq, Nat.reduceLeDiff, ↓u_ref1_fixed, one_set, take_one', len_one, List.length_range, take_range]
      exact Rnd_cut (288 - (i + 1)) 3 (by omega) (by simp) rfl rfl ⟨i + 1, v + 1, rfl, by omega, rfl, by rw [← hstep, hf]; rfl⟩
     ·have hf : fixF i = 8 := by simp [fixF, c2, c3]
      simp -dsimp (disch := first | assumption | omega) only [↓vmPre, vmPost, vmWrd, vmDat, eq_self, forall_const, Nat.reduceLT, Nat.reduceEqDiff, Nat.reduceSub, Nat.reduceMul, Nat.reduceMod, Nat.reduceDiv, Nat.reducePow, UInt8.reduceToNat, Int.reduceEq, Int.reduceLT, Int.reduceLE, ↓reduceIte, Nat.reduceAdd, Int.reduceToNat, reduceCtorEq, Nat.reduceLeDiff, ↓u_ref1_fixed, one_set, take_one', len_one, List.length_range, take_range]
      exact Rnd_cut (288 - (i + 1)) 3 (by omega) (by simp) rfl rfl ⟨i + 1, v + 1, rfl, by omega, rfl, by rw [← hstep, hf]; rfl⟩
   ·have hf : fixF i = 8 := by
     have : ¬ 255 < i := by omega
     simp [fixF, c1, this]
    simp -dsimp (disch := first | assumption | omega) only [↓vmPre, vmPost, vmWrd, vmDat, eq_self, forall_const, Nat.reduceLT, Nat.reduceEqDiff, Nat.reduceSub, Nat.reduceMul, Nat.reduceMod, Nat.reduceDiv, Nat.reducePow, UInt8.reduceToNat, Int.reduceEq, Int.reduceLT, Int.reduceLE, ↓reduceIte, Nat.reduceAdd, Int.reduceToNat, reduceCtorEq, Nat.reduceLeDiff, ↓u_ref1_fixed, one_set, take_one', len_one, List.length_range, take_range]
    exact Rnd_cut (288 - (i + 1)) 3 (by omega) (by simp) rfl rfl ⟨i + 1, v + 1, rfl, by omega, rfl, by rw [← hstep, hf]; rfl⟩
  ·have hie : i = 288 := by omega
   subst hie
   simp -dsimp (disch := first | assumption | omega) only [↓vmPre, vmPost, vmWrd, vmDat, eq_self, forall_const, Nat.reduceLT, Nat.reduceEqDiff, Nat.reduceSub, Nat.reduceMul, Nat.reduceMod, Nat.reduceDiv, Nat.reducePow, UInt8.reduceToNat, Int.reduceEq, Int.reduceLT, Int.reduceLE, ↓reduceIte, Nat.reduceAdd, Int.reduceToNat, reduceCtorEq, Nat.reduceLeDiff, ↓u_ref1_fixed]
   refine w_loop (fun q e H => ∃ i v2, q = 32 - i ∧ i ≤ 32 ∧ e = [(0, .op 0 0 []), (1, .op 1 0 []), (2, .os 1 2 v [] 0 288 288), (5, .os 1 3 v2 [] 0 i i), (6, i64 (i : Int))] ∧ H = [noCode, noCode, .obj v (.arr 288 1 (((List.range 288).map fixF).map fun (n : Nat) => i64 (n : Int))), .obj v2 (.arr i 1 (((List.range i).map fun _ => 5).map fun (n : Nat) => i64 (n : Int)))]) 32 ?_ ?_
   ·exact ⟨0, 0, rfl, by omega, rfl, rfl⟩
   ·rintro q e H ⟨i, v2, rfl, hi, rfl, rfl⟩
    by_cases hlt : i < 32
    ·simp -dsimp (disch := first | assumption | omega) only [↓vmPre, vmPost, vmWrd, vmDat, eq_self, forall_const, Nat.reduceLT, Nat.reduceEqDiff, Nat.reduceSub, Nat.reduceMul, Nat.reduceMod, Nat.reduceDiv, Nat.reducePow, UInt8.reduceToNat, Int.reduceEq, Int.reduceLT, Int.reduceLE, ↓reduceIte, Nat.reduceAdd, Int.reduceToNat, reduceCtorEq, Nat.reduceLeDiff, ↓u_ref1_fixed, one_set, take_one', len_one, List.length_range, take_range]
     exact Rnd_cut (32 - (i + 1)) 4 (by omega) (by simp) rfl rfl ⟨i + 1, v2 + 1, rfl, by omega, rfl, by rw [show List.range (i + 1) = List.range i ++ [i] from List.range_succ, List.map_append, List.map_append]; rfl⟩
    ·have hie : i = 32 := by omega
     subst hie
     simp -dsimp (disch := first | assumption | omega) only [↓vmPre, vmPost, vmWrd, vmDat, eq_self, forall_const, Nat.reduceLT, Nat.reduceEqDiff, Nat.reduceSub, Nat.reduceMul, Nat.reduceMod, Nat.reduceDiv, Nat.reducePow, UInt8.reduceToNat, Int.reduceEq, Int.reduceLT, Int.reduceLE, ↓reduceIte, Nat.reduceAdd, Int.reduceToNat, reduceCtorEq, Nat.reduceLeDiff, ↓u_ref1_fixed]
     refine w_frz (by rfl) (by rfl) (by simp) ?_
     refine w_frz (by rfl) (by rfl) (by simp) ?_
     rw [fixL_eq, fixD_eq]
     have t1 : List.take 32 (List.drop 0 (fixD.map fun (n : Nat) => i64 (n : Int))) = fixD.map fun (n : Nat) => i64 (n : Int) := by rw [List.drop_zero, List.take_of_length_le (by simp [fixD])]
     have t2 : List.take 288 (List.drop 0 (fixL.map fun (n : Nat) => i64 (n : Int))) = fixL.map fun (n : Nat) => i64 (n : Int) := by rw [List.drop_zero, List.take_of_length_le (by simp [fixL])]
     rw [t1, t2]
     simp -dsimp (disch := first | assumption | omega) only [↓vmPre, vmPost, vmWrd, vmDat, eq_self, forall_const, Nat.reduceLT, Nat.reduceEqDiff, Nat.reduceSub, Nat.reduceMul, Nat.reduceMod, Nat.reduceDiv, Nat.reducePow, UInt8.reduceToNat, Int.reduceEq, Int.reduceLT, Int.reduceLE, ↓reduceIte, Nat.reduceAdd, Int.reduceToNat, reduceCtorEq, Nat.reduceLeDiff, ↓u_ref1_fixed]
     refine (rcodeV fixL false false (by simp [fixL])).calls rfl ?_
     rintro _ rfl
     simp -dsimp (disch := first | assumption | omega) only [↓vmPre, vmPost, vmWrd, vmDat, eq_self, forall_const, Nat.reduceLT, Nat.reduceEqDiff, Nat.reduceSub, Nat.reduceMul, Nat.reduceMod, Nat.reduceDiv, Nat.reducePow, UInt8.reduceToNat, Int.reduceEq, Int.reduceLT, Int.reduceLE, ↓reduceIte, Nat.reduceAdd, Int.reduceToNat, reduceCtorEq, Nat.reduceLeDiff, ↓u_ref1_fixed]
     refine (rcodeV fixD false false (by simp [fixD])).calls rfl ?_
     rintro _ rfl
     simp -dsimp (disch := first | assumption | omega) only [↓vmPre, vmPost, vmWrd, vmDat, eq_self, forall_const, Nat.reduceLT, Nat.reduceEqDiff, Nat.reduceSub, Nat.reduceMul, Nat.reduceMod, Nat.reduceDiv, Nat.reducePow, UInt8.reduceToNat, Int.reduceEq, Int.reduceLT, Int.reduceLE, ↓reduceIte, Nat.reduceAdd, Int.reduceToNat, reduceCtorEq, Nat.reduceLeDiff, ↓u_ref1_fixed]
     refine ⟨?_, ?_⟩ <;>
     ·change Kept [7, 9] _ _ _
      intro s hs j ver p hg
      simp only [List.mem_cons, List.not_mem_nil, or_false] at hs
      rcases hs with rfl | rfl <;>
      ·simp [get] at hg
       obtain ⟨rfl, _⟩ := hg
       rfl
end Go.Proofs.YtfgljddikcghhaaDoor

