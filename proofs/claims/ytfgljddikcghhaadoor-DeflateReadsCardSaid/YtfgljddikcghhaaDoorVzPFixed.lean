import Derived.Test.YtfgljddikcghhaaDoorVzGrowC
namespace Go.Proofs.YtfgljddikcghhaaDoor
open Go.RowKit
variable [Globs]
set_option linter.unusedSectionVars false
set_option linter.unusedVariables false
set_option linter.unusedSimpArgs false

abbrev natsO (l : List Nat) (n : Nat) : Ob := .obj 0 (.arr n 1 (l.map fun (n : Nat) => i64 (n : Int)))
section
omit [Globs]
theorem fxs_set {L : List Nat} {f : Nat → Nat} {i n : Nat} (hi : i < n) : ((List.range i).map f ++ List.replicate (n - i) 0).set i (f i) = (List.range (i + 1)).map f ++ List.replicate (n - (i + 1)) 0 := by
 rw [List.set_append_right _ _ (by simp), List.length_map, List.length_range, Nat.sub_self, show n - i = (n - (i + 1)) + 1 by omega, List.replicate_succ, List.set_cons_zero, List.range_succ, List.map_append, List.append_assoc]
 rfl
theorem fxs_len {f : Nat → Nat} {i n : Nat} (hi : i ≤ n) : ((List.range i).map f ++ List.replicate (n - i) 0).length = n := by simp; omega
theorem fxs_get {f : Nat → Nat} {i n : Nat} (hi : i < n) : ((List.range i).map f ++ List.replicate (n - i) 0)[i]? = some 0 := by
 rw [List.getElem?_append_right (by simp), List.length_map, List.length_range, Nat.sub_self, List.getElem?_replicate, if_pos (by omega)]
end
set_option maxRecDepth 100000 in
theorem fixedV : VPure Tryd.prog 26 [] (fun x => x = .tup [nats fixL, nats fixD]) := by
 refine VCalls.toPureV (go_deflate_fixedLengths (by simp) ?_)
 simp -dsimp (disch := first | assumption | omega) only [↓vmPre, vmPost, vmWrd, vmDat, eq_self, forall_const, Nat.reduceLT, Nat.reduceEqDiff, Nat.reduceSub, Nat.reduceMul, Nat.reduceMod, Nat.reduceDiv, Nat.reducePow, UInt8.reduceToNat, Int.reduceEq, Int.reduceLT, Int.reduceLE, ↓reduceIte, Nat.reduceAdd, Int.reduceToNat, reduceCtorEq, Nat.reduceLeDiff, ↓u_deflate_fixedLengths]
 have z : ∀ n : Nat, List.replicate n (TV.val (.int .i64 ((0 : Nat) : Int))) = (List.replicate n 0).map fun (n : Nat) => i64 (n : Int) := fun n => by rw [List.map_replicate]
 rw [z, z]
 refine w_loop (fun q e H => ∃ i : Nat, q = 288 - i ∧ i ≤ 288 ∧ e = [(0, .os 1 0 0 [] 0 288 288), (1, .os 1 1 0 [] 0 32 32), (7, i64 ((288 : Nat) : Int)), (8, i64 (i : Int))] ∧ H = [natsO ((List.range i).map fixF ++ List.replicate (288 - i) 0) 288, natsO (List.replicate 32 0) 32]) 288 ?_ ?_
 ·exact ⟨0, rfl, by omega, rfl, rfl⟩
 ·rintro q e H ⟨i, rfl, hi, rfl, rfl⟩
  by_cases hlt : i < 288
  ·have h1 := fxs_get (f := fixF) hlt
   have h2 := fxs_len (f := fixF) hi
   have h3 := fxs_set (L := []) (f := fixF) hlt
   generalize hL : (List.range i).map fixF ++ List.replicate (288 - i) 0 = L at *
   have fin : ∀ w : Nat, w = fixF i → (L.map fun (n : Nat) => i64 (n : Int)).set i (i64 (w : Int)) = ((List.range (i + 1)).map fixF ++ List.replicate (288 - (i + 1)) 0).map fun (n : Nat) => i64 (n : Int) := fun w hw => by rw [← h3, List.map_set, hw]
   by_cases c1 : i < 144
   ·have e : 8 = fixF i := by
     have h5 : ¬ (143 < i) := by omega
     have h6 : ¬ (255 < i) := by omega
     simp [fixF, h5, h6]
    simp -dsimp (disch := first | assumption | omega) only [↓vmPre, vmPost, vmWrd, vmDat, eq_self, forall_const, Nat.reduceLT, Nat.reduceEqDiff, Nat.reduceSub, Nat.reduceMul, Nat.reduceMod, Nat.reduceDiv, Nat.reducePow, UInt8.reduceToNat, Int.reduceEq, Int.reduceLT, Int.reduceLE, ↓reduceIte, Nat.reduceAdd, Int.reduceToNat, reduceCtorEq, Nat.reduceLeDiff, ↓u_deflate_fixedLengths, h1, h2]
    exact Rnd_keep (288 - (i + 1)) (by omega) (by simp) ⟨i + 1, rfl, by omega, rfl, by rw [fin 8 e]⟩
   ·by_cases c2 : i < 256
    ·have e : 9 = fixF i := by
      have h5 : 143 < i := by omega
      simp [fixF, h5, c2]
     simp -dsimp (disch := first | assumption | omega) only [↓vmPre, vmPost, vmWrd, vmDat, eq_self, forall_const, Nat.reduceLT, Nat.reduceEqDiff, Nat.reduceSub, Nat.reduceMul, Nat.reduceMod, Nat.reduceDiv, Nat.reducePow, UInt8.reduceToNat, Int.reduceEq, Int.reduceLT, Int.reduceLE, ↓reduceIte, Nat.reduceAdd, Int.reduceToNat, reduceCtorEq, Nat.reduceLeDiff, ↓u_deflate_fixedLengths, h1, h2]
     exact Rnd_keep (288 - (i + 1)) (by omega) (by simp) ⟨i + 1, rfl, by omega, rfl, by rw [fin 9 e]⟩
    ·by_cases c3 : i < 280
     ·have e : 7 = fixF i := by
       have : ¬ (i < 256) := c2
       have h5 : 255 < i := by omega
       simp [fixF, c2, c3, h5]
      simp -dsimp (disch := first | assumption | omega) only [↓vmPre, vmPost, vmWrd, vmDat, eq_self, forall_const, Nat.reduceLT, Nat.reduceEqDiff, Nat.reduceSub, Nat.reduceMul, Nat.reduceMod, Nat.reduceDiv, Nat.reducePow, UInt8.reduceToNat, Int.reduceEq, Int.reduceLT, Int.reduceLE, ↓reduceIte, Nat.reduceAdd, Int.reduceToNat, reduceCtorEq, Nat.reduceLeDiff, ↓u_deflate_fixedLengths, h1, h2]
      exact Rnd_keep (288 - (i + 1)) (by omega) (by simp) ⟨i + 1, rfl, by omega, rfl, by rw [fin 7 e]⟩
     ·have e : 8 = fixF i := by simp [fixF, c2, c3]
      simp -dsimp (disch := first | assumption | omega) only [↓vmPre, vmPost, vmWrd, vmDat, eq_self, forall_const, Nat.reduceLT, Nat.reduceEqDiff, Nat.reduceSub, Nat.reduceMul, Nat.reduceMod, Nat.reduceDiv, Nat.reducePow, UInt8.reduceToNat, Int.reduceEq, Int.reduceLT, Int.reduceLE, ↓reduceIte, Nat.reduceAdd, Int.reduceToNat, reduceCtorEq, Nat.reduceLeDiff, ↓u_deflate_fixedLengths, h1, h2]
      exact Rnd_keep (288 - (i + 1)) (by omega) (by simp) ⟨i + 1, rfl, by omega, rfl, by rw [fin 8 e]⟩
  ·have hie : i = 288 := by omega
   subst hie
   rw [Nat.sub_self, List.replicate_zero, List.append_nil, fixL_eq]
   simp -dsimp (disch := first | assumption | omega) only [↓vmPre, vmPost, vmWrd, vmDat, eq_self, forall_const, Nat.reduceLT, Nat.reduceEqDiff, Nat.reduceSub, Nat.reduceMul, Nat.reduceMod, Nat.reduceDiv, Nat.reducePow, UInt8.reduceToNat, Int.reduceEq, Int.reduceLT, Int.reduceLE, ↓reduceIte, Nat.reduceAdd, Int.reduceToNat, reduceCtorEq, Nat.reduceLeDiff, ↓u_deflate_fixedLengths]
   refine w_loop (fun q e H => ∃ i : Nat, q = 32 - i ∧ i ≤ 32 ∧ e = [(0, .os 1 0 0 [] 0 288 288), (1, .os 1 1 0 [] 0 32 32), (34, i64 ((32 : Nat) : Int)), (35, i64 (i : Int))] ∧ H = [natsO fixL 288, natsO ((List.range i).map (fun _ => 5) ++ List.replicate (32 - i) 0) 32]) 32 ?_ ?_
   ·exact ⟨0, rfl, by omega, rfl, rfl⟩
   ·rintro q e H ⟨i, rfl, hi, rfl, rfl⟩
    by_cases hlt : i < 32
    ·have h1 := fxs_get (f := fun _ => 5) hlt
     have h2 := fxs_len (f := fun _ => 5) hi
     have h3 := fxs_set (L := []) (f := fun _ => 5) hlt
     generalize hL : (List.range i).map (fun _ => 5) ++ List.replicate (32 - i) 0 = L at *
     have fin : (L.map fun (n : Nat) => i64 (n : Int)).set i (i64 ((5 : Nat) : Int)) = ((List.range (i + 1)).map (fun _ => 5) ++ List.replicate (32 - (i + 1)) 0).map fun (n : Nat) => i64 (n : Int) := by rw [← h3, List.map_set]
     simp -dsimp (disch := first | assumption | omega) only [↓vmPre, vmPost, vmWrd, vmDat, eq_self, forall_const, Nat.reduceLT, Nat.reduceEqDiff, Nat.reduceSub, Nat.reduceMul, Nat.reduceMod, Nat.reduceDiv, Nat.reducePow, UInt8.reduceToNat, Int.reduceEq, Int.reduceLT, Int.reduceLE, ↓reduceIte, Nat.reduceAdd, Int.reduceToNat, reduceCtorEq, Nat.reduceLeDiff, ↓u_deflate_fixedLengths, h1, h2]
     exact Rnd_keep (32 - (i + 1)) (by omega) (by simp) ⟨i + 1, rfl, by omega, rfl, by rw [fin]⟩
    ·have hie : i = 32 := by omega
     subst hie
     rw [Nat.sub_self, List.replicate_zero, List.append_nil, fixD_eq]
     simp -dsimp (disch := first | assumption | omega) only [↓vmPre, vmPost, vmWrd, vmDat, eq_self, forall_const, Nat.reduceLT, Nat.reduceEqDiff, Nat.reduceSub, Nat.reduceMul, Nat.reduceMod, Nat.reduceDiv, Nat.reducePow, UInt8.reduceToNat, Int.reduceEq, Int.reduceLT, Int.reduceLE, ↓reduceIte, Nat.reduceAdd, Int.reduceToNat, reduceCtorEq, Nat.reduceLeDiff, ↓u_deflate_fixedLengths]
     refine w_frz (by rfl) (by rfl) (by simp [fixD]) ?_
     refine w_frz (by rfl) (by rfl) (by rw [List.length_map, fixL_len]; omega) ?_
     have t1 : List.take 32 (List.drop 0 (fixD.map fun (n : Nat) => i64 (n : Int))) = fixD.map fun (n : Nat) => i64 (n : Int) := by rw [List.drop_zero, List.take_of_length_le (by rw [List.length_map, fixD_len]; omega)]
     have t2 : List.take 288 (List.drop 0 (fixL.map fun (n : Nat) => i64 (n : Int))) = fixL.map fun (n : Nat) => i64 (n : Int) := by rw [List.drop_zero, List.take_of_length_le (by rw [List.length_map, fixL_len]; omega)]
     rw [t1, t2]
     simp -dsimp (disch := first | assumption | omega) only [↓vmPre, vmPost, vmWrd, vmDat, eq_self, forall_const, Nat.reduceLT, Nat.reduceEqDiff, Nat.reduceSub, Nat.reduceMul, Nat.reduceMod, Nat.reduceDiv, Nat.reducePow, UInt8.reduceToNat, Int.reduceEq, Int.reduceLT, Int.reduceLE, ↓reduceIte, Nat.reduceAdd, Int.reduceToNat, reduceCtorEq, Nat.reduceLeDiff, ↓u_deflate_fixedLengths]
end Go.Proofs.YtfgljddikcghhaaDoor

