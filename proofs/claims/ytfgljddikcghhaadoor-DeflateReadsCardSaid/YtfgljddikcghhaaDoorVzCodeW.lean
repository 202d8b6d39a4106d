import Derived.Test.YtfgljddikcghhaaDoorVzCode
namespace Go.Proofs.YtfgljddikcghhaaDoor
open Go.RowKit
variable [Globs]
set_option linter.unusedSectionVars false
set_option linter.unusedVariables false
set_option linter.unusedSimpArgs false

def okC (ls : List Nat) (few non : Bool) : Bool := decide ((CSt.all ls 15).sp = 32768) || (few && decide ((CSt.all ls 15).us = 1) && decide ((CSt.all ls 15).lg = 1) || non && decide ((CSt.all ls 15).us = 0))
abbrev nsO (v : Nat) (l : List Nat) : Ob := .obj v (.arr l.length 1 (l.map fun (n : Nat) => i64 (n : Int)))
theorem rcodeV (ls : List Nat) (few non : Bool) (hl : ls.length ≤ 1000) : VPure Tryd.prog 54 [nats ls, tb few, tb non] (fun x => x = .tup [.agg [nats ls, nats (CSt.all ls 15).bs], tb (okC ls few non)]) := by
 refine VCalls.toPureV (go_ref1_code (by simp) ?_)
 simp -dsimp (disch := first | assumption | omega) only [↓vmPre, vmPost, vmWrd, vmDat, eq_self, forall_const, Nat.reduceLT, Nat.reduceEqDiff, Nat.reduceSub, Nat.reduceMul, Nat.reduceMod, Nat.reduceDiv, Nat.reducePow, UInt8.reduceToNat, Int.reduceEq, Int.reduceLT, Int.reduceLE, ↓reduceIte, Nat.reduceAdd, Int.reduceToNat, reduceCtorEq, Nat.reduceLeDiff, ↓u_ref1_code]
 refine w_loop (fun q e H => ∃ i v, q = ls.length - i ∧ i ≤ ls.length ∧ e = [(0, nats ls), (1, tb few), (2, tb non), (6, .op 0 0 []), (8, .op 1 0 []), (9, i64 ((0 : Nat) : Int)), (10, i64 ((0 : Nat) : Int)), (11, i64 ((0 : Nat) : Int)), (12, i64 (i : Int))] ∧
  H = [.obj 0 (.agg [.val (.slice none 0 0), .val (.slice none 0 0)]), .obj 0 (.agg [nats ls, .os 1 2 v [] 0 i i]), .obj v (.arr i 1 (List.replicate i (i64 ((0 : Nat) : Int))))]) ls.length ?_ ?_
 ·exact ⟨0, 0, rfl, by omega, rfl, rfl⟩
 ·rintro q e H ⟨i, v, rfl, hi, rfl, rfl⟩
  by_cases hlt : i < ls.length
  ·simp -dsimp (disch := first | assumption | omega) only [↓vmPre, vmPost, vmWrd, vmDat, eq_self, forall_const, Nat.reduceLT, Nat.reduceEqDiff, Nat.reduceSub, Nat.reduceMul, Nat.reduceMod, Nat.reduceDiv, Nat.reducePow, UInt8.reduceToNat, Int.reduceEq, Int.reduceLT, Int.reduceLE, ↓reduceIte, Nat.reduceAdd, Int.reduceToNat, reduceCtorEq, Nat.reduceLeDiff, ↓u_ref1_code, one_set, take_one', len_one]
   exact Rnd_cut (ls.length - (i + 1)) 3 (by omega) (by simp) rfl rfl ⟨i + 1, v + 1, rfl, by omega, rfl, by rw [List.replicate_succ']; simp⟩
  ·have hie : i = ls.length := by omega
   subst hie
   simp -dsimp (disch := first | assumption | omega) only [↓vmPre, vmPost, vmWrd, vmDat, eq_self, forall_const, Nat.reduceLT, Nat.reduceEqDiff, Nat.reduceSub, Nat.reduceMul, Nat.reduceMod, Nat.reduceDiv, Nat.reducePow, UInt8.reduceToNat, Int.reduceEq, Int.reduceLT, Int.reduceLE, ↓reduceIte, Nat.reduceAdd, Int.reduceToNat, reduceCtorEq, Nat.reduceLeDiff, ↓u_ref1_code]
   refine w_loop (fun q e H => ∃ n, q = 15 - n ∧ n ≤ 15 ∧ e = [(0, nats ls), (1, tb few), (2, tb non), (6, .op 0 0 []), (8, .op 1 0 []), (9, i64 ((CSt.all ls n).nx : Int)), (10, i64 ((CSt.all ls n).us : Int)), (11, i64 ((CSt.all ls n).lg : Int)), (13, i64 ((CSt.all ls n).sp : Int)), (14, i64 ((n + 1 : Nat) : Int))] ∧
    H = [.obj 0 (.agg [.val (.slice none 0 0), .val (.slice none 0 0)]), .obj 0 (.agg [nats ls, .os 1 2 v [] 0 ls.length ls.length]), .obj v (.arr ls.length 1 ((CSt.all ls n).bs.map fun (n : Nat) => i64 (n : Int)))]) 15 ?_ ?_
   ·exact ⟨0, rfl, by omega, rfl, by simp [CSt.all]⟩
   ·rintro q e H ⟨n, rfl, hn, rfl, rfl⟩
    obtain ⟨o1, o2, o3⟩ := CSt.all_ok ls hl n
    have hp : 2 ^ n ≤ 32768 := Nat.le_trans (Nat.pow_le_pow_right (by omega) hn) (by decide)
    by_cases hn15 : n < 15
    ·simp -dsimp (disch := first | assumption | omega) only [↓vmPre, vmPost, vmWrd, vmDat, eq_self, forall_const, Nat.reduceLT, Nat.reduceEqDiff, Nat.reduceSub, Nat.reduceMul, Nat.reduceMod, Nat.reduceDiv, Nat.reducePow, UInt8.reduceToNat, Int.reduceEq, Int.reduceLT, Int.reduceLE, ↓reduceIte, Nat.reduceAdd, Int.reduceToNat, reduceCtorEq, Nat.reduceLeDiff, ↓u_ref1_code]
     obtain ⟨s, hs⟩ : ∃ s : CSt, s = { CSt.all ls n with nx := (CSt.all ls n).nx * 2 } := ⟨_, rfl⟩
     have hs0 : s.ok (2000 * (2 ^ n - 1)) (1000 * n) (32768000 * n) := by subst hs; exact ⟨by show _ * 2 ≤ _; omega, o2, o3⟩
     have hall : CSt.all ls (n + 1) = CSt.row ls (n + 1) ls.length s := by subst hs; rfl
     have hsl : s.bs.length = ls.length := by subst hs; exact CSt.all_len ls n
     refine w_loop (fun q e H => ∃ i, q = ls.length - i ∧ i ≤ ls.length ∧ e = [(0, nats ls), (1, tb few), (2, tb non), (6, .op 0 0 []), (8, .op 1 0 []), (9, i64 ((CSt.row ls (n + 1) i s).nx : Int)), (10, i64 ((CSt.row ls (n + 1) i s).us : Int)), (11, i64 ((CSt.row ls (n + 1) i s).lg : Int)), (13, i64 ((CSt.row ls (n + 1) i s).sp : Int)), (14, i64 ((n + 1 : Nat) : Int)), (15, i64 (i : Int))] ∧
      H = [.obj 0 (.agg [.val (.slice none 0 0), .val (.slice none 0 0)]), .obj 0 (.agg [nats ls, .os 1 2 v [] 0 ls.length ls.length]), .obj v (.arr ls.length 1 ((CSt.row ls (n + 1) i s).bs.map fun (n : Nat) => i64 (n : Int)))]) ls.length ?_ ?_
     ·exact ⟨0, rfl, by omega, by subst hs; rfl, by subst hs; rfl⟩
     ·rintro q e H ⟨i, rfl, hi, rfl, rfl⟩
      obtain ⟨b1, b2, b3⟩ := CSt.row_ok ls (n + 1) i s _ _ _ hs0
      have hrl : (CSt.row ls (n + 1) i s).bs.length = ls.length := by rw [CSt.row_len, hsl]
      by_cases hlt : i < ls.length
      ·obtain ⟨a, ha⟩ : ∃ a, ls[i]? = some a := ⟨_, List.getElem?_eq_getElem hlt⟩
       by_cases hc : a = n + 1
       ·subst hc
        have hst : CSt.row ls (n + 1) (i + 1) s = ⟨(CSt.row ls (n + 1) i s).bs.set i (CSt.row ls (n + 1) i s).nx, (CSt.row ls (n + 1) i s).nx + 1, (CSt.row ls (n + 1) i s).us + 1, n + 1, (CSt.row ls (n + 1) i s).sp + 2 ^ (15 - (n + 1))⟩ := by rw [CSt.row, CSt.one, if_pos ha]
        have hp2 : 1 * 2 ^ (15 - (n + 1)) ≤ 32768 := by rw [Nat.one_mul]; exact Nat.le_trans (Nat.pow_le_pow_right (by omega) (by omega : 15 - (n + 1) ≤ 15)) (by decide)
        obtain ⟨y, hy⟩ : ∃ y, (CSt.row ls (n + 1) i s).bs[i]? = some y := ⟨_, List.getElem?_eq_getElem (by omega)⟩
        simp -dsimp (disch := first | assumption | omega) only [↓vmPre, vmPost, vmWrd, vmDat, eq_self, forall_const, Nat.reduceLT, Nat.reduceEqDiff, Nat.reduceSub, Nat.reduceMul, Nat.reduceMod, Nat.reduceDiv, Nat.reducePow, UInt8.reduceToNat, Int.reduceEq, Int.reduceLT, Int.reduceLE, ↓reduceIte, Nat.reduceAdd, Int.reduceToNat, reduceCtorEq, Nat.reduceLeDiff, ↓u_ref1_code, ha, hrl, hy]
        exact Rnd_keep (ls.length - (i + 1)) (by omega) (by simp) ⟨i + 1, rfl, by omega, by rw [hst, Nat.one_mul]; rfl, by rw [hst, List.map_set]⟩
       ·have hst : CSt.row ls (n + 1) (i + 1) s = CSt.row ls (n + 1) i s := by rw [CSt.row, CSt.one, if_neg (by rw [ha]; simpa using hc)]
        simp -dsimp (disch := first | assumption | omega) only [↓vmPre, vmPost, vmWrd, vmDat, eq_self, forall_const, Nat.reduceLT, Nat.reduceEqDiff, Nat.reduceSub, Nat.reduceMul, Nat.reduceMod, Nat.reduceDiv, Nat.reducePow, UInt8.reduceToNat, Int.reduceEq, Int.reduceLT, Int.reduceLE, ↓reduceIte, Nat.reduceAdd, Int.reduceToNat, reduceCtorEq, Nat.reduceLeDiff, ↓u_ref1_code, ha, hrl]
        exact Rnd_keep (ls.length - (i + 1)) (by omega) (by simp) ⟨i + 1, rfl, by omega, by rw [hst]; rfl, by rw [hst]⟩
      ·have hie : i = ls.length := by omega
       subst hie
       simp -dsimp (disch := first | assumption | omega) only [↓vmPre, vmPost, vmWrd, vmDat, eq_self, forall_const, Nat.reduceLT, Nat.reduceEqDiff, Nat.reduceSub, Nat.reduceMul, Nat.reduceMod, Nat.reduceDiv, Nat.reducePow, UInt8.reduceToNat, Int.reduceEq, Int.reduceLT, Int.reduceLE, ↓reduceIte, Nat.reduceAdd, Int.reduceToNat, reduceCtorEq, Nat.reduceLeDiff, ↓u_ref1_code]
       exact Rnd_keep (15 - (n + 1)) (by omega) (by simp) ⟨n + 1, rfl, by omega, by rw [hall]; rfl, by rw [hall]⟩
    ·have hne : n = 15 := by omega
     subst hne
     have hal : (CSt.all ls 15).bs.length = ls.length := CSt.all_len ls 15
     have htk : (CSt.all ls 15).bs.take ls.length = (CSt.all ls 15).bs := List.take_of_length_le (by omega)
     have hle : ls.length ≤ (CSt.all ls 15).bs.length := by omega
     by_cases c1 : (CSt.all ls 15).sp = 32768
     ·simp -dsimp (disch := first | assumption | omega) only [↓vmPre, vmPost, vmWrd, vmDat, eq_self, forall_const, Nat.reduceLT, Nat.reduceEqDiff, Nat.reduceSub, Nat.reduceMul, Nat.reduceMod, Nat.reduceDiv, Nat.reducePow, UInt8.reduceToNat, Int.reduceEq, Int.reduceLT, Int.reduceLE, ↓reduceIte, Nat.reduceAdd, Int.reduceToNat, reduceCtorEq, Nat.reduceLeDiff, ↓u_ref1_code, htk, hle]
      simp [okC, c1, vget]
     ·by_cases c2 : (CSt.all ls 15).us = 0
      ·have c3 : ¬ (CSt.all ls 15).us = 1 := by omega
       cases few <;> cases non
       all_goals
        simp -dsimp (disch := first | assumption | omega) only [↓vmPre, vmPost, vmWrd, vmDat, eq_self, forall_const, Nat.reduceLT, Nat.reduceEqDiff, Nat.reduceSub, Nat.reduceMul, Nat.reduceMod, Nat.reduceDiv, Nat.reducePow, UInt8.reduceToNat, Int.reduceEq, Int.reduceLT, Int.reduceLE, ↓reduceIte, Nat.reduceAdd, Int.reduceToNat, reduceCtorEq, Nat.reduceLeDiff, ↓u_ref1_code, htk, hle]
        simp [okC, c1, c2, vget]
      ·by_cases c3 : (CSt.all ls 15).us = 1
       ·by_cases c4 : (CSt.all ls 15).lg = 1
        ·cases few <;> cases non
         all_goals
          simp -dsimp (disch := first | assumption | omega) only [↓vmPre, vmPost, vmWrd, vmDat, eq_self, forall_const, Nat.reduceLT, Nat.reduceEqDiff, Nat.reduceSub, Nat.reduceMul, Nat.reduceMod, Nat.reduceDiv, Nat.reducePow, UInt8.reduceToNat, Int.reduceEq, Int.reduceLT, Int.reduceLE, ↓reduceIte, Nat.reduceAdd, Int.reduceToNat, reduceCtorEq, Nat.reduceLeDiff, ↓u_ref1_code, htk, hle]
          simp [okC, c1, c3, c4, vget]
        ·cases few <;> cases non
         all_goals
          simp -dsimp (disch := first | assumption | omega) only [↓vmPre, vmPost, vmWrd, vmDat, eq_self, forall_const, Nat.reduceLT, Nat.reduceEqDiff, Nat.reduceSub, Nat.reduceMul, Nat.reduceMod, Nat.reduceDiv, Nat.reducePow, UInt8.reduceToNat, Int.reduceEq, Int.reduceLT, Int.reduceLE, ↓reduceIte, Nat.reduceAdd, Int.reduceToNat, reduceCtorEq, Nat.reduceLeDiff, ↓u_ref1_code, htk, hle]
          simp [okC, c1, c3, c4, vget]
       ·cases few <;> cases non
        all_goals
         simp -dsimp (disch := first | assumption | omega) only [↓vmPre, vmPost, vmWrd, vmDat, eq_self, forall_const, Nat.reduceLT, Nat.reduceEqDiff, Nat.reduceSub, Nat.reduceMul, Nat.reduceMod, Nat.reduceDiv, Nat.reducePow, UInt8.reduceToNat, Int.reduceEq, Int.reduceLT, Int.reduceLE, ↓reduceIte, Nat.reduceAdd, Int.reduceToNat, reduceCtorEq, Nat.reduceLeDiff, ↓u_ref1_code, htk, hle]
         simp [okC, c1, c2, c3, vget]
end Go.Proofs.YtfgljddikcghhaaDoor

