import Derived.Test.YtfgljddikcghhaaDoorVzGrowP
import Derived.Test.YtfgljddikcghhaaDoorVzPSyms
import Derived.Test.YtfgljddikcghhaaDoorBaseC
namespace Go.Proofs.YtfgljddikcghhaaDoor
open Go.RowKit
variable [Globs]
set_option linter.unusedSectionVars false
set_option linter.unusedVariables false
set_option linter.unusedSimpArgs false

abbrev natO (l : List Nat) (n : Nat) : Ob := .obj 0 (.arr n 1 (l.map fun (n : Nat) => i64 (n : Int)))
/-- The counts. -/
def CntIs (ls : List Nat) (L : List Nat) : Prop := L.length = 16 ∧ ∀ n, n < 16 → L[n]? = some (ls.count n)
theorem pcount {ls : List Nat} {few non : TV} (hl : ls.length ≤ 1000) (h15 : ∀ n ∈ ls, n ≤ 15) {Q : VEx → Env → List Ob → Prop}
  (hq : ∀ L y, CntIs ls L → Q .nor [(0, nats ls), (1, few), (2, non), (7, .op 0 0 []), (18, nats ls), (19, i64 (ls.length : Int)), (20, i64 (ls.length : Int)), (21, y)] [natO L 16]) :
  vwp Tryd.prog (.loop [0, 1, 2, 7, 18, 19, 20] c_deflate_grow_L1) (Blk 0 Q) [(0, nats ls), (1, few), (2, non), (7, .op 0 0 []), (18, nats ls), (19, i64 (ls.length : Int)), (20, i64 ((0 : Nat) : Int))] [natO (List.replicate 16 0) 16] := by
 refine w_loop (fun q e H => ∃ (i : Nat) (L : List Nat), q = ls.length - i ∧ i ≤ ls.length ∧ e = [(0, nats ls), (1, few), (2, non), (7, .op 0 0 []), (18, nats ls), (19, i64 (ls.length : Int)), (20, i64 (i : Int))] ∧ CntIs (ls.take i) L ∧ H = [natO L 16]) ls.length ?_ ?_
 ·refine ⟨0, List.replicate 16 0, rfl, by omega, rfl, ⟨rfl, fun n hn => ?_⟩, rfl⟩
  rw [List.getElem?_replicate, if_pos hn]; simp
 ·rintro q e H ⟨i, L, rfl, hi, rfl, ⟨hL1, hL2⟩, rfl⟩
  by_cases hlt : i < ls.length
  ·obtain ⟨n, hn⟩ : ∃ n, ls[i]? = some n := ⟨_, List.getElem?_eq_getElem hlt⟩
   have hn15 := h15 n (List.mem_of_getElem? hn)
   have hLn := hL2 n (by omega)
   have hcl : (ls.take i).count n ≤ 1000 := Nat.le_trans List.count_le_length (by rw [List.length_take]; omega)
   have htk : ls.take (i + 1) = ls.take i ++ [n] := by rw [List.take_add_one, hn]; rfl
   simp -dsimp (disch := first | assumption | omega | (simp only [vmLen]; done) | (simp only [vmLen]; omega)) only [↓vmPre, vmPost, vmWrd, vmDat, eq_self, forall_const, Nat.reduceLT, Nat.reduceEqDiff, Nat.reduceSub, Nat.reduceMul, Nat.reduceMod, Nat.reduceDiv, Nat.reducePow, UInt8.reduceToNat, Int.reduceEq, Int.reduceLT, Int.reduceLE, ↓reduceIte, Nat.reduceAdd, Int.reduceToNat, reduceCtorEq, Nat.reduceLeDiff, ↓u_deflate_grow, hn, hLn, hL1]
   refine Rnd_keep (ls.length - (i + 1)) (by omega) (by simp) ⟨i + 1, L.set n ((ls.take i).count n + 1), rfl, by omega, rfl, ⟨by simp [hL1], fun k hk => ?_⟩, by simp only [natO, List.map_set]⟩
   rw [htk, List.count_append]
   by_cases hkn : k = n
   ·subst hkn
    rw [List.getElem?_set_self (by omega)]; simp
   ·rw [List.getElem?_set_ne (Ne.symm hkn), hL2 k hk]
    have : List.count k [n] = 0 := by rw [List.count_eq_zero]; simpa using hkn
    rw [this]; rfl
  ·have hil : i = ls.length := by omega
   subst hil
   rw [List.take_length] at hL2
   simp -dsimp (disch := first | assumption | omega | (simp only [vmLen]; done) | (simp only [vmLen]; omega)) only [↓vmPre, vmPost, vmWrd, vmDat, eq_self, forall_const, Nat.reduceLT, Nat.reduceEqDiff, Nat.reduceSub, Nat.reduceMul, Nat.reduceMod, Nat.reduceDiv, Nat.reducePow, UInt8.reduceToNat, Int.reduceEq, Int.reduceLT, Int.reduceLE, ↓reduceIte, Nat.reduceAdd, Int.reduceToNat, reduceCtorEq, Nat.reduceLeDiff, ↓u_deflate_grow]
   exact hq L _ ⟨hL1, hL2⟩
section
omit [Globs]
theorem count_le (ls : List Nat) (n : Nat) : ls.count n ≤ ls.length := List.count_le_length
theorem leftN_le (ls : List Nat) : ∀ n, leftOk ls n → leftN ls n ≤ ((2 ^ n : Nat) : Int)
 | 0, _ => by simp [leftN]
 | n + 1, h => by
  have := leftN_le ls n fun k hk => h k (by omega)
  rw [leftN, Nat.pow_succ]
  push_cast at this ⊢
  omega
theorem usedN_le (ls : List Nat) (hl : ls.length ≤ 1000) : ∀ n, usedN ls n ≤ 1000 * n
 | 0 => by simp [usedN]
 | n + 1 => by
  have := usedN_le ls hl n
  have := count_le ls (n + 1)
  rw [usedN]; omega
end
theorem pleft {ls L : List Nat} {few non : TV} (hl : ls.length ≤ 1000) (hL : CntIs ls L) {Q : VEx → Env → List Ob → Prop}
  (hq : ∀ y, leftOk ls 15 → Q .nor [(0, nats ls), (1, few), (2, non), (7, .op 0 0 []), (10, i64 (leftN ls 15)), (11, i64 (usedN ls 15 : Int)), (12, i64 ((16 : Nat) : Int)), (31, y)] [natO L 16])
  (hp : ¬ leftOk ls 15 → ∀ e H, Q (.pan (errE 10)) e H) :
  vwp Tryd.prog (.loop [0, 1, 2, 7, 10, 11, 12] c_deflate_grow_L3) (Blk 2 Q) [(0, nats ls), (1, few), (2, non), (7, .op 0 0 []), (10, i64 ((1 : Nat) : Int)), (11, i64 ((0 : Nat) : Int)), (12, i64 ((1 : Nat) : Int))] [natO L 16] := by
 refine w_loop (fun q e H => ∃ n : Nat, q = 15 - n ∧ n ≤ 15 ∧ leftOk ls n ∧ e = [(0, nats ls), (1, few), (2, non), (7, .op 0 0 []), (10, i64 (leftN ls n)), (11, i64 (usedN ls n : Int)), (12, i64 ((n + 1 : Nat) : Int))] ∧ H = [natO L 16]) 15 ?_ ?_
 ·exact ⟨0, rfl, by omega, fun k hk => by rw [Nat.le_zero.1 hk]; simp [leftN], rfl, rfl⟩
 ·rintro q e H ⟨n, rfl, hn, hok, rfl, rfl⟩
  by_cases hlt : n < 15
  ·have hLn := hL.2 (n + 1) (by omega)
   have hL1 := hL.1
   have hc := count_le ls (n + 1)
   have h0 := hok n (Nat.le_refl _)
   have h1 := leftN_le ls n hok
   have h2 := usedN_le ls hl n
   have h3 : 2 ^ n ≤ 2 ^ 15 := Nat.pow_le_pow_right (by omega) (by omega)
   obtain ⟨m, hm⟩ : ∃ m : Nat, leftN ls n = (m : Int) := ⟨(leftN ls n).toNat, by omega⟩
   have hml : m ≤ 32768 := by omega
   have hstep : leftN ls (n + 1) = (m : Int) * ((2 : Nat) : Int) - (ls.count (n + 1) : Int) := by rw [leftN, hm]; rfl
   by_cases hneg : ls.count (n + 1) ≤ m * 2
   ·have hcast : ((m * 2 : Nat) : Int) - (ls.count (n + 1) : Int) = ((m * 2 - ls.count (n + 1) : Nat) : Int) := by omega
    have hnew : leftN ls (n + 1) = ((m * 2 - ls.count (n + 1) : Nat) : Int) := by rw [hstep, ← hcast]; push_cast; rfl
    rw [hm]
    simp -dsimp (disch := first | assumption | omega | (simp only [vmLen]; done) | (simp only [vmLen]; omega)) only [↓vmPre, vmPost, vmWrd, vmDat, eq_self, forall_const, Nat.reduceLT, Nat.reduceEqDiff, Nat.reduceSub, Nat.reduceMul, Nat.reduceMod, Nat.reduceDiv, Nat.reducePow, UInt8.reduceToNat, Int.reduceEq, Int.reduceLT, Int.reduceLE, ↓reduceIte, Nat.reduceAdd, Int.reduceToNat, reduceCtorEq, Nat.reduceLeDiff, ↓u_deflate_grow, hLn, hL1]
    refine Rnd_keep (15 - (n + 1)) (by omega) (by simp) ⟨n + 1, rfl, by omega, fun k hk => ?_, ?_, rfl⟩
    ·by_cases e : k = n + 1
     ·rw [e, hnew]; omega
     ·exact hok k (by omega)
    ·rw [hnew, usedN]; rfl
   ·have hneg2 : m * 2 < ls.count (n + 1) := by omega
    have hnl : ¬ leftOk ls 15 := fun h => by
     have := h (n + 1) (by omega)
     rw [hstep] at this
     push_cast at this
     omega
    rw [hm]
    simp -dsimp (disch := first | assumption | omega | (simp only [vmLen]; done) | (simp only [vmLen]; omega)) only [↓vmPre, vmPost, vmWrd, vmDat, eq_self, forall_const, Nat.reduceLT, Nat.reduceEqDiff, Nat.reduceSub, Nat.reduceMul, Nat.reduceMod, Nat.reduceDiv, Nat.reducePow, UInt8.reduceToNat, Int.reduceEq, Int.reduceLT, Int.reduceLE, ↓reduceIte, Nat.reduceAdd, Int.reduceToNat, reduceCtorEq, Nat.reduceLeDiff, ↓u_deflate_grow, hLn, hL1]
    exact hp hnl _ _
  ·have hn15 : n = 15 := by omega
   subst hn15
   simp -dsimp (disch := first | assumption | omega | (simp only [vmLen]; done) | (simp only [vmLen]; omega)) only [↓vmPre, vmPost, vmWrd, vmDat, eq_self, forall_const, Nat.reduceLT, Nat.reduceEqDiff, Nat.reduceSub, Nat.reduceMul, Nat.reduceMod, Nat.reduceDiv, Nat.reducePow, UInt8.reduceToNat, Int.reduceEq, Int.reduceLT, Int.reduceLE, ↓reduceIte, Nat.reduceAdd, Int.reduceToNat, reduceCtorEq, Nat.reduceLeDiff, ↓u_deflate_grow]
   exact hq _ hok
/-- Where the codes begin. -/
def NxtIs (ls : List Nat) (m : Nat) (M : List Nat) : Prop := M.length = 17 ∧ ∀ n, n ≤ m → M[n]? = some (stN ls n)
theorem pnext {ls L : List Nat} (hl : ls.length ≤ 1000) (hL : CntIs ls L) (hok : leftOk ls 15) {Q : VEx → Env → List Ob → Prop}
  (hq : ∀ M y, NxtIs ls 16 M → Q .nor [(0, nats ls), (7, .op 0 0 []), (13, .op 1 0 []), (14, i64 ((16 : Nat) : Int)), (73, y)] [natO L 16, natO M 17]) :
  vwp Tryd.prog (.loop [0, 7, 13, 14] c_deflate_grow_L6) (Blk 4 Q) [(0, nats ls), (7, .op 0 0 []), (13, .op 1 0 []), (14, i64 ((1 : Nat) : Int))] [natO L 16, natO (List.replicate 17 0) 17] := by
 refine w_loop (fun q e H => ∃ (n : Nat) (M : List Nat), q = 15 - n ∧ n ≤ 15 ∧ e = [(0, nats ls), (7, .op 0 0 []), (13, .op 1 0 []), (14, i64 ((n + 1 : Nat) : Int))] ∧ NxtIs ls (n + 1) M ∧ H = [natO L 16, natO M 17]) 15 ?_ ?_
 ·refine ⟨0, List.replicate 17 0, rfl, by omega, rfl, ⟨rfl, fun n hn => ?_⟩, rfl⟩
  rw [List.getElem?_replicate, if_pos (by omega)]
  have : n = 0 ∨ n = 1 := by omega
  rcases this with rfl | rfl <;> rfl
 ·rintro q e H ⟨n, M, rfl, hn, rfl, ⟨hM1, hM2⟩, rfl⟩
  by_cases hlt : n < 15
  ·have hLn := hL.2 (n + 1) (by omega)
   have hL1 := hL.1
   have hMn := hM2 (n + 1) (Nat.le_refl _)
   obtain ⟨_, hb⟩ := stN_le ls hok (n + 1) (by omega)
   have hb2 := hb (by omega) (by omega)
   have h3 : 2 ^ (n + 1) ≤ 2 ^ 15 := Nat.pow_le_pow_right (by omega) (by omega)
   obtain ⟨w, hw⟩ : ∃ w, M[n + 1 + 1]? = some w := ⟨_, List.getElem?_eq_getElem (by omega)⟩
   have hsh : (stN ls (n + 1) + ls.count (n + 1)) * 2 ^ 1 ≤ 9223372036854775807 := by omega
   simp -dsimp (disch := first | assumption | omega | (simp only [vmLen]; done) | (simp only [vmLen]; omega)) only [↓vmPre, vmPost, vmWrd, vmDat, eq_self, forall_const, Nat.reduceLT, Nat.reduceEqDiff, Nat.reduceSub, Nat.reduceMul, Nat.reduceMod, Nat.reduceDiv, Nat.reducePow, UInt8.reduceToNat, Int.reduceEq, Int.reduceLT, Int.reduceLE, ↓reduceIte, Nat.reduceAdd, Int.reduceToNat, reduceCtorEq, Nat.reduceLeDiff, ↓u_deflate_grow, hLn, hL1, hMn, hM1, hw]
   refine Rnd_keep (15 - (n + 1)) (by omega) (by simp) ⟨n + 1, M.set (n + 1 + 1) ((stN ls (n + 1) + ls.count (n + 1)) * 2), rfl, by omega, rfl, ⟨by simp [hM1], fun k hk => ?_⟩, by simp only [natO, List.map_set]⟩
   by_cases hkn : k = n + 1 + 1
   ·subst hkn
    rw [List.getElem?_set_self (by omega), stN]
   ·rw [List.getElem?_set_ne (Ne.symm hkn)]
    exact hM2 k (by omega)
  ·have hn15 : n = 15 := by omega
   subst hn15
   simp -dsimp (disch := first | assumption | omega | (simp only [vmLen]; done) | (simp only [vmLen]; omega)) only [↓vmPre, vmPost, vmWrd, vmDat, eq_self, forall_const, Nat.reduceLT, Nat.reduceEqDiff, Nat.reduceSub, Nat.reduceMul, Nat.reduceMod, Nat.reduceDiv, Nat.reducePow, UInt8.reduceToNat, Int.reduceEq, Int.reduceLT, Int.reduceLE, ↓reduceIte, Nat.reduceAdd, Int.reduceToNat, reduceCtorEq, Nat.reduceLeDiff, ↓u_deflate_grow]
   exact hq M _ ⟨hM1, hM2⟩
/-- The symbols one by one. -/
theorem padd {ls L M : List Nat} (hl : ls.length ≤ 1000) (h15 : ∀ n ∈ ls, n ≤ 15) (hok : leftOk ls 15) (hM : NxtIs ls 16 M) (hg : GrowOk ls) {Q : VEx → Env → List Ob → Prop}
  (hq : ∀ H v y, H[3]? = some (.obj 0 (.os 2 2 v [] 0 (growT ls ls.length).length (growT ls ls.length).length)) → H[2]? = some (.obj v (.arr (growT ls ls.length).length 2 ((growT ls ls.length).map plc))) → Q .nor [(13, .op 1 0 []), (15, .op 3 0 []), (89, nats ls), (90, i64 (ls.length : Int)), (91, i64 (ls.length : Int)), (92, y)] H) :
  vwp Tryd.prog (.loop [13, 15, 89, 90, 91] c_deflate_grow_L12) (Blk 6 Q) [(13, .op 1 0 []), (15, .op 3 0 []), (89, nats ls), (90, i64 (ls.length : Int)), (91, i64 ((0 : Nat) : Int))] [natO L 16, natO M 17, .obj 0 (.arr 1 2 ([(0, 0)].map plc)), .obj 0 (.os 2 2 0 [] 0 1 1)] := by
 refine w_loop (fun q e H => ∃ (i v : Nat) (M' : List Nat), q = ls.length - i ∧ i ≤ ls.length ∧ e = [(13, .op 1 0 []), (15, .op 3 0 []), (89, nats ls), (90, i64 (ls.length : Int)), (91, i64 (i : Int))] ∧ M'.length = 17 ∧ (∀ n, n ≤ 15 → M'[n + 1]? = some (codeN ls (n + 1) i)) ∧
  H[1]? = some (natO M' 17) ∧ H[3]? = some (.obj 0 (.os 2 2 v [] 0 (growT ls i).length (growT ls i).length)) ∧ H[2]? = some (.obj v (.arr (growT ls i).length 2 ((growT ls i).map plc))) ∧ 4 ≤ H.length) ls.length ?_ ?_
 ·refine ⟨0, 0, M, rfl, by omega, rfl, hM.1, fun n hn => ?_, rfl, rfl, rfl, by simp⟩
  rw [hM.2 (n + 1) (by omega)]
  simp [codeN]
 ·rintro q e H ⟨i, v, M', rfl, hi, rfl, hM1, hM2, h1, h3, h2, h4⟩
  by_cases hlt : i < ls.length
  ·obtain ⟨n, hn⟩ : ∃ n, ls[i]? = some n := ⟨_, List.getElem?_eq_getElem hlt⟩
   have hn15 := h15 n (List.mem_of_getElem? hn)
   have htk : ls.take (i + 1) = ls.take i ++ [n] := by rw [List.take_add_one, hn]; rfl
   cases n with
   | zero =>
    have hgt : growT ls (i + 1) = growT ls i := by rw [growT, hn]
    simp -dsimp (disch := first | assumption | omega | (simp only [vmLen]; done) | (simp only [vmLen]; omega)) only [↓vmPre, vmPost, vmWrd, vmDat, eq_self, forall_const, Nat.reduceLT, Nat.reduceEqDiff, Nat.reduceSub, Nat.reduceMul, Nat.reduceMod, Nat.reduceDiv, Nat.reducePow, UInt8.reduceToNat, Int.reduceEq, Int.reduceLT, Int.reduceLE, ↓reduceIte, Nat.reduceAdd, Int.reduceToNat, reduceCtorEq, Nat.reduceLeDiff, ↓u_deflate_grow, hn]
    refine Rnd_keep (ls.length - (i + 1)) (by omega) (by first | omega | (simp; omega)) ⟨i + 1, v, M', rfl, by omega, rfl, hM1, fun k hk => ?_, h1, by rw [hgt]; exact h3, by rw [hgt]; exact h2, h4⟩
    rw [hM2 k hk, codeN, codeN, htk, List.count_append]
    simp
   | succ n =>
    have hgt : growT ls (i + 1) = addT n (growT ls i) 0 (codeN ls (n + 1) i) i := by rw [growT, hn]
    have hMn := hM2 n (by omega)
    obtain ⟨_, hb⟩ := stN_le ls hok (n + 1) (by omega)
    have hb2 := hb (by omega) (by omega)
    have hp3 : 2 ^ (n + 1) ≤ 2 ^ 15 := Nat.pow_le_pow_right (by omega) (by omega)
    have hcc : (ls.take i).count (n + 1) ≤ 1000 := Nat.le_trans List.count_le_length (by rw [List.length_take]; omega)
    have hcl : codeN ls (n + 1) i ≤ 100000 := by unfold codeN; omega
    have hgl := growT_len ls h15 i
    simp -dsimp (disch := first | assumption | omega | (simp only [vmLen]; done) | (simp only [vmLen]; omega)) only [↓vmPre, vmPost, vmWrd, vmDat, eq_self, forall_const, Nat.reduceLT, Nat.reduceEqDiff, Nat.reduceSub, Nat.reduceMul, Nat.reduceMod, Nat.reduceDiv, Nat.reducePow, UInt8.reduceToNat, Int.reduceEq, Int.reduceLT, Int.reduceLE, ↓reduceIte, Nat.reduceAdd, Int.reduceToNat, reduceCtorEq, Nat.reduceLeDiff, ↓u_deflate_grow, hn, h1, hMn, hM1]
    refine VCalls.mono (addV h3 h2 (by omega) (by omega) (by omega) (by omega) (by omega) (hg i n hn)) ?_
    rintro x H2 ⟨v', k1, k2, k3, k4, _⟩
    have k5 : H2[1]? = some (natO M' 17) := by rw [k3 1 (by omega) (by omega) (by omega)]; exact h1
    have k5l := (List.getElem?_eq_some_iff.1 k5).1
    simp -dsimp (disch := first | assumption | omega | (simp only [vmLen]; done) | (simp only [vmLen]; omega)) only [↓vmPre, vmPost, vmWrd, vmDat, eq_self, forall_const, Nat.reduceLT, Nat.reduceEqDiff, Nat.reduceSub, Nat.reduceMul, Nat.reduceMod, Nat.reduceDiv, Nat.reducePow, UInt8.reduceToNat, Int.reduceEq, Int.reduceLT, Int.reduceLE, ↓reduceIte, Nat.reduceAdd, Int.reduceToNat, reduceCtorEq, Nat.reduceLeDiff, ↓u_deflate_grow, k5, hMn, hM1]
    refine Rnd_keep (ls.length - (i + 1)) (by omega) (by simp; omega) ⟨i + 1, v', M'.set (n + 1) (codeN ls (n + 1) i + 1), rfl, by omega, rfl, by simp [hM1], fun k hk => ?_, ?_, ?_, ?_, by simp; omega⟩
    ·by_cases hkn : k = n
     ·subst hkn
      rw [List.getElem?_set_self (by omega), codeN, codeN, htk, List.count_append]
      simp; omega
     ·rw [List.getElem?_set_ne (by omega), hM2 k hk, codeN, codeN, htk, List.count_append]
      have : List.count (k + 1) [n + 1] = 0 := by rw [List.count_eq_zero]; simpa using hkn
      rw [this]; rfl
    ·rw [List.getElem?_set_self k5l]; simp only [natO, List.map_set]
    ·rw [hgt, List.getElem?_set_ne (by omega)]; exact k1
    ·rw [hgt, List.getElem?_set_ne (by omega)]; exact k2
  ·have hil : i = ls.length := by omega
   subst hil
   simp -dsimp (disch := first | assumption | omega | (simp only [vmLen]; done) | (simp only [vmLen]; omega)) only [↓vmPre, vmPost, vmWrd, vmDat, eq_self, forall_const, Nat.reduceLT, Nat.reduceEqDiff, Nat.reduceSub, Nat.reduceMul, Nat.reduceMod, Nat.reduceDiv, Nat.reducePow, UInt8.reduceToNat, Int.reduceEq, Int.reduceLT, Int.reduceLE, ↓reduceIte, Nat.reduceAdd, Int.reduceToNat, reduceCtorEq, Nat.reduceLeDiff, ↓u_deflate_grow]
   exact hq H v _ h3 h2
theorem scalL_plc (T : List (Int × Int)) : scalL (T.map plc) = true := scalL_map _ _ fun p => by simp [scal, scalL]
set_option maxHeartbeats 1000000 in
theorem growV {ls : List Nat} {few non : Bool} (hl : ls.length ≤ 1000) (h15 : ∀ n ∈ ls, n ≤ 15) (hg : leftOk ls 15 → GrowOk ls) :
  VFreshP Tryd.prog 28 [nats ls, tb few, tb non] (fun x => okP ls few non ∧ x = treeS (growT ls ls.length)) (fun u => ¬ okP ls few non ∧ u = errE 10) := by
 refine VCallsP.toFreshPV (gp_deflate_grow (by simp) ?_)
 simp -dsimp (disch := first | assumption | omega) only [↓vmPre, vmPost, vmWrd, vmDat, eq_self, forall_const, Nat.reduceLT, Nat.reduceEqDiff, Nat.reduceSub, Nat.reduceMul, Nat.reduceMod, Nat.reduceDiv, Nat.reducePow, UInt8.reduceToNat, Int.reduceEq, Int.reduceLT, Int.reduceLE, ↓reduceIte, Nat.reduceAdd, Int.reduceToNat, reduceCtorEq, Nat.reduceLeDiff, ↓u_deflate_grow]
 refine pcount hl h15 fun L y hL => ?_
 simp -dsimp (disch := first | assumption | omega) only [↓vmPre, vmPost, vmWrd, vmDat, eq_self, forall_const, Nat.reduceLT, Nat.reduceEqDiff, Nat.reduceSub, Nat.reduceMul, Nat.reduceMod, Nat.reduceDiv, Nat.reducePow, UInt8.reduceToNat, Int.reduceEq, Int.reduceLT, Int.reduceLE, ↓reduceIte, Nat.reduceAdd, Int.reduceToNat, reduceCtorEq, Nat.reduceLeDiff, ↓u_deflate_grow]
 refine pleft hl hL (fun y hok => ?_) (fun hno _ H => ?_)
 case refine_2 => exact ⟨fun h => hno h.1, rfl⟩
 have h0 := hok 15 (Nat.le_refl _)
 have h1 := leftN_le ls 15 hok
 have h2 := usedN_le ls hl 15
 obtain ⟨m, hm⟩ : ∃ m : Nat, leftN ls 15 = (m : Int) := ⟨(leftN ls 15).toNat, by omega⟩
 obtain ⟨us, hus⟩ : ∃ us, us = usedN ls 15 := ⟨_, rfl⟩
 have hc1 := hL.2 1 (by omega)
 have hL1 := hL.1
 have good : okP ls few non → ∀ {y}, vwp Tryd.prog c_deflate_grow_k18 (atEndP r_deflate_grow (fun x H' => vget (frs H' x) fun x => okP ls few non ∧ x = treeS (growT ls ls.length)) (fun u _ => ¬ okP ls few non ∧ u = errE 10)) [(0, nats ls), (7, .op 0 0 []), (70, y)] [natO L 16] := by
  intro hokP y
  simp -dsimp (disch := first | assumption | omega) only [↓vmPre, vmPost, vmWrd, vmDat, eq_self, forall_const, Nat.reduceLT, Nat.reduceEqDiff, Nat.reduceSub, Nat.reduceMul, Nat.reduceMod, Nat.reduceDiv, Nat.reducePow, UInt8.reduceToNat, Int.reduceEq, Int.reduceLT, Int.reduceLE, ↓reduceIte, Nat.reduceAdd, Int.reduceToNat, reduceCtorEq, Nat.reduceLeDiff, ↓u_deflate_grow]
  refine pnext hl hL hok fun M y hM => ?_
  simp -dsimp (disch := first | assumption | omega) only [↓vmPre, vmPost, vmWrd, vmDat, eq_self, forall_const, Nat.reduceLT, Nat.reduceEqDiff, Nat.reduceSub, Nat.reduceMul, Nat.reduceMod, Nat.reduceDiv, Nat.reducePow, UInt8.reduceToNat, Int.reduceEq, Int.reduceLT, Int.reduceLE, ↓reduceIte, Nat.reduceAdd, Int.reduceToNat, reduceCtorEq, Nat.reduceLeDiff, ↓u_deflate_grow]
  refine padd hl h15 hok hM (hg hok) fun H v y k3 k2 => ?_
  simp -dsimp (disch := first | assumption | omega) only [↓vmPre, vmPost, vmWrd, vmDat, eq_self, forall_const, Nat.reduceLT, Nat.reduceEqDiff, Nat.reduceSub, Nat.reduceMul, Nat.reduceMod, Nat.reduceDiv, Nat.reducePow, UInt8.reduceToNat, Int.reduceEq, Int.reduceLT, Int.reduceLE, ↓reduceIte, Nat.reduceAdd, Int.reduceToNat, reduceCtorEq, Nat.reduceLeDiff, ↓u_deflate_grow, k3, k2, scalL_plc]
  exact hokP
 rw [hm, ← hus]
 by_cases hm0 : m = 0
 ·have hokP : okP ls few non := ⟨hok, .inl (by omega)⟩
  have hmp : ¬ (0 < m) := by omega
  simp -dsimp (disch := first | assumption | omega) only [↓vmPre, vmPost, vmWrd, vmDat, eq_self, forall_const, Nat.reduceLT, Nat.reduceEqDiff, Nat.reduceSub, Nat.reduceMul, Nat.reduceMod, Nat.reduceDiv, Nat.reducePow, UInt8.reduceToNat, Int.reduceEq, Int.reduceLT, Int.reduceLE, ↓reduceIte, Nat.reduceAdd, Int.reduceToNat, reduceCtorEq, Nat.reduceLeDiff, ↓u_deflate_grow_k19_e]
  exact good hokP
 have hmp : 0 < m := by omega
 have hbad : ¬ (few = true ∧ us = 1 ∧ ls.count 1 = 1) → ¬ (non = true ∧ us = 0) → ¬ okP ls few non := by
  rintro c1 c2 ⟨_, h | h | h⟩
  ·omega
  ·rw [← hus] at h; exact c1 h
  ·rw [← hus] at h; exact c2 h
 cases few <;> cases non
 ·simp -dsimp (disch := first | assumption | omega) only [↓vmPre, vmPost, vmWrd, vmDat, eq_self, forall_const, Nat.reduceLT, Nat.reduceEqDiff, Nat.reduceSub, Nat.reduceMul, Nat.reduceMod, Nat.reduceDiv, Nat.reducePow, UInt8.reduceToNat, Int.reduceEq, Int.reduceLT, Int.reduceLE, ↓reduceIte, Nat.reduceAdd, Int.reduceToNat, reduceCtorEq, Nat.reduceLeDiff, ↓u_deflate_grow_k19_e]
  exact hbad (by simp) (by simp)
 ·by_cases hu0 : us = 0
  ·have hokP : okP ls false true := ⟨hok, .inr (.inr ⟨rfl, by omega⟩)⟩
   simp -dsimp (disch := first | assumption | omega) only [↓vmPre, vmPost, vmWrd, vmDat, eq_self, forall_const, Nat.reduceLT, Nat.reduceEqDiff, Nat.reduceSub, Nat.reduceMul, Nat.reduceMod, Nat.reduceDiv, Nat.reducePow, UInt8.reduceToNat, Int.reduceEq, Int.reduceLT, Int.reduceLE, ↓reduceIte, Nat.reduceAdd, Int.reduceToNat, reduceCtorEq, Nat.reduceLeDiff, ↓u_deflate_grow_k19_e, hu0]
   exact good hokP
  ·simp -dsimp (disch := first | assumption | omega) only [↓vmPre, vmPost, vmWrd, vmDat, eq_self, forall_const, Nat.reduceLT, Nat.reduceEqDiff, Nat.reduceSub, Nat.reduceMul, Nat.reduceMod, Nat.reduceDiv, Nat.reducePow, UInt8.reduceToNat, Int.reduceEq, Int.reduceLT, Int.reduceLE, ↓reduceIte, Nat.reduceAdd, Int.reduceToNat, reduceCtorEq, Nat.reduceLeDiff, ↓u_deflate_grow_k19_e]
   exact hbad (by simp) (by simp [hu0])
 ·by_cases hu1 : us = 1
  ·by_cases hc : ls.count 1 = 1
   ·have hokP : okP ls true false := ⟨hok, .inr (.inl ⟨rfl, by omega, hc⟩)⟩
    simp -dsimp (disch := first | assumption | omega) only [↓vmPre, vmPost, vmWrd, vmDat, eq_self, forall_const, Nat.reduceLT, Nat.reduceEqDiff, Nat.reduceSub, Nat.reduceMul, Nat.reduceMod, Nat.reduceDiv, Nat.reducePow, UInt8.reduceToNat, Int.reduceEq, Int.reduceLT, Int.reduceLE, ↓reduceIte, Nat.reduceAdd, Int.reduceToNat, reduceCtorEq, Nat.reduceLeDiff, ↓u_deflate_grow_k19_e, hu1, hc1, hL1, hc]
    exact good hokP
   ·simp -dsimp (disch := first | assumption | omega) only [↓vmPre, vmPost, vmWrd, vmDat, eq_self, forall_const, Nat.reduceLT, Nat.reduceEqDiff, Nat.reduceSub, Nat.reduceMul, Nat.reduceMod, Nat.reduceDiv, Nat.reducePow, UInt8.reduceToNat, Int.reduceEq, Int.reduceLT, Int.reduceLE, ↓reduceIte, Nat.reduceAdd, Int.reduceToNat, reduceCtorEq, Nat.reduceLeDiff, ↓u_deflate_grow_k19_e, hu1, hc1, hL1]
    exact hbad (by simp [hc]) (by simp)
  ·simp -dsimp (disch := first | assumption | omega) only [↓vmPre, vmPost, vmWrd, vmDat, eq_self, forall_const, Nat.reduceLT, Nat.reduceEqDiff, Nat.reduceSub, Nat.reduceMul, Nat.reduceMod, Nat.reduceDiv, Nat.reducePow, UInt8.reduceToNat, Int.reduceEq, Int.reduceLT, Int.reduceLE, ↓reduceIte, Nat.reduceAdd, Int.reduceToNat, reduceCtorEq, Nat.reduceLeDiff, ↓u_deflate_grow_k19_e]
   exact hbad (by simp [hu1]) (by simp)
 ·by_cases hu1 : us = 1
  ·have hu0 : ¬ (us = 0) := by omega
   by_cases hc : ls.count 1 = 1
   ·have hokP : okP ls true true := ⟨hok, .inr (.inl ⟨rfl, by omega, hc⟩)⟩
    simp -dsimp (disch := first | assumption | omega) only [↓vmPre, vmPost, vmWrd, vmDat, eq_self, forall_const, Nat.reduceLT, Nat.reduceEqDiff, Nat.reduceSub, Nat.reduceMul, Nat.reduceMod, Nat.reduceDiv, Nat.reducePow, UInt8.reduceToNat, Int.reduceEq, Int.reduceLT, Int.reduceLE, ↓reduceIte, Nat.reduceAdd, Int.reduceToNat, reduceCtorEq, Nat.reduceLeDiff, ↓u_deflate_grow_k19_e, hu1, hc1, hL1, hc]
    exact good hokP
   ·simp -dsimp (disch := first | assumption | omega) only [↓vmPre, vmPost, vmWrd, vmDat, eq_self, forall_const, Nat.reduceLT, Nat.reduceEqDiff, Nat.reduceSub, Nat.reduceMul, Nat.reduceMod, Nat.reduceDiv, Nat.reducePow, UInt8.reduceToNat, Int.reduceEq, Int.reduceLT, Int.reduceLE, ↓reduceIte, Nat.reduceAdd, Int.reduceToNat, reduceCtorEq, Nat.reduceLeDiff, ↓u_deflate_grow_k19_e, hu1, hc1, hL1]
    exact hbad (by simp [hc]) (by simp [hu0])
  ·by_cases hu0 : us = 0
   ·have hokP : okP ls true true := ⟨hok, .inr (.inr ⟨rfl, by omega⟩)⟩
    simp -dsimp (disch := first | assumption | omega) only [↓vmPre, vmPost, vmWrd, vmDat, eq_self, forall_const, Nat.reduceLT, Nat.reduceEqDiff, Nat.reduceSub, Nat.reduceMul, Nat.reduceMod, Nat.reduceDiv, Nat.reducePow, UInt8.reduceToNat, Int.reduceEq, Int.reduceLT, Int.reduceLE, ↓reduceIte, Nat.reduceAdd, Int.reduceToNat, reduceCtorEq, Nat.reduceLeDiff, ↓u_deflate_grow_k19_e, hu0]
    exact good hokP
   ·simp -dsimp (disch := first | assumption | omega) only [↓vmPre, vmPost, vmWrd, vmDat, eq_self, forall_const, Nat.reduceLT, Nat.reduceEqDiff, Nat.reduceSub, Nat.reduceMul, Nat.reduceMod, Nat.reduceDiv, Nat.reducePow, UInt8.reduceToNat, Int.reduceEq, Int.reduceLT, Int.reduceLE, ↓reduceIte, Nat.reduceAdd, Int.reduceToNat, reduceCtorEq, Nat.reduceLeDiff, ↓u_deflate_grow_k19_e]
    exact hbad (by simp [hu1]) (by simp [hu0])
end Go.Proofs.YtfgljddikcghhaaDoor

