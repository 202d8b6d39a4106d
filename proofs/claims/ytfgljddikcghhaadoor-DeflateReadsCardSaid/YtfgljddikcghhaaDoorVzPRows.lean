import Derived.Test.YtfgljddikcghhaaDoorVzPFixed
namespace Go.Proofs.YtfgljddikcghhaaDoor
open Go.RowKit
variable [Globs]
set_option linter.unusedSectionVars false
set_option linter.unusedVariables false
set_option linter.unusedSimpArgs false

theorem pfill {id n m W v what times : Nat} {tr : TV} {row : List Nat} {H : List Ob} {Q : VEx → Env → List Ob → Prop} (hW : H[W]? = some (nsO v row)) (ht : times ≤ 1000) (hrow : row.length ≤ 1000)
  (hq : ∀ H' v' y, Frm W none H H' → H'[W]? = some (nsO v' (row ++ List.replicate times what)) → Q .nor [(0, .op id 0 []), (4, i64 (n : Int)), (5, i64 (m : Int)), (10, tr), (11, .os 1 W v' [] 0 (row.length + times) (row.length + times)), (12, i64 (what : Int)), (90, i64 (times : Int)), (91, i64 (times : Int)), (92, y)] H') :
  vwp Tryd.prog (.loop [0, 4, 5, 10, 11, 12, 90, 91] c_deflate_reader_told_L7) (Blk 5 Q) [(0, .op id 0 []), (4, i64 (n : Int)), (5, i64 (m : Int)), (10, tr), (11, .os 1 W v [] 0 row.length row.length), (12, i64 (what : Int)), (90, i64 (times : Int)), (91, i64 ((0 : Nat) : Int))] H := by
 refine w_loop (fun q e H' => ∃ k v' : Nat, q = times - k ∧ k ≤ times ∧ e = [(0, .op id 0 []), (4, i64 (n : Int)), (5, i64 (m : Int)), (10, tr), (11, .os 1 W v' [] 0 (row.length + k) (row.length + k)), (12, i64 (what : Int)), (90, i64 (times : Int)), (91, i64 (k : Int))] ∧ Frm W none H H' ∧ H'[W]? = some (nsO v' (row ++ List.replicate k what))) times ?_ ?_
 ·exact ⟨0, v, rfl, by omega, rfl, Frm.refl, by simpa using hW⟩
 ·rintro q e H' ⟨k, v', rfl, hk, rfl, hfr, h1⟩
  have hWl : W < H'.length := (List.getElem?_eq_some_iff.1 h1).1
  by_cases hlt : k < times
  ·have hll : (row ++ List.replicate k what).length = row.length + k := by simp
   simp -dsimp (disch := first | assumption | omega | (simp only [vmLen]; done) | (simp only [vmLen]; omega)) only [↓vmPre, vmPost, vmWrd, vmDat, eq_self, forall_const, Nat.reduceLT, Nat.reduceEqDiff, Nat.reduceSub, Nat.reduceMul, Nat.reduceMod, Nat.reduceDiv, Nat.reducePow, UInt8.reduceToNat, Int.reduceEq, Int.reduceLT, Int.reduceLE, ↓reduceIte, Nat.reduceAdd, Int.reduceToNat, reduceCtorEq, Nat.reduceLeDiff, ↓u_deflate_reader_told, h1, one_set, take_one', len_one, hll]
   refine Rnd_keep (times - (k + 1)) (by omega) (by have := hfr.1; simp; omega) ⟨k + 1, v' + 1, rfl, by omega, rfl, ?_, ?_⟩
   ·exact hfr.trans Jn.refl ⟨by simp, fun i hi h2 _ => by rw [List.getElem?_append_left (by simpa using hi), List.getElem?_set_ne (Ne.symm h2)]⟩
   ·rw [List.getElem?_append_left (by simpa using hWl), List.getElem?_set_self hWl, List.replicate_succ', ← List.append_assoc]
    simp; omega
  ·have hkn : k = times := by omega
   subst hkn
   simp -dsimp (disch := first | assumption | omega | (simp only [vmLen]; done) | (simp only [vmLen]; omega)) only [↓vmPre, vmPost, vmWrd, vmDat, eq_self, forall_const, Nat.reduceLT, Nat.reduceEqDiff, Nat.reduceSub, Nat.reduceMul, Nat.reduceMod, Nat.reduceDiv, Nat.reducePow, UInt8.reduceToNat, Int.reduceEq, Int.reduceLT, Int.reduceLE, ↓reduceIte, Nat.reduceAdd, Int.reduceToNat, reduceCtorEq, Nat.reduceLeDiff, ↓u_deflate_reader_told]
   exact hq H' v' _ hfr h1
theorem pk8 {id n m W v what times : Nat} {tr : TV} {row : List Nat} {E : Env} {H : List Ob} {Q : VEx → Env → List Ob → Prop} (hW : H[W]? = some (nsO v row)) (ht : times ≤ 1000) (hrow : row.length ≤ 1000) (hn : n ≤ 1000 ∧ m ≤ 1000)
  (hbad : n + m < row.length + times → ∀ e, Q (.pan (errE 10)) e H)
  (hgood : row.length + times ≤ n + m → ∀ H' v' y, Frm W none H H' → H'[W]? = some (nsO v' (row ++ List.replicate times what)) → Q .nor [(0, .op id 0 []), (4, i64 (n : Int)), (5, i64 (m : Int)), (10, tr), (11, .os 1 W v' [] 0 (row.length + times) (row.length + times)), (12, i64 (what : Int)), (90, i64 (times : Int)), (91, i64 (times : Int)), (92, y)] H') :
  vwp Tryd.prog c_deflate_reader_told_k8 Q ((0, .op id 0 []) :: (4, i64 (n : Int)) :: (5, i64 (m : Int)) :: (10, tr) :: (11, .os 1 W v [] 0 row.length row.length) :: (12, i64 (what : Int)) :: (13, i64 (times : Int)) :: E) H := by
 by_cases hc : n + m < row.length + times
 ·simp -dsimp (disch := first | assumption | omega | (simp only [vmLen]; done) | (simp only [vmLen]; omega)) only [↓vmPre, vmPost, vmWrd, vmDat, eq_self, forall_const, Nat.reduceLT, Nat.reduceEqDiff, Nat.reduceSub, Nat.reduceMul, Nat.reduceMod, Nat.reduceDiv, Nat.reducePow, UInt8.reduceToNat, Int.reduceEq, Int.reduceLT, Int.reduceLE, ↓reduceIte, Nat.reduceAdd, Int.reduceToNat, reduceCtorEq, Nat.reduceLeDiff, ↓u_deflate_reader_told]
  exact hbad hc _
 ·simp -dsimp (disch := first | assumption | omega | (simp only [vmLen]; done) | (simp only [vmLen]; omega)) only [↓vmPre, vmPost, vmWrd, vmDat, eq_self, forall_const, Nat.reduceLT, Nat.reduceEqDiff, Nat.reduceSub, Nat.reduceMul, Nat.reduceMod, Nat.reduceDiv, Nat.reducePow, UInt8.reduceToNat, Int.reduceEq, Int.reduceLT, Int.reduceLE, ↓reduceIte, Nat.reduceAdd, Int.reduceToNat, reduceCtorEq, Nat.reduceLeDiff, ↓u_deflate_reader_told]
  exact pfill hW ht hrow fun H' v' y h1 h2 => hgood (by omega) H' v' y h1 h2
set_option maxHeartbeats 1000000 in
/-- The rows. -/
theorem prows {id n m W v : Nat} {B : List Bool} {l : List UInt8} {o : TV} {most win : Int} {J : Option Nat} {T : List (Int × Int)} {E : Env} {H : List Ob} {Q : VEx → Env → List Ob → Prop}
  (hE : forget [0, 4, 5, 10, 11] E = [(0, .op id 0 []), (4, i64 (n : Int)), (5, i64 (m : Int)), (10, treeS T), (11, .os 1 W v [] 0 0 0)]) (hst : RdrAt H id B o l most win J) (hT : Closed' T) (hT0 : 0 < T.length) (hsym : ∀ B y B1, symT T 0 B = some (y, B1) → y ≤ 100000) (hn : n ≤ 500 ∧ m ≤ 400)
  (hW : H[W]? = some (nsO v [])) (hnW : W ≠ id) (hnJ : J ≠ some W)
  (hbad : rowsP (symT T 0) (n + m) (n + m + 1) B [] = none → ∀ H', Frm id (some W) H H' → ∀ e, Q (.pan (errE 10)) e H')
  (hgood : ∀ row B2, rowsP (symT T 0) (n + m) (n + m + 1) B [] = some (row, B2) → row.length = n + m → ∀ H' v' y, Frm id (some W) H H' → RdrAt H' id B2 o l most win J → H'[W]? = some (nsO v' row) → Q .nor [(0, .op id 0 []), (4, i64 (n : Int)), (5, i64 (m : Int)), (10, treeS T), (11, .os 1 W v' [] 0 row.length row.length), (51, y)] H') :
  vwp Tryd.prog (.loop [0, 4, 5, 10, 11] c_deflate_reader_told_L11) (Blk 2 Q) E H := by
 obtain ⟨R, hR0⟩ : ∃ R, R = rowsP (symT T 0) (n + m) (n + m + 1) B [] := ⟨_, rfl⟩
 rw [← hR0] at hbad hgood
 refine w_loop (fun q e H' => ∃ (B1 : List Bool) (v' : Nat) (row : List Nat), R = rowsP (symT T 0) (n + m) q B1 row ∧ n + m - row.length < q ∧ row.length ≤ n + m ∧ e = [(0, .op id 0 []), (4, i64 (n : Int)), (5, i64 (m : Int)), (10, treeS T), (11, .os 1 W v' [] 0 row.length row.length)] ∧ Frm id (some W) H H' ∧ RdrAt H' id B1 o l most win J ∧ H'[W]? = some (nsO v' row)) (n + m + 1) ?_ ?_
 ·exact ⟨B, v, [], hR0, by simp, by simp, hE, Frm.refl, hst, hW⟩
 ·rintro q e H' ⟨B1, v', row, hR, hq, hrl, rfl, hfr, hs, hW'⟩
  obtain ⟨f, rfl⟩ : ∃ f, q = f + 1 := ⟨q - 1, by omega⟩
  rw [rowsP] at hR
  by_cases htot : n + m ≤ row.length
  ·rw [if_pos htot] at hR
   simp -dsimp (disch := first | assumption | omega | (simp only [vmLen]; done) | (simp only [vmLen]; omega)) only [↓vmPre, vmPost, vmWrd, vmDat, eq_self, forall_const, Nat.reduceLT, Nat.reduceEqDiff, Nat.reduceSub, Nat.reduceMul, Nat.reduceMod, Nat.reduceDiv, Nat.reducePow, UInt8.reduceToNat, Int.reduceEq, Int.reduceLT, Int.reduceLE, ↓reduceIte, Nat.reduceAdd, Int.reduceToNat, reduceCtorEq, Nat.reduceLeDiff, ↓u_deflate_reader_told]
   exact hgood row B1 hR (by omega) H' v' _ hfr hs hW'
  rw [if_neg htot] at hR
  simp -dsimp (disch := first | assumption | omega | (simp only [vmLen]; done) | (simp only [vmLen]; omega)) only [↓vmPre, vmPost, vmWrd, vmDat, eq_self, forall_const, Nat.reduceLT, Nat.reduceEqDiff, Nat.reduceSub, Nat.reduceMul, Nat.reduceMod, Nat.reduceDiv, Nat.reducePow, UInt8.reduceToNat, Int.reduceEq, Int.reduceLT, Int.reduceLE, ↓reduceIte, Nat.reduceAdd, Int.reduceToNat, reduceCtorEq, Nat.reduceLeDiff, ↓u_deflate_reader_told]
  refine (symbolS hs hT hT0).callsP ?_ ?_
  case refine_2 =>
   rintro u H2 ⟨k1, rfl, k3⟩
   rw [k1] at hR
   exact hbad hR H2 (hfr.trans Jn.refl k3.weak) _
  rintro x H2 ⟨hf2, hl2, y, B2, k1, rfl, hs2⟩
  have hyl := hsym _ _ _ k1
  rw [k1] at hR
  simp only at hR
  have hfr2 : Frm id (some W) H H2 := hfr.trans Jn.refl hf2.weak
  have hW2 : H2[W]? = some (nsO v' row) := by rw [hf2.2 W (List.getElem?_eq_some_iff.1 hW').1 hnW (by simp)]; exact hW'
  have hst17 : ∀ r : List Nat, stepR 17 r = some (3, 3, 0) := fun r => by simp [stepR]
  have hst18 : ∀ r : List Nat, stepR 18 r = some (7, 11, 0) := fun r => by simp [stepR]
  by_cases hy16 : y = 16
  ·subst hy16
   by_cases hre : row = []
   ·subst hre
    rw [show stepR 16 [] = none by simp [stepR]] at hR
    simp -dsimp (disch := first | assumption | omega | (simp only [vmLen]; done) | (simp only [vmLen]; omega)) only [↓vmPre, vmPost, vmWrd, vmDat, eq_self, forall_const, Nat.reduceLT, Nat.reduceEqDiff, Nat.reduceSub, Nat.reduceMul, Nat.reduceMod, Nat.reduceDiv, Nat.reducePow, UInt8.reduceToNat, Int.reduceEq, Int.reduceLT, Int.reduceLE, ↓reduceIte, Nat.reduceAdd, Int.reduceToNat, reduceCtorEq, Nat.reduceLeDiff, ↓u_deflate_reader_told]
    exact hbad hR H2 hfr2 _
   have hrow0 : 0 < row.length := List.length_pos_iff.2 hre
   obtain ⟨lw, hlw⟩ : ∃ lw, row[row.length - 1]? = some lw := ⟨_, List.getElem?_eq_getElem (by omega)⟩
   rw [show stepR 16 row = some (2, 3, lw) by simp [stepR, List.getLast?_eq_getElem?, hlw]] at hR
   simp only at hR
   simp -dsimp (disch := first | assumption | omega | (simp only [vmLen]; done) | (simp only [vmLen]; omega)) only [↓vmPre, vmPost, vmWrd, vmDat, eq_self, forall_const, Nat.reduceLT, Nat.reduceEqDiff, Nat.reduceSub, Nat.reduceMul, Nat.reduceMod, Nat.reduceDiv, Nat.reducePow, UInt8.reduceToNat, Int.reduceEq, Int.reduceLT, Int.reduceLE, ↓reduceIte, Nat.reduceAdd, Int.reduceToNat, reduceCtorEq, Nat.reduceLeDiff, ↓u_deflate_reader_told_k10_e, ↓u_deflate_reader_told_k9_e, ↓u_deflate_reader_told_k6_e, ↓u_deflate_reader_told_k5_e, ↓u_deflate_reader_told_b2_e, hW2, hlw]
   refine (bitsS hs2 (n := 2) (by omega)).callsP ?_ ?_
   case refine_2 =>
    rintro u H3 ⟨k2, rfl, k3⟩
    exact hbad (by rw [hR, if_pos (by omega)]) H3 (hfr2.trans Jn.refl k3.weak) _
   rintro x H3 ⟨g1, g2, k2, rfl, g3⟩
   obtain ⟨tv, htv⟩ : ∃ tv : Nat, tv = valN (B2.take 2) := ⟨_, rfl⟩
   rw [← htv]
   rw [← htv, if_neg (by omega)] at hR
   have htvl : tv < 128 := by have := bits_le 2 B2; omega
   have hW3 : H3[W]? = some (nsO v' row) := by rw [g1.2 W (List.getElem?_eq_some_iff.1 hW2).1 hnW (by simp)]; exact hW2
   refine ⟨?_, ?_⟩
   case refine_2 =>
    change Kept [66] _ _ _
    intro s hs j ver p hg
    rw [List.mem_singleton] at hs
    subst hs
    simp [get] at hg
    obtain ⟨rfl, _⟩ := hg
    rw [hW3, hW2]
   simp -dsimp (disch := first | assumption | omega | (simp only [vmLen]; done) | (simp only [vmLen]; omega)) only [↓vmPre, vmPost, vmWrd, vmDat, eq_self, forall_const, Nat.reduceLT, Nat.reduceEqDiff, Nat.reduceSub, Nat.reduceMul, Nat.reduceMod, Nat.reduceDiv, Nat.reducePow, UInt8.reduceToNat, Int.reduceEq, Int.reduceLT, Int.reduceLE, ↓reduceIte, Nat.reduceAdd, Int.reduceToNat, reduceCtorEq, Nat.reduceLeDiff]
   refine pk8 (n := n) (m := m) (what := lw) (times := 3 + tv) hW3 (by omega) (by omega) (by omega) ?_ ?_
   ·intro hb
    exact hbad (by rw [hR, if_pos hb]) H3 (hfr2.trans Jn.refl g1.weak)
   ·intro hle H4 v4 y4 k3 k4
    have hfr4 : Frm id (some W) H H4 := ⟨Nat.le_trans hfr2.1 (Nat.le_trans g1.1 k3.1), fun i hi h1 h2 => by
     have hiW : i ≠ W := fun e => h2 (by rw [e])
     rw [k3.2 i (by have := hfr2.1; omega) hiW (by simp), g1.2 i (by have := hfr2.1; omega) h1 (by simp)]
     exact hfr2.2 i hi h1 h2⟩
    rw [if_neg (by omega)] at hR
    have hs4 : RdrAt H4 id (B2.drop 2) o l most win J := g3.keep fun i hi => k3.2 i (by rcases hi with rfl | hi; exact g3.lt; exact g3.jlt hi) (by rcases hi with rfl | hi; exact Ne.symm hnW; exact fun e => hnJ (by rw [hi, e])) (by simp)
    simp -dsimp (disch := first | assumption | omega | (simp only [vmLen]; done) | (simp only [vmLen]; omega)) only [↓vmPre, vmPost, vmWrd, vmDat, eq_self, forall_const, Nat.reduceLT, Nat.reduceEqDiff, Nat.reduceSub, Nat.reduceMul, Nat.reduceMod, Nat.reduceDiv, Nat.reducePow, UInt8.reduceToNat, Int.reduceEq, Int.reduceLT, Int.reduceLE, ↓reduceIte, Nat.reduceAdd, Int.reduceToNat, reduceCtorEq, Nat.reduceLeDiff]
    refine Rnd_keep f (by omega) (by have := hfr4.1; omega) ⟨_, v4, row ++ List.replicate (3 + tv) lw, hR, by simp; omega, by simp; omega, by rw [List.length_append, List.length_replicate]; rfl, hfr4, hs4, k4⟩
  by_cases hy17 : y = 17
  ·subst hy17
   rw [hst17] at hR
   simp only at hR
   simp -dsimp (disch := first | assumption | omega | (simp only [vmLen]; done) | (simp only [vmLen]; omega)) only [↓vmPre, vmPost, vmWrd, vmDat, eq_self, forall_const, Nat.reduceLT, Nat.reduceEqDiff, Nat.reduceSub, Nat.reduceMul, Nat.reduceMod, Nat.reduceDiv, Nat.reducePow, UInt8.reduceToNat, Int.reduceEq, Int.reduceLT, Int.reduceLE, ↓reduceIte, Nat.reduceAdd, Int.reduceToNat, reduceCtorEq, Nat.reduceLeDiff, ↓u_deflate_reader_told_k10_e, ↓u_deflate_reader_told_k9_e, ↓u_deflate_reader_told_k6_e, ↓u_deflate_reader_told_k5_e, ↓u_deflate_reader_told_b4_e, ↓u_deflate_reader_told_b3_e]
   refine (bitsS hs2 (n := 3) (by omega)).callsP ?_ ?_
   case refine_2 =>
    rintro u H3 ⟨k2, rfl, k3⟩
    exact hbad (by rw [hR, if_pos (by omega)]) H3 (hfr2.trans Jn.refl k3.weak) _
   rintro x H3 ⟨g1, g2, k2, rfl, g3⟩
   obtain ⟨tv, htv⟩ : ∃ tv : Nat, tv = valN (B2.take 3) := ⟨_, rfl⟩
   rw [← htv]
   rw [← htv, if_neg (by omega)] at hR
   have htvl : tv < 128 := by have := bits_le 3 B2; omega
   have hW3 : H3[W]? = some (nsO v' row) := by rw [g1.2 W (List.getElem?_eq_some_iff.1 hW2).1 hnW (by simp)]; exact hW2
   simp -dsimp (disch := first | assumption | omega | (simp only [vmLen]; done) | (simp only [vmLen]; omega)) only [↓vmPre, vmPost, vmWrd, vmDat, eq_self, forall_const, Nat.reduceLT, Nat.reduceEqDiff, Nat.reduceSub, Nat.reduceMul, Nat.reduceMod, Nat.reduceDiv, Nat.reducePow, UInt8.reduceToNat, Int.reduceEq, Int.reduceLT, Int.reduceLE, ↓reduceIte, Nat.reduceAdd, Int.reduceToNat, reduceCtorEq, Nat.reduceLeDiff]
   refine pk8 (n := n) (m := m) (what := 0) (times := 3 + tv) hW3 (by omega) (by omega) (by omega) ?_ ?_
   ·intro hb
    exact hbad (by rw [hR, if_pos hb]) H3 (hfr2.trans Jn.refl g1.weak)
   ·intro hle H4 v4 y4 k3 k4
    have hfr4 : Frm id (some W) H H4 := ⟨Nat.le_trans hfr2.1 (Nat.le_trans g1.1 k3.1), fun i hi h1 h2 => by
     have hiW : i ≠ W := fun e => h2 (by rw [e])
     rw [k3.2 i (by have := hfr2.1; omega) hiW (by simp), g1.2 i (by have := hfr2.1; omega) h1 (by simp)]
     exact hfr2.2 i hi h1 h2⟩
    rw [if_neg (by omega)] at hR
    have hs4 : RdrAt H4 id (B2.drop 3) o l most win J := g3.keep fun i hi => k3.2 i (by rcases hi with rfl | hi; exact g3.lt; exact g3.jlt hi) (by rcases hi with rfl | hi; exact Ne.symm hnW; exact fun e => hnJ (by rw [hi, e])) (by simp)
    simp -dsimp (disch := first | assumption | omega | (simp only [vmLen]; done) | (simp only [vmLen]; omega)) only [↓vmPre, vmPost, vmWrd, vmDat, eq_self, forall_const, Nat.reduceLT, Nat.reduceEqDiff, Nat.reduceSub, Nat.reduceMul, Nat.reduceMod, Nat.reduceDiv, Nat.reducePow, UInt8.reduceToNat, Int.reduceEq, Int.reduceLT, Int.reduceLE, ↓reduceIte, Nat.reduceAdd, Int.reduceToNat, reduceCtorEq, Nat.reduceLeDiff]
    refine Rnd_keep f (by omega) (by have := hfr4.1; omega) ⟨_, v4, row ++ List.replicate (3 + tv) 0, hR, by simp; omega, by simp; omega, by rw [List.length_append, List.length_replicate]; rfl, hfr4, hs4, k4⟩
  by_cases hy18 : y = 18
  ·subst hy18
   rw [hst18] at hR
   simp only at hR
   simp -dsimp (disch := first | assumption | omega | (simp only [vmLen]; done) | (simp only [vmLen]; omega)) only [↓vmPre, vmPost, vmWrd, vmDat, eq_self, forall_const, Nat.reduceLT, Nat.reduceEqDiff, Nat.reduceSub, Nat.reduceMul, Nat.reduceMod, Nat.reduceDiv, Nat.reducePow, UInt8.reduceToNat, Int.reduceEq, Int.reduceLT, Int.reduceLE, ↓reduceIte, Nat.reduceAdd, Int.reduceToNat, reduceCtorEq, Nat.reduceLeDiff, ↓u_deflate_reader_told_k10_e, ↓u_deflate_reader_told_k9_e, ↓u_deflate_reader_told_k6_e, ↓u_deflate_reader_told_k5_e, ↓u_deflate_reader_told_b4_e, ↓u_deflate_reader_told_b3_e]
   refine (bitsS hs2 (n := 7) (by omega)).callsP ?_ ?_
   case refine_2 =>
    rintro u H3 ⟨k2, rfl, k3⟩
    exact hbad (by rw [hR, if_pos (by omega)]) H3 (hfr2.trans Jn.refl k3.weak) _
   rintro x H3 ⟨g1, g2, k2, rfl, g3⟩
   obtain ⟨tv, htv⟩ : ∃ tv : Nat, tv = valN (B2.take 7) := ⟨_, rfl⟩
   rw [← htv]
   rw [← htv, if_neg (by omega)] at hR
   have htvl : tv < 128 := by have := bits_le 7 B2; omega
   have hW3 : H3[W]? = some (nsO v' row) := by rw [g1.2 W (List.getElem?_eq_some_iff.1 hW2).1 hnW (by simp)]; exact hW2
   simp -dsimp (disch := first | assumption | omega | (simp only [vmLen]; done) | (simp only [vmLen]; omega)) only [↓vmPre, vmPost, vmWrd, vmDat, eq_self, forall_const, Nat.reduceLT, Nat.reduceEqDiff, Nat.reduceSub, Nat.reduceMul, Nat.reduceMod, Nat.reduceDiv, Nat.reducePow, UInt8.reduceToNat, Int.reduceEq, Int.reduceLT, Int.reduceLE, ↓reduceIte, Nat.reduceAdd, Int.reduceToNat, reduceCtorEq, Nat.reduceLeDiff]
   refine pk8 (n := n) (m := m) (what := 0) (times := 11 + tv) hW3 (by omega) (by omega) (by omega) ?_ ?_
   ·intro hb
    exact hbad (by rw [hR, if_pos hb]) H3 (hfr2.trans Jn.refl g1.weak)
   ·intro hle H4 v4 y4 k3 k4
    have hfr4 : Frm id (some W) H H4 := ⟨Nat.le_trans hfr2.1 (Nat.le_trans g1.1 k3.1), fun i hi h1 h2 => by
     have hiW : i ≠ W := fun e => h2 (by rw [e])
     rw [k3.2 i (by have := hfr2.1; omega) hiW (by simp), g1.2 i (by have := hfr2.1; omega) h1 (by simp)]
     exact hfr2.2 i hi h1 h2⟩
    rw [if_neg (by omega)] at hR
    have hs4 : RdrAt H4 id (B2.drop 7) o l most win J := g3.keep fun i hi => k3.2 i (by rcases hi with rfl | hi; exact g3.lt; exact g3.jlt hi) (by rcases hi with rfl | hi; exact Ne.symm hnW; exact fun e => hnJ (by rw [hi, e])) (by simp)
    simp -dsimp (disch := first | assumption | omega | (simp only [vmLen]; done) | (simp only [vmLen]; omega)) only [↓vmPre, vmPost, vmWrd, vmDat, eq_self, forall_const, Nat.reduceLT, Nat.reduceEqDiff, Nat.reduceSub, Nat.reduceMul, Nat.reduceMod, Nat.reduceDiv, Nat.reducePow, UInt8.reduceToNat, Int.reduceEq, Int.reduceLT, Int.reduceLE, ↓reduceIte, Nat.reduceAdd, Int.reduceToNat, reduceCtorEq, Nat.reduceLeDiff]
    refine Rnd_keep f (by omega) (by have := hfr4.1; omega) ⟨_, v4, row ++ List.replicate (11 + tv) 0, hR, by simp; omega, by simp; omega, by rw [List.length_append, List.length_replicate]; rfl, hfr4, hs4, k4⟩
  rw [show stepR y row = some (0, 1, y) by simp [stepR, hy16, hy17, hy18]] at hR
  simp only [List.take_zero, valN, Nat.add_zero, Nat.not_lt_zero, if_false, List.drop_zero] at hR
  simp -dsimp (disch := first | assumption | omega | (simp only [vmLen]; done) | (simp only [vmLen]; omega)) only [↓vmPre, vmPost, vmWrd, vmDat, eq_self, forall_const, Nat.reduceLT, Nat.reduceEqDiff, Nat.reduceSub, Nat.reduceMul, Nat.reduceMod, Nat.reduceDiv, Nat.reducePow, UInt8.reduceToNat, Int.reduceEq, Int.reduceLT, Int.reduceLE, ↓reduceIte, Nat.reduceAdd, Int.reduceToNat, reduceCtorEq, Nat.reduceLeDiff, ↓u_deflate_reader_told_k10_e, ↓u_deflate_reader_told_k9_e, ↓u_deflate_reader_told_k6_e, ↓u_deflate_reader_told_k5_e, ↓u_deflate_reader_told_b4_e, ↓u_deflate_reader_told_b3_e]
  refine pk8 (n := n) (m := m) (what := y) (times := 1) hW2 (by omega) (by omega) (by omega) ?_ ?_
  ·intro hb
   exact hbad (by rw [hR, if_pos hb]) H2 hfr2
  ·intro hle H4 v4 y4 k3 k4
   have hfr4 : Frm id (some W) H H4 := ⟨Nat.le_trans hfr2.1 k3.1, fun i hi h1 h2 => by
    have hiW : i ≠ W := fun e => h2 (by rw [e])
    rw [k3.2 i (by have := hfr2.1; omega) hiW (by simp)]
    exact hfr2.2 i hi h1 h2⟩
   rw [if_neg (by omega)] at hR
   have hs4 : RdrAt H4 id B2 o l most win J := hs2.keep fun i hi => k3.2 i (by rcases hi with rfl | hi; exact hs2.lt; exact hs2.jlt hi) (by rcases hi with rfl | hi; exact Ne.symm hnW; exact fun e => hnJ (by rw [hi, e])) (by simp)
   simp -dsimp (disch := first | assumption | omega | (simp only [vmLen]; done) | (simp only [vmLen]; omega)) only [↓vmPre, vmPost, vmWrd, vmDat, eq_self, forall_const, Nat.reduceLT, Nat.reduceEqDiff, Nat.reduceSub, Nat.reduceMul, Nat.reduceMod, Nat.reduceDiv, Nat.reducePow, UInt8.reduceToNat, Int.reduceEq, Int.reduceLT, Int.reduceLE, ↓reduceIte, Nat.reduceAdd, Int.reduceToNat, reduceCtorEq, Nat.reduceLeDiff]
   refine Rnd_keep f (by omega) (by have := hfr4.1; omega) ⟨_, v4, row ++ List.replicate 1 y, hR, by simp; omega, by simp; omega, by rw [List.length_append, List.length_replicate]; rfl, hfr4, hs4, k4⟩
end Go.Proofs.YtfgljddikcghhaaDoor

