/- diff's table. -/
import Derived.Test.YtijidndhlgbjhaaDoorVlLines
import Derived.Test.YtijidndhlgbjhaaDoorVlMath
namespace Go.Proofs.YtijidndhlgbjhaaDoor
open Go.RowKit
variable [Globs]
set_option linter.unusedSectionVars false
set_option linter.unusedVariables false
set_option linter.unusedSimpArgs false

abbrev i32 (n : Int) : TV := .val (.int .i32 n)
def cel (n : Nat) : TV := i32 n
theorem cel_is {n : Nat} : cel n = i32 (n : Int) := by unfold cel; rfl
theorem wrap32_id {n : Int} (h1 : -2147483648 ≤ n) (h2 : n ≤ 2147483647) : IntKind.i32.wrap n = n := by rw [IntKind.wrap_i32]; omega
theorem b_add32 {t : TypeId} {a b : Nat} (h : a + b ≤ 2147483647) : binV t .add (.int .i32 (a : Int)) (.int .i32 (b : Int)) = some (.int .i32 ((a + b : Nat) : Int)) := by
  rw [show binV t .add (.int .i32 (a : Int)) (.int .i32 (b : Int)) = some (.int .i32 (IntKind.i32.wrap ((a : Int) + b))) from rfl, wrap32_id (by omega) (by omega), Int.natCast_add]

theorem tableAt {c : List Nat} {wd i j v : Nat} (h : i * wd + j ≤ 9223372036854775807) (hv : c[i * wd + j]? = some v) :
    VPure Tryd.prog 115 [.agg [i64 (wd : Int), .sl 1 (c.map cel)], i64 (i : Int), i64 (j : Int)] (fun x => x = i32 (v : Int)) := by
  have h2 : i * wd ≤ 9223372036854775807 := by omega
  refine VCalls.toPureV (go_diff_table_at (by simp) ?_)
  simp -dsimp (disch := first | assumption | omega) only [↓vmPre, vmPost, vmWrd, vmDat, eq_self, forall_const, Nat.reduceLT, Nat.reduceEqDiff, Nat.reduceSub, Nat.reduceMul, Nat.reduceMod, Nat.reduceDiv, Nat.reducePow, UInt8.reduceToNat, Int.reduceEq, Int.reduceLT, Int.reduceLE, ↓reduceIte, Nat.reduceEqDiff, Nat.reduceAdd, Int.reduceToNat, reduceCtorEq, Nat.reduceLeDiff, ↓u_diff_table_at, hv, cel_is]
theorem vex_of {K : TV → Prop} [Tg K] (x : TV) (h : K x) : vex K := ⟨x, h⟩
theorem width_cel {n : Nat} : width (cel n) = 1 := by rw [cel_is]; rfl
theorem map_cel_set {l : List Nat} {k v : Nat} : (l.map cel).set k (i32 (v : Int)) = (l.set k v).map cel := by rw [List.map_set, cel_is]
theorem rep_cel {n : Nat} : List.replicate n (i32 ((0 : Nat) : Int)) = (List.replicate n 0).map cel := by
  rw [List.map_replicate, cel_is]
def grid (x y : List (List UInt8)) (c : List Nat) : List Ob := [.obj 0 (.agg [i64 ((0 : Nat) : Int), .val (.slice none 0 0)]), .obj 0 (.arr ((x.length + 1) * (y.length + 1)) 1 (c.map cel)),
  .obj 0 (.agg [i64 ((y.length + 1 : Nat) : Int), .os 1 1 0 [] 0 ((x.length + 1) * (y.length + 1)) ((x.length + 1) * (y.length + 1))])]
theorem fillV {x y : List (List UInt8)} (hx : x.length ≤ 2000) (hy : y.length ≤ 2000) : VPure Tryd.prog 114 [slS x, slS y] (fun r => r = .agg [i64 ((y.length + 1 : Nat) : Int), .sl 1 ((tabc x y).map cel)]) := by
  refine VCalls.toPureV (go_diff_fill (by simp) ?_)
  have hb : (x.length + 1) * (y.length + 1) ≤ 2001 * 2001 := Nat.mul_le_mul (by omega) (by omega)
  simp -dsimp (disch := first | assumption | omega) only [↓vmPre, vmPost, vmWrd, vmDat, eq_self, forall_const, Nat.reduceLT, Nat.reduceEqDiff, Nat.reduceSub, Nat.reduceMul, Nat.reduceMod, Nat.reduceDiv, Nat.reducePow, UInt8.reduceToNat, Int.reduceEq, Int.reduceLT, Int.reduceLE, ↓reduceIte, Nat.reduceEqDiff, Nat.reduceAdd, Int.reduceToNat, reduceCtorEq, Nat.reduceLeDiff, ↓u_diff_fill, rep_cel]
  refine w_loop (fun m e H => ∃ (i : Nat) (c : List Nat), m = i ∧ i ≤ x.length ∧ Fil x y c i 0 ∧ e = [(0, slS x), (1, slS y), (4, .op 0 0 []), (5, .op 2 0 []), (6, .val (.int .i64 ((i : Int) - ((1 : Nat) : Int))))] ∧ H = grid x y c) x.length ?_ ?_
  · exact ⟨x.length, _, rfl, Nat.le_refl _, Fil.start x y, rfl, rfl⟩
  · rintro i e H ⟨_, c, rfl, hi, hc, rfl, rfl⟩
    unfold grid
    rcases i with _ | i
    · simp -dsimp (disch := first | assumption | omega) only [↓vmPre, vmPost, vmWrd, vmDat, eq_self, forall_const, Nat.reduceLT, Nat.reduceEqDiff, Nat.reduceSub, Nat.reduceMul, Nat.reduceMod, Nat.reduceDiv, Nat.reducePow, UInt8.reduceToNat, Int.reduceEq, Int.reduceLT, Int.reduceLE, ↓reduceIte, Nat.reduceEqDiff, Nat.reduceAdd, Int.reduceToNat, reduceCtorEq, Nat.reduceLeDiff, ↓u_diff_fill]
      rw [hc.done, List.take_of_length_le (Nat.le_of_eq (tabc_length x y)), if_pos (Nat.le_of_eq (tabc_length x y).symm)]
      rfl
    · have e1 : (((i + 1 : Nat) : Int) - ((1 : Nat) : Int)) = (i : Int) := by omega
      rw [e1]
      simp -dsimp (disch := first | assumption | omega) only [↓vmPre, vmPost, vmWrd, vmDat, eq_self, forall_const, Nat.reduceLT, Nat.reduceEqDiff, Nat.reduceSub, Nat.reduceMul, Nat.reduceMod, Nat.reduceDiv, Nat.reducePow, UInt8.reduceToNat, Int.reduceEq, Int.reduceLT, Int.reduceLE, ↓reduceIte, Nat.reduceEqDiff, Nat.reduceAdd, Int.reduceToNat, reduceCtorEq, Nat.reduceLeDiff, ↓u_diff_fill]
      refine w_loop (fun m e H => ∃ (j : Nat) (c : List Nat), m = j ∧ j ≤ y.length ∧ Fil x y c i j ∧ e = [(0, slS x), (1, slS y), (4, .op 0 0 []), (5, .op 2 0 []), (6, i64 (i : Int)), (7, .val (.int .i64 ((j : Int) - ((1 : Nat) : Int))))] ∧ H = grid x y c) y.length ?_ ?_
      · exact ⟨y.length, c, rfl, Nat.le_refl _, hc.row, rfl, rfl⟩
      · rintro j e H ⟨_, c2, rfl, hj, hc2, rfl, rfl⟩
        unfold grid
        have hl := hc2.len
        rcases j with _ | j
        · simp -dsimp (disch := first | assumption | omega) only [↓vmPre, vmPost, vmWrd, vmDat, eq_self, forall_const, Nat.reduceLT, Nat.reduceEqDiff, Nat.reduceSub, Nat.reduceMul, Nat.reduceMod, Nat.reduceDiv, Nat.reducePow, UInt8.reduceToNat, Int.reduceEq, Int.reduceLT, Int.reduceLE, ↓reduceIte, Nat.reduceEqDiff, Nat.reduceAdd, Int.reduceToNat, reduceCtorEq, Nat.reduceLeDiff, ↓u_diff_fill]
          exact Rnd_keep i (by omega) (by simp) ⟨i, c2, rfl, by omega, hc2, rfl, rfl⟩
        · have e2 : (((j + 1 : Nat) : Int) - ((1 : Nat) : Int)) = (j : Int) := by omega
          rw [e2]
          simp -dsimp (disch := first | assumption | omega) only [↓vmPre, vmPost, vmWrd, vmDat, eq_self, forall_const, Nat.reduceLT, Nat.reduceEqDiff, Nat.reduceSub, Nat.reduceMul, Nat.reduceMod, Nat.reduceDiv, Nat.reducePow, UInt8.reduceToNat, Int.reduceEq, Int.reduceLT, Int.reduceLE, ↓reduceIte, Nat.reduceEqDiff, Nat.reduceAdd, Int.reduceToNat, reduceCtorEq, Nat.reduceLeDiff, ↓u_diff_fill]
          have g1 := hc2.ok (i + 1) j (by omega) (by omega) (by omega)
          have g2 := hc2.ok i (j + 1) (by omega) (by omega) (by omega)
          have g3 := hc2.ok (i + 1) (j + 1) (by omega) (by omega) (by omega)
          have b1 := grid_lt (n := x.length) (m := y.length) (i := i + 1) (j := j) (by omega) (by omega)
          have b2 := grid_lt (n := x.length) (m := y.length) (i := i) (j := j + 1) (by omega) (by omega)
          have b3 := grid_lt (n := x.length) (m := y.length) (i := i + 1) (j := j + 1) (by omega) (by omega)
          refine vex_of (i32 (tab (x.drop (i + 1)) (y.drop j) : Nat)) ⟨(tableAt (by omega) g1).lends (args' := [.agg [i64 ((y.length + 1 : Nat) : Int), .sl 1 (c2.map cel)], i64 ((i + 1 : Nat) : Int), i64 (j : Int)]) ?_ (fun r hr => ⟨by rw [hr]; rfl, hr, rfl⟩), ?_⟩
          · simp -dsimp (disch := first | assumption | omega) only [↓vmPre, vmPost, vmWrd, vmDat, eq_self, forall_const, Nat.reduceLT, Nat.reduceEqDiff, Nat.reduceSub, Nat.reduceMul, Nat.reduceMod, Nat.reduceDiv, Nat.reducePow, UInt8.reduceToNat, Int.reduceEq, Int.reduceLT, Int.reduceLE, ↓reduceIte, Nat.reduceEqDiff, Nat.reduceAdd, Int.reduceToNat, reduceCtorEq, Nat.reduceLeDiff]
          simp -dsimp (disch := first | assumption | omega) only [↓vmPre, vmPost, vmWrd, vmDat, eq_self, forall_const, Nat.reduceLT, Nat.reduceEqDiff, Nat.reduceSub, Nat.reduceMul, Nat.reduceMod, Nat.reduceDiv, Nat.reducePow, UInt8.reduceToNat, Int.reduceEq, Int.reduceLT, Int.reduceLE, ↓reduceIte, Nat.reduceEqDiff, Nat.reduceAdd, Int.reduceToNat, reduceCtorEq, Nat.reduceLeDiff, ↓u_diff_fill]
          refine (tableAt (by omega) g2).lends (args' := [.agg [i64 ((y.length + 1 : Nat) : Int), .sl 1 (c2.map cel)], i64 (i : Int), i64 ((j + 1 : Nat) : Int)]) (by simp -dsimp (disch := first | assumption | omega) only [↓vmPre, vmPost, vmWrd, vmDat, eq_self, forall_const, Nat.reduceLT, Nat.reduceEqDiff, Nat.reduceSub, Nat.reduceMul, Nat.reduceMod, Nat.reduceDiv, Nat.reducePow, UInt8.reduceToNat, Int.reduceEq, Int.reduceLT, Int.reduceLE, ↓reduceIte, Nat.reduceEqDiff, Nat.reduceAdd, Int.reduceToNat, reduceCtorEq, Nat.reduceLeDiff]) ?_
          rintro r rfl
          refine ⟨rfl, ?_⟩
          have hxi : x[i]? = some (x[i]'(by omega)) := List.getElem?_eq_getElem (by omega)
          have hyj : y[j]? = some (y[j]'(by omega)) := List.getElem?_eq_getElem (by omega)
          have hsE : x[i]'(by omega) = y[j]'(by omega) → tab (x.drop i) (y.drop j) = tab (x.drop (i + 1)) (y.drop (j + 1)) + 1 := fun h => by rw [tab_step (by omega) (by omega), if_pos h]
          have hsN : x[i]'(by omega) ≠ y[j]'(by omega) → tab (x.drop i) (y.drop j) = max (tab (x.drop (i + 1)) (y.drop j)) (tab (x.drop i) (y.drop (j + 1))) := fun h => by rw [tab_step (by omega) (by omega), if_neg h]
          have hf := Fil.set (by omega) (by omega) hc2
          have hz := hc2.zero i j (by omega) (by omega) (by omega) (by omega)
          have q1 := tab_le (x.drop (i + 1)) (y.drop (j + 1))
          rw [List.length_drop] at q1
          simp -dsimp (disch := first | assumption | omega) only [↓vmPre, vmPost, vmWrd, vmDat, eq_self, forall_const, Nat.reduceLT, Nat.reduceEqDiff, Nat.reduceSub, Nat.reduceMul, Nat.reduceMod, Nat.reduceDiv, Nat.reducePow, UInt8.reduceToNat, Int.reduceEq, Int.reduceLT, Int.reduceLE, ↓reduceIte, Nat.reduceEqDiff, Nat.reduceAdd, Int.reduceToNat, reduceCtorEq, Nat.reduceLeDiff, ↓u_diff_fill, hxi, hyj]
          refine vif_cases (fun hm => ?_) (fun hm => ?_)
          · simp -dsimp (disch := first | assumption | omega) only [↓vmPre, vmPost, vmWrd, vmDat, eq_self, forall_const, Nat.reduceLT, Nat.reduceEqDiff, Nat.reduceSub, Nat.reduceMul, Nat.reduceMod, Nat.reduceDiv, Nat.reducePow, UInt8.reduceToNat, Int.reduceEq, Int.reduceLT, Int.reduceLE, ↓reduceIte, Nat.reduceEqDiff, Nat.reduceAdd, Int.reduceToNat, reduceCtorEq, Nat.reduceLeDiff, ↓u_diff_fill, hxi, hyj]
            refine vif_cases (fun he => ?_) (fun he => ?_)
            · simp -dsimp (disch := first | assumption | omega) only [↓vmPre, vmPost, vmWrd, vmDat, eq_self, forall_const, Nat.reduceLT, Nat.reduceEqDiff, Nat.reduceSub, Nat.reduceMul, Nat.reduceMod, Nat.reduceDiv, Nat.reducePow, UInt8.reduceToNat, Int.reduceEq, Int.reduceLT, Int.reduceLE, ↓reduceIte, Nat.reduceEqDiff, Nat.reduceAdd, Int.reduceToNat, reduceCtorEq, Nat.reduceLeDiff, ↓u_diff_fill, hxi, hyj]
              refine (tableAt (by omega) g3).lends (args' := [.agg [i64 ((y.length + 1 : Nat) : Int), .sl 1 (c2.map cel)], i64 ((i + 1 : Nat) : Int), i64 ((j + 1 : Nat) : Int)]) (by simp -dsimp (disch := first | assumption | omega) only [↓vmPre, vmPost, vmWrd, vmDat, eq_self, forall_const, Nat.reduceLT, Nat.reduceEqDiff, Nat.reduceSub, Nat.reduceMul, Nat.reduceMod, Nat.reduceDiv, Nat.reducePow, UInt8.reduceToNat, Int.reduceEq, Int.reduceLT, Int.reduceLE, ↓reduceIte, Nat.reduceEqDiff, Nat.reduceAdd, Int.reduceToNat, reduceCtorEq, Nat.reduceLeDiff]) ?_
              rintro r rfl
              refine ⟨rfl, ?_⟩
              simp -dsimp (disch := first | assumption | omega) only [↓vmPre, vmPost, vmWrd, vmDat, eq_self, forall_const, Nat.reduceLT, Nat.reduceEqDiff, Nat.reduceSub, Nat.reduceMul, Nat.reduceMod, Nat.reduceDiv, Nat.reducePow, UInt8.reduceToNat, Int.reduceEq, Int.reduceLT, Int.reduceLE, ↓reduceIte, Nat.reduceEqDiff, Nat.reduceAdd, Int.reduceToNat, reduceCtorEq, Nat.reduceLeDiff, ↓u_diff_fill, hxi, hyj, b_add32, hz, width_cel, map_cel_set]
              refine Rnd_keep j (by omega) (by simp) ⟨j, _, rfl, by omega, hf, rfl, ?_⟩
              rw [hsE he]
            · simp -dsimp (disch := first | assumption | omega) only [↓vmPre, vmPost, vmWrd, vmDat, eq_self, forall_const, Nat.reduceLT, Nat.reduceEqDiff, Nat.reduceSub, Nat.reduceMul, Nat.reduceMod, Nat.reduceDiv, Nat.reducePow, UInt8.reduceToNat, Int.reduceEq, Int.reduceLT, Int.reduceLE, ↓reduceIte, Nat.reduceEqDiff, Nat.reduceAdd, Int.reduceToNat, reduceCtorEq, Nat.reduceLeDiff, ↓u_diff_fill, hxi, hyj, hz, width_cel, map_cel_set]
              refine Rnd_keep j (by omega) (by simp) ⟨j, _, rfl, by omega, hf, rfl, ?_⟩
              rw [hsN he, Nat.max_eq_right (by omega)]
          · simp -dsimp (disch := first | assumption | omega) only [↓vmPre, vmPost, vmWrd, vmDat, eq_self, forall_const, Nat.reduceLT, Nat.reduceEqDiff, Nat.reduceSub, Nat.reduceMul, Nat.reduceMod, Nat.reduceDiv, Nat.reducePow, UInt8.reduceToNat, Int.reduceEq, Int.reduceLT, Int.reduceLE, ↓reduceIte, Nat.reduceEqDiff, Nat.reduceAdd, Int.reduceToNat, reduceCtorEq, Nat.reduceLeDiff, ↓u_diff_fill, hxi, hyj]
            refine vif_cases (fun he => ?_) (fun he => ?_)
            · simp -dsimp (disch := first | assumption | omega) only [↓vmPre, vmPost, vmWrd, vmDat, eq_self, forall_const, Nat.reduceLT, Nat.reduceEqDiff, Nat.reduceSub, Nat.reduceMul, Nat.reduceMod, Nat.reduceDiv, Nat.reducePow, UInt8.reduceToNat, Int.reduceEq, Int.reduceLT, Int.reduceLE, ↓reduceIte, Nat.reduceEqDiff, Nat.reduceAdd, Int.reduceToNat, reduceCtorEq, Nat.reduceLeDiff, ↓u_diff_fill, hxi, hyj]
              refine (tableAt (by omega) g3).lends (args' := [.agg [i64 ((y.length + 1 : Nat) : Int), .sl 1 (c2.map cel)], i64 ((i + 1 : Nat) : Int), i64 ((j + 1 : Nat) : Int)]) (by simp -dsimp (disch := first | assumption | omega) only [↓vmPre, vmPost, vmWrd, vmDat, eq_self, forall_const, Nat.reduceLT, Nat.reduceEqDiff, Nat.reduceSub, Nat.reduceMul, Nat.reduceMod, Nat.reduceDiv, Nat.reducePow, UInt8.reduceToNat, Int.reduceEq, Int.reduceLT, Int.reduceLE, ↓reduceIte, Nat.reduceEqDiff, Nat.reduceAdd, Int.reduceToNat, reduceCtorEq, Nat.reduceLeDiff]) ?_
              rintro r rfl
              refine ⟨rfl, ?_⟩
              simp -dsimp (disch := first | assumption | omega) only [↓vmPre, vmPost, vmWrd, vmDat, eq_self, forall_const, Nat.reduceLT, Nat.reduceEqDiff, Nat.reduceSub, Nat.reduceMul, Nat.reduceMod, Nat.reduceDiv, Nat.reducePow, UInt8.reduceToNat, Int.reduceEq, Int.reduceLT, Int.reduceLE, ↓reduceIte, Nat.reduceEqDiff, Nat.reduceAdd, Int.reduceToNat, reduceCtorEq, Nat.reduceLeDiff, ↓u_diff_fill, hxi, hyj, b_add32, hz, width_cel, map_cel_set]
              refine Rnd_keep j (by omega) (by simp) ⟨j, _, rfl, by omega, hf, rfl, ?_⟩
              rw [hsE he]
            · simp -dsimp (disch := first | assumption | omega) only [↓vmPre, vmPost, vmWrd, vmDat, eq_self, forall_const, Nat.reduceLT, Nat.reduceEqDiff, Nat.reduceSub, Nat.reduceMul, Nat.reduceMod, Nat.reduceDiv, Nat.reducePow, UInt8.reduceToNat, Int.reduceEq, Int.reduceLT, Int.reduceLE, ↓reduceIte, Nat.reduceEqDiff, Nat.reduceAdd, Int.reduceToNat, reduceCtorEq, Nat.reduceLeDiff, ↓u_diff_fill, hxi, hyj, hz, width_cel, map_cel_set]
              refine Rnd_keep j (by omega) (by simp) ⟨j, _, rfl, by omega, hf, rfl, ?_⟩
              rw [hsN he, Nat.max_eq_left (by omega)]
end Go.Proofs.YtijidndhlgbjhaaDoor
