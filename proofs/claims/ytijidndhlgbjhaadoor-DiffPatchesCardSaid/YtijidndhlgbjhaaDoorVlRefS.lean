/- The reference's edits: short texts; all. -/
import Derived.Test.YtijidndhlgbjhaaDoorVlRefL
namespace Go.Proofs.YtijidndhlgbjhaaDoor
open Go.RowKit
variable [Globs]
set_option linter.unusedSectionVars false
set_option linter.unusedVariables false
set_option linter.unusedSimpArgs false

def cl (n : Nat) : TV := i64 (n : Int)
theorem cl_is {n : Nat} : cl n = i64 (n : Int) := by unfold cl; rfl
theorem width_cl {n : Nat} : width (cl n) = 1 := by rw [cl_is]; rfl
theorem map_cl_set {l : List Nat} {k v : Nat} : (l.map cl).set k (i64 (v : Int)) = (l.set k v).map cl := by rw [List.map_set, cl_is]
theorem rep_cl {n : Nat} : List.replicate n (i64 ((0 : Nat) : Int)) = (List.replicate n 0).map cl := by
  rw [List.map_replicate, cl_is]
abbrev gridR (x y : List (List UInt8)) (c : List Nat) : Ob := .obj 0 (.arr ((x.length + 1) * (y.length + 1)) 1 (c.map cl))
abbrev tabR (x y : List (List UInt8)) : TV := .os 1 0 0 [] 0 ((x.length + 1) * (y.length + 1)) ((x.length + 1) * (y.length + 1))
theorem refLoop {x y : List (List UInt8)} (hx : x.length ≤ 2000) (hy : y.length ≤ 2000) (q : TV) :
    vwp Tryd.prog c_ref10_Edits_k31 (atEnd r_ref10_Edits (EndIs (eds x y))) [(5, slS x), (6, slS y), (7, .val (.slice none 0 0)), (8, i64 ((0 : Nat) : Int)), (9, i64 ((0 : Nat) : Int)), (12, i64 ((y.length + 1 : Nat) : Int)), (13, tabR x y), (14, .val (.int .i64 (((0 : Nat) : Int) - ((1 : Nat) : Int)))), (104, q)] [gridR x y (tabc x y)] := by
  have b0 : (x.length + 1) * (y.length + 1) ≤ 2001 * 2001 := Nat.mul_le_mul (by omega) (by omega)
  have hl := tabc_length x y
  simp -dsimp (disch := first | assumption | omega) only [↓vmPre, vmPost, vmWrd, vmDat, eq_self, forall_const, Nat.reduceLT, Nat.reduceEqDiff, Nat.reduceSub, Nat.reduceMul, Nat.reduceMod, Nat.reduceDiv, Nat.reducePow, UInt8.reduceToNat, Int.reduceEq, Int.reduceLT, Int.reduceLE, ↓reduceIte, Nat.reduceEqDiff, Nat.reduceAdd, Int.reduceToNat, reduceCtorEq, Nat.reduceLeDiff, ↓u_ref10_Edits]
  refine w_loop (fun m e H => ∃ (i j v : Nat) (p : List (Nat × List UInt8)), m = (x.length - i) + (y.length - j) ∧ i ≤ x.length ∧ j ≤ y.length ∧ eds x y = p ++ eds (x.drop i) (y.drop j) ∧ p.length + (x.length - i) + (y.length - j) ≤ 8000 ∧
    e = [(5, slS x), (6, slS y), (7, .os 2 1 v [] 0 p.length p.length), (8, i64 (i : Int)), (9, i64 (j : Int)), (12, i64 ((y.length + 1 : Nat) : Int)), (13, tabR x y)] ∧ H = [gridR x y (tabc x y), .obj v (.arr p.length 2 (p.map ed))]) (x.length + y.length) ?_ ?_
  · exact ⟨0, 0, 0, [], by omega, by omega, by omega, by simp, by simp; omega, rfl, rfl⟩
  · rintro m e H ⟨i, j, v, p, rfl, hi, hj, htot, hp, rfl, rfl⟩
    have cut : ∀ (o : List Ob) (i' j' k : Nat) (s : List UInt8), i' ≤ x.length → j' ≤ y.length → x.length - i' + (y.length - j') < x.length - i + (y.length - j) → eds x y = (p ++ [(k, s)]) ++ eds (x.drop i') (y.drop j') → Rnd 2 [5, 6, 7, 8, 9, 12, 13] (Blk 10 (Thn Tryd.prog c_ref10_Edits_k30 (atEnd r_ref10_Edits (EndIs (eds x y))))) (fun m e H => ∃ (i j v : Nat) (p : List (Nat × List UInt8)), m = (x.length - i) + (y.length - j) ∧ i ≤ x.length ∧ j ≤ y.length ∧ eds x y = p ++ eds (x.drop i) (y.drop j) ∧ p.length + (x.length - i) + (y.length - j) ≤ 8000 ∧
        e = [(5, slS x), (6, slS y), (7, .os 2 1 v [] 0 p.length p.length), (8, i64 (i : Int)), (9, i64 (j : Int)), (12, i64 ((y.length + 1 : Nat) : Int)), (13, tabR x y)] ∧ H = [gridR x y (tabc x y), .obj v (.arr p.length 2 (p.map ed))]) (x.length - i + (y.length - j)) .nor
        [(5, slS x), (6, slS y), (7, .os 2 1 (v + 1) [] 0 (p.length + 1) (p.length + 1)), (8, i64 (i' : Int)), (9, i64 (j' : Int)), (12, i64 ((y.length + 1 : Nat) : Int)), (13, tabR x y)] (gridR x y (tabc x y) :: .obj (v + 1) (.arr (p.length + 1) 2 ((p ++ [(k, s)]).map ed)) :: o) := by
      intro o i' j' k s hi' hj' hm hto
      exact Rnd_cut (x.length - i' + (y.length - j')) 2 hm (by omega) rfl rfl ⟨i', j', v + 1, p ++ [(k, s)], rfl, hi', hj', hto, by simp; omega, by simp <;> rfl, by simp⟩
    rcases Nat.lt_or_ge i x.length with hix | hix
    · have hxi : x[i]? = some x[i] := List.getElem?_eq_getElem hix
      rcases Nat.lt_or_ge j y.length with hjy | hjy
      · have hyj : y[j]? = some y[j] := List.getElem?_eq_getElem hjy
        have b1 := grid_lt (n := x.length) (m := y.length) (i := i + 1) (j := j) (by omega) (by omega)
        have b2 := grid_lt (n := x.length) (m := y.length) (i := i) (j := j + 1) (by omega) (by omega)
        have g1 := tabc_at (x := x) (y := y) (i := i + 1) (j := j) (by omega) (by omega)
        have g2 : (tabc x y)[i * (y.length + 1) + j + 1]? = _ := tabc_at (x := x) (y := y) (i := i) (j := j + 1) (by omega) (by omega)
        simp -dsimp (disch := first | assumption | omega) only [↓vmPre, vmPost, vmWrd, vmDat, eq_self, forall_const, Nat.reduceLT, Nat.reduceEqDiff, Nat.reduceSub, Nat.reduceMul, Nat.reduceMod, Nat.reduceDiv, Nat.reducePow, UInt8.reduceToNat, Int.reduceEq, Int.reduceLT, Int.reduceLE, ↓reduceIte, Nat.reduceEqDiff, Nat.reduceAdd, Int.reduceToNat, reduceCtorEq, Nat.reduceLeDiff, ↓u_ref10_Edits, hxi, hyj]
        refine vif_cases (fun he => ?_) (fun he => ?_)
        · simp -dsimp (disch := first | assumption | omega) only [↓vmPre, vmPost, vmWrd, vmDat, eq_self, forall_const, Nat.reduceLT, Nat.reduceEqDiff, Nat.reduceSub, Nat.reduceMul, Nat.reduceMod, Nat.reduceDiv, Nat.reducePow, UInt8.reduceToNat, Int.reduceEq, Int.reduceLT, Int.reduceLE, ↓reduceIte, Nat.reduceEqDiff, Nat.reduceAdd, Int.reduceToNat, reduceCtorEq, Nat.reduceLeDiff, ↓u_ref10_Edits, hxi, hyj, one_set, take_one', take_ed, map_ed_app]
          exact cut _ (i + 1) (j + 1) 0 _ (by omega) (by omega) (by omega) (by rw [htot, eds_keep hix hjy he, List.append_assoc]; rfl)
        · simp -dsimp (disch := first | assumption | omega) only [↓vmPre, vmPost, vmWrd, vmDat, eq_self, forall_const, Nat.reduceLT, Nat.reduceEqDiff, Nat.reduceSub, Nat.reduceMul, Nat.reduceMod, Nat.reduceDiv, Nat.reducePow, UInt8.reduceToNat, Int.reduceEq, Int.reduceLT, Int.reduceLE, ↓reduceIte, Nat.reduceEqDiff, Nat.reduceAdd, Int.reduceToNat, reduceCtorEq, Nat.reduceLeDiff, ↓u_ref10_Edits, hxi, hyj, g1, g2, cl_is]
          refine vif_cases (fun hq => ?_) (fun hq => ?_)
          · simp -dsimp (disch := first | assumption | omega) only [↓vmPre, vmPost, vmWrd, vmDat, eq_self, forall_const, Nat.reduceLT, Nat.reduceEqDiff, Nat.reduceSub, Nat.reduceMul, Nat.reduceMod, Nat.reduceDiv, Nat.reducePow, UInt8.reduceToNat, Int.reduceEq, Int.reduceLT, Int.reduceLE, ↓reduceIte, Nat.reduceEqDiff, Nat.reduceAdd, Int.reduceToNat, reduceCtorEq, Nat.reduceLeDiff, ↓u_ref10_Edits, hxi, hyj, one_set, take_one', take_ed, map_ed_app]
            exact cut _ (i + 1) j 1 _ (by omega) (by omega) (by omega) (by rw [htot, eds_drop hix (.inr ⟨hjy, he, by omega⟩), List.append_assoc]; rfl)
          · simp -dsimp (disch := first | assumption | omega) only [↓vmPre, vmPost, vmWrd, vmDat, eq_self, forall_const, Nat.reduceLT, Nat.reduceEqDiff, Nat.reduceSub, Nat.reduceMul, Nat.reduceMod, Nat.reduceDiv, Nat.reducePow, UInt8.reduceToNat, Int.reduceEq, Int.reduceLT, Int.reduceLE, ↓reduceIte, Nat.reduceEqDiff, Nat.reduceAdd, Int.reduceToNat, reduceCtorEq, Nat.reduceLeDiff, ↓u_ref10_Edits, hxi, hyj, one_set, take_one', take_ed, map_ed_app]
            exact cut _ i (j + 1) 2 _ (by omega) (by omega) (by omega) (by rw [htot, eds_ins hjy (.inr ⟨hix, he, by omega⟩), List.append_assoc]; rfl)
      · have hj2 : j = y.length := by omega
        subst hj2
        simp -dsimp (disch := first | assumption | omega) only [↓vmPre, vmPost, vmWrd, vmDat, eq_self, forall_const, Nat.reduceLT, Nat.reduceEqDiff, Nat.reduceSub, Nat.reduceMul, Nat.reduceMod, Nat.reduceDiv, Nat.reducePow, UInt8.reduceToNat, Int.reduceEq, Int.reduceLT, Int.reduceLE, ↓reduceIte, Nat.reduceEqDiff, Nat.reduceAdd, Int.reduceToNat, reduceCtorEq, Nat.reduceLeDiff, ↓u_ref10_Edits, hxi, one_set, take_one', take_ed, map_ed_app]
        exact cut _ (i + 1) y.length 1 _ (by omega) (by omega) (by omega) (by rw [htot, eds_drop hix (.inl rfl), List.append_assoc]; rfl)
    · have hi2 : i = x.length := by omega
      subst hi2
      rcases Nat.lt_or_ge j y.length with hjy | hjy
      · have hyj : y[j]? = some y[j] := List.getElem?_eq_getElem hjy
        simp -dsimp (disch := first | assumption | omega) only [↓vmPre, vmPost, vmWrd, vmDat, eq_self, forall_const, Nat.reduceLT, Nat.reduceEqDiff, Nat.reduceSub, Nat.reduceMul, Nat.reduceMod, Nat.reduceDiv, Nat.reducePow, UInt8.reduceToNat, Int.reduceEq, Int.reduceLT, Int.reduceLE, ↓reduceIte, Nat.reduceEqDiff, Nat.reduceAdd, Int.reduceToNat, reduceCtorEq, Nat.reduceLeDiff, ↓u_ref10_Edits, hyj, one_set, take_one', take_ed, map_ed_app]
        exact cut _ x.length (j + 1) 2 _ (by omega) (by omega) (by omega) (by rw [htot, eds_ins hjy (.inl rfl), List.append_assoc]; rfl)
      · have ht : eds x y = p := by rw [htot, List.drop_eq_nil_of_le hix, List.drop_eq_nil_of_le hjy]; simp [eds]
        rw [ht]
        simp -dsimp (disch := first | assumption | omega) only [↓vmPre, vmPost, vmWrd, vmDat, eq_self, forall_const, Nat.reduceLT, Nat.reduceEqDiff, Nat.reduceSub, Nat.reduceMul, Nat.reduceMod, Nat.reduceDiv, Nat.reducePow, UInt8.reduceToNat, Int.reduceEq, Int.reduceLT, Int.reduceLE, ↓reduceIte, Nat.reduceEqDiff, Nat.reduceAdd, Int.reduceToNat, reduceCtorEq, Nat.reduceLeDiff, ↓u_ref10_Edits]
        exact endIs1
theorem refShort {x y : List (List UInt8)} (hx : x.length ≤ 2000) (hy : y.length ≤ 2000) (q : TV) :
    vwp Tryd.prog c_ref10_Edits_k34 (atEnd r_ref10_Edits (EndIs (eds x y))) [(5, slS x), (6, slS y), (7, .val (.slice none 0 0)), (8, i64 ((0 : Nat) : Int)), (9, i64 ((0 : Nat) : Int)), (28, q)] [] := by
  have hb : (x.length + 1) * (y.length + 1) ≤ 2001 * 2001 := Nat.mul_le_mul (by omega) (by omega)
  have fin := refLoop hx hy
  simp -dsimp (disch := first | assumption | omega) only [↓vmPre, vmPost, vmWrd, vmDat, eq_self, forall_const, Nat.reduceLT, Nat.reduceEqDiff, Nat.reduceSub, Nat.reduceMul, Nat.reduceMod, Nat.reduceDiv, Nat.reducePow, UInt8.reduceToNat, Int.reduceEq, Int.reduceLT, Int.reduceLE, ↓reduceIte, Nat.reduceEqDiff, Nat.reduceAdd, Int.reduceToNat, reduceCtorEq, Nat.reduceLeDiff, ↓u_ref10_Edits, rep_cl]
  refine w_loop (fun m e H => ∃ (i : Nat) (c : List Nat), m = i ∧ i ≤ x.length ∧ Fil x y c i 0 ∧ e = [(5, slS x), (6, slS y), (7, .val (.slice none 0 0)), (8, i64 ((0 : Nat) : Int)), (9, i64 ((0 : Nat) : Int)), (12, i64 ((y.length + 1 : Nat) : Int)), (13, tabR x y), (14, .val (.int .i64 ((i : Int) - ((1 : Nat) : Int))))] ∧ H = [gridR x y c]) x.length ?_ ?_
  · exact ⟨x.length, _, rfl, Nat.le_refl _, Fil.start x y, rfl, rfl⟩
  · rintro i e H ⟨_, c, rfl, hi, hc, rfl, rfl⟩
    rcases i with _ | i
    · simp -dsimp (disch := first | assumption | omega) only [↓vmPre, vmPost, vmWrd, vmDat, eq_self, forall_const, Nat.reduceLT, Nat.reduceEqDiff, Nat.reduceSub, Nat.reduceMul, Nat.reduceMod, Nat.reduceDiv, Nat.reducePow, UInt8.reduceToNat, Int.reduceEq, Int.reduceLT, Int.reduceLE, ↓reduceIte, Nat.reduceEqDiff, Nat.reduceAdd, Int.reduceToNat, reduceCtorEq, Nat.reduceLeDiff, ↓u_ref10_Edits_L20_e]
      rw [hc.done]
      exact fin _
    · have e1 : (((i + 1 : Nat) : Int) - ((1 : Nat) : Int)) = (i : Int) := by omega
      rw [e1]
      simp -dsimp (disch := first | assumption | omega) only [↓vmPre, vmPost, vmWrd, vmDat, eq_self, forall_const, Nat.reduceLT, Nat.reduceEqDiff, Nat.reduceSub, Nat.reduceMul, Nat.reduceMod, Nat.reduceDiv, Nat.reducePow, UInt8.reduceToNat, Int.reduceEq, Int.reduceLT, Int.reduceLE, ↓reduceIte, Nat.reduceEqDiff, Nat.reduceAdd, Int.reduceToNat, reduceCtorEq, Nat.reduceLeDiff, ↓u_ref10_Edits]
      refine w_loop (fun m e H => ∃ (j : Nat) (c : List Nat), m = j ∧ j ≤ y.length ∧ Fil x y c i j ∧ e = [(5, slS x), (6, slS y), (7, .val (.slice none 0 0)), (8, i64 ((0 : Nat) : Int)), (9, i64 ((0 : Nat) : Int)), (12, i64 ((y.length + 1 : Nat) : Int)), (13, tabR x y), (14, i64 (i : Int)), (15, .val (.int .i64 ((j : Int) - ((1 : Nat) : Int))))] ∧ H = [gridR x y c]) y.length ?_ ?_
      · exact ⟨y.length, c, rfl, Nat.le_refl _, hc.row, rfl, rfl⟩
      · rintro j e H ⟨_, c2, rfl, hj, hc2, rfl, rfl⟩
        have hl := hc2.len
        rcases j with _ | j
        · simp -dsimp (disch := first | assumption | omega) only [↓vmPre, vmPost, vmWrd, vmDat, eq_self, forall_const, Nat.reduceLT, Nat.reduceEqDiff, Nat.reduceSub, Nat.reduceMul, Nat.reduceMod, Nat.reduceDiv, Nat.reducePow, UInt8.reduceToNat, Int.reduceEq, Int.reduceLT, Int.reduceLE, ↓reduceIte, Nat.reduceEqDiff, Nat.reduceAdd, Int.reduceToNat, reduceCtorEq, Nat.reduceLeDiff, ↓u_ref10_Edits]
          exact Rnd_keep i (by omega) (by simp) ⟨i, c2, rfl, by omega, hc2, rfl, rfl⟩
        · have e2 : (((j + 1 : Nat) : Int) - ((1 : Nat) : Int)) = (j : Int) := by omega
          rw [e2]
          have g1 := hc2.ok (i + 1) j (by omega) (by omega) (by omega)
          have g2 : c2[i * (y.length + 1) + j + 1]? = _ := hc2.ok i (j + 1) (by omega) (by omega) (by omega)
          have g3 : c2[(i + 1) * (y.length + 1) + j + 1]? = _ := hc2.ok (i + 1) (j + 1) (by omega) (by omega) (by omega)
          have b1 := grid_lt (n := x.length) (m := y.length) (i := i + 1) (j := j) (by omega) (by omega)
          have b2 := grid_lt (n := x.length) (m := y.length) (i := i) (j := j + 1) (by omega) (by omega)
          have b3 := grid_lt (n := x.length) (m := y.length) (i := i + 1) (j := j + 1) (by omega) (by omega)
          have hxi : x[i]? = some (x[i]'(by omega)) := List.getElem?_eq_getElem (by omega)
          have hyj : y[j]? = some (y[j]'(by omega)) := List.getElem?_eq_getElem (by omega)
          have hsE : x[i]'(by omega) = y[j]'(by omega) → tab (x.drop i) (y.drop j) = tab (x.drop (i + 1)) (y.drop (j + 1)) + 1 := fun h => by rw [tab_step (by omega) (by omega), if_pos h]
          have hsN : x[i]'(by omega) ≠ y[j]'(by omega) → tab (x.drop i) (y.drop j) = max (tab (x.drop (i + 1)) (y.drop j)) (tab (x.drop i) (y.drop (j + 1))) := fun h => by rw [tab_step (by omega) (by omega), if_neg h]
          have hf := Fil.set (by omega) (by omega) hc2
          have hz := hc2.zero i j (by omega) (by omega) (by omega) (by omega)
          have q1 := tab_le (x.drop (i + 1)) (y.drop (j + 1))
          rw [List.length_drop] at q1
          simp -dsimp (disch := first | assumption | omega) only [↓vmPre, vmPost, vmWrd, vmDat, eq_self, forall_const, Nat.reduceLT, Nat.reduceEqDiff, Nat.reduceSub, Nat.reduceMul, Nat.reduceMod, Nat.reduceDiv, Nat.reducePow, UInt8.reduceToNat, Int.reduceEq, Int.reduceLT, Int.reduceLE, ↓reduceIte, Nat.reduceEqDiff, Nat.reduceAdd, Int.reduceToNat, reduceCtorEq, Nat.reduceLeDiff, ↓u_ref10_Edits, hxi, hyj, g1, g2, g3, cl_is]
          refine vif_cases (fun hm => ?_) (fun hm => ?_)
          · simp -dsimp (disch := first | assumption | omega) only [↓vmPre, vmPost, vmWrd, vmDat, eq_self, forall_const, Nat.reduceLT, Nat.reduceEqDiff, Nat.reduceSub, Nat.reduceMul, Nat.reduceMod, Nat.reduceDiv, Nat.reducePow, UInt8.reduceToNat, Int.reduceEq, Int.reduceLT, Int.reduceLE, ↓reduceIte, Nat.reduceEqDiff, Nat.reduceAdd, Int.reduceToNat, reduceCtorEq, Nat.reduceLeDiff, ↓u_ref10_Edits, hxi, hyj, g1, g2, g3, cl_is]
            refine vif_cases (fun he => ?_) (fun he => ?_)
            · simp -dsimp (disch := first | assumption | omega) only [↓vmPre, vmPost, vmWrd, vmDat, eq_self, forall_const, Nat.reduceLT, Nat.reduceEqDiff, Nat.reduceSub, Nat.reduceMul, Nat.reduceMod, Nat.reduceDiv, Nat.reducePow, UInt8.reduceToNat, Int.reduceEq, Int.reduceLT, Int.reduceLE, ↓reduceIte, Nat.reduceEqDiff, Nat.reduceAdd, Int.reduceToNat, reduceCtorEq, Nat.reduceLeDiff, ↓u_ref10_Edits, hxi, hyj, g1, g2, g3, hz, cl_is, map_cl_set, width_cl]
              rw [← hsE he]
              exact Rnd_keep j (by omega) (by simp) ⟨j, _, rfl, by omega, hf, rfl, rfl⟩
            · simp -dsimp (disch := first | assumption | omega) only [↓vmPre, vmPost, vmWrd, vmDat, eq_self, forall_const, Nat.reduceLT, Nat.reduceEqDiff, Nat.reduceSub, Nat.reduceMul, Nat.reduceMod, Nat.reduceDiv, Nat.reducePow, UInt8.reduceToNat, Int.reduceEq, Int.reduceLT, Int.reduceLE, ↓reduceIte, Nat.reduceEqDiff, Nat.reduceAdd, Int.reduceToNat, reduceCtorEq, Nat.reduceLeDiff, ↓u_ref10_Edits, hxi, hyj, g1, g2, g3, hz, cl_is, map_cl_set, width_cl]
              have hm2 := hsN he
              rw [Nat.max_eq_right (by omega)] at hm2
              rw [← hm2]
              exact Rnd_keep j (by omega) (by simp) ⟨j, _, rfl, by omega, hf, rfl, rfl⟩
          · simp -dsimp (disch := first | assumption | omega) only [↓vmPre, vmPost, vmWrd, vmDat, eq_self, forall_const, Nat.reduceLT, Nat.reduceEqDiff, Nat.reduceSub, Nat.reduceMul, Nat.reduceMod, Nat.reduceDiv, Nat.reducePow, UInt8.reduceToNat, Int.reduceEq, Int.reduceLT, Int.reduceLE, ↓reduceIte, Nat.reduceEqDiff, Nat.reduceAdd, Int.reduceToNat, reduceCtorEq, Nat.reduceLeDiff, ↓u_ref10_Edits, hxi, hyj, g1, g2, g3, cl_is]
            refine vif_cases (fun he => ?_) (fun he => ?_)
            · simp -dsimp (disch := first | assumption | omega) only [↓vmPre, vmPost, vmWrd, vmDat, eq_self, forall_const, Nat.reduceLT, Nat.reduceEqDiff, Nat.reduceSub, Nat.reduceMul, Nat.reduceMod, Nat.reduceDiv, Nat.reducePow, UInt8.reduceToNat, Int.reduceEq, Int.reduceLT, Int.reduceLE, ↓reduceIte, Nat.reduceEqDiff, Nat.reduceAdd, Int.reduceToNat, reduceCtorEq, Nat.reduceLeDiff, ↓u_ref10_Edits, hxi, hyj, g1, g2, g3, hz, cl_is, map_cl_set, width_cl]
              rw [← hsE he]
              exact Rnd_keep j (by omega) (by simp) ⟨j, _, rfl, by omega, hf, rfl, rfl⟩
            · simp -dsimp (disch := first | assumption | omega) only [↓vmPre, vmPost, vmWrd, vmDat, eq_self, forall_const, Nat.reduceLT, Nat.reduceEqDiff, Nat.reduceSub, Nat.reduceMul, Nat.reduceMod, Nat.reduceDiv, Nat.reducePow, UInt8.reduceToNat, Int.reduceEq, Int.reduceLT, Int.reduceLE, ↓reduceIte, Nat.reduceEqDiff, Nat.reduceAdd, Int.reduceToNat, reduceCtorEq, Nat.reduceLeDiff, ↓u_ref10_Edits, hxi, hyj, g1, g2, g3, hz, cl_is, map_cl_set, width_cl]
              have hm2 := hsN he
              rw [Nat.max_eq_left (by omega)] at hm2
              rw [← hm2]
              exact Rnd_keep j (by omega) (by simp) ⟨j, _, rfl, by omega, hf, rfl, rfl⟩
theorem refEdits {a b : List UInt8} (ha : a.length ≤ 4000) (hb : b.length ≤ 4000) : VFresh Tryd.prog 60 [slB a, slB b] (fun r => r = .sl 2 ((edx (isLong a b) (linesOf a) (linesOf b)).map ed)) := by
  have la := linesOf_length a
  have lb := linesOf_length b
  refine VCalls.toFreshV (go_ref10_Edits (by simp) ?_)
  show vwp Tryd.prog c_ref10_Edits (atEnd r_ref10_Edits (EndIs (edx (isLong a b) (linesOf a) (linesOf b)))) _ _
  simp -dsimp (disch := first | assumption | omega) only [↓vmPre, vmPost, vmWrd, vmDat, eq_self, forall_const, Nat.reduceLT, Nat.reduceEqDiff, Nat.reduceSub, Nat.reduceMul, Nat.reduceMod, Nat.reduceDiv, Nat.reducePow, UInt8.reduceToNat, Int.reduceEq, Int.reduceLT, Int.reduceLE, ↓reduceIte, Nat.reduceEqDiff, Nat.reduceAdd, Int.reduceToNat, reduceCtorEq, Nat.reduceLeDiff, ↓u_ref10_Edits]
  refine (refLines a ha).calls rfl ?_
  rintro x rfl
  simp -dsimp (disch := first | assumption | omega) only [↓vmPre, vmPost, vmWrd, vmDat, eq_self, forall_const, Nat.reduceLT, Nat.reduceEqDiff, Nat.reduceSub, Nat.reduceMul, Nat.reduceMod, Nat.reduceDiv, Nat.reducePow, UInt8.reduceToNat, Int.reduceEq, Int.reduceLT, Int.reduceLE, ↓reduceIte, Nat.reduceEqDiff, Nat.reduceAdd, Int.reduceToNat, reduceCtorEq, Nat.reduceLeDiff, ↓u_ref10_Edits]
  refine (refLines b hb).calls rfl ?_
  rintro x rfl
  by_cases h1 : 2000 < (linesOf a).length
  · have hL : isLong a b = true := by unfold isLong; simp [h1]
    rw [hL]
    simp -dsimp (disch := first | assumption | omega) only [↓vmPre, vmPost, vmWrd, vmDat, eq_self, forall_const, Nat.reduceLT, Nat.reduceEqDiff, Nat.reduceSub, Nat.reduceMul, Nat.reduceMod, Nat.reduceDiv, Nat.reducePow, UInt8.reduceToNat, Int.reduceEq, Int.reduceLT, Int.reduceLE, ↓reduceIte, Nat.reduceEqDiff, Nat.reduceAdd, Int.reduceToNat, reduceCtorEq, Nat.reduceLeDiff, ↓u_ref10_Edits_k38_e, ↓u_ref10_Edits_k37_e, ↓u_ref10_Edits_k36_e, ↓u_ref10_Edits_k35_e, ↓u_ref10_Edits_k10_e]
    exact refLong (by omega) (by omega) rfl _
  · by_cases h2 : 2000 < (linesOf b).length
    · have hL : isLong a b = true := by unfold isLong; simp [h2]
      rw [hL]
      simp -dsimp (disch := first | assumption | omega) only [↓vmPre, vmPost, vmWrd, vmDat, eq_self, forall_const, Nat.reduceLT, Nat.reduceEqDiff, Nat.reduceSub, Nat.reduceMul, Nat.reduceMod, Nat.reduceDiv, Nat.reducePow, UInt8.reduceToNat, Int.reduceEq, Int.reduceLT, Int.reduceLE, ↓reduceIte, Nat.reduceEqDiff, Nat.reduceAdd, Int.reduceToNat, reduceCtorEq, Nat.reduceLeDiff, ↓u_ref10_Edits_k38_e, ↓u_ref10_Edits_k37_e, ↓u_ref10_Edits_k36_e, ↓u_ref10_Edits_k35_e, ↓u_ref10_Edits_k10_e]
      exact refLong (by omega) (by omega) rfl _
    · have hL : isLong a b = false := by unfold isLong; simp [h1, h2]
      rw [hL]
      simp -dsimp (disch := first | assumption | omega) only [↓vmPre, vmPost, vmWrd, vmDat, eq_self, forall_const, Nat.reduceLT, Nat.reduceEqDiff, Nat.reduceSub, Nat.reduceMul, Nat.reduceMod, Nat.reduceDiv, Nat.reducePow, UInt8.reduceToNat, Int.reduceEq, Int.reduceLT, Int.reduceLE, ↓reduceIte, Nat.reduceEqDiff, Nat.reduceAdd, Int.reduceToNat, reduceCtorEq, Nat.reduceLeDiff, ↓u_ref10_Edits_k38_e, ↓u_ref10_Edits_k37_e, ↓u_ref10_Edits_k36_e, ↓u_ref10_Edits_k35_e, ↓u_ref10_Edits_k10_e]
      exact refShort (by omega) (by omega) _
end Go.Proofs.YtijidndhlgbjhaaDoor
