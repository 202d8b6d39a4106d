/- diff.Edits. -/
import Derived.Test.YtijidndhlgbjhaaDoorVlFill
namespace Go.Proofs.YtijidndhlgbjhaaDoor
open Go.RowKit
variable [Globs]
set_option linter.unusedSectionVars false
set_option linter.unusedVariables false
set_option linter.unusedSimpArgs false

def ed (p : Nat × List UInt8) : TV := .agg [i64 (p.1 : Int), ts p.2]
theorem ed_is {p : Nat × List UInt8} : ed p = .agg [i64 (p.1 : Int), ts p.2] := by unfold ed; rfl
theorem width_ed {p : Nat × List UInt8} : width (ed p) = 2 := by rw [ed_is]; rfl
theorem map_ed_app {l : List (Nat × List UInt8)} {k : Nat} {x : List UInt8} : l.map ed ++ [TV.agg [i64 (k : Int), ts x]] = (l ++ [(k, x)]).map ed := by simp [ed]
theorem take_ed {l : List (Nat × List UInt8)} {n : Nat} (h : n = l.length) : (l.map ed).take n = l.map ed := by rw [List.take_of_length_le (by simp [h])]
/-- The edits so far. -/
def outs (v : Nat) (es : List (Nat × List UInt8)) : List Ob := [.obj 0 (.os 2 1 v [] 0 es.length es.length), .obj v (.arr es.length 2 (es.map ed))]
theorem addV {v k : Nat} {s : List UInt8} {es : List (Nat × List UInt8)} {Hr : List Ob} (hn : es.length ≤ 100000) :
    VCalls Tryd.prog 113 [i64 (k : Int), ts s, .op 0 0 []] (outs v es ++ Hr) (fun x H' => x = .tup [] ∧ ∃ g, belowO 0 g = true ∧ H' = outs (v + 1) (es ++ [(k, s)]) ++ Hr ++ [g]) := by
  unfold outs
  refine go_diff_Edits_1 (by simp) ?_
  simp -dsimp (disch := first | assumption | omega) only [↓vmPre, vmPost, vmWrd, vmDat, eq_self, forall_const, Nat.reduceLT, Nat.reduceEqDiff, Nat.reduceSub, Nat.reduceMul, Nat.reduceMod, Nat.reduceDiv, Nat.reducePow, UInt8.reduceToNat, Int.reduceEq, Int.reduceLT, Int.reduceLE, ↓reduceIte, Nat.reduceEqDiff, Nat.reduceAdd, Int.reduceToNat, reduceCtorEq, Nat.reduceLeDiff, ↓u_diff_Edits_1, one_set, take_one', take_ed, map_ed_app]
  exact ⟨_, rfl, rfl⟩
def EndIs (tot : List (Nat × List UInt8)) : TV → List Ob → Prop := fun x H' => vget (frs H' x) fun r => r = .sl 2 (tot.map ed)
theorem scal_eds {p : List (Nat × List UInt8)} : scalL (p.map ed) = true := by
  induction p with
  | nil => rfl
  | cons a p ih => rw [List.map_cons, scalL, ed_is, ih]; rfl
theorem endIs {p : List (Nat × List UInt8)} {v : Nat} {Hr : List Ob} : EndIs p (.os 2 1 v [] 0 p.length p.length) (outs v p ++ Hr) := by
  unfold EndIs outs
  simp -dsimp (disch := first | assumption | omega) only [↓vmPre, vmPost, vmWrd, vmDat, eq_self, forall_const, Nat.reduceLT, Nat.reduceEqDiff, Nat.reduceSub, Nat.reduceMul, Nat.reduceMod, Nat.reduceDiv, Nat.reducePow, UInt8.reduceToNat, Int.reduceEq, Int.reduceLT, Int.reduceLE, ↓reduceIte, Nat.reduceEqDiff, Nat.reduceAdd, Int.reduceToNat, reduceCtorEq, Nat.reduceLeDiff, take_ed, scal_eds]
theorem isGo_add : isGo Tryd.prog 113 = true := by_refl (by kernel_rfl)
abbrev adds : TV := .fn (.func 113) [] [.op 0 0 []]
theorem editsLong {tot p : List (Nat × List UInt8)} {x y : List (List UInt8)} {v : Nat} {tb : TV} (hx : p.length + x.length ≤ 4000) (hy : y.length ≤ 4000) (ht : tot = p ++ (x.map (fun l => (1, l)) ++ y.map (fun l => (2, l)))) (hbl : belowT 3 tb = true) :
    vwp Tryd.prog c_diff_Edits_k14 (atEnd r_diff_Edits (EndIs tot)) [(5, slS x), (6, slS y), (7, .op 0 0 []), (8, adds), (9, .val (.bool true)), (10, .op 2 0 [])] (outs v p ++ [.obj 0 tb]) := by
  unfold outs
  simp -dsimp (disch := first | assumption | omega) only [↓vmPre, vmPost, vmWrd, vmDat, eq_self, forall_const, Nat.reduceLT, Nat.reduceEqDiff, Nat.reduceSub, Nat.reduceMul, Nat.reduceMod, Nat.reduceDiv, Nat.reducePow, UInt8.reduceToNat, Int.reduceEq, Int.reduceLT, Int.reduceLE, ↓reduceIte, Nat.reduceEqDiff, Nat.reduceAdd, Int.reduceToNat, reduceCtorEq, Nat.reduceLeDiff, isGo_add, ↓u_diff_Edits]
  refine w_loop (fun m e H => ∃ (i j : Nat) (p' : List (Nat × List UInt8)) (v' : Nat), m = (x.length - i) + (y.length - j) ∧ i ≤ x.length ∧ j ≤ y.length ∧ (i < x.length → j = 0) ∧ tot = p' ++ ((x.drop i).map (fun l => (1, l)) ++ (y.drop j).map (fun l => (2, l))) ∧ p'.length + (x.length - i) + (y.length - j) ≤ 8000 ∧
    e = [(5, slS x), (6, slS y), (7, .op 0 0 []), (8, adds), (9, .val (.bool true)), (10, .op 2 0 []), (11, i64 (i : Int)), (12, i64 (j : Int))] ∧ H = outs v' p' ++ [.obj 0 tb]) (x.length + y.length) ?_ ?_
  · exact ⟨0, 0, p, v, by omega, by omega, by omega, fun _ => rfl, by simpa using ht, by omega, rfl, rfl⟩
  · rintro m e H ⟨i, j, p', v', rfl, hi, hj, hij, htot, hp, rfl, rfl⟩
    rcases Nat.lt_or_ge i x.length with hix | hix
    · have hj0 := hij hix
      subst hj0
      have hxi : x[i]? = some x[i] := List.getElem?_eq_getElem hix
      have fin : ∀ g, belowO 0 g = true → Rnd 3 [5, 6, 7, 8, 9, 10, 11, 12] (Blk 2 (Thn Tryd.prog c_diff_Edits_k12 (atEnd r_diff_Edits (EndIs tot)))) (fun m e H => ∃ (i j : Nat) (p' : List (Nat × List UInt8)) (v' : Nat), m = (x.length - i) + (y.length - j) ∧ i ≤ x.length ∧ j ≤ y.length ∧ (i < x.length → j = 0) ∧ tot = p' ++ ((x.drop i).map (fun l => (1, l)) ++ (y.drop j).map (fun l => (2, l))) ∧ p'.length + (x.length - i) + (y.length - j) ≤ 8000 ∧
          e = [(5, slS x), (6, slS y), (7, .op 0 0 []), (8, adds), (9, .val (.bool true)), (10, .op 2 0 []), (11, i64 (i : Int)), (12, i64 (j : Int))] ∧ H = outs v' p' ++ [.obj 0 tb]) (x.length - i + (y.length - 0)) .nor
          [(5, slS x), (6, slS y), (7, .op 0 0 []), (8, adds), (9, .val (.bool true)), (10, .op 2 0 []), (11, i64 ((i + 1 : Nat) : Int)), (12, i64 ((0 : Nat) : Int))] (outs (v' + 1) (p' ++ [(1, x[i])]) ++ [.obj 0 tb] ++ [g]) := by
        intro g hg
        refine Rnd_cut (x.length - (i + 1) + (y.length - 0)) 3 (by omega) (by omega) rfl ?_ ⟨i + 1, 0, p' ++ [(1, x[i])], v' + 1, rfl, by omega, by omega, fun _ => rfl, ?_, ?_, rfl, rfl⟩
        · show (belowO 3 _ && (belowO 3 _ && (belowT 3 tb && true))) = true
          rw [hbl]; rfl
        · rw [htot, List.drop_eq_getElem_cons hix, List.map_cons]; simp only [List.append_assoc, List.cons_append, List.nil_append]
        · rw [List.length_append, List.length_singleton]; omega
      unfold outs
      simp -dsimp (disch := first | assumption | omega) only [↓vmPre, vmPost, vmWrd, vmDat, eq_self, forall_const, Nat.reduceLT, Nat.reduceEqDiff, Nat.reduceSub, Nat.reduceMul, Nat.reduceMod, Nat.reduceDiv, Nat.reducePow, UInt8.reduceToNat, Int.reduceEq, Int.reduceLT, Int.reduceLE, ↓reduceIte, Nat.reduceEqDiff, Nat.reduceAdd, Int.reduceToNat, reduceCtorEq, Nat.reduceLeDiff, isGo_add, ↓u_diff_Edits, hxi]
      refine vif_cases (fun h0 => ?_) (fun h0 => ?_)
      · simp -dsimp (disch := first | assumption | omega) only [↓vmPre, vmPost, vmWrd, vmDat, eq_self, forall_const, Nat.reduceLT, Nat.reduceEqDiff, Nat.reduceSub, Nat.reduceMul, Nat.reduceMod, Nat.reduceDiv, Nat.reducePow, UInt8.reduceToNat, Int.reduceEq, Int.reduceLT, Int.reduceLE, ↓reduceIte, Nat.reduceEqDiff, Nat.reduceAdd, Int.reduceToNat, reduceCtorEq, Nat.reduceLeDiff, isGo_add, ↓u_diff_Edits, hxi]
        refine VCalls.mono (addV (k := 1) (s := x[i]) (es := p') (v := v') (Hr := [.obj 0 tb]) (by omega)) ?_
        rintro _ H' ⟨rfl, g, hg, rfl⟩
        simp -dsimp (disch := first | assumption | omega) only [↓vmPre, vmPost, vmWrd, vmDat, eq_self, forall_const, Nat.reduceLT, Nat.reduceEqDiff, Nat.reduceSub, Nat.reduceMul, Nat.reduceMod, Nat.reduceDiv, Nat.reducePow, UInt8.reduceToNat, Int.reduceEq, Int.reduceLT, Int.reduceLE, ↓reduceIte, Nat.reduceEqDiff, Nat.reduceAdd, Int.reduceToNat, reduceCtorEq, Nat.reduceLeDiff, isGo_add, ↓u_diff_Edits]
        exact fin g hg
      · simp -dsimp (disch := first | assumption | omega) only [↓vmPre, vmPost, vmWrd, vmDat, eq_self, forall_const, Nat.reduceLT, Nat.reduceEqDiff, Nat.reduceSub, Nat.reduceMul, Nat.reduceMod, Nat.reduceDiv, Nat.reducePow, UInt8.reduceToNat, Int.reduceEq, Int.reduceLT, Int.reduceLE, ↓reduceIte, Nat.reduceEqDiff, Nat.reduceAdd, Int.reduceToNat, reduceCtorEq, Nat.reduceLeDiff, isGo_add, ↓u_diff_Edits, hxi]
        refine VCalls.mono (addV (k := 1) (s := x[i]) (es := p') (v := v') (Hr := [.obj 0 tb]) (by omega)) ?_
        rintro _ H' ⟨rfl, g, hg, rfl⟩
        simp -dsimp (disch := first | assumption | omega) only [↓vmPre, vmPost, vmWrd, vmDat, eq_self, forall_const, Nat.reduceLT, Nat.reduceEqDiff, Nat.reduceSub, Nat.reduceMul, Nat.reduceMod, Nat.reduceDiv, Nat.reducePow, UInt8.reduceToNat, Int.reduceEq, Int.reduceLT, Int.reduceLE, ↓reduceIte, Nat.reduceEqDiff, Nat.reduceAdd, Int.reduceToNat, reduceCtorEq, Nat.reduceLeDiff, isGo_add, ↓u_diff_Edits]
        exact fin g hg
    · rcases Nat.lt_or_ge j y.length with hjy | hjy
      · have hyj : y[j]? = some y[j] := List.getElem?_eq_getElem hjy
        unfold outs
        simp -dsimp (disch := first | assumption | omega) only [↓vmPre, vmPost, vmWrd, vmDat, eq_self, forall_const, Nat.reduceLT, Nat.reduceEqDiff, Nat.reduceSub, Nat.reduceMul, Nat.reduceMod, Nat.reduceDiv, Nat.reducePow, UInt8.reduceToNat, Int.reduceEq, Int.reduceLT, Int.reduceLE, ↓reduceIte, Nat.reduceEqDiff, Nat.reduceAdd, Int.reduceToNat, reduceCtorEq, Nat.reduceLeDiff, isGo_add, ↓u_diff_Edits, hyj]
        refine VCalls.mono (addV (k := 2) (s := y[j]) (es := p') (v := v') (Hr := [.obj 0 tb]) (by omega)) ?_
        rintro _ H' ⟨rfl, g, hg, rfl⟩
        simp -dsimp (disch := first | assumption | omega) only [↓vmPre, vmPost, vmWrd, vmDat, eq_self, forall_const, Nat.reduceLT, Nat.reduceEqDiff, Nat.reduceSub, Nat.reduceMul, Nat.reduceMod, Nat.reduceDiv, Nat.reducePow, UInt8.reduceToNat, Int.reduceEq, Int.reduceLT, Int.reduceLE, ↓reduceIte, Nat.reduceEqDiff, Nat.reduceAdd, Int.reduceToNat, reduceCtorEq, Nat.reduceLeDiff, isGo_add, ↓u_diff_Edits]
        refine Rnd_cut (x.length - i + (y.length - (j + 1))) 3 (by omega) (by omega) rfl ?_ ⟨i, j + 1, p' ++ [(2, y[j])], v' + 1, rfl, by omega, by omega, fun _ => by omega, ?_, ?_, rfl, rfl⟩
        · show (belowO 3 _ && (belowO 3 _ && (belowT 3 tb && true))) = true
          rw [hbl]; rfl
        · rw [htot, List.drop_eq_getElem_cons hjy, List.drop_eq_nil_of_le hix, List.map_cons]; simp only [List.append_assoc, List.cons_append, List.nil_append, List.map_nil]
        · rw [List.length_append, List.length_singleton]; omega
      · have ht : tot = p' := by rw [htot, List.drop_eq_nil_of_le hix, List.drop_eq_nil_of_le hjy]; simp
        subst ht
        unfold outs
        simp -dsimp (disch := first | assumption | omega) only [↓vmPre, vmPost, vmWrd, vmDat, eq_self, forall_const, Nat.reduceLT, Nat.reduceEqDiff, Nat.reduceSub, Nat.reduceMul, Nat.reduceMod, Nat.reduceDiv, Nat.reducePow, UInt8.reduceToNat, Int.reduceEq, Int.reduceLT, Int.reduceLE, ↓reduceIte, Nat.reduceEqDiff, Nat.reduceAdd, Int.reduceToNat, reduceCtorEq, Nat.reduceLeDiff, isGo_add, ↓u_diff_Edits]
        exact endIs (Hr := [.obj 0 tb])
theorem editsShort {tot p : List (Nat × List UInt8)} {x y : List (List UInt8)} {v : Nat} {tb : TV} (hb : p.length + x.length ≤ 4000) (hx : x.length ≤ 2000) (hy : y.length ≤ 2000) (ht : tot = p ++ eds x y) (htb : tb = .agg [i64 ((y.length + 1 : Nat) : Int), .sl 1 ((tabc x y).map cel)]) :
    vwp Tryd.prog c_diff_Edits_k14 (atEnd r_diff_Edits (EndIs tot)) [(5, slS x), (6, slS y), (7, .op 0 0 []), (8, adds), (9, .val (.bool false)), (10, .op 2 0 [])] (outs v p ++ [.obj 0 tb]) := by
  have hbl : belowT 3 tb = true := by rw [htb]; rfl
  unfold outs
  simp -dsimp (disch := first | assumption | omega) only [↓vmPre, vmPost, vmWrd, vmDat, eq_self, forall_const, Nat.reduceLT, Nat.reduceEqDiff, Nat.reduceSub, Nat.reduceMul, Nat.reduceMod, Nat.reduceDiv, Nat.reducePow, UInt8.reduceToNat, Int.reduceEq, Int.reduceLT, Int.reduceLE, ↓reduceIte, Nat.reduceEqDiff, Nat.reduceAdd, Int.reduceToNat, reduceCtorEq, Nat.reduceLeDiff, ↓u_diff_Edits]
  refine w_loop (fun m e H => ∃ (i j : Nat) (p' : List (Nat × List UInt8)) (v' : Nat), m = (x.length - i) + (y.length - j) ∧ i ≤ x.length ∧ j ≤ y.length ∧ tot = p' ++ eds (x.drop i) (y.drop j) ∧ p'.length + (x.length - i) + (y.length - j) ≤ 8000 ∧
    e = [(5, slS x), (6, slS y), (7, .op 0 0 []), (8, adds), (9, .val (.bool false)), (10, .op 2 0 []), (11, i64 (i : Int)), (12, i64 (j : Int))] ∧ H = outs v' p' ++ [.obj 0 tb]) (x.length + y.length) ?_ ?_
  · exact ⟨0, 0, p, v, by omega, by omega, by omega, by simpa using ht, by omega, rfl, rfl⟩
  · rintro m e H ⟨i, j, p', v', rfl, hi, hj, htot, hp, rfl, rfl⟩
    have cut : ∀ (g : Ob) (i' j' k : Nat) (s : List UInt8), belowO 0 g = true → i' ≤ x.length → j' ≤ y.length → x.length - i' + (y.length - j') < x.length - i + (y.length - j) → tot = (p' ++ [(k, s)]) ++ eds (x.drop i') (y.drop j') → Rnd 3 [5, 6, 7, 8, 9, 10, 11, 12] (Blk 2 (Thn Tryd.prog c_diff_Edits_k12 (atEnd r_diff_Edits (EndIs tot)))) (fun m e H => ∃ (i j : Nat) (p' : List (Nat × List UInt8)) (v' : Nat), m = (x.length - i) + (y.length - j) ∧ i ≤ x.length ∧ j ≤ y.length ∧ tot = p' ++ eds (x.drop i) (y.drop j) ∧ p'.length + (x.length - i) + (y.length - j) ≤ 8000 ∧
          e = [(5, slS x), (6, slS y), (7, .op 0 0 []), (8, adds), (9, .val (.bool false)), (10, .op 2 0 []), (11, i64 (i : Int)), (12, i64 (j : Int))] ∧ H = outs v' p' ++ [.obj 0 tb]) (x.length - i + (y.length - j)) .nor
          [(5, slS x), (6, slS y), (7, .op 0 0 []), (8, adds), (9, .val (.bool false)), (10, .op 2 0 []), (11, i64 (i' : Int)), (12, i64 (j' : Int))] (outs (v' + 1) (p' ++ [(k, s)]) ++ [.obj 0 tb] ++ [g]) := by
      intro g i' j' k s hg hi' hj' hm hto
      refine Rnd_cut (x.length - i' + (y.length - j')) 3 hm (by omega) rfl ?_ ⟨i', j', p' ++ [(k, s)], v' + 1, rfl, hi', hj', hto, ?_, rfl, rfl⟩
      · show (belowO 3 _ && (belowO 3 _ && (belowT 3 tb && true))) = true
        rw [hbl]; rfl
      · rw [List.length_append, List.length_singleton]; omega
    rcases Nat.lt_or_ge i x.length with hix | hix
    · have hxi : x[i]? = some x[i] := List.getElem?_eq_getElem hix
      rcases Nat.lt_or_ge j y.length with hjy | hjy
      · have hyj : y[j]? = some y[j] := List.getElem?_eq_getElem hjy
        unfold outs
        simp -dsimp (disch := first | assumption | omega) only [↓vmPre, vmPost, vmWrd, vmDat, eq_self, forall_const, Nat.reduceLT, Nat.reduceEqDiff, Nat.reduceSub, Nat.reduceMul, Nat.reduceMod, Nat.reduceDiv, Nat.reducePow, UInt8.reduceToNat, Int.reduceEq, Int.reduceLT, Int.reduceLE, ↓reduceIte, Nat.reduceEqDiff, Nat.reduceAdd, Int.reduceToNat, reduceCtorEq, Nat.reduceLeDiff, isGo_add, ↓u_diff_Edits, hxi, hyj]
        refine vif_cases (fun he => ?_) (fun he => ?_)
        · simp -dsimp (disch := first | assumption | omega) only [↓vmPre, vmPost, vmWrd, vmDat, eq_self, forall_const, Nat.reduceLT, Nat.reduceEqDiff, Nat.reduceSub, Nat.reduceMul, Nat.reduceMod, Nat.reduceDiv, Nat.reducePow, UInt8.reduceToNat, Int.reduceEq, Int.reduceLT, Int.reduceLE, ↓reduceIte, Nat.reduceEqDiff, Nat.reduceAdd, Int.reduceToNat, reduceCtorEq, Nat.reduceLeDiff, isGo_add, ↓u_diff_Edits, hxi, hyj]
          refine VCalls.mono (addV (k := 0) (s := x[i]) (es := p') (v := v') (Hr := [.obj 0 tb]) (by omega)) ?_
          rintro _ H' ⟨rfl, g, hg, rfl⟩
          simp -dsimp (disch := first | assumption | omega) only [↓vmPre, vmPost, vmWrd, vmDat, eq_self, forall_const, Nat.reduceLT, Nat.reduceEqDiff, Nat.reduceSub, Nat.reduceMul, Nat.reduceMod, Nat.reduceDiv, Nat.reducePow, UInt8.reduceToNat, Int.reduceEq, Int.reduceLT, Int.reduceLE, ↓reduceIte, Nat.reduceEqDiff, Nat.reduceAdd, Int.reduceToNat, reduceCtorEq, Nat.reduceLeDiff, ↓u_diff_Edits]
          exact cut g (i + 1) (j + 1) 0 _ hg (by omega) (by omega) (by omega) (by rw [htot, eds_keep hix hjy he, List.append_assoc]; rfl)
        · have hw : width tb = 2 := by rw [htb]; rfl
          have hag : isAg tb = true := by rw [htb]; rfl
          have htu : isTup tb = false := by rw [htb]; rfl
          have b0 : (x.length + 1) * (y.length + 1) ≤ 2001 * 2001 := Nat.mul_le_mul (by omega) (by omega)
          have b1 := grid_lt (n := x.length) (m := y.length) (i := i + 1) (j := j) (by omega) (by omega)
          have b2 := grid_lt (n := x.length) (m := y.length) (i := i) (j := j + 1) (by omega) (by omega)
          have tA : VPure Tryd.prog 115 [tb, i64 ((i + 1 : Nat) : Int), i64 (j : Int)] (fun r => r = i32 (tab (x.drop (i + 1)) (y.drop j) : Nat)) := by
            rw [htb]; exact tableAt (by omega) (tabc_at (by omega) (by omega))
          have tB : VPure Tryd.prog 115 [tb, i64 (i : Int), i64 ((j + 1 : Nat) : Int)] (fun r => r = i32 (tab (x.drop i) (y.drop (j + 1)) : Nat)) := by
            rw [htb]; exact tableAt (by omega) (tabc_at (by omega) (by omega))
          simp -dsimp (disch := first | assumption | omega) only [↓vmPre, vmPost, vmWrd, vmDat, eq_self, forall_const, Nat.reduceLT, Nat.reduceEqDiff, Nat.reduceSub, Nat.reduceMul, Nat.reduceMod, Nat.reduceDiv, Nat.reducePow, UInt8.reduceToNat, Int.reduceEq, Int.reduceLT, Int.reduceLE, ↓reduceIte, Nat.reduceEqDiff, Nat.reduceAdd, Int.reduceToNat, reduceCtorEq, Nat.reduceLeDiff, isGo_add, ↓u_diff_Edits, hxi, hyj, hw, hag, htu]
          refine vex_of (i32 (tab (x.drop (i + 1)) (y.drop j) : Nat)) ⟨tA.calls (by rw [htb]; rfl) (fun r hr => ⟨hr, rfl⟩), ?_⟩
          simp -dsimp (disch := first | assumption | omega) only [↓vmPre, vmPost, vmWrd, vmDat, eq_self, forall_const, Nat.reduceLT, Nat.reduceEqDiff, Nat.reduceSub, Nat.reduceMul, Nat.reduceMod, Nat.reduceDiv, Nat.reducePow, UInt8.reduceToNat, Int.reduceEq, Int.reduceLT, Int.reduceLE, ↓reduceIte, Nat.reduceEqDiff, Nat.reduceAdd, Int.reduceToNat, reduceCtorEq, Nat.reduceLeDiff, isGo_add, ↓u_diff_Edits, hxi, hyj, hw, hag, htu]
          refine tB.calls (by rw [htb]; rfl) ?_
          rintro r rfl
          simp -dsimp (disch := first | assumption | omega) only [↓vmPre, vmPost, vmWrd, vmDat, eq_self, forall_const, Nat.reduceLT, Nat.reduceEqDiff, Nat.reduceSub, Nat.reduceMul, Nat.reduceMod, Nat.reduceDiv, Nat.reducePow, UInt8.reduceToNat, Int.reduceEq, Int.reduceLT, Int.reduceLE, ↓reduceIte, Nat.reduceEqDiff, Nat.reduceAdd, Int.reduceToNat, reduceCtorEq, Nat.reduceLeDiff, isGo_add, ↓u_diff_Edits, hxi, hyj, hw, hag, htu]
          refine vif_cases (fun hq => ?_) (fun hq => ?_)
          · simp -dsimp (disch := first | assumption | omega) only [↓vmPre, vmPost, vmWrd, vmDat, eq_self, forall_const, Nat.reduceLT, Nat.reduceEqDiff, Nat.reduceSub, Nat.reduceMul, Nat.reduceMod, Nat.reduceDiv, Nat.reducePow, UInt8.reduceToNat, Int.reduceEq, Int.reduceLT, Int.reduceLE, ↓reduceIte, Nat.reduceEqDiff, Nat.reduceAdd, Int.reduceToNat, reduceCtorEq, Nat.reduceLeDiff, isGo_add, ↓u_diff_Edits, hxi, hyj]
            refine VCalls.mono (addV (k := 1) (s := x[i]) (es := p') (v := v') (Hr := [.obj 0 tb]) (by omega)) ?_
            rintro _ H' ⟨rfl, g, hg, rfl⟩
            simp -dsimp (disch := first | assumption | omega) only [↓vmPre, vmPost, vmWrd, vmDat, eq_self, forall_const, Nat.reduceLT, Nat.reduceEqDiff, Nat.reduceSub, Nat.reduceMul, Nat.reduceMod, Nat.reduceDiv, Nat.reducePow, UInt8.reduceToNat, Int.reduceEq, Int.reduceLT, Int.reduceLE, ↓reduceIte, Nat.reduceEqDiff, Nat.reduceAdd, Int.reduceToNat, reduceCtorEq, Nat.reduceLeDiff, ↓u_diff_Edits]
            exact cut g (i + 1) j 1 _ hg (by omega) (by omega) (by omega) (by rw [htot, eds_drop hix (.inr ⟨hjy, he, by omega⟩), List.append_assoc]; rfl)
          · simp -dsimp (disch := first | assumption | omega) only [↓vmPre, vmPost, vmWrd, vmDat, eq_self, forall_const, Nat.reduceLT, Nat.reduceEqDiff, Nat.reduceSub, Nat.reduceMul, Nat.reduceMod, Nat.reduceDiv, Nat.reducePow, UInt8.reduceToNat, Int.reduceEq, Int.reduceLT, Int.reduceLE, ↓reduceIte, Nat.reduceEqDiff, Nat.reduceAdd, Int.reduceToNat, reduceCtorEq, Nat.reduceLeDiff, isGo_add, ↓u_diff_Edits, hxi, hyj]
            refine VCalls.mono (addV (k := 2) (s := y[j]) (es := p') (v := v') (Hr := [.obj 0 tb]) (by omega)) ?_
            rintro _ H' ⟨rfl, g, hg, rfl⟩
            simp -dsimp (disch := first | assumption | omega) only [↓vmPre, vmPost, vmWrd, vmDat, eq_self, forall_const, Nat.reduceLT, Nat.reduceEqDiff, Nat.reduceSub, Nat.reduceMul, Nat.reduceMod, Nat.reduceDiv, Nat.reducePow, UInt8.reduceToNat, Int.reduceEq, Int.reduceLT, Int.reduceLE, ↓reduceIte, Nat.reduceEqDiff, Nat.reduceAdd, Int.reduceToNat, reduceCtorEq, Nat.reduceLeDiff, ↓u_diff_Edits]
            exact cut g i (j + 1) 2 _ hg (by omega) (by omega) (by omega) (by rw [htot, eds_ins hjy (.inr ⟨hix, he, by omega⟩), List.append_assoc]; rfl)
      · have hj2 : j = y.length := by omega
        subst hj2
        unfold outs
        simp -dsimp (disch := first | assumption | omega) only [↓vmPre, vmPost, vmWrd, vmDat, eq_self, forall_const, Nat.reduceLT, Nat.reduceEqDiff, Nat.reduceSub, Nat.reduceMul, Nat.reduceMod, Nat.reduceDiv, Nat.reducePow, UInt8.reduceToNat, Int.reduceEq, Int.reduceLT, Int.reduceLE, ↓reduceIte, Nat.reduceEqDiff, Nat.reduceAdd, Int.reduceToNat, reduceCtorEq, Nat.reduceLeDiff, isGo_add, ↓u_diff_Edits, hxi]
        refine VCalls.mono (addV (k := 1) (s := x[i]) (es := p') (v := v') (Hr := [.obj 0 tb]) (by omega)) ?_
        rintro _ H' ⟨rfl, g, hg, rfl⟩
        simp -dsimp (disch := first | assumption | omega) only [↓vmPre, vmPost, vmWrd, vmDat, eq_self, forall_const, Nat.reduceLT, Nat.reduceEqDiff, Nat.reduceSub, Nat.reduceMul, Nat.reduceMod, Nat.reduceDiv, Nat.reducePow, UInt8.reduceToNat, Int.reduceEq, Int.reduceLT, Int.reduceLE, ↓reduceIte, Nat.reduceEqDiff, Nat.reduceAdd, Int.reduceToNat, reduceCtorEq, Nat.reduceLeDiff, ↓u_diff_Edits]
        exact cut g (i + 1) y.length 1 _ hg (by omega) (by omega) (by omega) (by rw [htot, eds_drop hix (.inl rfl), List.append_assoc]; rfl)
    · rcases Nat.lt_or_ge j y.length with hjy | hjy
      · have hyj : y[j]? = some y[j] := List.getElem?_eq_getElem hjy
        unfold outs
        simp -dsimp (disch := first | assumption | omega) only [↓vmPre, vmPost, vmWrd, vmDat, eq_self, forall_const, Nat.reduceLT, Nat.reduceEqDiff, Nat.reduceSub, Nat.reduceMul, Nat.reduceMod, Nat.reduceDiv, Nat.reducePow, UInt8.reduceToNat, Int.reduceEq, Int.reduceLT, Int.reduceLE, ↓reduceIte, Nat.reduceEqDiff, Nat.reduceAdd, Int.reduceToNat, reduceCtorEq, Nat.reduceLeDiff, isGo_add, ↓u_diff_Edits, hyj]
        refine VCalls.mono (addV (k := 2) (s := y[j]) (es := p') (v := v') (Hr := [.obj 0 tb]) (by omega)) ?_
        rintro _ H' ⟨rfl, g, hg, rfl⟩
        simp -dsimp (disch := first | assumption | omega) only [↓vmPre, vmPost, vmWrd, vmDat, eq_self, forall_const, Nat.reduceLT, Nat.reduceEqDiff, Nat.reduceSub, Nat.reduceMul, Nat.reduceMod, Nat.reduceDiv, Nat.reducePow, UInt8.reduceToNat, Int.reduceEq, Int.reduceLT, Int.reduceLE, ↓reduceIte, Nat.reduceEqDiff, Nat.reduceAdd, Int.reduceToNat, reduceCtorEq, Nat.reduceLeDiff, ↓u_diff_Edits]
        have hi2 : i = x.length := by omega
        subst hi2
        exact cut g x.length (j + 1) 2 _ hg (by omega) (by omega) (by omega) (by rw [htot, eds_ins hjy (.inl rfl), List.append_assoc]; rfl)
      · have ht : tot = p' := by rw [htot, List.drop_eq_nil_of_le hix, List.drop_eq_nil_of_le hjy]; simp [eds]
        subst ht
        unfold outs
        simp -dsimp (disch := first | assumption | omega) only [↓vmPre, vmPost, vmWrd, vmDat, eq_self, forall_const, Nat.reduceLT, Nat.reduceEqDiff, Nat.reduceSub, Nat.reduceMul, Nat.reduceMod, Nat.reduceDiv, Nat.reducePow, UInt8.reduceToNat, Int.reduceEq, Int.reduceLT, Int.reduceLE, ↓reduceIte, Nat.reduceEqDiff, Nat.reduceAdd, Int.reduceToNat, reduceCtorEq, Nat.reduceLeDiff, isGo_add, ↓u_diff_Edits]
        exact endIs (Hr := [.obj 0 tb])
end Go.Proofs.YtijidndhlgbjhaaDoor
