/- The reference's edits: long texts. -/
import Derived.Test.YtijidndhlgbjhaaDoorVlRef
import Derived.Test.YtijidndhlgbjhaaDoorVlEditsB
namespace Go.Proofs.YtijidndhlgbjhaaDoor
open Go.RowKit
variable [Globs]
set_option linter.unusedSectionVars false
set_option linter.unusedVariables false
set_option linter.unusedSimpArgs false

theorem endIs0 {p : List (Nat × List UInt8)} {v : Nat} {Hr : List Ob} : EndIs p (.os 2 0 v [] 0 p.length p.length) (.obj v (.arr p.length 2 (p.map ed)) :: Hr) := by
  unfold EndIs
  simp -dsimp (disch := first | assumption | omega) only [↓vmPre, vmPost, vmWrd, vmDat, eq_self, forall_const, Nat.reduceLT, Nat.reduceEqDiff, Nat.reduceSub, Nat.reduceMul, Nat.reduceMod, Nat.reduceDiv, Nat.reducePow, UInt8.reduceToNat, Int.reduceEq, Int.reduceLT, Int.reduceLE, ↓reduceIte, Nat.reduceEqDiff, Nat.reduceAdd, Int.reduceToNat, reduceCtorEq, Nat.reduceLeDiff, take_ed, scal_eds]
theorem endIs1 {p : List (Nat × List UInt8)} {v : Nat} {o : Ob} {Hr : List Ob} : EndIs p (.os 2 1 v [] 0 p.length p.length) (o :: .obj v (.arr p.length 2 (p.map ed)) :: Hr) := by
  unfold EndIs
  simp -dsimp (disch := first | assumption | omega) only [↓vmPre, vmPost, vmWrd, vmDat, eq_self, forall_const, Nat.reduceLT, Nat.reduceEqDiff, Nat.reduceSub, Nat.reduceMul, Nat.reduceMod, Nat.reduceDiv, Nat.reducePow, UInt8.reduceToNat, Int.reduceEq, Int.reduceLT, Int.reduceLE, ↓reduceIte, Nat.reduceEqDiff, Nat.reduceAdd, Int.reduceToNat, reduceCtorEq, Nat.reduceLeDiff, take_ed, scal_eds]
theorem refLong {tot : List (Nat × List UInt8)} {x y : List (List UInt8)} (hx : x.length ≤ 4000) (hy : y.length ≤ 4000) (ht : tot = edl x y) (q : TV) :
    vwp Tryd.prog c_ref10_Edits_b9 (Thn Tryd.prog c_ref10_Edits_k34 (atEnd r_ref10_Edits (EndIs tot))) [(5, slS x), (6, slS y), (7, .val (.slice none 0 0)), (8, i64 ((0 : Nat) : Int)), (9, i64 ((0 : Nat) : Int)), (28, q)] [] := by
  simp -dsimp (disch := first | assumption | omega) only [↓vmPre, vmPost, vmWrd, vmDat, eq_self, forall_const, Nat.reduceLT, Nat.reduceEqDiff, Nat.reduceSub, Nat.reduceMul, Nat.reduceMod, Nat.reduceDiv, Nat.reducePow, UInt8.reduceToNat, Int.reduceEq, Int.reduceLT, Int.reduceLE, ↓reduceIte, Nat.reduceEqDiff, Nat.reduceAdd, Int.reduceToNat, reduceCtorEq, Nat.reduceLeDiff, ↓u_ref10_Edits]
  refine w_loop (fun m e H => ∃ (k v : Nat) (p : List (Nat × List UInt8)), m = x.length - k ∧ p.length = k ∧ k ≤ x.length ∧ k ≤ y.length ∧ tot = p ++ edl (x.drop k) (y.drop k) ∧ e = [(5, slS x), (6, slS y), (7, .os 2 0 v [] 0 p.length p.length), (8, i64 (k : Int))] ∧ H = [.obj v (.arr p.length 2 (p.map ed))]) x.length ?_ ?_
  · exact ⟨0, 0, [], by simp, rfl, by simp, by simp, ht, rfl, rfl⟩
  · rintro m e H ⟨k, v, p, rfl, hpk, hkx, hky, htot, rfl, rfl⟩
    have rest : edl (x.drop k) (y.drop k) = (x.drop k).map (fun l => (1, l)) ++ (y.drop k).map (fun l => (2, l)) → ∀ q, vwp Tryd.prog c_ref10_Edits_k8 (Thn Tryd.prog c_ref10_Edits_k34 (atEnd r_ref10_Edits (EndIs tot))) [(5, slS x), (6, slS y), (7, .os 2 0 v [] 0 p.length p.length), (8, i64 (k : Int)), (49, q)] [.obj v (.arr p.length 2 (p.map ed))] := by
      intro he q
      rw [he] at htot
      simp -dsimp (disch := first | assumption | omega) only [↓vmPre, vmPost, vmWrd, vmDat, eq_self, forall_const, Nat.reduceLT, Nat.reduceEqDiff, Nat.reduceSub, Nat.reduceMul, Nat.reduceMod, Nat.reduceDiv, Nat.reducePow, UInt8.reduceToNat, Int.reduceEq, Int.reduceLT, Int.reduceLE, ↓reduceIte, Nat.reduceEqDiff, Nat.reduceAdd, Int.reduceToNat, reduceCtorEq, Nat.reduceLeDiff, ↓u_ref10_Edits]
      refine w_loop (fun m e H => ∃ (i v : Nat) (p : List (Nat × List UInt8)), m = x.length - i ∧ i ≤ x.length ∧ p.length ≤ i ∧ tot = p ++ ((x.drop i).map (fun l => (1, l)) ++ (y.drop k).map (fun l => (2, l))) ∧ e = [(5, slS x), (6, slS y), (7, .os 2 0 v [] 0 p.length p.length), (8, i64 (k : Int)), (10, i64 (i : Int))] ∧ H = [.obj v (.arr p.length 2 (p.map ed))]) (x.length - k) ?_ ?_
      · exact ⟨k, v, p, rfl, hkx, by omega, htot, rfl, rfl⟩
      · clear htot hpk
        rintro m e H ⟨i, v, p, rfl, hi, hpi, htot, rfl, rfl⟩
        by_cases hix : i < x.length
        · have hxi : x[i]? = some x[i] := List.getElem?_eq_getElem hix
          simp -dsimp (disch := first | assumption | omega) only [↓vmPre, vmPost, vmWrd, vmDat, eq_self, forall_const, Nat.reduceLT, Nat.reduceEqDiff, Nat.reduceSub, Nat.reduceMul, Nat.reduceMod, Nat.reduceDiv, Nat.reducePow, UInt8.reduceToNat, Int.reduceEq, Int.reduceLT, Int.reduceLE, ↓reduceIte, Nat.reduceEqDiff, Nat.reduceAdd, Int.reduceToNat, reduceCtorEq, Nat.reduceLeDiff, ↓u_ref10_Edits, hxi, one_set, take_one', take_ed, map_ed_app]
          exact Rnd_cut (x.length - (i + 1)) 1 (by omega) (by omega) rfl rfl ⟨i + 1, v + 1, p ++ [(1, x[i])], rfl, by omega, by simp; omega, by rw [htot, List.drop_eq_getElem_cons hix, List.map_cons, List.append_assoc]; rfl, by simp <;> rfl, by simp⟩
        · simp -dsimp (disch := first | assumption | omega) only [↓vmPre, vmPost, vmWrd, vmDat, eq_self, forall_const, Nat.reduceLT, Nat.reduceEqDiff, Nat.reduceSub, Nat.reduceMul, Nat.reduceMod, Nat.reduceDiv, Nat.reducePow, UInt8.reduceToNat, Int.reduceEq, Int.reduceLT, Int.reduceLE, ↓reduceIte, Nat.reduceEqDiff, Nat.reduceAdd, Int.reduceToNat, reduceCtorEq, Nat.reduceLeDiff, ↓u_ref10_Edits]
          rw [List.drop_eq_nil_of_le (by omega), List.map_nil, List.nil_append] at htot
          refine w_loop (fun m e H => ∃ (i v : Nat) (p : List (Nat × List UInt8)), m = y.length - i ∧ i ≤ y.length ∧ p.length ≤ 4000 + i ∧ tot = p ++ (y.drop i).map (fun l => (2, l)) ∧ e = [(6, slS y), (7, .os 2 0 v [] 0 p.length p.length), (11, i64 (i : Int))] ∧ H = [.obj v (.arr p.length 2 (p.map ed))]) (y.length - k) ?_ ?_
          · exact ⟨k, v, p, rfl, hky, by omega, htot, rfl, rfl⟩
          · clear htot hpi
            rintro m e H ⟨i, v, p, rfl, hi, hpi, htot, rfl, rfl⟩
            by_cases hiy : i < y.length
            · have hyi : y[i]? = some y[i] := List.getElem?_eq_getElem hiy
              simp -dsimp (disch := first | assumption | omega) only [↓vmPre, vmPost, vmWrd, vmDat, eq_self, forall_const, Nat.reduceLT, Nat.reduceEqDiff, Nat.reduceSub, Nat.reduceMul, Nat.reduceMod, Nat.reduceDiv, Nat.reducePow, UInt8.reduceToNat, Int.reduceEq, Int.reduceLT, Int.reduceLE, ↓reduceIte, Nat.reduceEqDiff, Nat.reduceAdd, Int.reduceToNat, reduceCtorEq, Nat.reduceLeDiff, ↓u_ref10_Edits, hyi, one_set, take_one', take_ed, map_ed_app]
              exact Rnd_cut (y.length - (i + 1)) 1 (by omega) (by omega) rfl rfl ⟨i + 1, v + 1, p ++ [(2, y[i])], rfl, by omega, by simp; omega, by rw [htot, List.drop_eq_getElem_cons hiy, List.map_cons, List.append_assoc]; rfl, by simp <;> rfl, by simp⟩
            · rw [List.drop_eq_nil_of_le (by omega), List.map_nil, List.append_nil] at htot
              subst htot
              simp -dsimp (disch := first | assumption | omega) only [↓vmPre, vmPost, vmWrd, vmDat, eq_self, forall_const, Nat.reduceLT, Nat.reduceEqDiff, Nat.reduceSub, Nat.reduceMul, Nat.reduceMod, Nat.reduceDiv, Nat.reducePow, UInt8.reduceToNat, Int.reduceEq, Int.reduceLT, Int.reduceLE, ↓reduceIte, Nat.reduceEqDiff, Nat.reduceAdd, Int.reduceToNat, reduceCtorEq, Nat.reduceLeDiff, ↓u_ref10_Edits]
              exact endIs0
    by_cases hix : k < x.length
    · have hxi : x[k]? = some x[k] := List.getElem?_eq_getElem hix
      by_cases hiy : k < y.length
      · have hyi : y[k]? = some y[k] := List.getElem?_eq_getElem hiy
        simp -dsimp (disch := first | assumption | omega) only [↓vmPre, vmPost, vmWrd, vmDat, eq_self, forall_const, Nat.reduceLT, Nat.reduceEqDiff, Nat.reduceSub, Nat.reduceMul, Nat.reduceMod, Nat.reduceDiv, Nat.reducePow, UInt8.reduceToNat, Int.reduceEq, Int.reduceLT, Int.reduceLE, ↓reduceIte, Nat.reduceEqDiff, Nat.reduceAdd, Int.reduceToNat, reduceCtorEq, Nat.reduceLeDiff, ↓u_ref10_Edits_L1_e, hxi, hyi]
        refine vif_cases (fun he => ?_) (fun he => ?_)
        · simp -dsimp (disch := first | assumption | omega) only [↓vmPre, vmPost, vmWrd, vmDat, eq_self, forall_const, Nat.reduceLT, Nat.reduceEqDiff, Nat.reduceSub, Nat.reduceMul, Nat.reduceMod, Nat.reduceDiv, Nat.reducePow, UInt8.reduceToNat, Int.reduceEq, Int.reduceLT, Int.reduceLE, ↓reduceIte, Nat.reduceEqDiff, Nat.reduceAdd, Int.reduceToNat, reduceCtorEq, Nat.reduceLeDiff, ↓u_ref10_Edits_L1_e, hxi, hyi, one_set, take_one', take_ed, map_ed_app]
          exact Rnd_cut (x.length - (k + 1)) 1 (by omega) (by omega) rfl rfl ⟨k + 1, v + 1, p ++ [(0, x[k])], rfl, by simp; omega, by omega, by omega, by rw [htot, edl_keep hix hiy he, List.append_assoc]; rfl, by simp <;> rfl, by simp⟩
        · simp -dsimp (disch := first | assumption | omega) only [↓vmPre, vmPost, vmWrd, vmDat, eq_self, forall_const, Nat.reduceLT, Nat.reduceEqDiff, Nat.reduceSub, Nat.reduceMul, Nat.reduceMod, Nat.reduceDiv, Nat.reducePow, UInt8.reduceToNat, Int.reduceEq, Int.reduceLT, Int.reduceLE, ↓reduceIte, Nat.reduceEqDiff, Nat.reduceAdd, Int.reduceToNat, reduceCtorEq, Nat.reduceLeDiff, ↓u_ref10_Edits_L1_e, hxi, hyi]
          exact rest (edl_end (by rw [List.drop_eq_getElem_cons hix, List.drop_eq_getElem_cons hiy]; rintro a ha b hb; cases ha; cases hb; exact he)) _
      · simp -dsimp (disch := first | assumption | omega) only [↓vmPre, vmPost, vmWrd, vmDat, eq_self, forall_const, Nat.reduceLT, Nat.reduceEqDiff, Nat.reduceSub, Nat.reduceMul, Nat.reduceMod, Nat.reduceDiv, Nat.reducePow, UInt8.reduceToNat, Int.reduceEq, Int.reduceLT, Int.reduceLE, ↓reduceIte, Nat.reduceEqDiff, Nat.reduceAdd, Int.reduceToNat, reduceCtorEq, Nat.reduceLeDiff, ↓u_ref10_Edits_L1_e, hxi]
        exact rest (edl_end (by have hn : y.drop k = [] := List.drop_eq_nil_of_le (by omega); rw [hn]; simp)) _
    · simp -dsimp (disch := first | assumption | omega) only [↓vmPre, vmPost, vmWrd, vmDat, eq_self, forall_const, Nat.reduceLT, Nat.reduceEqDiff, Nat.reduceSub, Nat.reduceMul, Nat.reduceMod, Nat.reduceDiv, Nat.reducePow, UInt8.reduceToNat, Int.reduceEq, Int.reduceLT, Int.reduceLE, ↓reduceIte, Nat.reduceEqDiff, Nat.reduceAdd, Int.reduceToNat, reduceCtorEq, Nat.reduceLeDiff, ↓u_ref10_Edits_L1_e]
      exact rest (edl_end (by have hn : x.drop k = [] := List.drop_eq_nil_of_le (by omega); rw [hn]; simp)) _
end Go.Proofs.YtijidndhlgbjhaaDoor
