/- The reference's Similarity; the statement DiffSimilar. -/
import Derived.Test.YtknphdcjopaaoaaVlSim
import Derived.Test.YtknphdcjopaaoaaVlRef
namespace Go.Proofs.Ytknphdcjopaaoaa
open Go.RowKit
set_option linter.unusedVariables false
set_option linter.unusedSimpArgs false

def flg (b : Bool) : TV := tb b
theorem flg_is {b : Bool} : flg b = tb b := by unfold flg; rfl
theorem width_flg {b : Bool} : width (flg b) = 1 := by rw [flg_is]; rfl
theorem rep_flg {n : Nat} : List.replicate n (TV.val (.bool false)) = (List.replicate n false).map flg := by rw [List.map_replicate, flg_is]
theorem map_flg_set {l : List Bool} {k : Nat} {v : Bool} : (l.map flg).set k (TV.val (.bool v)) = (l.set k v).map flg := by rw [List.map_set, flg_is]
theorem refSimilar {a b : List UInt8} (ha : a.length ≤ 4000) (hb : b.length ≤ 4000) : VPure Try.prog 17 [slB a, slB b] (fun x => x = i64 (sim a b : Nat)) := by
  have la := linesOf_length a
  have lb := linesOf_length b
  have hcom := com_bytes a b
  have hcc : com (linesOf b) (linesOf a) = com (linesOf a) (linesOf b) := com_comm _ _
  refine VCalls.toPureV (go_ref10_Similarity (by simp) ?_)
  simp -dsimp (disch := first | assumption | omega) only [↓vmPre, vmPost, vmWrd, vmDat, eq_self, forall_const, Nat.reduceLT, Nat.reduceEqDiff, Nat.reduceSub, Nat.reduceMul, Nat.reduceMod, Nat.reduceDiv, Nat.reducePow, UInt8.reduceToNat, Int.reduceEq, Int.reduceLT, Int.reduceLE, ↓reduceIte, Nat.reduceEqDiff, Nat.reduceAdd, Int.reduceToNat, reduceCtorEq, Nat.reduceLeDiff, ↓u_ref10_Similarity]
  refine vif_cases (fun h => ?_) (fun h => ?_)
  · simp -dsimp (disch := first | assumption | omega) only [↓vmPre, vmPost, vmWrd, vmDat, eq_self, forall_const, Nat.reduceLT, Nat.reduceEqDiff, Nat.reduceSub, Nat.reduceMul, Nat.reduceMod, Nat.reduceDiv, Nat.reducePow, UInt8.reduceToNat, Int.reduceEq, Int.reduceLT, Int.reduceLE, ↓reduceIte, Nat.reduceEqDiff, Nat.reduceAdd, Int.reduceToNat, reduceCtorEq, Nat.reduceLeDiff, ↓u_ref10_Similarity]
    unfold sim; rw [if_pos h]
  · simp -dsimp (disch := first | assumption | omega) only [↓vmPre, vmPost, vmWrd, vmDat, eq_self, forall_const, Nat.reduceLT, Nat.reduceEqDiff, Nat.reduceSub, Nat.reduceMul, Nat.reduceMod, Nat.reduceDiv, Nat.reducePow, UInt8.reduceToNat, Int.reduceEq, Int.reduceLT, Int.reduceLE, ↓reduceIte, Nat.reduceEqDiff, Nat.reduceAdd, Int.reduceToNat, reduceCtorEq, Nat.reduceLeDiff, ↓u_ref10_Similarity]
    refine (refLines a ha).calls rfl ?_
    rintro x rfl
    simp -dsimp (disch := first | assumption | omega) only [↓vmPre, vmPost, vmWrd, vmDat, eq_self, forall_const, Nat.reduceLT, Nat.reduceEqDiff, Nat.reduceSub, Nat.reduceMul, Nat.reduceMod, Nat.reduceDiv, Nat.reducePow, UInt8.reduceToNat, Int.reduceEq, Int.reduceLT, Int.reduceLE, ↓reduceIte, Nat.reduceEqDiff, Nat.reduceAdd, Int.reduceToNat, reduceCtorEq, Nat.reduceLeDiff, ↓u_ref10_Similarity]
    refine (refLines b hb).calls rfl ?_
    rintro x rfl
    simp -dsimp (disch := first | assumption | omega) only [↓vmPre, vmPost, vmWrd, vmDat, eq_self, forall_const, Nat.reduceLT, Nat.reduceEqDiff, Nat.reduceSub, Nat.reduceMul, Nat.reduceMod, Nat.reduceDiv, Nat.reducePow, UInt8.reduceToNat, Int.reduceEq, Int.reduceLT, Int.reduceLE, ↓reduceIte, Nat.reduceEqDiff, Nat.reduceAdd, Int.reduceToNat, reduceCtorEq, Nat.reduceLeDiff, ↓u_ref10_Similarity, rep_flg]
    refine w_loop (fun m e H => ∃ (i n : Nat) (us : List Bool), m = (linesOf a).length - i ∧ i ≤ (linesOf a).length ∧ us.length = (linesOf b).length ∧ n + com (rem (linesOf b) us) ((linesOf a).drop i) = com (linesOf a) (linesOf b) ∧ e = [(0, slB a), (1, slB b), (5, slS (linesOf a)), (6, slS (linesOf b)), (7, .os 1 0 0 [] 0 (linesOf b).length (linesOf b).length), (8, i64 (n : Int)), (9, i64 (i : Int))] ∧ H = [.obj 0 (.arr (linesOf b).length 1 (us.map flg))]) (linesOf a).length ?_ ?_
    · exact ⟨0, 0, _, by simp, by simp, by simp, by rw [rem_none]; simpa using hcc, rfl, rfl⟩
    · rintro m e H ⟨i, n, us, rfl, hi, hu, hn, rfl, rfl⟩
      by_cases hil : i < (linesOf a).length
      · have hg : (linesOf a)[i]? = some (linesOf a)[i] := List.getElem?_eq_getElem hil
        rw [List.drop_eq_getElem_cons hil, com] at hn
        generalize (linesOf a)[i] = l at hg hn
        simp -dsimp (disch := first | assumption | omega) only [↓vmPre, vmPost, vmWrd, vmDat, eq_self, forall_const, Nat.reduceLT, Nat.reduceEqDiff, Nat.reduceSub, Nat.reduceMul, Nat.reduceMod, Nat.reduceDiv, Nat.reducePow, UInt8.reduceToNat, Int.reduceEq, Int.reduceLT, Int.reduceLE, ↓reduceIte, Nat.reduceEqDiff, Nat.reduceAdd, Int.reduceToNat, reduceCtorEq, Nat.reduceLeDiff, ↓u_ref10_Similarity]
        refine w_loop (fun m e H => ∃ k : Nat, m = (linesOf b).length - k ∧ k ≤ (linesOf b).length ∧ (∀ k', k' < k → ¬ (us[k']? = some false ∧ (linesOf b)[k']? = some l)) ∧ e = [(0, slB a), (1, slB b), (5, slS (linesOf a)), (6, slS (linesOf b)), (7, .os 1 0 0 [] 0 (linesOf b).length (linesOf b).length), (8, i64 (n : Int)), (9, i64 (i : Int)), (10, i64 (k : Int))] ∧ H = [.obj 0 (.arr (linesOf b).length 1 (us.map flg))]) (linesOf b).length ?_ ?_
        · exact ⟨0, by simp, by simp, fun k' h => by omega, rfl, rfl⟩
        · rintro m e H ⟨k, rfl, hk, hno, rfl, rfl⟩
          by_cases hkb : k < (linesOf b).length
          · have hy : (linesOf b)[k]? = some (linesOf b)[k] := List.getElem?_eq_getElem hkb
            have hus : us[k]? = some (us[k]'(by omega)) := List.getElem?_eq_getElem (by omega)
            generalize (us[k]'(by omega)) = uk at hus
            generalize (linesOf b)[k] = yk at hy
            have next : ¬ (uk = false ∧ yk = l) → Rnd 1 [0, 1, 5, 6, 7, 8, 9, 10] (Blk 2 (Blk 1 (Thn Try.prog c_ref10_Similarity_k5 (Rnd 1 [0, 1, 5, 6, 7, 8, 9] (Blk 0 (Thn Try.prog c_ref10_Similarity_k9 (atEnd r_ref10_Similarity fun x H' => vget (frzG H' (frzD H' 2) x) fun x => x = i64 (sim a b : Nat)))) (fun m e H => ∃ (i n : Nat) (us : List Bool), m = (linesOf a).length - i ∧ i ≤ (linesOf a).length ∧ us.length = (linesOf b).length ∧ n + com (rem (linesOf b) us) ((linesOf a).drop i) = com (linesOf a) (linesOf b) ∧ e = [(0, slB a), (1, slB b), (5, slS (linesOf a)), (6, slS (linesOf b)), (7, .os 1 0 0 [] 0 (linesOf b).length (linesOf b).length), (8, i64 (n : Int)), (9, i64 (i : Int))] ∧ H = [.obj 0 (.arr (linesOf b).length 1 (us.map flg))]) ((linesOf a).length - i))))) (fun m e H => ∃ k : Nat, m = (linesOf b).length - k ∧ k ≤ (linesOf b).length ∧ (∀ k', k' < k → ¬ (us[k']? = some false ∧ (linesOf b)[k']? = some l)) ∧ e = [(0, slB a), (1, slB b), (5, slS (linesOf a)), (6, slS (linesOf b)), (7, .os 1 0 0 [] 0 (linesOf b).length (linesOf b).length), (8, i64 (n : Int)), (9, i64 (i : Int)), (10, i64 (k : Int))] ∧ H = [.obj 0 (.arr (linesOf b).length 1 (us.map flg))]) ((linesOf b).length - k) .nor [(0, slB a), (1, slB b), (5, slS (linesOf a)), (6, slS (linesOf b)), (7, .os 1 0 0 [] 0 (linesOf b).length (linesOf b).length), (8, i64 (n : Int)), (9, i64 (i : Int)), (10, i64 ((k + 1 : Nat) : Int))] [.obj 0 (.arr (linesOf b).length 1 (us.map flg))] := by
              intro hne
              refine Rnd_keep ((linesOf b).length - (k + 1)) (by omega) (by simp) ⟨k + 1, rfl, by omega, fun k' hk' => ?_, rfl, rfl⟩
              by_cases hkk : k' = k
              · subst hkk; rw [hus, hy]; simpa using hne
              · exact hno k' (by omega)
            cases uk with
            | true =>
              simp -dsimp (disch := first | assumption | omega) only [↓vmPre, vmPost, vmWrd, vmDat, eq_self, forall_const, Nat.reduceLT, Nat.reduceEqDiff, Nat.reduceSub, Nat.reduceMul, Nat.reduceMod, Nat.reduceDiv, Nat.reducePow, UInt8.reduceToNat, Int.reduceEq, Int.reduceLT, Int.reduceLE, ↓reduceIte, Nat.reduceEqDiff, Nat.reduceAdd, Int.reduceToNat, reduceCtorEq, Nat.reduceLeDiff, ↓u_ref10_Similarity, hg, hy, hus, flg_is]
              exact next (by simp)
            | false =>
              simp -dsimp (disch := first | assumption | omega) only [↓vmPre, vmPost, vmWrd, vmDat, eq_self, forall_const, Nat.reduceLT, Nat.reduceEqDiff, Nat.reduceSub, Nat.reduceMul, Nat.reduceMod, Nat.reduceDiv, Nat.reducePow, UInt8.reduceToNat, Int.reduceEq, Int.reduceLT, Int.reduceLE, ↓reduceIte, Nat.reduceEqDiff, Nat.reduceAdd, Int.reduceToNat, reduceCtorEq, Nat.reduceLeDiff, ↓u_ref10_Similarity, hg, hy, hus, flg_is]
              refine vif_cases (fun he => ?_) (fun he => ?_)
              · subst he
                obtain ⟨g1, g2⟩ := rem_hit (l := yk) hno hus hy
                rw [if_pos g1, ← g2] at hn
                simp -dsimp (disch := first | assumption | omega) only [↓vmPre, vmPost, vmWrd, vmDat, eq_self, forall_const, Nat.reduceLT, Nat.reduceEqDiff, Nat.reduceSub, Nat.reduceMul, Nat.reduceMod, Nat.reduceDiv, Nat.reducePow, UInt8.reduceToNat, Int.reduceEq, Int.reduceLT, Int.reduceLE, ↓reduceIte, Nat.reduceEqDiff, Nat.reduceAdd, Int.reduceToNat, reduceCtorEq, Nat.reduceLeDiff, ↓u_ref10_Similarity, hg, hy, hus, flg_is, width_flg, map_flg_set, bl_str']
                exact Rnd_keep ((linesOf a).length - (i + 1)) (by omega) (by simp) ⟨i + 1, n + yk.length, us.set k true, rfl, by omega, by simp [hu], by omega, rfl, rfl⟩
              · simp -dsimp (disch := first | assumption | omega) only [↓vmPre, vmPost, vmWrd, vmDat, eq_self, forall_const, Nat.reduceLT, Nat.reduceEqDiff, Nat.reduceSub, Nat.reduceMul, Nat.reduceMod, Nat.reduceDiv, Nat.reducePow, UInt8.reduceToNat, Int.reduceEq, Int.reduceLT, Int.reduceLE, ↓reduceIte, Nat.reduceEqDiff, Nat.reduceAdd, Int.reduceToNat, reduceCtorEq, Nat.reduceLeDiff, ↓u_ref10_Similarity, hg, hy, hus, flg_is]
                exact next (by simpa using he)
          · have hm : l ∉ rem (linesOf b) us := rem_miss fun k' hkk => by
              by_cases h9 : k' < k
              · exact hno k' h9 hkk
              · have := (List.getElem?_eq_some_iff.1 hkk.2).1; omega
            rw [if_neg hm] at hn
            simp -dsimp (disch := first | assumption | omega) only [↓vmPre, vmPost, vmWrd, vmDat, eq_self, forall_const, Nat.reduceLT, Nat.reduceEqDiff, Nat.reduceSub, Nat.reduceMul, Nat.reduceMod, Nat.reduceDiv, Nat.reducePow, UInt8.reduceToNat, Int.reduceEq, Int.reduceLT, Int.reduceLE, ↓reduceIte, Nat.reduceEqDiff, Nat.reduceAdd, Int.reduceToNat, reduceCtorEq, Nat.reduceLeDiff, ↓u_ref10_Similarity]
            exact Rnd_keep ((linesOf a).length - (i + 1)) (by omega) (by simp) ⟨i + 1, n, us, rfl, by omega, hu, hn, rfl, rfl⟩
      · rw [List.drop_eq_nil_of_le (by omega), com, Nat.add_zero] at hn
        have hne : a.length + b.length ≠ 0 := fun e => h (by
          have h1 := List.length_eq_zero_iff.1 (show a.length = 0 by omega)
          have h2 := List.length_eq_zero_iff.1 (show b.length = 0 by omega)
          rw [h1, h2])
        subst hn
        simp -dsimp (disch := first | assumption | omega) only [↓vmPre, vmPost, vmWrd, vmDat, eq_self, forall_const, Nat.reduceLT, Nat.reduceEqDiff, Nat.reduceSub, Nat.reduceMul, Nat.reduceMod, Nat.reduceDiv, Nat.reducePow, UInt8.reduceToNat, Int.reduceEq, Int.reduceLT, Int.reduceLE, ↓reduceIte, Nat.reduceEqDiff, Nat.reduceAdd, Int.reduceToNat, reduceCtorEq, Nat.reduceLeDiff, ↓u_ref10_Similarity]
        unfold sim; rw [if_neg h]
theorem lawSimilar (a b : List UInt8) (ha : a.length ≤ 140737488351232) (hb : b.length ≤ 140737488351232) : VPure Try.prog 4 [slB a, slB b] (fun x => x = tb true) := by
  refine VCalls.toPureV (go_law10_DiffSimilar (by simp) ?_)
  simp -dsimp (disch := first | assumption | omega) only [↓vmPre, vmPost, vmWrd, vmDat, eq_self, forall_const, Nat.reduceLT, Nat.reduceEqDiff, Nat.reduceSub, Nat.reduceMul, Nat.reduceMod, Nat.reduceDiv, Nat.reducePow, UInt8.reduceToNat, Int.reduceEq, Int.reduceLT, Int.reduceLE, ↓reduceIte, Nat.reduceEqDiff, Nat.reduceAdd, Int.reduceToNat, reduceCtorEq, Nat.reduceLeDiff, ↓u_law10_DiffSimilar]
  by_cases h1 : 4000 < a.length
  · simp -dsimp (disch := first | assumption | omega) only [↓vmPre, vmPost, vmWrd, vmDat, eq_self, forall_const, Nat.reduceLT, Nat.reduceEqDiff, Nat.reduceSub, Nat.reduceMul, Nat.reduceMod, Nat.reduceDiv, Nat.reducePow, UInt8.reduceToNat, Int.reduceEq, Int.reduceLT, Int.reduceLE, ↓reduceIte, Nat.reduceEqDiff, Nat.reduceAdd, Int.reduceToNat, reduceCtorEq, Nat.reduceLeDiff, ↓u_law10_DiffSimilar]
  by_cases h2 : 4000 < b.length
  · simp -dsimp (disch := first | assumption | omega) only [↓vmPre, vmPost, vmWrd, vmDat, eq_self, forall_const, Nat.reduceLT, Nat.reduceEqDiff, Nat.reduceSub, Nat.reduceMul, Nat.reduceMod, Nat.reduceDiv, Nat.reducePow, UInt8.reduceToNat, Int.reduceEq, Int.reduceLT, Int.reduceLE, ↓reduceIte, Nat.reduceEqDiff, Nat.reduceAdd, Int.reduceToNat, reduceCtorEq, Nat.reduceLeDiff, ↓u_law10_DiffSimilar]
  have hs := sim_comm b a
  have haa : sim a a = 100 := by unfold sim; rw [if_pos rfl]
  simp -dsimp (disch := first | assumption | omega) only [↓vmPre, vmPost, vmWrd, vmDat, eq_self, forall_const, Nat.reduceLT, Nat.reduceEqDiff, Nat.reduceSub, Nat.reduceMul, Nat.reduceMod, Nat.reduceDiv, Nat.reducePow, UInt8.reduceToNat, Int.reduceEq, Int.reduceLT, Int.reduceLE, ↓reduceIte, Nat.reduceEqDiff, Nat.reduceAdd, Int.reduceToNat, reduceCtorEq, Nat.reduceLeDiff, ↓u_law10_DiffSimilar]
  refine (similar (a := a) (b := b) (by omega) (by omega)).calls rfl ?_
  rintro x rfl
  simp -dsimp (disch := first | assumption | omega) only [↓vmPre, vmPost, vmWrd, vmDat, eq_self, forall_const, Nat.reduceLT, Nat.reduceEqDiff, Nat.reduceSub, Nat.reduceMul, Nat.reduceMod, Nat.reduceDiv, Nat.reducePow, UInt8.reduceToNat, Int.reduceEq, Int.reduceLT, Int.reduceLE, ↓reduceIte, Nat.reduceEqDiff, Nat.reduceAdd, Int.reduceToNat, reduceCtorEq, Nat.reduceLeDiff, ↓u_law10_DiffSimilar]
  refine (refSimilar (a := a) (b := b) (by omega) (by omega)).calls rfl ?_
  rintro x rfl
  simp -dsimp (disch := first | assumption | omega) only [↓vmPre, vmPost, vmWrd, vmDat, eq_self, forall_const, Nat.reduceLT, Nat.reduceEqDiff, Nat.reduceSub, Nat.reduceMul, Nat.reduceMod, Nat.reduceDiv, Nat.reducePow, UInt8.reduceToNat, Int.reduceEq, Int.reduceLT, Int.reduceLE, ↓reduceIte, Nat.reduceEqDiff, Nat.reduceAdd, Int.reduceToNat, reduceCtorEq, Nat.reduceLeDiff, ↓u_law10_DiffSimilar]
  refine (similar (a := b) (b := a) (by omega) (by omega)).calls rfl ?_
  rintro x rfl
  simp -dsimp (disch := first | assumption | omega) only [↓vmPre, vmPost, vmWrd, vmDat, eq_self, forall_const, Nat.reduceLT, Nat.reduceEqDiff, Nat.reduceSub, Nat.reduceMul, Nat.reduceMod, Nat.reduceDiv, Nat.reducePow, UInt8.reduceToNat, Int.reduceEq, Int.reduceLT, Int.reduceLE, ↓reduceIte, Nat.reduceEqDiff, Nat.reduceAdd, Int.reduceToNat, reduceCtorEq, Nat.reduceLeDiff, ↓u_law10_DiffSimilar]
  refine (similar (a := a) (b := a) (by omega) (by omega)).calls rfl ?_
  rintro x rfl
  rw [hs, haa]
  simp -dsimp (disch := first | assumption | omega) only [↓vmPre, vmPost, vmWrd, vmDat, eq_self, forall_const, Nat.reduceLT, Nat.reduceEqDiff, Nat.reduceSub, Nat.reduceMul, Nat.reduceMod, Nat.reduceDiv, Nat.reducePow, UInt8.reduceToNat, Int.reduceEq, Int.reduceLT, Int.reduceLE, ↓reduceIte, Nat.reduceEqDiff, Nat.reduceAdd, Int.reduceToNat, reduceCtorEq, Nat.reduceLeDiff, ↓u_law10_DiffSimilar]
end Go.Proofs.Ytknphdcjopaaoaa
