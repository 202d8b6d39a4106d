/- diff.Similarity. -/
import Derived.Test.YtknphdcjopaaoaaCodeS
import Derived.Test.YtknphdcjopaaoaaVlLines
import Derived.Test.YtknphdcjopaaoaaVlSimPlain
namespace Go.Proofs.Ytknphdcjopaaoaa
open Go.RowKit
set_option linter.unusedVariables false
set_option linter.unusedSimpArgs false

theorem bytesEqual (a b : List UInt8) : VPure Try.prog 31 [slB a, slB b] (fun x => x = tb (decide (a = b))) := by
  refine VCalls.toPureV (go_bytes_Equal (by simp) ?_)
  simp -dsimp (disch := first | assumption | omega) only [↓vmPre, vmPost, vmWrd, vmDat, eq_self, forall_const, Nat.reduceLT, Nat.reduceEqDiff, Nat.reduceSub, Nat.reduceMul, Nat.reduceMod, Nat.reduceDiv, Nat.reducePow, UInt8.reduceToNat, Int.reduceEq, Int.reduceLT, Int.reduceLE, ↓reduceIte, Nat.reduceEqDiff, Nat.reduceAdd, Int.reduceToNat, reduceCtorEq, Nat.reduceLeDiff, ↓u_bytes_Equal]
theorem bl_str' {l : List UInt8} : bl (str l) = l := by simp [bl, str]
theorem mget_mput {k l : List UInt8} {x : TV} : ∀ {es : List (List UInt8 × TV)}, mget k (mput l x es) = if l = k then some x else mget k es
  | [] => by simp [mput, mget]
  | (q, y) :: es => by
    rw [mput]
    by_cases hq : q = l
    · subst hq
      rw [if_pos rfl, mget, mget]
      by_cases h : q = k <;> simp [h]
    · rw [if_neg hq, mget, mget, mget_mput]
      by_cases h : q = k
      · subst h; rw [if_pos rfl, if_neg (fun e => hq e.symm), if_pos rfl]
      · rw [if_neg h, if_neg h]
/-- The map counts these. -/
def Cnt (es : List (List UInt8 × TV)) (m : List (List UInt8)) : Prop := ∀ l, (mget l es).getD (i64 ((0 : Nat) : Int)) = i64 ((m.count l : Nat) : Int)
theorem Cnt.add {es : List (List UInt8 × TV)} {m : List (List UInt8)} (h : Cnt es m) (l : List UInt8) : Cnt (mput l (i64 ((m.count l + 1 : Nat) : Int)) es) (m ++ [l]) := by
  intro k
  rw [mget_mput]
  by_cases hk : l = k
  · subst hk; simp
  · rw [if_neg hk, h k]; simp [hk]
theorem Cnt.sub {es : List (List UInt8 × TV)} {m : List (List UInt8)} (h : Cnt es m) (l : List UInt8) : Cnt (mput l (i64 ((m.count l - 1 : Nat) : Int)) es) (m.erase l) := by
  intro k
  rw [mget_mput]
  by_cases hk : l = k
  · subst hk; simp
  · rw [if_neg hk, h k, List.count_erase_of_ne (fun e => hk e.symm)]
theorem similar {a b : List UInt8} (ha : a.length ≤ 4000) (hb : b.length ≤ 4000) : VPure Try.prog 16 [slB a, slB b] (fun x => x = i64 (sim a b : Nat)) := by
  have la := linesOf_length a
  have lb := linesOf_length b
  have hcom := com_bytes a b
  refine VCalls.toPureV (go_diff_Similarity (by simp) ?_)
  simp -dsimp (disch := first | assumption | omega) only [↓vmPre, vmPost, vmWrd, vmDat, eq_self, forall_const, Nat.reduceLT, Nat.reduceEqDiff, Nat.reduceSub, Nat.reduceMul, Nat.reduceMod, Nat.reduceDiv, Nat.reducePow, UInt8.reduceToNat, Int.reduceEq, Int.reduceLT, Int.reduceLE, ↓reduceIte, Nat.reduceEqDiff, Nat.reduceAdd, Int.reduceToNat, reduceCtorEq, Nat.reduceLeDiff, ↓u_diff_Similarity]
  refine (bytesEqual a b).calls rfl ?_
  rintro x rfl
  simp -dsimp (disch := first | assumption | omega) only [↓vmPre, vmPost, vmWrd, vmDat, eq_self, forall_const, Nat.reduceLT, Nat.reduceEqDiff, Nat.reduceSub, Nat.reduceMul, Nat.reduceMod, Nat.reduceDiv, Nat.reducePow, UInt8.reduceToNat, Int.reduceEq, Int.reduceLT, Int.reduceLE, ↓reduceIte, Nat.reduceEqDiff, Nat.reduceAdd, Int.reduceToNat, reduceCtorEq, Nat.reduceLeDiff, ↓u_diff_Similarity]
  refine vif_cases (fun h => ?_) (fun h => ?_)
  · simp -dsimp (disch := first | assumption | omega) only [↓vmPre, vmPost, vmWrd, vmDat, eq_self, forall_const, Nat.reduceLT, Nat.reduceEqDiff, Nat.reduceSub, Nat.reduceMul, Nat.reduceMod, Nat.reduceDiv, Nat.reducePow, UInt8.reduceToNat, Int.reduceEq, Int.reduceLT, Int.reduceLE, ↓reduceIte, Nat.reduceEqDiff, Nat.reduceAdd, Int.reduceToNat, reduceCtorEq, Nat.reduceLeDiff, ↓u_diff_Similarity]
    unfold sim; rw [if_pos h]
  · simp -dsimp (disch := first | assumption | omega) only [↓vmPre, vmPost, vmWrd, vmDat, eq_self, forall_const, Nat.reduceLT, Nat.reduceEqDiff, Nat.reduceSub, Nat.reduceMul, Nat.reduceMod, Nat.reduceDiv, Nat.reducePow, UInt8.reduceToNat, Int.reduceEq, Int.reduceLT, Int.reduceLE, ↓reduceIte, Nat.reduceEqDiff, Nat.reduceAdd, Int.reduceToNat, reduceCtorEq, Nat.reduceLeDiff, ↓u_diff_Similarity]
    refine (diffLines a ha).pure.calls rfl ?_
    rintro x rfl
    simp -dsimp (disch := first | assumption | omega) only [↓vmPre, vmPost, vmWrd, vmDat, eq_self, forall_const, Nat.reduceLT, Nat.reduceEqDiff, Nat.reduceSub, Nat.reduceMul, Nat.reduceMod, Nat.reduceDiv, Nat.reducePow, UInt8.reduceToNat, Int.reduceEq, Int.reduceLT, Int.reduceLE, ↓reduceIte, Nat.reduceEqDiff, Nat.reduceAdd, Int.reduceToNat, reduceCtorEq, Nat.reduceLeDiff, ↓u_diff_Similarity]
    refine w_loop (fun m e H => ∃ (i : Nat) (es : List (List UInt8 × TV)), m = (linesOf a).length - i ∧ i ≤ (linesOf a).length ∧ Cnt es ((linesOf a).take i) ∧ e = [(0, slB a), (1, slB b), (5, .mp 0 0), (16, slS (linesOf a)), (17, i64 ((linesOf a).length : Int)), (18, i64 (i : Int))] ∧ H = [.mpo .str es]) (linesOf a).length ?_ ?_
    · exact ⟨0, [], by simp, by simp, fun l => by simp [mget], rfl, rfl⟩
    · rintro m e H ⟨i, es, rfl, hi, hc, rfl, rfl⟩
      by_cases hil : i < (linesOf a).length
      · have hg : (linesOf a)[i]? = some (linesOf a)[i] := List.getElem?_eq_getElem hil
        have hcl := hc (linesOf a)[i]
        have hadd := hc.add (linesOf a)[i]
        have hcount : ((linesOf a).take i).count (linesOf a)[i] ≤ i := by have := List.count_le_length (a := (linesOf a)[i]) (l := (linesOf a).take i); rw [List.length_take] at this; omega
        simp -dsimp (disch := first | assumption | omega) only [↓vmPre, vmPost, vmWrd, vmDat, eq_self, forall_const, Nat.reduceLT, Nat.reduceEqDiff, Nat.reduceSub, Nat.reduceMul, Nat.reduceMod, Nat.reduceDiv, Nat.reducePow, UInt8.reduceToNat, Int.reduceEq, Int.reduceLT, Int.reduceLE, ↓reduceIte, Nat.reduceEqDiff, Nat.reduceAdd, Int.reduceToNat, reduceCtorEq, Nat.reduceLeDiff, ↓u_diff_Similarity, hg, hcl]
        refine Rnd_keep ((linesOf a).length - (i + 1)) (by omega) (by simp) ⟨i + 1, _, rfl, by omega, ?_, rfl, rfl⟩
        rw [List.take_succ_eq_append_getElem hil]; exact hadd
      · have hi2 : i = (linesOf a).length := by omega
        rw [hi2, List.take_length] at hc
        simp -dsimp (disch := first | assumption | omega) only [↓vmPre, vmPost, vmWrd, vmDat, eq_self, forall_const, Nat.reduceLT, Nat.reduceEqDiff, Nat.reduceSub, Nat.reduceMul, Nat.reduceMod, Nat.reduceDiv, Nat.reducePow, UInt8.reduceToNat, Int.reduceEq, Int.reduceLT, Int.reduceLE, ↓reduceIte, Nat.reduceEqDiff, Nat.reduceAdd, Int.reduceToNat, reduceCtorEq, Nat.reduceLeDiff, ↓u_diff_Similarity]
        refine (diffLines b hb).pure.calls rfl ?_
        rintro x rfl
        simp -dsimp (disch := first | assumption | omega) only [↓vmPre, vmPost, vmWrd, vmDat, eq_self, forall_const, Nat.reduceLT, Nat.reduceEqDiff, Nat.reduceSub, Nat.reduceMul, Nat.reduceMod, Nat.reduceDiv, Nat.reducePow, UInt8.reduceToNat, Int.reduceEq, Int.reduceLT, Int.reduceLE, ↓reduceIte, Nat.reduceEqDiff, Nat.reduceAdd, Int.reduceToNat, reduceCtorEq, Nat.reduceLeDiff, ↓u_diff_Similarity]
        refine w_loop (fun m e H => ∃ (j n : Nat) (r : List (List UInt8)) (es : List (List UInt8 × TV)), m = (linesOf b).length - j ∧ j ≤ (linesOf b).length ∧ Cnt es r ∧ r.length ≤ 4000 ∧ n + com r ((linesOf b).drop j) = com (linesOf a) (linesOf b) ∧ e = [(0, slB a), (1, slB b), (5, .mp 0 0), (8, i64 (n : Int)), (28, slS (linesOf b)), (29, i64 ((linesOf b).length : Int)), (30, i64 (j : Int))] ∧ H = [.mpo .str es]) (linesOf b).length ?_ ?_
        · exact ⟨0, 0, linesOf a, es, by simp, by simp, hc, by omega, by simp, rfl, rfl⟩
        · clear hc hi hi2 hil
          rintro m e H ⟨j, n, r, es, rfl, hj, hc, hr, hn, rfl, rfl⟩
          by_cases hjl : j < (linesOf b).length
          · have hg : (linesOf b)[j]? = some (linesOf b)[j] := List.getElem?_eq_getElem hjl
            have hcl := hc (linesOf b)[j]
            have hsub := hc.sub (linesOf b)[j]
            have hcount := List.count_le_length (a := (linesOf b)[j]) (l := r)
            rw [List.drop_eq_getElem_cons hjl, com] at hn
            simp -dsimp (disch := first | assumption | omega) only [↓vmPre, vmPost, vmWrd, vmDat, eq_self, forall_const, Nat.reduceLT, Nat.reduceEqDiff, Nat.reduceSub, Nat.reduceMul, Nat.reduceMod, Nat.reduceDiv, Nat.reducePow, UInt8.reduceToNat, Int.reduceEq, Int.reduceLT, Int.reduceLE, ↓reduceIte, Nat.reduceEqDiff, Nat.reduceAdd, Int.reduceToNat, reduceCtorEq, Nat.reduceLeDiff, ↓u_diff_Similarity, hg, hcl]
            refine vif_cases (fun h0 => ?_) (fun h0 => ?_)
            · have hmem : (linesOf b)[j] ∈ r := List.count_pos_iff.1 (by omega)
              rw [if_pos hmem] at hn
              simp -dsimp (disch := first | assumption | omega) only [↓vmPre, vmPost, vmWrd, vmDat, eq_self, forall_const, Nat.reduceLT, Nat.reduceEqDiff, Nat.reduceSub, Nat.reduceMul, Nat.reduceMod, Nat.reduceDiv, Nat.reducePow, UInt8.reduceToNat, Int.reduceEq, Int.reduceLT, Int.reduceLE, ↓reduceIte, Nat.reduceEqDiff, Nat.reduceAdd, Int.reduceToNat, reduceCtorEq, Nat.reduceLeDiff, ↓u_diff_Similarity, hg, hcl, bl_str']
              exact Rnd_keep ((linesOf b).length - (j + 1)) (by omega) (by simp) ⟨j + 1, n + (linesOf b)[j].length, r.erase (linesOf b)[j], _, rfl, by omega, hsub, by have := List.length_erase_le (a := (linesOf b)[j]) (l := r); omega, by omega, rfl, rfl⟩
            · have hmem : ¬ (linesOf b)[j] ∈ r := fun hm => by have := List.count_pos_iff.2 hm; omega
              rw [if_neg hmem] at hn
              simp -dsimp (disch := first | assumption | omega) only [↓vmPre, vmPost, vmWrd, vmDat, eq_self, forall_const, Nat.reduceLT, Nat.reduceEqDiff, Nat.reduceSub, Nat.reduceMul, Nat.reduceMod, Nat.reduceDiv, Nat.reducePow, UInt8.reduceToNat, Int.reduceEq, Int.reduceLT, Int.reduceLE, ↓reduceIte, Nat.reduceEqDiff, Nat.reduceAdd, Int.reduceToNat, reduceCtorEq, Nat.reduceLeDiff, ↓u_diff_Similarity, hg, hcl]
              exact Rnd_keep ((linesOf b).length - (j + 1)) (by omega) (by simp) ⟨j + 1, n, r, es, rfl, by omega, hc, hr, hn, rfl, rfl⟩
          · rw [List.drop_eq_nil_of_le (by omega), com, Nat.add_zero] at hn
            have hne : a.length + b.length ≠ 0 := fun e => h (by
              have h1 := List.length_eq_zero_iff.1 (show a.length = 0 by omega)
              have h2 := List.length_eq_zero_iff.1 (show b.length = 0 by omega)
              rw [h1, h2])
            subst hn
            simp -dsimp (disch := first | assumption | omega) only [↓vmPre, vmPost, vmWrd, vmDat, eq_self, forall_const, Nat.reduceLT, Nat.reduceEqDiff, Nat.reduceSub, Nat.reduceMul, Nat.reduceMod, Nat.reduceDiv, Nat.reducePow, UInt8.reduceToNat, Int.reduceEq, Int.reduceLT, Int.reduceLE, ↓reduceIte, Nat.reduceEqDiff, Nat.reduceAdd, Int.reduceToNat, reduceCtorEq, Nat.reduceLeDiff, ↓u_diff_Similarity]
            unfold sim; rw [if_neg h]
end Go.Proofs.Ytknphdcjopaaoaa
