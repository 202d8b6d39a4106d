/- The statement on patches. -/
import Derived.Test.YtijidndhlgbjhaaDoorVpRef
import Derived.Test.YtijidndhlgbjhaaDoorVdHelp
namespace Go.Proofs.YtijidndhlgbjhaaDoor
open Go.RowKit
variable [Globs]
set_option linter.unusedSectionVars false
set_option linter.unusedVariables false
set_option linter.unusedSimpArgs false
theorem refLoopP {E : List Ed} {c : Nat} {r : Env} (hE : E.length ≤ 8000) (hE2 : ∀ e ∈ E, e.1 ≤ 2 ∧ e.2.length ≤ 4000 ∧ e.2 ≠ []) (hc : c ≤ 1000) (pl : (patchOf E c).length ≤ 500000000000) :
    vwp Tryd.prog (.loop [2, 7, 8, 9, 10, 11] c_ref10_Patch_L25) (Blk 0 (Thn Tryd.prog c_ref10_Patch_k26 (atEnd r_ref10_Patch fun x H' => vget (frs H' x) fun r => r = slB (patchOf E c))))
      ((2, i64 (c : Int)) :: (7, .sl 2 (E.map ed)) :: (8, ts []) :: (9, i64 ((0 : Nat) : Int)) :: (10, i64 ((0 : Nat) : Int)) :: (11, i64 ((0 : Nat) : Int)) :: r) [] := by
  refine w_loop (fun q e H => ∃ (i : Nat) (out : List UInt8), q = E.length - i ∧ i ≤ E.length ∧ Far E c i ∧ patchOf E c = out ++ restOf E c i ∧
      e = [(2, i64 (c : Int)), (7, .sl 2 (E.map ed)), (8, ts out), (9, i64 (cA (E.take i) : Int)), (10, i64 (cB (E.take i) : Int)), (11, i64 (i : Int))] ∧ H = []) E.length ?_ ?_
  · exact ⟨0, [], rfl, by omega, far_0, rfl, by rw [List.take_zero]; rfl, rfl⟩
  · rintro q e H ⟨i, out, rfl, hi, hf, hp, rfl, rfl⟩
    have g1 := cA_le (E.take i)
    have g2 := cB_le (E.take i)
    have g3 : (E.take i).length ≤ E.length := by simp; omega
    have ol : out.length ≤ 500000000000 := by rw [hp, List.length_append] at pl; omega
    by_cases h : i < E.length
    · obtain ⟨x, hx⟩ : ∃ x, E[i]? = some x := ⟨_, List.getElem?_eq_getElem h⟩
      by_cases hx0 : x.1 = 0
      · have hs : E.take (i + 1) = E.take i ++ [x] := by
          obtain ⟨_, rfl⟩ := List.getElem?_eq_some_iff.1 hx
          exact List.take_succ_eq_append_getElem h
        have c1 := cA_app (E.take i) [x]
        have c2 := cB_app (E.take i) [x]
        rw [← hs, cA_one, if_neg (by omega)] at c1
        rw [← hs, cB_one, if_neg (by omega)] at c2
        simp -dsimp (disch := first | assumption | omega | (simp only [List.length_set, List.length_append, List.length_cons, List.length_nil]; done) | (simp only [List.length_set, List.length_append, List.length_cons, List.length_nil]; omega)) only [↓vmPre, vmPost, vmWrd, vmDat, eq_self, forall_const, Nat.reduceLT, Nat.reduceEqDiff, Nat.reduceSub, Nat.reduceMul, Nat.reduceMod, Nat.reduceDiv, Nat.reducePow, UInt8.reduceToNat, Int.reduceEq, Int.reduceLT, Int.reduceLE, ↓reduceIte, Nat.reduceEqDiff, Nat.reduceAdd, Int.reduceToNat, reduceCtorEq, Nat.reduceLeDiff, ↓u_ref10_Patch_L25_e, ↓u_ref10_Patch_k24_e, ↓u_ref10_Patch_b1_e, hx, ed_is, hx0]
        exact Rnd_keep (E.length - (i + 1)) (by omega) (by simp) ⟨i + 1, out, rfl, by omega, far_keep hf hx hx0, by rw [hp, rest_keep hx hx0], by rw [c1, c2]; rfl, rfl⟩
      · simp -dsimp (disch := first | assumption | omega | (simp only [List.length_set, List.length_append, List.length_cons, List.length_nil]; done) | (simp only [List.length_set, List.length_append, List.length_cons, List.length_nil]; omega)) only [↓vmPre, vmPost, vmWrd, vmDat, eq_self, forall_const, Nat.reduceLT, Nat.reduceEqDiff, Nat.reduceSub, Nat.reduceMul, Nat.reduceMod, Nat.reduceDiv, Nat.reducePow, UInt8.reduceToNat, Int.reduceEq, Int.reduceLT, Int.reduceLE, ↓reduceIte, Nat.reduceEqDiff, Nat.reduceAdd, Int.reduceToNat, reduceCtorEq, Nat.reduceLeDiff, ↓u_ref10_Patch_L25_e, ↓u_ref10_Patch_k24_e, hx, ed_is, hx0]
        refine refT1 hE hE2 hc hf hx hx0 (by omega) fun la k1 k2 k3 k4 => ?_
        rw [Blk_nor]
        refine Rnd_keep (E.length - min E.length (la + 1 + c)) (by omega) (by simp) ⟨min E.length (la + 1 + c), _, rfl, by omega, far_next k4 k3, ?_, rfl, rfl⟩
        rw [hp, rest_ch hx hx0 k1 k3 k4, List.append_assoc]
    · rw [rest_end (by omega), List.append_nil] at hp
      subst hp
      simp -dsimp (disch := first | assumption | omega | (simp only [List.length_set, List.length_append, List.length_cons, List.length_nil]; done) | (simp only [List.length_set, List.length_append, List.length_cons, List.length_nil]; omega)) only [↓vmPre, vmPost, vmWrd, vmDat, eq_self, forall_const, Nat.reduceLT, Nat.reduceEqDiff, Nat.reduceSub, Nat.reduceMul, Nat.reduceMod, Nat.reduceDiv, Nat.reducePow, UInt8.reduceToNat, Int.reduceEq, Int.reduceLT, Int.reduceLE, ↓reduceIte, Nat.reduceEqDiff, Nat.reduceAdd, Int.reduceToNat, reduceCtorEq, Nat.reduceLeDiff, ↓u_ref10_Patch_L25_e, ↓u_ref10_Patch_k26_e, bl_strN, ↓u_ref10_Patch_r]
theorem refPatchV (a b : List UInt8) (x : Int) (n : Nat) (ha : a.length ≤ 4000) (hb : b.length ≤ 4000) (hx : CtxIs x n) :
    VFresh Tryd.prog 20 [slB a, slB b, i64 x] (fun r => r = slB (patchOf (edx (isLong a b) (linesOf a) (linesOf b)) n)) := by
  refine VCalls.toFreshV (go_ref10_Patch (by simp) ?_)
  have hE := editsLen ha hb
  have hE2 := editsOk ha hb
  have hed := (refEdits (a := a) (b := b) (by omega) (by omega)).pure
  generalize edx (isLong a b) (linesOf a) (linesOf b) = E at *
  obtain ⟨hx, hn, x0, x1⟩ := hx
  have pl := patch_len (E := E) (c := n) (by omega) fun e he => (hE2 e he).2.1
  rcases hx with ⟨h, rfl⟩ | rfl | ⟨h, rfl⟩
  all_goals
    simp -dsimp (disch := first | assumption | omega | (simp only [List.length_set, List.length_append, List.length_cons, List.length_nil]; done) | (simp only [List.length_set, List.length_append, List.length_cons, List.length_nil]; omega)) only [↓vmPre, vmPost, vmWrd, vmDat, eq_self, forall_const, Nat.reduceLT, Nat.reduceEqDiff, Nat.reduceSub, Nat.reduceMul, Nat.reduceMod, Nat.reduceDiv, Nat.reducePow, UInt8.reduceToNat, Int.reduceEq, Int.reduceLT, Int.reduceLE, ↓reduceIte, Nat.reduceEqDiff, Nat.reduceAdd, Int.reduceToNat, reduceCtorEq, Nat.reduceLeDiff, ↓u_ref10_Patch]
    refine hed.calls rfl ?_
    rintro _ rfl
    simp -dsimp (disch := first | assumption | omega | (simp only [List.length_set, List.length_append, List.length_cons, List.length_nil]; done) | (simp only [List.length_set, List.length_append, List.length_cons, List.length_nil]; omega)) only [↓vmPre, vmPost, vmWrd, vmDat, eq_self, forall_const, Nat.reduceLT, Nat.reduceEqDiff, Nat.reduceSub, Nat.reduceMul, Nat.reduceMod, Nat.reduceDiv, Nat.reducePow, UInt8.reduceToNat, Int.reduceEq, Int.reduceLT, Int.reduceLE, ↓reduceIte, Nat.reduceEqDiff, Nat.reduceAdd, Int.reduceToNat, reduceCtorEq, Nat.reduceLeDiff, ↓u_ref10_Patch]
    exact refLoopP hE hE2 hn pl
section
variable [K_internal_strconv_uint64pow10] [K_gitlike_diff_signs]
theorem lawPatches (a b : List UInt8) (x : Int) (ha : a.length ≤ 140737488351232) (hb : b.length ≤ 140737488351232) (x0 : -9223372036854775808 ≤ x) (x1 : x ≤ 9223372036854775807) : VPure Tryd.prog 5 [slB a, slB b, i64 x] (fun r => r = tb true) := by
  refine VCalls.toPureV (go_law10_DiffPatches (by simp) ?_)
  simp -dsimp (disch := first | assumption | omega | (simp only [List.length_set, List.length_append, List.length_cons, List.length_nil]; done) | (simp only [List.length_set, List.length_append, List.length_cons, List.length_nil]; omega)) only [↓vmPre, vmPost, vmWrd, vmDat, eq_self, forall_const, Nat.reduceLT, Nat.reduceEqDiff, Nat.reduceSub, Nat.reduceMul, Nat.reduceMod, Nat.reduceDiv, Nat.reducePow, UInt8.reduceToNat, Int.reduceEq, Int.reduceLT, Int.reduceLE, ↓reduceIte, Nat.reduceEqDiff, Nat.reduceAdd, Int.reduceToNat, reduceCtorEq, Nat.reduceLeDiff, ↓u_law10_DiffPatches]
  by_cases h1 : 4000 < a.length
  · simp -dsimp (disch := first | assumption | omega | (simp only [List.length_set, List.length_append, List.length_cons, List.length_nil]; done) | (simp only [List.length_set, List.length_append, List.length_cons, List.length_nil]; omega)) only [↓vmPre, vmPost, vmWrd, vmDat, eq_self, forall_const, Nat.reduceLT, Nat.reduceEqDiff, Nat.reduceSub, Nat.reduceMul, Nat.reduceMod, Nat.reduceDiv, Nat.reducePow, UInt8.reduceToNat, Int.reduceEq, Int.reduceLT, Int.reduceLE, ↓reduceIte, Nat.reduceEqDiff, Nat.reduceAdd, Int.reduceToNat, reduceCtorEq, Nat.reduceLeDiff, ↓u_law10_DiffPatches]
  by_cases h2 : 4000 < b.length
  · simp -dsimp (disch := first | assumption | omega | (simp only [List.length_set, List.length_append, List.length_cons, List.length_nil]; done) | (simp only [List.length_set, List.length_append, List.length_cons, List.length_nil]; omega)) only [↓vmPre, vmPost, vmWrd, vmDat, eq_self, forall_const, Nat.reduceLT, Nat.reduceEqDiff, Nat.reduceSub, Nat.reduceMul, Nat.reduceMod, Nat.reduceDiv, Nat.reducePow, UInt8.reduceToNat, Int.reduceEq, Int.reduceLT, Int.reduceLE, ↓reduceIte, Nat.reduceEqDiff, Nat.reduceAdd, Int.reduceToNat, reduceCtorEq, Nat.reduceLeDiff, ↓u_law10_DiffPatches]
  obtain ⟨n, hn⟩ : ∃ n, CtxIs x n := by
    by_cases k1 : x < 0
    · exact ⟨0, .inl ⟨k1, rfl⟩, by omega, x0, x1⟩
    by_cases k2 : 1000 < x
    · exact ⟨1000, .inr (.inr ⟨k2, rfl⟩), by omega, x0, x1⟩
    exact ⟨x.toNat, .inr (.inl (by omega)), by omega, x0, x1⟩
  have pl : (patchOf (edx (isLong a b) (linesOf a) (linesOf b)) n).length ≤ 500000000000 := patch_len (Nat.le_trans (editsLen (by omega) (by omega)) (by decide)) fun e he => (editsOk (by omega) (by omega) e he).2.1
  simp -dsimp (disch := first | assumption | omega | (simp only [List.length_set, List.length_append, List.length_cons, List.length_nil]; done) | (simp only [List.length_set, List.length_append, List.length_cons, List.length_nil]; omega)) only [↓vmPre, vmPost, vmWrd, vmDat, eq_self, forall_const, Nat.reduceLT, Nat.reduceEqDiff, Nat.reduceSub, Nat.reduceMul, Nat.reduceMod, Nat.reduceDiv, Nat.reducePow, UInt8.reduceToNat, Int.reduceEq, Int.reduceLT, Int.reduceLE, ↓reduceIte, Nat.reduceEqDiff, Nat.reduceAdd, Int.reduceToNat, reduceCtorEq, Nat.reduceLeDiff, ↓u_law10_DiffPatches]
  refine (patchV a b x n (by omega) (by omega) hn).pure.calls rfl ?_
  rintro _ rfl
  simp -dsimp (disch := first | assumption | omega | (simp only [List.length_set, List.length_append, List.length_cons, List.length_nil]; done) | (simp only [List.length_set, List.length_append, List.length_cons, List.length_nil]; omega)) only [↓vmPre, vmPost, vmWrd, vmDat, eq_self, forall_const, Nat.reduceLT, Nat.reduceEqDiff, Nat.reduceSub, Nat.reduceMul, Nat.reduceMod, Nat.reduceDiv, Nat.reducePow, UInt8.reduceToNat, Int.reduceEq, Int.reduceLT, Int.reduceLE, ↓reduceIte, Nat.reduceEqDiff, Nat.reduceAdd, Int.reduceToNat, reduceCtorEq, Nat.reduceLeDiff, ↓u_law10_DiffPatches]
  refine (refPatchV a b x n (by omega) (by omega) hn).pure.calls rfl ?_
  rintro _ rfl
  simp -dsimp (disch := first | assumption | omega | (simp only [List.length_set, List.length_append, List.length_cons, List.length_nil]; done) | (simp only [List.length_set, List.length_append, List.length_cons, List.length_nil]; omega)) only [↓vmPre, vmPost, vmWrd, vmDat, eq_self, forall_const, Nat.reduceLT, Nat.reduceEqDiff, Nat.reduceSub, Nat.reduceMul, Nat.reduceMod, Nat.reduceDiv, Nat.reducePow, UInt8.reduceToNat, Int.reduceEq, Int.reduceLT, Int.reduceLE, ↓reduceIte, Nat.reduceEqDiff, Nat.reduceAdd, Int.reduceToNat, reduceCtorEq, Nat.reduceLeDiff, ↓u_law10_DiffPatches]
  refine (same _ _ (by omega) (by omega)).calls rfl ?_
  rintro _ rfl
  simp -dsimp (disch := first | assumption | omega | (simp only [List.length_set, List.length_append, List.length_cons, List.length_nil]; done) | (simp only [List.length_set, List.length_append, List.length_cons, List.length_nil]; omega)) only [↓vmPre, vmPost, vmWrd, vmDat, eq_self, forall_const, Nat.reduceLT, Nat.reduceEqDiff, Nat.reduceSub, Nat.reduceMul, Nat.reduceMod, Nat.reduceDiv, Nat.reducePow, UInt8.reduceToNat, Int.reduceEq, Int.reduceLT, Int.reduceLE, ↓reduceIte, Nat.reduceEqDiff, Nat.reduceAdd, Int.reduceToNat, reduceCtorEq, Nat.reduceLeDiff, ↓u_law10_DiffPatches]
end
end Go.Proofs.YtijidndhlgbjhaaDoor
