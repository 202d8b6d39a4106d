/- diff.Patch. -/
import Derived.Test.YtijidndhlgbjhaaDoorVpWrite
namespace Go.Proofs.YtijidndhlgbjhaaDoor
open Go.RowKit
variable [Globs]
set_option linter.unusedSectionVars false
set_option linter.unusedVariables false
set_option linter.unusedSimpArgs false
/-- The context that is used. -/
structure CtxIs (x : Int) (n : Nat) : Prop where
  h : (x < 0 ∧ n = 0) ∨ x = (n : Int) ∨ (1000 < x ∧ n = 1000)
  le : n ≤ 1000
  lo : -9223372036854775808 ≤ x
  hi : x ≤ 9223372036854775807
theorem lineL {l : List UInt8} : ∀ s ∈ linesOf l, s.length ≤ l.length := fun s hs => by
  have := linesOf_flat l
  have h2 := (List.sublist_flatten_of_mem hs).length_le
  rw [this] at h2; exact h2
theorem editsLen {a b : List UInt8} (ha : a.length ≤ 4000) (hb : b.length ≤ 4000) : (edx (isLong a b) (linesOf a) (linesOf b)).length ≤ 8000 := by
  have h1 := edx_len (isLong a b) (linesOf a) (linesOf b)
  have h2 := linesOf_length a
  have h3 := linesOf_length b
  omega
theorem editsOk {a b : List UInt8} (ha : a.length ≤ 4000) (hb : b.length ≤ 4000) : ∀ e ∈ edx (isLong a b) (linesOf a) (linesOf b), e.1 ≤ 2 ∧ e.2.length ≤ 4000 ∧ e.2 ≠ [] := by
  intro e he
  obtain ⟨h1, h2⟩ := edx_mem _ _ _ e he
  refine ⟨h1, ?_, ?_⟩
  · rcases h2 with h2 | h2
    · have := lineL _ h2; omega
    · have := lineL _ h2; omega
  · rcases h2 with h2 | h2
    · exact lin_ne a [] _ h2
    · exact lin_ne b [] _ h2
section
variable [K_internal_strconv_uint64pow10] [K_gitlike_diff_signs]
theorem patchLoop {E : List Ed} {n : Nat} (hE : E.length ≤ 8000) (hE2 : ∀ e ∈ E, e.1 ≤ 2 ∧ e.2.length ≤ 4000 ∧ e.2 ≠ []) (hn : n ≤ 1000) (pl : (patchOf E n).length ≤ 500000000000) :
    vwp Tryd.prog (.loop [7, 16, 17, 18] c_diff_Patch_L1) (Blk 0 (Thn Tryd.prog c_diff_Patch_k2 (atEnd r_diff_Patch fun x H' => vget (frs H' x) fun r => r = slB (patchOf E n))))
      [(7, .op 0 0 []), (16, .sl 3 ((hks n E.length (chs 0 E)).map (hkT E))), (17, i64 ((hks n E.length (chs 0 E)).length : Int)), (18, i64 ((0 : Nat) : Int))]
      [.obj 0 (.agg [.val (.pointer none), .os 1 2 0 [] 0 0 0]), .fact 0 0 91 2, .bld 0 5 []] := by
  have hkl := hks_len n E.length _ (chs 0 E) (Nat.le_refl _)
  have hcl := chs_len E 0
  have hpo : patchOf E n = (hks n E.length (chs 0 E)).flatMap (hunkText E) := rfl
  generalize hks n E.length (chs 0 E) = hs at *
  have htl : ∀ i, ((hs.take i).flatMap (hunkText E)).length ≤ 500000000000 := fun i => by
    have h1 := texts_len (E := E) (by omega) (fun e he => (hE2 e he).2.1) (hs.take i)
    have h2 : (hs.take i).length * 50000000 ≤ 10000 * 50000000 := Nat.mul_le_mul (by simp; omega) (Nat.le_refl _)
    omega
  refine w_loop (fun q e H => ∃ i : Nat, q = hs.length - i ∧ i ≤ hs.length ∧ BO H ((hs.take i).flatMap (hunkText E)) ∧ e = [(7, .op 0 0 []), (16, .sl 3 (hs.map (hkT E))), (17, i64 (hs.length : Int)), (18, i64 (i : Int))]) hs.length ?_ ?_
  · exact ⟨0, rfl, by omega, ⟨⟨_, _, rfl, .inl rfl, 0, rfl, rfl⟩, rfl⟩, rfl⟩
  · rintro q e H ⟨i, rfl, hi, O, rfl⟩
    have l0 := O.len
    by_cases h : i < hs.length
    · obtain ⟨p, hp⟩ : ∃ p, hs[i]? = some p := ⟨_, List.getElem?_eq_getElem h⟩
      have g1 := cA_le (E.take p.1)
      have g2 := cB_le (E.take p.1)
      have g3 : (E.take p.1).length ≤ E.length := by simp; omega
      have g4 : (midP E p).length ≤ E.length := mid_len (a := p.1) (b := p.2)
      have hs1 : hs.take (i + 1) = hs.take i ++ [p] := by
        obtain ⟨_, rfl⟩ := List.getElem?_eq_some_iff.1 hp
        exact List.take_succ_eq_append_getElem h
      simp -dsimp (disch := first | assumption | omega | (simp only [List.length_set, List.length_append, List.length_cons, List.length_nil]; done) | (simp only [List.length_set, List.length_append, List.length_cons, List.length_nil]; omega)) only [↓vmPre, vmPost, vmWrd, vmDat, eq_self, forall_const, Nat.reduceLT, Nat.reduceEqDiff, Nat.reduceSub, Nat.reduceMul, Nat.reduceMod, Nat.reduceDiv, Nat.reducePow, UInt8.reduceToNat, Int.reduceEq, Int.reduceLT, Int.reduceLE, ↓reduceIte, Nat.reduceEqDiff, Nat.reduceAdd, Int.reduceToNat, reduceCtorEq, Nat.reduceLeDiff, ↓u_diff_Patch, hp, hkT_is, width_hkT]
      refine writeV (m := midP E p) (O.keep _) (by omega) (fun e he => (hE2 e (mid_mem he)).1) (fun e he => (hE2 e (mid_mem he)).2.1) (by omega) (by omega) (by have := htl i; omega) (fun H' O' l' => ?_)
      rw [List.length_append] at l'
      simp -dsimp (disch := first | assumption | omega | (simp only [List.length_set, List.length_append, List.length_cons, List.length_nil]; done) | (simp only [List.length_set, List.length_append, List.length_cons, List.length_nil]; omega)) only [↓vmPre, vmPost, vmWrd, vmDat, eq_self, forall_const, Nat.reduceLT, Nat.reduceEqDiff, Nat.reduceSub, Nat.reduceMul, Nat.reduceMod, Nat.reduceDiv, Nat.reducePow, UInt8.reduceToNat, Int.reduceEq, Int.reduceLT, Int.reduceLE, ↓reduceIte, Nat.reduceEqDiff, Nat.reduceAdd, Int.reduceToNat, reduceCtorEq, Nat.reduceLeDiff, ↓u_diff_Patch]
      refine Rnd_keep (hs.length - (i + 1)) (by omega) (by omega) ⟨i + 1, rfl, by omega, ?_, rfl⟩
      rw [hs1, List.flatMap_append]
      have e : [p].flatMap (hunkText E) = headOf (cA (E.take p.1)) (cA (midP E p)) (cB (E.take p.1)) (cB (midP E p)) ++ (midP E p).flatMap lineOf := by simp [hunkText]
      rw [e, ← List.append_assoc]; exact O'
    · obtain rfl : i = hs.length := by omega
      rw [List.take_length, ← hpo] at O
      obtain ⟨⟨a, r, h1, ha, v, rfl, h3⟩, hf⟩ := O
      have hw := width_self ha
      have hb := bstr_is
      simp -dsimp (disch := first | assumption | omega | (simp only [List.length_set, List.length_append, List.length_cons, List.length_nil]; done) | (simp only [List.length_set, List.length_append, List.length_cons, List.length_nil]; omega)) only [↓vmPre, vmPost, vmWrd, vmDat, eq_self, forall_const, Nat.reduceLT, Nat.reduceEqDiff, Nat.reduceSub, Nat.reduceMul, Nat.reduceMod, Nat.reduceDiv, Nat.reducePow, UInt8.reduceToNat, Int.reduceEq, Int.reduceLT, Int.reduceLE, ↓reduceIte, Nat.reduceEqDiff, Nat.reduceAdd, Int.reduceToNat, reduceCtorEq, Nat.reduceLeDiff, ↓u_diff_Patch, hb, hw, h1, h3, bl_strN]
theorem patchV (a b : List UInt8) (x : Int) (n : Nat) (ha : a.length ≤ 4000) (hb : b.length ≤ 4000) (hx : CtxIs x n) :
    VFresh Tryd.prog 19 [slB a, slB b, i64 x] (fun r => r = slB (patchOf (edx (isLong a b) (linesOf a) (linesOf b)) n)) := by
  refine VCalls.toFreshV (go_diff_Patch (by simp) ?_)
  have hE := editsLen ha hb
  have hE2 := editsOk ha hb
  have hed := diffEdits (a := a) (b := b) (by omega) (by omega)
  generalize edx (isLong a b) (linesOf a) (linesOf b) = E at *
  obtain ⟨hx, hn, x0, x1⟩ := hx
  have hhv := hunksV E n (by omega) hn
  have pl := patch_len (E := E) (c := n) (by omega) fun e he => (hE2 e he).2.1
  have hkl := hks_len n E.length _ (chs 0 E) (Nat.le_refl _)
  have hcl := chs_len E 0
  rcases hx with ⟨h, rfl⟩ | rfl | ⟨h, rfl⟩
  · simp -dsimp (disch := first | assumption | omega | (simp only [List.length_set, List.length_append, List.length_cons, List.length_nil]; done) | (simp only [List.length_set, List.length_append, List.length_cons, List.length_nil]; omega)) only [↓vmPre, vmPost, vmWrd, vmDat, eq_self, forall_const, Nat.reduceLT, Nat.reduceEqDiff, Nat.reduceSub, Nat.reduceMul, Nat.reduceMod, Nat.reduceDiv, Nat.reducePow, UInt8.reduceToNat, Int.reduceEq, Int.reduceLT, Int.reduceLE, ↓reduceIte, Nat.reduceEqDiff, Nat.reduceAdd, Int.reduceToNat, reduceCtorEq, Nat.reduceLeDiff, ↓u_diff_Patch]
    refine hed.lends (args' := [slB a, slB b]) ?_ ?_
    · simp -dsimp (disch := first | assumption | omega) only [↓vmPre, vmPost, vmWrd, vmDat, eq_self, forall_const, Nat.reduceLT, Nat.reduceEqDiff, Nat.reduceSub, Nat.reduceMul, Nat.reduceMod, Nat.reduceDiv, Nat.reducePow, UInt8.reduceToNat, Int.reduceEq, Int.reduceLT, Int.reduceLE, ↓reduceIte, Nat.reduceEqDiff, Nat.reduceAdd, Int.reduceToNat, reduceCtorEq, Nat.reduceLeDiff]
    rintro _ rfl
    simp -dsimp (disch := first | assumption | omega | (simp only [List.length_set, List.length_append, List.length_cons, List.length_nil]; done) | (simp only [List.length_set, List.length_append, List.length_cons, List.length_nil]; omega)) only [↓vmPre, vmPost, vmWrd, vmDat, eq_self, forall_const, Nat.reduceLT, Nat.reduceEqDiff, Nat.reduceSub, Nat.reduceMul, Nat.reduceMod, Nat.reduceDiv, Nat.reducePow, UInt8.reduceToNat, Int.reduceEq, Int.reduceLT, Int.reduceLE, ↓reduceIte, Nat.reduceEqDiff, Nat.reduceAdd, Int.reduceToNat, reduceCtorEq, Nat.reduceLeDiff, ↓u_diff_Patch]
    refine hhv.calls rfl ?_
    rintro _ rfl
    simp -dsimp (disch := first | assumption | omega | (simp only [List.length_set, List.length_append, List.length_cons, List.length_nil]; done) | (simp only [List.length_set, List.length_append, List.length_cons, List.length_nil]; omega)) only [↓vmPre, vmPost, vmWrd, vmDat, eq_self, forall_const, Nat.reduceLT, Nat.reduceEqDiff, Nat.reduceSub, Nat.reduceMul, Nat.reduceMod, Nat.reduceDiv, Nat.reducePow, UInt8.reduceToNat, Int.reduceEq, Int.reduceLT, Int.reduceLE, ↓reduceIte, Nat.reduceEqDiff, Nat.reduceAdd, Int.reduceToNat, reduceCtorEq, Nat.reduceLeDiff, ↓u_diff_Patch, v_ownT]
    exact patchLoop (by omega) hE2 hn pl
  · simp -dsimp (disch := first | assumption | omega | (simp only [List.length_set, List.length_append, List.length_cons, List.length_nil]; done) | (simp only [List.length_set, List.length_append, List.length_cons, List.length_nil]; omega)) only [↓vmPre, vmPost, vmWrd, vmDat, eq_self, forall_const, Nat.reduceLT, Nat.reduceEqDiff, Nat.reduceSub, Nat.reduceMul, Nat.reduceMod, Nat.reduceDiv, Nat.reducePow, UInt8.reduceToNat, Int.reduceEq, Int.reduceLT, Int.reduceLE, ↓reduceIte, Nat.reduceEqDiff, Nat.reduceAdd, Int.reduceToNat, reduceCtorEq, Nat.reduceLeDiff, ↓u_diff_Patch]
    refine hed.lends (args' := [slB a, slB b]) ?_ ?_
    · simp -dsimp (disch := first | assumption | omega) only [↓vmPre, vmPost, vmWrd, vmDat, eq_self, forall_const, Nat.reduceLT, Nat.reduceEqDiff, Nat.reduceSub, Nat.reduceMul, Nat.reduceMod, Nat.reduceDiv, Nat.reducePow, UInt8.reduceToNat, Int.reduceEq, Int.reduceLT, Int.reduceLE, ↓reduceIte, Nat.reduceEqDiff, Nat.reduceAdd, Int.reduceToNat, reduceCtorEq, Nat.reduceLeDiff]
    rintro _ rfl
    simp -dsimp (disch := first | assumption | omega | (simp only [List.length_set, List.length_append, List.length_cons, List.length_nil]; done) | (simp only [List.length_set, List.length_append, List.length_cons, List.length_nil]; omega)) only [↓vmPre, vmPost, vmWrd, vmDat, eq_self, forall_const, Nat.reduceLT, Nat.reduceEqDiff, Nat.reduceSub, Nat.reduceMul, Nat.reduceMod, Nat.reduceDiv, Nat.reducePow, UInt8.reduceToNat, Int.reduceEq, Int.reduceLT, Int.reduceLE, ↓reduceIte, Nat.reduceEqDiff, Nat.reduceAdd, Int.reduceToNat, reduceCtorEq, Nat.reduceLeDiff, ↓u_diff_Patch]
    refine hhv.calls rfl ?_
    rintro _ rfl
    simp -dsimp (disch := first | assumption | omega | (simp only [List.length_set, List.length_append, List.length_cons, List.length_nil]; done) | (simp only [List.length_set, List.length_append, List.length_cons, List.length_nil]; omega)) only [↓vmPre, vmPost, vmWrd, vmDat, eq_self, forall_const, Nat.reduceLT, Nat.reduceEqDiff, Nat.reduceSub, Nat.reduceMul, Nat.reduceMod, Nat.reduceDiv, Nat.reducePow, UInt8.reduceToNat, Int.reduceEq, Int.reduceLT, Int.reduceLE, ↓reduceIte, Nat.reduceEqDiff, Nat.reduceAdd, Int.reduceToNat, reduceCtorEq, Nat.reduceLeDiff, ↓u_diff_Patch, v_ownT]
    exact patchLoop (by omega) hE2 hn pl
  · simp -dsimp (disch := first | assumption | omega | (simp only [List.length_set, List.length_append, List.length_cons, List.length_nil]; done) | (simp only [List.length_set, List.length_append, List.length_cons, List.length_nil]; omega)) only [↓vmPre, vmPost, vmWrd, vmDat, eq_self, forall_const, Nat.reduceLT, Nat.reduceEqDiff, Nat.reduceSub, Nat.reduceMul, Nat.reduceMod, Nat.reduceDiv, Nat.reducePow, UInt8.reduceToNat, Int.reduceEq, Int.reduceLT, Int.reduceLE, ↓reduceIte, Nat.reduceEqDiff, Nat.reduceAdd, Int.reduceToNat, reduceCtorEq, Nat.reduceLeDiff, ↓u_diff_Patch]
    refine hed.lends (args' := [slB a, slB b]) ?_ ?_
    · simp -dsimp (disch := first | assumption | omega) only [↓vmPre, vmPost, vmWrd, vmDat, eq_self, forall_const, Nat.reduceLT, Nat.reduceEqDiff, Nat.reduceSub, Nat.reduceMul, Nat.reduceMod, Nat.reduceDiv, Nat.reducePow, UInt8.reduceToNat, Int.reduceEq, Int.reduceLT, Int.reduceLE, ↓reduceIte, Nat.reduceEqDiff, Nat.reduceAdd, Int.reduceToNat, reduceCtorEq, Nat.reduceLeDiff]
    rintro _ rfl
    simp -dsimp (disch := first | assumption | omega | (simp only [List.length_set, List.length_append, List.length_cons, List.length_nil]; done) | (simp only [List.length_set, List.length_append, List.length_cons, List.length_nil]; omega)) only [↓vmPre, vmPost, vmWrd, vmDat, eq_self, forall_const, Nat.reduceLT, Nat.reduceEqDiff, Nat.reduceSub, Nat.reduceMul, Nat.reduceMod, Nat.reduceDiv, Nat.reducePow, UInt8.reduceToNat, Int.reduceEq, Int.reduceLT, Int.reduceLE, ↓reduceIte, Nat.reduceEqDiff, Nat.reduceAdd, Int.reduceToNat, reduceCtorEq, Nat.reduceLeDiff, ↓u_diff_Patch]
    refine hhv.calls rfl ?_
    rintro _ rfl
    simp -dsimp (disch := first | assumption | omega | (simp only [List.length_set, List.length_append, List.length_cons, List.length_nil]; done) | (simp only [List.length_set, List.length_append, List.length_cons, List.length_nil]; omega)) only [↓vmPre, vmPost, vmWrd, vmDat, eq_self, forall_const, Nat.reduceLT, Nat.reduceEqDiff, Nat.reduceSub, Nat.reduceMul, Nat.reduceMod, Nat.reduceDiv, Nat.reducePow, UInt8.reduceToNat, Int.reduceEq, Int.reduceLT, Int.reduceLE, ↓reduceIte, Nat.reduceEqDiff, Nat.reduceAdd, Int.reduceToNat, reduceCtorEq, Nat.reduceLeDiff, ↓u_diff_Patch, v_ownT]
    exact patchLoop (by omega) hE2 hn pl
end
end Go.Proofs.YtijidndhlgbjhaaDoor
