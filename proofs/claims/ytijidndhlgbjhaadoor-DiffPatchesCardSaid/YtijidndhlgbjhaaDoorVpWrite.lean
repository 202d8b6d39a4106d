/- (hunk).write and diff.Patch. -/
import Derived.Test.YtijidndhlgbjhaaDoorVpHunks
import Derived.Test.YtijidndhlgbjhaaDoorVbAny
import Derived.Test.YtijidndhlgbjhaaDoorVlEditsB
import Derived.Test.YtijidndhlgbjhaaDoorVlFill
namespace Go.Proofs.YtijidndhlgbjhaaDoor
open Go.RowKit
variable [Globs]
set_option linter.unusedSectionVars false
set_option linter.unusedVariables false
set_option linter.unusedSimpArgs false
set_option maxRecDepth 100000 in
theorem liesBP : lies 91 2 0 := ⟨by decide, by kernel_rfl⟩
/-- A builder at the beginning. -/
structure BO (H : List Ob) (l : List UInt8) : Prop where
  ex : ∃ a r, H[0]? = some (.obj 0 (.agg [a, r])) ∧ BldSelf 0 0 [] a ∧ Buf H r l (some 2)
  fact : H[1]? = some (.fact 0 0 91 2)
theorem BO.keep {H : List Ob} {l : List UInt8} (O : BO H l) (G : List Ob) : BO (H ++ G) l := by
  obtain ⟨⟨a, r, h1, h2, v, rfl, h3⟩, h4⟩ := O
  have k : ∀ {i o}, H[i]? = some o → (H ++ G)[i]? = some o := fun h => by rw [List.getElem?_append_left (List.getElem?_eq_some_iff.1 h).1]; exact h
  exact ⟨⟨a, _, k h1, h2, v, rfl, k h3⟩, k h4⟩
theorem BO.len {H : List Ob} {l : List UInt8} (O : BO H l) : 3 ≤ H.length := by
  obtain ⟨⟨a, r, h1, h2, v, rfl, h3⟩, h4⟩ := O
  have := (List.getElem?_eq_some_iff.1 h3).1; omega
theorem boV {H : List Ob} {l s : List UInt8} {K : TV → List Ob → Prop} (O : BO H l) (hlen : l.length + s.length ≤ 140737488355328)
    (hk : ∀ H', BO H' (l ++ s) → H.length ≤ H'.length → (∀ i, i < H.length → 2 < i → H'[i]? = H[i]?) → K (.tup [i64 (s.length : Int), .val .nilIface]) H') :
    VCalls Tryd.prog 116 [.op 0 0 [], ts s] H K := by
  obtain ⟨⟨a, r, h2, ha, hb⟩, hf⟩ := O
  have wa := width_self ha
  refine writeAny (q := 1) h2 rfl rfl ha hb hf liesBP hlen ?_
  intro H' x' r' j hs ho hb' hfr hl hJ
  have hx : x' = .agg [.op 0 0 [], r'] := by
    rw [setP_nil, if_pos (by simp [width, widths, hb'.wd, wa, hb.wd])] at hs
    exact (Option.some.inj hs).symm
  subst hx
  have hj : j = 2 := by
    rcases hJ with h | ⟨h, _⟩
    · exact (Option.some.inj h).symm
    · cases h
  subst hj
  have hf' := hfr 1 (List.getElem?_eq_some_iff.1 hf).1 (by omega) (by simp)
  exact hk H' ⟨⟨_, _, ho, .inr rfl, hb'⟩, hf'.trans hf⟩ hl fun i hi h2 => hfr i hi (by omega) (by simp; omega)

theorem hasSuf (l : List UInt8) : Lib.hasSuffix l [10] = decide (l.getLast? = some 10) := by
  unfold Lib.hasSuffix
  by_cases h : l = []
  · subst h; rfl
  · rw [List.getLast?_eq_some_getLast h]
    conv => lhs; rw [← List.dropLast_concat_getLast h]
    by_cases e : l.getLast h = 10
    · rw [e]; simp
    · have : ([10] : List UInt8).isSuffixOf (l.dropLast ++ [l.getLast h]) = false := by
        rw [Bool.eq_false_iff]
        intro hs
        rw [List.isSuffixOf_iff_suffix] at hs
        obtain ⟨t, ht⟩ := hs
        have := congrArg List.getLast? ht
        simp at this
        exact e this.symm
      rw [this]; simp [e]
theorem lit_signs {k : Nat} (h : k ≤ 2) : ([TV.val (.string (str [32])), TV.val (.string (str [45])), TV.val (.string (str [43]))] : List TV)[k]? = some (ts (signOf k)) := by
  rcases (by omega : k = 0 ∨ k = 1 ∨ k = 2) with rfl | rfl | rfl <;> rfl
section
variable [K_internal_strconv_uint64pow10] [K_gitlike_diff_signs]
theorem signs_ev {e : Env} : (Opd.g 0).ev e = .fp (.arr 3 1 [.val (.string (str [32])), .val (.string (str [45])), .val (.string (str [43]))]) := by
  rw [ev_g, K_gitlike_diff_signs.k]; rfl
set_option maxRecDepth 100000 in
theorem writeV {m : List Ed} {a b : Nat} {H : List Ob} {l : List UInt8} {K : TV → List Ob → Prop} (O : BO H l) (hm : m.length ≤ 10000) (hk2 : ∀ e ∈ m, e.1 ≤ 2) (hm2 : ∀ e ∈ m, e.2.length ≤ 4000) (ha : a ≤ 10000) (hb : b ≤ 10000) (hlen : l.length ≤ 1000000000000)
    (hk : ∀ H', BO H' (l ++ headOf a (cA m) b (cB m) ++ m.flatMap lineOf) → H.length ≤ H'.length → K (.tup []) H') :
    VCalls Tryd.prog 58 [.agg [i64 (a : Int), i64 (b : Int), .sl 2 (m.map ed)], .op 0 0 []] H K := by
  refine go_diff_hunk_write (by simp) ?_
  have c1 := cA_le m
  have c2 := cB_le m
  have d0 := headP_len a (cA m) b (cB m)
  have d1 : (placeOf a (cA m)).length ≤ 50000 := by unfold headOf at d0; simp only [List.length_append] at d0; omega
  have d2 : (placeOf b (cB m)).length ≤ 50000 := by unfold headOf at d0; simp only [List.length_append] at d0; omega
  simp -dsimp (disch := first | assumption | omega | (simp only [List.length_set, List.length_append, List.length_cons, List.length_nil]; done) | (simp only [List.length_set, List.length_append, List.length_cons, List.length_nil]; omega)) only [↓vmPre, vmPost, vmWrd, vmDat, eq_self, forall_const, Nat.reduceLT, Nat.reduceEqDiff, Nat.reduceSub, Nat.reduceMul, Nat.reduceMod, Nat.reduceDiv, Nat.reducePow, UInt8.reduceToNat, Int.reduceEq, Int.reduceLT, Int.reduceLE, ↓reduceIte, Nat.reduceEqDiff, Nat.reduceAdd, Int.reduceToNat, reduceCtorEq, Nat.reduceLeDiff, ↓u_diff_hunk_write]
  refine (countsV m a b (by omega)).calls rfl ?_
  rintro _ rfl
  simp -dsimp (disch := first | assumption | omega | (simp only [List.length_set, List.length_append, List.length_cons, List.length_nil]; done) | (simp only [List.length_set, List.length_append, List.length_cons, List.length_nil]; omega)) only [↓vmPre, vmPost, vmWrd, vmDat, eq_self, forall_const, Nat.reduceLT, Nat.reduceEqDiff, Nat.reduceSub, Nat.reduceMul, Nat.reduceMod, Nat.reduceDiv, Nat.reducePow, UInt8.reduceToNat, Int.reduceEq, Int.reduceLT, Int.reduceLE, ↓reduceIte, Nat.reduceEqDiff, Nat.reduceAdd, Int.reduceToNat, reduceCtorEq, Nat.reduceLeDiff, ↓u_diff_hunk_write]
  refine vex_of (ts (placeOf a (cA m))) ⟨(placeV a (cA m) (by omega) (by omega)).calls rfl (fun r hr => ⟨hr, rfl⟩), ?_⟩
  simp -dsimp (disch := first | assumption | omega | (simp only [List.length_set, List.length_append, List.length_cons, List.length_nil]; done) | (simp only [List.length_set, List.length_append, List.length_cons, List.length_nil]; omega)) only [↓vmPre, vmPost, vmWrd, vmDat, eq_self, forall_const, Nat.reduceLT, Nat.reduceEqDiff, Nat.reduceSub, Nat.reduceMul, Nat.reduceMod, Nat.reduceDiv, Nat.reducePow, UInt8.reduceToNat, Int.reduceEq, Int.reduceLT, Int.reduceLE, ↓reduceIte, Nat.reduceEqDiff, Nat.reduceAdd, Int.reduceToNat, reduceCtorEq, Nat.reduceLeDiff, ↓u_diff_hunk_write, s_cat]
  refine (placeV b (cB m) (by omega) (by omega)).calls rfl ?_
  rintro _ rfl
  simp -dsimp (disch := first | assumption | omega | (simp only [List.length_set, List.length_append, List.length_cons, List.length_nil]; done) | (simp only [List.length_set, List.length_append, List.length_cons, List.length_nil]; omega)) only [↓vmPre, vmPost, vmWrd, vmDat, eq_self, forall_const, Nat.reduceLT, Nat.reduceEqDiff, Nat.reduceSub, Nat.reduceMul, Nat.reduceMod, Nat.reduceDiv, Nat.reducePow, UInt8.reduceToNat, Int.reduceEq, Int.reduceLT, Int.reduceLE, ↓reduceIte, Nat.reduceEqDiff, Nat.reduceAdd, Int.reduceToNat, reduceCtorEq, Nat.reduceLeDiff, ↓u_diff_hunk_write, s_cat]
  refine boV (O.keep _) (by simp only [List.length_append, List.length_cons, List.length_nil]; omega) (fun H1 O1 l1 f1 => ?_)
  have q1 := f1 H.length (by simp) (by have := O.len; omega)
  rw [List.getElem?_append_right (Nat.le_refl _), Nat.sub_self] at q1
  have q2 : H1[H.length]? = some (.obj 0 (.agg [i64 (a : Int), i64 (b : Int), .sl 2 (m.map ed)])) := q1
  rw [List.length_append] at l1
  simp -dsimp (disch := first | assumption | omega | (simp only [List.length_set, List.length_append, List.length_cons, List.length_nil]; done) | (simp only [List.length_set, List.length_append, List.length_cons, List.length_nil]; omega)) only [↓vmPre, vmPost, vmWrd, vmDat, eq_self, forall_const, Nat.reduceLT, Nat.reduceEqDiff, Nat.reduceSub, Nat.reduceMul, Nat.reduceMod, Nat.reduceDiv, Nat.reducePow, UInt8.reduceToNat, Int.reduceEq, Int.reduceLT, Int.reduceLE, ↓reduceIte, Nat.reduceEqDiff, Nat.reduceAdd, Int.reduceToNat, reduceCtorEq, Nat.reduceLeDiff, ↓u_diff_hunk_write, q2]
  have tl := textl_len m 4000 hm2
  have tl2 : m.length * (4000 + 30) ≤ 10000 * 4030 := Nat.mul_le_mul (by omega) (Nat.le_refl _)
  refine w_loop (fun q e H2 => ∃ i : Nat, q = m.length - i ∧ i ≤ m.length ∧ BO H2 (l ++ headOf a (cA m) b (cB m) ++ (m.take i).flatMap lineOf) ∧ H1.length ≤ H2.length ∧ e = [(1, .op 0 0 []), (28, .sl 2 (m.map ed)), (29, i64 (m.length : Int)), (30, i64 (i : Int))]) m.length ?_ ?_
  · exact ⟨0, rfl, by omega, by simpa [headOf] using O1, Nat.le_refl _, rfl⟩
  · rintro q e H2 ⟨i, rfl, hi, O2, l2, rfl⟩
    have tl3 : ((m.take i).flatMap lineOf).length ≤ 10000 * 4030 := by
      have t := textl_len (m.take i) 4000 fun e he => hm2 e (List.mem_of_mem_take he)
      have t2 : (m.take i).length * (4000 + 30) ≤ 10000 * 4030 := Nat.mul_le_mul (by simp; omega) (Nat.le_refl _)
      omega
    by_cases h : i < m.length
    · obtain ⟨x, hx⟩ : ∃ x, m[i]? = some x := ⟨_, List.getElem?_eq_getElem h⟩
      have hxm := List.mem_of_getElem? hx
      have x2 := hm2 x hxm
      have sg := lit_signs (hk2 x hxm)
      have sl : (signOf x.1).length = 1 := by unfold signOf; split <;> (try split) <;> rfl
      have hs : m.take (i + 1) = m.take i ++ [x] := by
        obtain ⟨_, rfl⟩ := List.getElem?_eq_some_iff.1 hx
        exact List.take_succ_eq_append_getElem h
      simp -dsimp (disch := first | assumption | omega | (simp only [List.length_set, List.length_append, List.length_cons, List.length_nil]; done) | (simp only [List.length_set, List.length_append, List.length_cons, List.length_nil]; omega)) only [↓vmPre, vmPost, vmWrd, vmDat, eq_self, forall_const, Nat.reduceLT, Nat.reduceEqDiff, Nat.reduceSub, Nat.reduceMul, Nat.reduceMod, Nat.reduceDiv, Nat.reducePow, UInt8.reduceToNat, Int.reduceEq, Int.reduceLT, Int.reduceLE, ↓reduceIte, Nat.reduceEqDiff, Nat.reduceAdd, Int.reduceToNat, reduceCtorEq, Nat.reduceLeDiff, ↓u_diff_hunk_write, hx, ed_is, width_ed, ↓signs_ev, sg, s_cat, sl]
      have l3 := O2.len
      have hb1 : (l ++ headOf a (cA m) b (cB m) ++ (m.take i).flatMap lineOf).length ≤ 1000000000000 + 100000 + 10000 * 4030 := by
        rw [List.length_append, List.length_append]; omega
      refine boV (O2.keep _) (by simp only [List.length_append] at hb1 ⊢; omega) (fun H3 O3 l4 f3 => ?_)
      have q3 := f3 H2.length (by simp) (by omega)
      rw [List.getElem?_append_right (Nat.le_refl _), Nat.sub_self] at q3
      have q4 : H3[H2.length]? = some (.obj 0 (.agg [i64 (x.1 : Int), ts x.2])) := q3
      rw [List.length_append] at l4
      simp -dsimp (disch := first | assumption | omega | (simp only [List.length_set, List.length_append, List.length_cons, List.length_nil]; done) | (simp only [List.length_set, List.length_append, List.length_cons, List.length_nil]; omega)) only [↓vmPre, vmPost, vmWrd, vmDat, eq_self, forall_const, Nat.reduceLT, Nat.reduceEqDiff, Nat.reduceSub, Nat.reduceMul, Nat.reduceMod, Nat.reduceDiv, Nat.reducePow, UInt8.reduceToNat, Int.reduceEq, Int.reduceLT, Int.reduceLE, ↓reduceIte, Nat.reduceEqDiff, Nat.reduceAdd, Int.reduceToNat, reduceCtorEq, Nat.reduceLeDiff, ↓u_diff_hunk_write, q4]
      refine (hasSuffixV x.2 [10] (by omega)).calls rfl ?_
      rintro _ rfl
      rw [hasSuf]
      have hfm : (m.take (i + 1)).flatMap lineOf = (m.take i).flatMap lineOf ++ lineOf x := by rw [hs, List.flatMap_append]; simp
      by_cases h10 : x.2.getLast? = some 10
      · simp -dsimp (disch := first | assumption | omega | (simp only [List.length_set, List.length_append, List.length_cons, List.length_nil]; done) | (simp only [List.length_set, List.length_append, List.length_cons, List.length_nil]; omega)) only [↓vmPre, vmPost, vmWrd, vmDat, eq_self, forall_const, Nat.reduceLT, Nat.reduceEqDiff, Nat.reduceSub, Nat.reduceMul, Nat.reduceMod, Nat.reduceDiv, Nat.reducePow, UInt8.reduceToNat, Int.reduceEq, Int.reduceLT, Int.reduceLE, ↓reduceIte, Nat.reduceEqDiff, Nat.reduceAdd, Int.reduceToNat, reduceCtorEq, Nat.reduceLeDiff, ↓u_diff_hunk_write, h10]
        refine Rnd_keep (m.length - (i + 1)) (by omega) (by omega) ⟨i + 1, rfl, by omega, ?_, by omega, rfl⟩
        rw [hfm, ← List.append_assoc]
        have e : lineOf x = signOf x.1 ++ x.2 := by unfold lineOf; rw [if_pos h10]; simp
        rw [e]; exact O3
      · simp -dsimp (disch := first | assumption | omega | (simp only [List.length_set, List.length_append, List.length_cons, List.length_nil]; done) | (simp only [List.length_set, List.length_append, List.length_cons, List.length_nil]; omega)) only [↓vmPre, vmPost, vmWrd, vmDat, eq_self, forall_const, Nat.reduceLT, Nat.reduceEqDiff, Nat.reduceSub, Nat.reduceMul, Nat.reduceMod, Nat.reduceDiv, Nat.reducePow, UInt8.reduceToNat, Int.reduceEq, Int.reduceLT, Int.reduceLE, ↓reduceIte, Nat.reduceEqDiff, Nat.reduceAdd, Int.reduceToNat, reduceCtorEq, Nat.reduceLeDiff, ↓u_diff_hunk_write, h10]
        refine boV (s := noEndT) O3 (by have : noEndT.length = 29 := rfl; simp only [List.length_append] at hb1 ⊢; omega) (fun H4 O4 l5 f4 => ?_)
        simp -dsimp (disch := first | assumption | omega | (simp only [List.length_set, List.length_append, List.length_cons, List.length_nil]; done) | (simp only [List.length_set, List.length_append, List.length_cons, List.length_nil]; omega)) only [↓vmPre, vmPost, vmWrd, vmDat, eq_self, forall_const, Nat.reduceLT, Nat.reduceEqDiff, Nat.reduceSub, Nat.reduceMul, Nat.reduceMod, Nat.reduceDiv, Nat.reducePow, UInt8.reduceToNat, Int.reduceEq, Int.reduceLT, Int.reduceLE, ↓reduceIte, Nat.reduceEqDiff, Nat.reduceAdd, Int.reduceToNat, reduceCtorEq, Nat.reduceLeDiff, ↓u_diff_hunk_write]
        refine Rnd_keep (m.length - (i + 1)) (by omega) (by omega) ⟨i + 1, rfl, by omega, ?_, by omega, rfl⟩
        rw [hfm, ← List.append_assoc]
        have e : lineOf x = signOf x.1 ++ x.2 ++ noEndT := by unfold lineOf; rw [if_neg h10]
        rw [e, ← List.append_assoc]; exact O4
    · obtain rfl : i = m.length := by omega
      rw [List.take_length] at O2
      simp -dsimp (disch := first | assumption | omega | (simp only [List.length_set, List.length_append, List.length_cons, List.length_nil]; done) | (simp only [List.length_set, List.length_append, List.length_cons, List.length_nil]; omega)) only [↓vmPre, vmPost, vmWrd, vmDat, eq_self, forall_const, Nat.reduceLT, Nat.reduceEqDiff, Nat.reduceSub, Nat.reduceMul, Nat.reduceMod, Nat.reduceDiv, Nat.reducePow, UInt8.reduceToNat, Int.reduceEq, Int.reduceLT, Int.reduceLE, ↓reduceIte, Nat.reduceEqDiff, Nat.reduceAdd, Int.reduceToNat, reduceCtorEq, Nat.reduceLeDiff, ↓u_diff_hunk_write]
      exact hk H2 O2 (by omega)
end
end Go.Proofs.YtijidndhlgbjhaaDoor
