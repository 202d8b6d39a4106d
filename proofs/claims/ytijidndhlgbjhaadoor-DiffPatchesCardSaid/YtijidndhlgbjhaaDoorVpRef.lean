/- The document's Patch. -/
import Derived.Test.YtijidndhlgbjhaaDoorVpPatch
import Derived.Test.YtijidndhlgbjhaaDoorVlRefS
namespace Go.Proofs.YtijidndhlgbjhaaDoor
open Go.RowKit
variable [Globs]
set_option linter.unusedSectionVars false
set_option linter.unusedVariables false
set_option linter.unusedSimpArgs false

theorem lastP {l : List UInt8} (h : l ≠ []) : ∃ c : UInt8, l[l.length - 1]? = some c ∧ l.getLast? = some c := by
  refine ⟨l.getLast h, ?_, List.getLast?_eq_some_getLast h⟩
  have : 0 < l.length := List.length_pos_iff.2 h
  rw [List.getElem?_eq_getElem (by omega), List.getLast_eq_getElem]
set_option maxRecDepth 100000 in
theorem refLineV (x : Ed) (h1 : x.1 ≤ 2) (h2 : x.2.length ≤ 4000) (h3 : x.2 ≠ []) : VPure Tryd.prog 61 [ed x] (fun r => r = ts (lineOf x)) := by
  refine VCalls.toPureV (go_ref10_line (by simp) ?_)
  obtain ⟨c, hc1, hc2⟩ := lastP h3
  have hpos : 0 < x.2.length := List.length_pos_iff.2 h3
  have hno : noEndT.length = 29 := rfl
  have e29 : (str [10, 92, 32, 78, 111, 32, 110, 101, 119, 108, 105, 110, 101, 32, 97, 116, 32, 101, 110, 100, 32, 111, 102, 32, 102, 105, 108, 101, 10]) = str noEndT := rfl
  obtain ⟨k, s⟩ := x
  simp only at h1 h2 h3 hc1 hc2 hpos
  have hl : lineOf (k, s) = signOf k ++ s ++ (if c = 10 then [] else noEndT) := by
    unfold lineOf; simp only [hc2, Option.some.injEq]
  rw [hl]
  rcases (by omega : k = 0 ∨ k = 1 ∨ k = 2) with rfl | rfl | rfl
  all_goals
    by_cases h10 : c = 10
    · subst h10
      simp -dsimp (disch := first | assumption | omega | (simp only [List.length_set, List.length_append, List.length_cons, List.length_nil]; done) | (simp only [List.length_set, List.length_append, List.length_cons, List.length_nil]; omega)) only [↓vmPre, vmPost, vmWrd, vmDat, eq_self, forall_const, Nat.reduceLT, Nat.reduceEqDiff, Nat.reduceSub, Nat.reduceMul, Nat.reduceMod, Nat.reduceDiv, Nat.reducePow, UInt8.reduceToNat, Int.reduceEq, Int.reduceLT, Int.reduceLE, ↓reduceIte, Nat.reduceEqDiff, Nat.reduceAdd, Int.reduceToNat, reduceCtorEq, Nat.reduceLeDiff, ↓u_ref10_line, ed_is, s_cat, bl_strN, hc1]
      simp [signOf]
    · have h10' : ¬ c.toNat = 10 := fun e => h10 (UInt8.toNat_inj.1 e)
      simp -dsimp (disch := first | assumption | omega | (simp only [List.length_set, List.length_append, List.length_cons, List.length_nil]; done) | (simp only [List.length_set, List.length_append, List.length_cons, List.length_nil]; omega)) only [↓vmPre, vmPost, vmWrd, vmDat, eq_self, forall_const, Nat.reduceLT, Nat.reduceEqDiff, Nat.reduceSub, Nat.reduceMul, Nat.reduceMod, Nat.reduceDiv, Nat.reducePow, UInt8.reduceToNat, Int.reduceEq, Int.reduceLT, Int.reduceLE, ↓reduceIte, Nat.reduceEqDiff, Nat.reduceAdd, Int.reduceToNat, reduceCtorEq, Nat.reduceLeDiff, ↓u_ref10_line, ed_is, s_cat, bl_strN, hc1, h10', e29, hno]
      simp [signOf]
theorem midC {E : List Ed} {a b : Nat} (h : b ≤ E.length) : cA (midP E (a, b)) ≤ E.length ∧ cB (midP E (a, b)) ≤ E.length :=
  ⟨Nat.le_trans (cA_le _) mid_len, Nat.le_trans (cB_le _) mid_len⟩
theorem midT {E : List Ed} {a b : Nat} (hE : E.length ≤ 8000) (hE2 : ∀ e ∈ E, e.1 ≤ 2 ∧ e.2.length ≤ 4000 ∧ e.2 ≠ []) : ((midP E (a, b)).flatMap lineOf).length ≤ 10000 * 4030 := by
  have t := textl_len (midP E (a, b)) 4000 fun e he => (hE2 e (mid_mem he)).2.1
  have t1 : (midP E (a, b)).length ≤ E.length := mid_len
  exact Nat.le_trans t (Nat.mul_le_mul (Nat.le_trans t1 (Nat.le_trans hE (by decide))) (by decide))
section
variable {E : List Ed} (hE : E.length ≤ 8000) (hE2 : ∀ e ∈ E, e.1 ≤ 2 ∧ e.2.length ≤ 4000 ∧ e.2 ≠ [])
include hE hE2
/-- A hunk's text. -/
theorem refT4 {c i fr en : Nat} {out : List UInt8} {lv : TV} {r : Env} {Q : VEx → Env → List Ob → Prop} (h1 : fr ≤ i) (h2 : i ≤ E.length) (h3 : fr ≤ en) (h4 : en ≤ E.length) (ho : out.length ≤ 1000000000000)
    (hQ : Q .nor [(2, i64 (c : Int)), (7, .sl 2 (E.map ed)), (8, ts (out ++ hunkText E (fr, en))), (9, i64 (cA (E.take en) : Int)), (10, i64 (cB (E.take en) : Int)), (11, i64 (en : Int))] []) :
    vwp Tryd.prog c_ref10_Patch_k17 Q ((2, i64 (c : Int)) :: (7, .sl 2 (E.map ed)) :: (8, ts out) :: (9, i64 ((cA (E.take fr) + (i - fr) : Nat) : Int)) :: (10, i64 ((cB (E.take fr) + (i - fr) : Nat) : Int)) :: (11, i64 (i : Int)) :: (12, i64 (fr : Int)) :: (13, lv) :: (15, i64 (en : Int)) :: r) [] := by
  have g1 := cA_le (E.take fr)
  have g2 := cB_le (E.take fr)
  have g3 : (E.take fr).length ≤ E.length := by simp; omega
  simp -dsimp (disch := first | assumption | omega | (simp only [List.length_set, List.length_append, List.length_cons, List.length_nil]; done) | (simp only [List.length_set, List.length_append, List.length_cons, List.length_nil]; omega)) only [↓vmPre, vmPost, vmWrd, vmDat, eq_self, forall_const, Nat.reduceLT, Nat.reduceEqDiff, Nat.reduceSub, Nat.reduceMul, Nat.reduceMod, Nat.reduceDiv, Nat.reducePow, UInt8.reduceToNat, Int.reduceEq, Int.reduceLT, Int.reduceLE, ↓reduceIte, Nat.reduceEqDiff, Nat.reduceAdd, Int.reduceToNat, reduceCtorEq, Nat.reduceLeDiff, ↓u_ref10_Patch]
  refine w_loop (fun q e H => ∃ k : Nat, q = en - k ∧ fr ≤ k ∧ k ≤ en ∧ e = [(2, i64 (c : Int)), (7, .sl 2 (E.map ed)), (8, ts out), (9, i64 ((cA (E.take fr) + (i - fr) : Nat) : Int)), (10, i64 ((cB (E.take fr) + (i - fr) : Nat) : Int)), (11, i64 (i : Int)), (12, i64 (fr : Int)), (15, i64 (en : Int)),
      (16, i64 (cA (midP E (fr, k)) : Int)), (17, i64 (cB (midP E (fr, k)) : Int)), (18, ts ((midP E (fr, k)).flatMap lineOf)), (19, i64 (k : Int))] ∧ H = []) (en - fr) ?_ ?_
  · exact ⟨fr, rfl, Nat.le_refl _, h3, by rw [mid_same]; rfl, rfl⟩
  · rintro q e H ⟨k, rfl, hk1, hk2, rfl, rfl⟩
    obtain ⟨m1, m2⟩ := midC (E := E) (a := fr) (b := k) (by omega)
    have m3 := midT (a := fr) (b := k) hE hE2
    by_cases h : k < en
    · obtain ⟨x, hx⟩ : ∃ x, E[k]? = some x := ⟨_, List.getElem?_eq_getElem (by omega)⟩
      obtain ⟨x1, x2, x3⟩ := hE2 x (List.mem_of_getElem? hx)
      have ms := mid_succ hk1 hx
      have c1 := cA_app (midP E (fr, k)) [x]
      have c2 := cB_app (midP E (fr, k)) [x]
      rw [← ms, cA_one] at c1
      rw [← ms, cB_one] at c2
      have ll := lineP_len x
      have fm : (midP E (fr, k + 1)).flatMap lineOf = (midP E (fr, k)).flatMap lineOf ++ lineOf x := by rw [ms, List.flatMap_append]; simp
      have hrl := refLineV x x1 x2 x3
      rw [ed_is] at hrl
      by_cases k2 : x.1 = 2
      · have k1 : ¬ x.1 = 1 := by omega
        rw [if_pos k2] at c1; rw [if_neg k1] at c2
        simp -dsimp (disch := first | assumption | omega | (simp only [List.length_set, List.length_append, List.length_cons, List.length_nil]; done) | (simp only [List.length_set, List.length_append, List.length_cons, List.length_nil]; omega)) only [↓vmPre, vmPost, vmWrd, vmDat, eq_self, forall_const, Nat.reduceLT, Nat.reduceEqDiff, Nat.reduceSub, Nat.reduceMul, Nat.reduceMod, Nat.reduceDiv, Nat.reducePow, UInt8.reduceToNat, Int.reduceEq, Int.reduceLT, Int.reduceLE, ↓reduceIte, Nat.reduceEqDiff, Nat.reduceAdd, Int.reduceToNat, reduceCtorEq, Nat.reduceLeDiff, ↓u_ref10_Patch, hx, ed_is]
        refine hrl.calls rfl ?_
        rintro _ rfl
        simp -dsimp (disch := first | assumption | omega | (simp only [List.length_set, List.length_append, List.length_cons, List.length_nil]; done) | (simp only [List.length_set, List.length_append, List.length_cons, List.length_nil]; omega)) only [↓vmPre, vmPost, vmWrd, vmDat, eq_self, forall_const, Nat.reduceLT, Nat.reduceEqDiff, Nat.reduceSub, Nat.reduceMul, Nat.reduceMod, Nat.reduceDiv, Nat.reducePow, UInt8.reduceToNat, Int.reduceEq, Int.reduceLT, Int.reduceLE, ↓reduceIte, Nat.reduceEqDiff, Nat.reduceAdd, Int.reduceToNat, reduceCtorEq, Nat.reduceLeDiff, ↓u_ref10_Patch, s_cat]
        exact Rnd_keep (en - (k + 1)) (by omega) (by simp) ⟨k + 1, rfl, by omega, by omega, by rw [c1, c2, fm]; rfl, rfl⟩
      · rw [if_neg k2] at c1
        by_cases k1 : x.1 = 1
        · rw [if_pos k1] at c2
          simp -dsimp (disch := first | assumption | omega | (simp only [List.length_set, List.length_append, List.length_cons, List.length_nil]; done) | (simp only [List.length_set, List.length_append, List.length_cons, List.length_nil]; omega)) only [↓vmPre, vmPost, vmWrd, vmDat, eq_self, forall_const, Nat.reduceLT, Nat.reduceEqDiff, Nat.reduceSub, Nat.reduceMul, Nat.reduceMod, Nat.reduceDiv, Nat.reducePow, UInt8.reduceToNat, Int.reduceEq, Int.reduceLT, Int.reduceLE, ↓reduceIte, Nat.reduceEqDiff, Nat.reduceAdd, Int.reduceToNat, reduceCtorEq, Nat.reduceLeDiff, ↓u_ref10_Patch, hx, ed_is]
          refine hrl.calls rfl ?_
          rintro _ rfl
          simp -dsimp (disch := first | assumption | omega | (simp only [List.length_set, List.length_append, List.length_cons, List.length_nil]; done) | (simp only [List.length_set, List.length_append, List.length_cons, List.length_nil]; omega)) only [↓vmPre, vmPost, vmWrd, vmDat, eq_self, forall_const, Nat.reduceLT, Nat.reduceEqDiff, Nat.reduceSub, Nat.reduceMul, Nat.reduceMod, Nat.reduceDiv, Nat.reducePow, UInt8.reduceToNat, Int.reduceEq, Int.reduceLT, Int.reduceLE, ↓reduceIte, Nat.reduceEqDiff, Nat.reduceAdd, Int.reduceToNat, reduceCtorEq, Nat.reduceLeDiff, ↓u_ref10_Patch, s_cat]
          exact Rnd_keep (en - (k + 1)) (by omega) (by simp) ⟨k + 1, rfl, by omega, by omega, by rw [c1, c2, fm]; rfl, rfl⟩
        · rw [if_neg k1] at c2
          simp -dsimp (disch := first | assumption | omega | (simp only [List.length_set, List.length_append, List.length_cons, List.length_nil]; done) | (simp only [List.length_set, List.length_append, List.length_cons, List.length_nil]; omega)) only [↓vmPre, vmPost, vmWrd, vmDat, eq_self, forall_const, Nat.reduceLT, Nat.reduceEqDiff, Nat.reduceSub, Nat.reduceMul, Nat.reduceMod, Nat.reduceDiv, Nat.reducePow, UInt8.reduceToNat, Int.reduceEq, Int.reduceLT, Int.reduceLE, ↓reduceIte, Nat.reduceEqDiff, Nat.reduceAdd, Int.reduceToNat, reduceCtorEq, Nat.reduceLeDiff, ↓u_ref10_Patch, hx, ed_is]
          refine hrl.calls rfl ?_
          rintro _ rfl
          simp -dsimp (disch := first | assumption | omega | (simp only [List.length_set, List.length_append, List.length_cons, List.length_nil]; done) | (simp only [List.length_set, List.length_append, List.length_cons, List.length_nil]; omega)) only [↓vmPre, vmPost, vmWrd, vmDat, eq_self, forall_const, Nat.reduceLT, Nat.reduceEqDiff, Nat.reduceSub, Nat.reduceMul, Nat.reduceMod, Nat.reduceDiv, Nat.reducePow, UInt8.reduceToNat, Int.reduceEq, Int.reduceLT, Int.reduceLE, ↓reduceIte, Nat.reduceEqDiff, Nat.reduceAdd, Int.reduceToNat, reduceCtorEq, Nat.reduceLeDiff, ↓u_ref10_Patch, s_cat]
          exact Rnd_keep (en - (k + 1)) (by omega) (by simp) ⟨k + 1, rfl, by omega, by omega, by rw [c1, c2, fm]; rfl, rfl⟩
    · obtain rfl : k = en := by omega
      simp -dsimp (disch := first | assumption | omega | (simp only [List.length_set, List.length_append, List.length_cons, List.length_nil]; done) | (simp only [List.length_set, List.length_append, List.length_cons, List.length_nil]; omega)) only [↓vmPre, vmPost, vmWrd, vmDat, eq_self, forall_const, Nat.reduceLT, Nat.reduceEqDiff, Nat.reduceSub, Nat.reduceMul, Nat.reduceMod, Nat.reduceDiv, Nat.reducePow, UInt8.reduceToNat, Int.reduceEq, Int.reduceLT, Int.reduceLE, ↓reduceIte, Nat.reduceEqDiff, Nat.reduceAdd, Int.reduceToNat, reduceCtorEq, Nat.reduceLeDiff, ↓u_ref10_Patch, s_cat]
      have d0 := headP_len (cA (E.take fr)) (cA (midP E (fr, k))) (cB (E.take fr)) (cB (midP E (fr, k)))
      have d1 : (placeOf (cA (E.take fr)) (cA (midP E (fr, k)))).length ≤ 50000 := by unfold headOf at d0; simp only [List.length_append] at d0; omega
      have d2 : (placeOf (cB (E.take fr)) (cB (midP E (fr, k)))).length ≤ 50000 := by unfold headOf at d0; simp only [List.length_append] at d0; omega
      refine (numbersV (cA (E.take fr)) (cA (midP E (fr, k))) (by omega) (by omega)).calls rfl ?_
      rintro _ rfl
      simp -dsimp (disch := first | assumption | omega | (simp only [List.length_set, List.length_append, List.length_cons, List.length_nil]; done) | (simp only [List.length_set, List.length_append, List.length_cons, List.length_nil]; omega)) only [↓vmPre, vmPost, vmWrd, vmDat, eq_self, forall_const, Nat.reduceLT, Nat.reduceEqDiff, Nat.reduceSub, Nat.reduceMul, Nat.reduceMod, Nat.reduceDiv, Nat.reducePow, UInt8.reduceToNat, Int.reduceEq, Int.reduceLT, Int.reduceLE, ↓reduceIte, Nat.reduceEqDiff, Nat.reduceAdd, Int.reduceToNat, reduceCtorEq, Nat.reduceLeDiff, ↓u_ref10_Patch, s_cat]
      refine (numbersV (cB (E.take fr)) (cB (midP E (fr, k))) (by omega) (by omega)).calls rfl ?_
      rintro _ rfl
      simp -dsimp (disch := first | assumption | omega | (simp only [List.length_set, List.length_append, List.length_cons, List.length_nil]; done) | (simp only [List.length_set, List.length_append, List.length_cons, List.length_nil]; omega)) only [↓vmPre, vmPost, vmWrd, vmDat, eq_self, forall_const, Nat.reduceLT, Nat.reduceEqDiff, Nat.reduceSub, Nat.reduceMul, Nat.reduceMod, Nat.reduceDiv, Nat.reducePow, UInt8.reduceToNat, Int.reduceEq, Int.reduceLT, Int.reduceLE, ↓reduceIte, Nat.reduceEqDiff, Nat.reduceAdd, Int.reduceToNat, reduceCtorEq, Nat.reduceLeDiff, ↓u_ref10_Patch, s_cat]
      have e1 := cA_mid (E := E) h3
      have e2 := cB_mid (E := E) h3
      rw [e1, e2] at hQ
      have e3 : hunkText E (fr, k) = [64, 64, 32, 45] ++ placeOf (cA (E.take fr)) (cA (midP E (fr, k))) ++ [32, 43] ++ placeOf (cB (E.take fr)) (cB (midP E (fr, k))) ++ [32, 64, 64, 10] ++ (midP E (fr, k)).flatMap lineOf := rfl
      rw [e3] at hQ
      simpa using hQ
/-- Where a hunk ends. -/
theorem refT3 {c i fr la : Nat} {out : List UInt8} {r : Env} {Q : VEx → Env → List Ob → Prop} (hc : c ≤ 1000) (h1 : fr ≤ i) (h2 : i ≤ la) (h3 : la < E.length) (hn : ∀ y ∈ chs (la + 1) (E.drop (la + 1)), la + 2 * c + 1 < y) (ho : out.length ≤ 1000000000000)
    (hQ : Q .nor [(2, i64 (c : Int)), (7, .sl 2 (E.map ed)), (8, ts (out ++ hunkText E (fr, min E.length (la + 1 + c)))), (9, i64 (cA (E.take (min E.length (la + 1 + c))) : Int)), (10, i64 (cB (E.take (min E.length (la + 1 + c))) : Int)), (11, i64 ((min E.length (la + 1 + c) : Nat) : Int))] []) :
    vwp Tryd.prog c_ref10_Patch_k19 Q ((2, i64 (c : Int)) :: (7, .sl 2 (E.map ed)) :: (8, ts out) :: (9, i64 ((cA (E.take fr) + (i - fr) : Nat) : Int)) :: (10, i64 ((cB (E.take fr) + (i - fr) : Nat) : Int)) :: (11, i64 (i : Int)) :: (12, i64 (fr : Int)) :: (13, i64 (la : Int)) :: r) [] := by
  simp -dsimp (disch := first | assumption | omega | (simp only [List.length_set, List.length_append, List.length_cons, List.length_nil]; done) | (simp only [List.length_set, List.length_append, List.length_cons, List.length_nil]; omega)) only [↓vmPre, vmPost, vmWrd, vmDat, eq_self, forall_const, Nat.reduceLT, Nat.reduceEqDiff, Nat.reduceSub, Nat.reduceMul, Nat.reduceMod, Nat.reduceDiv, Nat.reducePow, UInt8.reduceToNat, Int.reduceEq, Int.reduceLT, Int.reduceLE, ↓reduceIte, Nat.reduceEqDiff, Nat.reduceAdd, Int.reduceToNat, reduceCtorEq, Nat.reduceLeDiff, ↓u_ref10_Patch_k19_e, ↓u_ref10_Patch_k18_e]
  refine w_loop (fun q e H => ∃ k : Nat, q = E.length - k ∧ la + 1 ≤ k ∧ k ≤ min E.length (la + 1 + c) ∧ e = [(2, i64 (c : Int)), (7, .sl 2 (E.map ed)), (8, ts out), (9, i64 ((cA (E.take fr) + (i - fr) : Nat) : Int)), (10, i64 ((cB (E.take fr) + (i - fr) : Nat) : Int)), (11, i64 (i : Int)), (12, i64 (fr : Int)), (13, i64 (la : Int)), (15, i64 (k : Int))] ∧ H = []) (E.length - (la + 1)) ?_ ?_
  · exact ⟨la + 1, rfl, Nat.le_refl _, by omega, rfl, rfl⟩
  · rintro q e H ⟨k, rfl, hk1, hk2, rfl, rfl⟩
    by_cases h : k < E.length
    · by_cases hkc : k - la ≤ c
      · obtain ⟨x, hx⟩ : ∃ x, E[k]? = some x := ⟨_, List.getElem?_eq_getElem h⟩
        have x0 : x.1 = 0 := chs_no (a := la + 1) hk1 hx fun y hy => by have := hn y hy; omega
        simp -dsimp (disch := first | assumption | omega | (simp only [List.length_set, List.length_append, List.length_cons, List.length_nil]; done) | (simp only [List.length_set, List.length_append, List.length_cons, List.length_nil]; omega)) only [↓vmPre, vmPost, vmWrd, vmDat, eq_self, forall_const, Nat.reduceLT, Nat.reduceEqDiff, Nat.reduceSub, Nat.reduceMul, Nat.reduceMod, Nat.reduceDiv, Nat.reducePow, UInt8.reduceToNat, Int.reduceEq, Int.reduceLT, Int.reduceLE, ↓reduceIte, Nat.reduceEqDiff, Nat.reduceAdd, Int.reduceToNat, reduceCtorEq, Nat.reduceLeDiff, ↓u_ref10_Patch_L6_e, hx, ed_is, x0]
        exact Rnd_keep (E.length - (k + 1)) (by omega) (by simp) ⟨k + 1, rfl, by omega, by omega, rfl, rfl⟩
      · have e : min E.length (la + 1 + c) = k := by omega
        rw [e] at hQ
        simp -dsimp (disch := first | assumption | omega | (simp only [List.length_set, List.length_append, List.length_cons, List.length_nil]; done) | (simp only [List.length_set, List.length_append, List.length_cons, List.length_nil]; omega)) only [↓vmPre, vmPost, vmWrd, vmDat, eq_self, forall_const, Nat.reduceLT, Nat.reduceEqDiff, Nat.reduceSub, Nat.reduceMul, Nat.reduceMod, Nat.reduceDiv, Nat.reducePow, UInt8.reduceToNat, Int.reduceEq, Int.reduceLT, Int.reduceLE, ↓reduceIte, Nat.reduceEqDiff, Nat.reduceAdd, Int.reduceToNat, reduceCtorEq, Nat.reduceLeDiff, ↓u_ref10_Patch_L6_e]
        exact refT4 hE hE2 h1 (by omega) (by omega) (by omega) ho hQ
    · have e : min E.length (la + 1 + c) = k := by omega
      rw [e] at hQ
      simp -dsimp (disch := first | assumption | omega | (simp only [List.length_set, List.length_append, List.length_cons, List.length_nil]; done) | (simp only [List.length_set, List.length_append, List.length_cons, List.length_nil]; omega)) only [↓vmPre, vmPost, vmWrd, vmDat, eq_self, forall_const, Nat.reduceLT, Nat.reduceEqDiff, Nat.reduceSub, Nat.reduceMul, Nat.reduceMod, Nat.reduceDiv, Nat.reducePow, UInt8.reduceToNat, Int.reduceEq, Int.reduceLT, Int.reduceLE, ↓reduceIte, Nat.reduceEqDiff, Nat.reduceAdd, Int.reduceToNat, reduceCtorEq, Nat.reduceLeDiff, ↓u_ref10_Patch_L6_e]
      exact refT4 hE hE2 h1 (by omega) (by omega) (by omega) ho hQ
/-- Its last change. -/
theorem refT2 {c i fr : Nat} {x : Ed} {out : List UInt8} {r : Env} {Q : VEx → Env → List Ob → Prop} (hc : c ≤ 1000) (h1 : fr ≤ i) (hx : E[i]? = some x) (hx0 : x.1 ≠ 0) (ho : out.length ≤ 1000000000000)
    (hQ : ∀ la, run c i (chs (i + 1) (E.drop (i + 1))) = (la, chs (la + 1) (E.drop (la + 1))) → i ≤ la → la < E.length → (∀ y ∈ chs (la + 1) (E.drop (la + 1)), la + 2 * c + 1 < y) →
      Q .nor [(2, i64 (c : Int)), (7, .sl 2 (E.map ed)), (8, ts (out ++ hunkText E (fr, min E.length (la + 1 + c)))), (9, i64 (cA (E.take (min E.length (la + 1 + c))) : Int)), (10, i64 (cB (E.take (min E.length (la + 1 + c))) : Int)), (11, i64 ((min E.length (la + 1 + c) : Nat) : Int))] []) :
    vwp Tryd.prog c_ref10_Patch_k21 Q ((2, i64 (c : Int)) :: (7, .sl 2 (E.map ed)) :: (8, ts out) :: (9, i64 ((cA (E.take fr) + (i - fr) : Nat) : Int)) :: (10, i64 ((cB (E.take fr) + (i - fr) : Nat) : Int)) :: (11, i64 (i : Int)) :: (12, i64 (fr : Int)) :: r) [] := by
  have hi := (List.getElem?_eq_some_iff.1 hx).1
  obtain ⟨l, hl1, hl2, hl3, hl4⟩ := runs_spec (E := E) (c := c) hi
  replace hQ := hQ l hl1 hl2 hl3 hl4
  simp -dsimp (disch := first | assumption | omega | (simp only [List.length_set, List.length_append, List.length_cons, List.length_nil]; done) | (simp only [List.length_set, List.length_append, List.length_cons, List.length_nil]; omega)) only [↓vmPre, vmPost, vmWrd, vmDat, eq_self, forall_const, Nat.reduceLT, Nat.reduceEqDiff, Nat.reduceSub, Nat.reduceMul, Nat.reduceMod, Nat.reduceDiv, Nat.reducePow, UInt8.reduceToNat, Int.reduceEq, Int.reduceLT, Int.reduceLE, ↓reduceIte, Nat.reduceEqDiff, Nat.reduceAdd, Int.reduceToNat, reduceCtorEq, Nat.reduceLeDiff, ↓u_ref10_Patch_k21_e, ↓u_ref10_Patch_k20_e, ↓u_ref10_Patch_k5_e]
  refine w_loop (fun q e H => ∃ la k : Nat, q = E.length - k ∧ i ≤ la ∧ la ≤ k ∧ k ≤ E.length ∧ la < E.length ∧ run c i (chs (i + 1) (E.drop (i + 1))) = run c la (chs k (E.drop k)) ∧
      e = [(2, i64 (c : Int)), (7, .sl 2 (E.map ed)), (8, ts out), (9, i64 ((cA (E.take fr) + (i - fr) : Nat) : Int)), (10, i64 ((cB (E.take fr) + (i - fr) : Nat) : Int)), (11, i64 (i : Int)), (12, i64 (fr : Int)), (13, i64 (la : Int)), (14, i64 (k : Int))] ∧ H = []) (E.length - i) ?_ ?_
  · exact ⟨i, i, rfl, Nat.le_refl _, Nat.le_refl _, by omega, hi, by rw [chs_ch hx hx0, run, if_pos (by omega)], rfl, rfl⟩
  · rintro q e H ⟨la, k, rfl, hla, hk1, hk2, hk3, hrun, rfl, rfl⟩
    by_cases h : k < E.length
    · obtain ⟨y, hy⟩ : ∃ y, E[k]? = some y := ⟨_, List.getElem?_eq_getElem h⟩
      by_cases hkc : k - la ≤ 2 * c + 1
      · by_cases hy0 : y.1 = 0
        · simp -dsimp (disch := first | assumption | omega | (simp only [List.length_set, List.length_append, List.length_cons, List.length_nil]; done) | (simp only [List.length_set, List.length_append, List.length_cons, List.length_nil]; omega)) only [↓vmPre, vmPost, vmWrd, vmDat, eq_self, forall_const, Nat.reduceLT, Nat.reduceEqDiff, Nat.reduceSub, Nat.reduceMul, Nat.reduceMod, Nat.reduceDiv, Nat.reducePow, UInt8.reduceToNat, Int.reduceEq, Int.reduceLT, Int.reduceLE, ↓reduceIte, Nat.reduceEqDiff, Nat.reduceAdd, Int.reduceToNat, reduceCtorEq, Nat.reduceLeDiff, ↓u_ref10_Patch_L4_e, ↓u_ref10_Patch_k3_e, hy, ed_is, hy0]
          exact Rnd_keep (E.length - (k + 1)) (by omega) (by simp) ⟨la, k + 1, rfl, hla, by omega, by omega, hk3, by rw [hrun, chs_keep hy hy0], rfl, rfl⟩
        · have hr : run c la (chs k (E.drop k)) = run c k (chs (k + 1) (E.drop (k + 1))) := by rw [chs_ch hy hy0, run, if_pos (by omega)]
          by_cases hkl : k = la
          · subst hkl
            simp -dsimp (disch := first | assumption | omega | (simp only [List.length_set, List.length_append, List.length_cons, List.length_nil]; done) | (simp only [List.length_set, List.length_append, List.length_cons, List.length_nil]; omega)) only [↓vmPre, vmPost, vmWrd, vmDat, eq_self, forall_const, Nat.reduceLT, Nat.reduceEqDiff, Nat.reduceSub, Nat.reduceMul, Nat.reduceMod, Nat.reduceDiv, Nat.reducePow, UInt8.reduceToNat, Int.reduceEq, Int.reduceLT, Int.reduceLE, ↓reduceIte, Nat.reduceEqDiff, Nat.reduceAdd, Int.reduceToNat, reduceCtorEq, Nat.reduceLeDiff, ↓u_ref10_Patch_L4_e, ↓u_ref10_Patch_k3_e, hy, ed_is, hy0]
            exact Rnd_keep (E.length - (k + 1)) (by omega) (by simp) ⟨k, k + 1, rfl, hla, by omega, by omega, h, by rw [hrun, hr], rfl, rfl⟩
          · simp -dsimp (disch := first | assumption | omega | (simp only [List.length_set, List.length_append, List.length_cons, List.length_nil]; done) | (simp only [List.length_set, List.length_append, List.length_cons, List.length_nil]; omega)) only [↓vmPre, vmPost, vmWrd, vmDat, eq_self, forall_const, Nat.reduceLT, Nat.reduceEqDiff, Nat.reduceSub, Nat.reduceMul, Nat.reduceMod, Nat.reduceDiv, Nat.reducePow, UInt8.reduceToNat, Int.reduceEq, Int.reduceLT, Int.reduceLE, ↓reduceIte, Nat.reduceEqDiff, Nat.reduceAdd, Int.reduceToNat, reduceCtorEq, Nat.reduceLeDiff, ↓u_ref10_Patch_L4_e, ↓u_ref10_Patch_k3_e, hy, ed_is, hy0]
            exact Rnd_keep (E.length - (k + 1)) (by omega) (by simp) ⟨k, k + 1, rfl, by omega, by omega, by omega, h, by rw [hrun, hr], rfl, rfl⟩
      · have hst : run c la (chs k (E.drop k)) = (la, chs k (E.drop k)) := runs_stop fun z hz => by
          have := (chs_ge _ _ _ (List.mem_of_getElem? hz)).1; omega
        have e : l = la := by rw [hl1, hst] at hrun; exact (Prod.mk.inj hrun).1
        subst e
        simp -dsimp (disch := first | assumption | omega | (simp only [List.length_set, List.length_append, List.length_cons, List.length_nil]; done) | (simp only [List.length_set, List.length_append, List.length_cons, List.length_nil]; omega)) only [↓vmPre, vmPost, vmWrd, vmDat, eq_self, forall_const, Nat.reduceLT, Nat.reduceEqDiff, Nat.reduceSub, Nat.reduceMul, Nat.reduceMod, Nat.reduceDiv, Nat.reducePow, UInt8.reduceToNat, Int.reduceEq, Int.reduceLT, Int.reduceLE, ↓reduceIte, Nat.reduceEqDiff, Nat.reduceAdd, Int.reduceToNat, reduceCtorEq, Nat.reduceLeDiff, ↓u_ref10_Patch_L4_e]
        exact refT3 hE hE2 hc h1 hla hk3 hl4 ho hQ
    · have hst : run c la (chs k (E.drop k)) = (la, chs k (E.drop k)) := by rw [chs_end (by omega), run]
      have e : l = la := by rw [hl1, hst] at hrun; exact (Prod.mk.inj hrun).1
      subst e
      simp -dsimp (disch := first | assumption | omega | (simp only [List.length_set, List.length_append, List.length_cons, List.length_nil]; done) | (simp only [List.length_set, List.length_append, List.length_cons, List.length_nil]; omega)) only [↓vmPre, vmPost, vmWrd, vmDat, eq_self, forall_const, Nat.reduceLT, Nat.reduceEqDiff, Nat.reduceSub, Nat.reduceMul, Nat.reduceMod, Nat.reduceDiv, Nat.reducePow, UInt8.reduceToNat, Int.reduceEq, Int.reduceLT, Int.reduceLE, ↓reduceIte, Nat.reduceEqDiff, Nat.reduceAdd, Int.reduceToNat, reduceCtorEq, Nat.reduceLeDiff, ↓u_ref10_Patch_L4_e]
      exact refT3 hE hE2 hc h1 hla hk3 hl4 ho hQ
/-- Where it begins. -/
theorem refT1 {c i : Nat} {x : Ed} {out : List UInt8} {r : Env} {Q : VEx → Env → List Ob → Prop} (hc : c ≤ 1000) (hf : Far E c i) (hx : E[i]? = some x) (hx0 : x.1 ≠ 0) (ho : out.length ≤ 1000000000000)
    (hQ : ∀ la, run c i (chs (i + 1) (E.drop (i + 1))) = (la, chs (la + 1) (E.drop (la + 1))) → i ≤ la → la < E.length → (∀ y ∈ chs (la + 1) (E.drop (la + 1)), la + 2 * c + 1 < y) →
      Q .nor [(2, i64 (c : Int)), (7, .sl 2 (E.map ed)), (8, ts (out ++ hunkText E (i - c, min E.length (la + 1 + c)))), (9, i64 (cA (E.take (min E.length (la + 1 + c))) : Int)), (10, i64 (cB (E.take (min E.length (la + 1 + c))) : Int)), (11, i64 ((min E.length (la + 1 + c) : Nat) : Int))] []) :
    vwp Tryd.prog c_ref10_Patch_k23 Q ((2, i64 (c : Int)) :: (7, .sl 2 (E.map ed)) :: (8, ts out) :: (9, i64 (cA (E.take i) : Int)) :: (10, i64 (cB (E.take i) : Int)) :: (11, i64 (i : Int)) :: r) [] := by
  have hi := (List.getElem?_eq_some_iff.1 hx).1
  obtain ⟨b1, b2⟩ := back_count hf hx hx0
  simp -dsimp (disch := first | assumption | omega | (simp only [List.length_set, List.length_append, List.length_cons, List.length_nil]; done) | (simp only [List.length_set, List.length_append, List.length_cons, List.length_nil]; omega)) only [↓vmPre, vmPost, vmWrd, vmDat, eq_self, forall_const, Nat.reduceLT, Nat.reduceEqDiff, Nat.reduceSub, Nat.reduceMul, Nat.reduceMod, Nat.reduceDiv, Nat.reducePow, UInt8.reduceToNat, Int.reduceEq, Int.reduceLT, Int.reduceLE, ↓reduceIte, Nat.reduceEqDiff, Nat.reduceAdd, Int.reduceToNat, reduceCtorEq, Nat.reduceLeDiff, ↓u_ref10_Patch_k23_e, ↓u_ref10_Patch_k22_e]
  refine w_loop (fun q e H => ∃ fr : Nat, q = fr ∧ i - c ≤ fr ∧ fr ≤ i ∧
      e = [(2, i64 (c : Int)), (7, .sl 2 (E.map ed)), (8, ts out), (9, i64 (cA (E.take i) : Int)), (10, i64 (cB (E.take i) : Int)), (11, i64 (i : Int)), (12, i64 (fr : Int))] ∧ H = []) i ?_ ?_
  · exact ⟨i, rfl, by omega, Nat.le_refl _, rfl, rfl⟩
  · rintro q e H ⟨fr, rfl, h1, h2, rfl, rfl⟩
    by_cases h : 0 < q
    · by_cases hc2 : i - q < c
      · obtain ⟨y, hy⟩ : ∃ y, E[q - 1]? = some y := ⟨_, List.getElem?_eq_getElem (by omega)⟩
        have y0 := far_use hf hx hx0 (j := q - 1) (by omega) (by omega) hy
        simp -dsimp (disch := first | assumption | omega | (simp only [List.length_set, List.length_append, List.length_cons, List.length_nil]; done) | (simp only [List.length_set, List.length_append, List.length_cons, List.length_nil]; omega)) only [↓vmPre, vmPost, vmWrd, vmDat, eq_self, forall_const, Nat.reduceLT, Nat.reduceEqDiff, Nat.reduceSub, Nat.reduceMul, Nat.reduceMod, Nat.reduceDiv, Nat.reducePow, UInt8.reduceToNat, Int.reduceEq, Int.reduceLT, Int.reduceLE, ↓reduceIte, Nat.reduceEqDiff, Nat.reduceAdd, Int.reduceToNat, reduceCtorEq, Nat.reduceLeDiff, ↓u_ref10_Patch_L2_e, hy, ed_is, y0]
        exact Rnd_keep (q - 1) (by omega) (by simp) ⟨q - 1, rfl, by omega, by omega, rfl, rfl⟩
      · have e : i - c = q := by omega
        rw [e] at b1 b2 hQ
        simp -dsimp (disch := first | assumption | omega | (simp only [List.length_set, List.length_append, List.length_cons, List.length_nil]; done) | (simp only [List.length_set, List.length_append, List.length_cons, List.length_nil]; omega)) only [↓vmPre, vmPost, vmWrd, vmDat, eq_self, forall_const, Nat.reduceLT, Nat.reduceEqDiff, Nat.reduceSub, Nat.reduceMul, Nat.reduceMod, Nat.reduceDiv, Nat.reducePow, UInt8.reduceToNat, Int.reduceEq, Int.reduceLT, Int.reduceLE, ↓reduceIte, Nat.reduceEqDiff, Nat.reduceAdd, Int.reduceToNat, reduceCtorEq, Nat.reduceLeDiff, ↓u_ref10_Patch_L2_e]
        rw [b1, b2]
        exact refT2 hE hE2 hc (by omega) hx hx0 ho hQ
    · have e : i - c = q := by omega
      rw [e] at b1 b2 hQ
      simp -dsimp (disch := first | assumption | omega | (simp only [List.length_set, List.length_append, List.length_cons, List.length_nil]; done) | (simp only [List.length_set, List.length_append, List.length_cons, List.length_nil]; omega)) only [↓vmPre, vmPost, vmWrd, vmDat, eq_self, forall_const, Nat.reduceLT, Nat.reduceEqDiff, Nat.reduceSub, Nat.reduceMul, Nat.reduceMod, Nat.reduceDiv, Nat.reducePow, UInt8.reduceToNat, Int.reduceEq, Int.reduceLT, Int.reduceLE, ↓reduceIte, Nat.reduceEqDiff, Nat.reduceAdd, Int.reduceToNat, reduceCtorEq, Nat.reduceLeDiff, ↓u_ref10_Patch_L2_e]
      rw [b1, b2]
      exact refT2 hE hE2 hc (by omega) hx hx0 ho hQ
end
end Go.Proofs.YtijidndhlgbjhaaDoor