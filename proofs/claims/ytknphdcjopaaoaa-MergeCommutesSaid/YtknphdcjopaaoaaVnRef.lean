/- The document's side and Texts. -/
import Derived.Test.YtknphdcjopaaoaaVnMerge
namespace Go.Proofs.Ytknphdcjopaaoaa
open Go.RowKit
set_option linter.unusedVariables false
set_option linter.unusedSimpArgs false

theorem eds_kinds {α : Type} [DecidableEq α] : ∀ (x y : List α), ∀ e ∈ eds x y, e.1 ≤ 2
  | [], [] => by simp [eds]
  | a :: x, [] => by have := eds_kinds x []; rw [eds]; intro e he; rcases List.mem_cons.1 he with rfl | he; simp; exact this e he
  | [], b :: y => by have := eds_kinds [] y; rw [eds]; intro e he; rcases List.mem_cons.1 he with rfl | he; simp; exact this e he
  | a :: x, b :: y => by
    have h1 := eds_kinds x y
    have h2 := eds_kinds x (b :: y)
    have h3 := eds_kinds (a :: x) y
    rw [eds]
    intro e he
    split at he
    · rcases List.mem_cons.1 he with rfl | he
      · simp
      · exact h1 e he
    · split at he
      · rcases List.mem_cons.1 he with rfl | he
        · simp
        · exact h2 e he
      · rcases List.mem_cons.1 he with rfl | he
        · simp
        · exact h3 e he
termination_by x y => x.length + y.length
theorem edl_kinds {α : Type} [DecidableEq α] : ∀ (x y : List α), ∀ e ∈ edl x y, e.1 ≤ 2
  | [], y => by rw [edl.eq_def]; simp
  | a :: x, [] => by rw [edl.eq_def]; simp
  | a :: x, b :: y => by
    have h := edl_kinds x y
    rw [edl]
    intro e he
    split at he
    · rcases List.mem_cons.1 he with rfl | he
      · simp
      · exact h e he
    · rcases List.mem_append.1 he with he | he <;> obtain ⟨c, _, rfl⟩ := List.mem_map.1 he <;> simp
theorem edx_kinds {α : Type} [DecidableEq α] (L : Bool) (x y : List α) : ∀ e ∈ edx L x y, e.1 ≤ 2 := by
  cases L
  · exact eds_kinds x y
  · exact edl_kinds x y
theorem rep_tb {n : Nat} : List.replicate n (TV.val (.bool false)) = (List.replicate n false).map tb := by simp [tb]
theorem rep_ts {n : Nat} : List.replicate n (TV.val (.string (str []))) = (List.replicate n []).map ts := by simp [ts]
theorem refSideV (a b : List UInt8) (ha : a.length ≤ 4000) (hb : b.length ≤ 4000) : VPure Try.prog 43 [slB a, slB b] (fun r => r = .tup [.sl 1 ((side a b).1.map tb), slS (side a b).2]) := by
  refine VCalls.toPureV (go_ref11_side (by simp) ?_)
  simp -dsimp (disch := first | assumption | omega | (simp only [List.length_set, List.length_append, List.length_cons, List.length_nil]; done) | (simp only [List.length_set, List.length_append, List.length_cons, List.length_nil]; omega)) only [↓vmPre, vmPost, vmWrd, vmDat, eq_self, forall_const, Nat.reduceLT, Nat.reduceEqDiff, Nat.reduceSub, Nat.reduceMul, Nat.reduceMod, Nat.reduceDiv, Nat.reducePow, UInt8.reduceToNat, Int.reduceEq, Int.reduceLT, Int.reduceLE, ↓reduceIte, Nat.reduceEqDiff, Nat.reduceAdd, Int.reduceToNat, reduceCtorEq, Nat.reduceLeDiff, ↓u_ref11_side]
  refine (refEdits (a := a) (b := b) ha hb).pure.calls rfl ?_
  rintro _ rfl
  have hE := edx_len (isLong a b) (linesOf a) (linesOf b)
  have hla := linesOf_length a
  have hlb := linesOf_length b
  have hT := edx_texts (isLong a b) (linesOf a) (linesOf b)
  have hK := edx_kinds (isLong a b) (linesOf a) (linesOf b)
  have hS : side a b = sideOf (edx (isLong a b) (linesOf a) (linesOf b)) [] := rfl
  have hfl : (linesOf b).flatten.length ≤ 4000 := by rw [linesOf_flat]; exact hb
  rw [hS]
  generalize edx (isLong a b) (linesOf a) (linesOf b) = E at *
  simp -dsimp (disch := first | assumption | omega | (simp only [List.length_set, List.length_append, List.length_cons, List.length_nil]; done) | (simp only [List.length_set, List.length_append, List.length_cons, List.length_nil]; omega)) only [↓vmPre, vmPost, vmWrd, vmDat, eq_self, forall_const, Nat.reduceLT, Nat.reduceEqDiff, Nat.reduceSub, Nat.reduceMul, Nat.reduceMod, Nat.reduceDiv, Nat.reducePow, UInt8.reduceToNat, Int.reduceEq, Int.reduceLT, Int.reduceLE, ↓reduceIte, Nat.reduceEqDiff, Nat.reduceAdd, Int.reduceToNat, reduceCtorEq, Nat.reduceLeDiff, ↓u_ref11_side]
  refine (refLines a ha).calls rfl ?_
  rintro _ rfl
  have hn0 : (olds E).length ≤ 4000 := by rw [hT.1]; omega
  rw [← hT.1]
  rw [← hT.2] at hfl
  clear hT hS
  simp -dsimp (disch := first | assumption | omega | (simp only [List.length_set, List.length_append, List.length_cons, List.length_nil]; done) | (simp only [List.length_set, List.length_append, List.length_cons, List.length_nil]; omega)) only [↓vmPre, vmPost, vmWrd, vmDat, eq_self, forall_const, Nat.reduceLT, Nat.reduceEqDiff, Nat.reduceSub, Nat.reduceMul, Nat.reduceMod, Nat.reduceDiv, Nat.reducePow, UInt8.reduceToNat, Int.reduceEq, Int.reduceLT, Int.reduceLE, ↓reduceIte, Nat.reduceEqDiff, Nat.reduceAdd, Int.reduceToNat, reduceCtorEq, Nat.reduceLeDiff, ↓u_ref11_side, rep_tb, rep_ts]
  refine w_loop (fun q e H => ∃ (i : Nat) (ks : List Bool) (az : List (List UInt8)) (cur : List UInt8), q = E.length - i ∧ i ≤ E.length ∧ az.length = ks.length ∧ ks.length + (olds (E.drop i)).length = (olds E).length ∧ cur.length + (news (E.drop i)).flatten.length ≤ 4000 ∧
    sideOf E [] = (ks ++ (sideOf (E.drop i) cur).1, az ++ (sideOf (E.drop i) cur).2) ∧
    e = [(6, .sl 2 (E.map ed)), (8, .os 1 0 0 [] 0 (olds E).length (olds E).length), (9, .os 1 1 0 [] 0 ((olds E).length + 1) ((olds E).length + 1)), (10, i64 (ks.length : Int)), (11, i64 (i : Int))] ∧
    H = [.obj 0 (.arr (olds E).length 1 ((ks ++ List.replicate (olds (E.drop i)).length false).map tb)), .obj 0 (.arr ((olds E).length + 1) 1 ((az ++ cur :: List.replicate (olds (E.drop i)).length []).map ts))]) E.length ?_ ?_
  · exact ⟨0, [], [], [], by simp, by simp, rfl, by simp, by simpa using hfl, by simp, rfl, by simp [List.replicate_succ]⟩
  · rintro q e H ⟨i, ks, az, cur, rfl, hi, hka, hn, hc, hs, rfl, rfl⟩
    by_cases hlt : i < E.length
    · have hg : E[i]? = some E[i] := List.getElem?_eq_getElem hlt
      have hd := List.drop_eq_getElem_cons hlt
      have hk := hK _ (List.getElem_mem hlt)
      rw [hd] at hs hc hn
      rw [hd]
      generalize E[i] = en at *
      obtain ⟨k, ln⟩ := en
      simp only [] at hk
      have : k = 0 ∨ k = 1 ∨ k = 2 := by omega
      rcases this with rfl | rfl | rfl
      · rw [olds, if_neg (by simp)] at hn ⊢
        rw [List.length_cons] at hn ⊢
        have c0 : (ks ++ List.replicate ((olds (E.drop (i + 1))).length + 1) false)[ks.length]? = some false := by simp [List.replicate_succ]
        have c1 : (List.map tb (ks ++ List.replicate ((olds (E.drop (i + 1))).length + 1) false)).set ks.length (TV.val (.bool true)) = List.map tb ((ks ++ [true]) ++ List.replicate (olds (E.drop (i + 1))).length false) := by
          simp [List.replicate_succ, tb]
        simp -dsimp (disch := first | assumption | omega | (simp only [List.length_set, List.length_append, List.length_cons, List.length_nil]; done) | (simp only [List.length_set, List.length_append, List.length_cons, List.length_nil]; omega)) only [↓vmPre, vmPost, vmWrd, vmDat, eq_self, forall_const, Nat.reduceLT, Nat.reduceEqDiff, Nat.reduceSub, Nat.reduceMul, Nat.reduceMod, Nat.reduceDiv, Nat.reducePow, UInt8.reduceToNat, Int.reduceEq, Int.reduceLT, Int.reduceLE, ↓reduceIte, Nat.reduceEqDiff, Nat.reduceAdd, Int.reduceToNat, reduceCtorEq, Nat.reduceLeDiff, ↓u_ref11_side, hg, ed_is, c0, c1]
        rw [news, if_neg (by simp), List.flatten_cons, List.length_append] at hc
        refine Rnd_keep (E.length - (i + 1)) (by omega) (by simp) ⟨i + 1, ks ++ [true], az ++ [cur], [], rfl, by omega, by simp [hka], by simp; omega, by simp only [List.length_nil]; omega, ?_, by rw [show (ks ++ [true]).length = ks.length + 1 by simp]; rfl, by simp [List.replicate_succ]⟩
        rw [hs, sideOf, if_neg (by simp)]
        simp
      · rw [olds, if_neg (by simp)] at hn ⊢
        rw [List.length_cons] at hn ⊢
        simp -dsimp (disch := first | assumption | omega | (simp only [List.length_set, List.length_append, List.length_cons, List.length_nil]; done) | (simp only [List.length_set, List.length_append, List.length_cons, List.length_nil]; omega)) only [↓vmPre, vmPost, vmWrd, vmDat, eq_self, forall_const, Nat.reduceLT, Nat.reduceEqDiff, Nat.reduceSub, Nat.reduceMul, Nat.reduceMod, Nat.reduceDiv, Nat.reducePow, UInt8.reduceToNat, Int.reduceEq, Int.reduceLT, Int.reduceLE, ↓reduceIte, Nat.reduceEqDiff, Nat.reduceAdd, Int.reduceToNat, reduceCtorEq, Nat.reduceLeDiff, ↓u_ref11_side, hg, ed_is]
        rw [news, if_pos rfl] at hc
        refine Rnd_keep (E.length - (i + 1)) (by omega) (by simp) ⟨i + 1, ks ++ [false], az ++ [cur], [], rfl, by omega, by simp [hka], by simp; omega, by simp only [List.length_nil]; omega, ?_, by rw [show (ks ++ [false]).length = ks.length + 1 by simp]; rfl, by simp [List.replicate_succ]⟩
        rw [hs, sideOf, if_neg (by simp)]
        simp
      · rw [olds, if_pos rfl] at hn ⊢
        rw [news, if_neg (by simp), List.flatten_cons, List.length_append] at hc
        have hc : cur.length + (ln.length + (news (E.drop (i + 1))).flatten.length) ≤ 4000 := hc
        have c0 : (az ++ cur :: List.replicate (olds (E.drop (i + 1))).length [])[ks.length]? = some cur := by rw [← hka]; simp
        have c1 : (List.map ts (az ++ cur :: List.replicate (olds (E.drop (i + 1))).length [])).set ks.length (TV.val (.string (str (cur ++ ln)))) = List.map ts (az ++ (cur ++ ln) :: List.replicate (olds (E.drop (i + 1))).length []) := by
          rw [← hka]; simp [ts]
        simp -dsimp (disch := first | assumption | omega | (simp only [List.length_set, List.length_append, List.length_cons, List.length_nil]; done) | (simp only [List.length_set, List.length_append, List.length_cons, List.length_nil]; omega)) only [↓vmPre, vmPost, vmWrd, vmDat, eq_self, forall_const, Nat.reduceLT, Nat.reduceEqDiff, Nat.reduceSub, Nat.reduceMul, Nat.reduceMod, Nat.reduceDiv, Nat.reducePow, UInt8.reduceToNat, Int.reduceEq, Int.reduceLT, Int.reduceLE, ↓reduceIte, Nat.reduceEqDiff, Nat.reduceAdd, Int.reduceToNat, reduceCtorEq, Nat.reduceLeDiff, ↓u_ref11_side, hg, ed_is, c0, c1, s_cat]
        refine Rnd_keep (E.length - (i + 1)) (by omega) (by simp) ⟨i + 1, ks, az, cur ++ ln, rfl, by omega, hka, hn, by rw [List.length_append]; omega, ?_, rfl, rfl⟩
        rw [hs, sideOf, if_pos rfl]
    · have hi2 : i = E.length := by omega
      rw [hi2, List.drop_length] at hs hn ⊢
      simp only [sideOf, olds, List.length_nil, List.replicate_zero, List.append_nil, Nat.add_zero] at hs hn ⊢
      rw [hs]
      simp -dsimp (disch := first | assumption | omega | (simp only [List.length_set, List.length_append, List.length_cons, List.length_nil]; done) | (simp only [List.length_set, List.length_append, List.length_cons, List.length_nil]; omega)) only [↓vmPre, vmPost, vmWrd, vmDat, eq_self, forall_const, Nat.reduceLT, Nat.reduceEqDiff, Nat.reduceSub, Nat.reduceMul, Nat.reduceMod, Nat.reduceDiv, Nat.reducePow, UInt8.reduceToNat, Int.reduceEq, Int.reduceLT, Int.reduceLE, ↓reduceIte, Nat.reduceEqDiff, Nat.reduceAdd, Int.reduceToNat, reduceCtorEq, Nat.reduceLeDiff, ↓u_ref11_side]
end Go.Proofs.Ytknphdcjopaaoaa
