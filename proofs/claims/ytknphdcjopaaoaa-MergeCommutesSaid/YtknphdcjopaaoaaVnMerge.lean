/- merge.Texts: the walk. -/
import Derived.Test.YtknphdcjopaaoaaVnTexts
namespace Go.Proofs.Ytknphdcjopaaoaa
open Go.RowKit
set_option linter.unusedVariables false
set_option linter.unusedSimpArgs false

theorem isGo_closure : isGo Try.prog 39 = true := by kernel_rfl
theorem line_small {l : List UInt8} : ∀ s ∈ linesOf l, s.length ≤ l.length := fun s hs => by
  have := linesOf_flat l
  have h2 := (List.sublist_flatten_of_mem hs).length_le
  rw [this] at h2; exact h2
theorem TSmall.app {s : TS} {i : Nat} {i1 i2 : List UInt8} (h : TSmall s i) (h1 : i1.length ≤ 4000) (h2 : i2.length ≤ 4000) : TSmall { o := s.o, x := s.x ++ i1, y := s.y ++ i2, out := s.out, n := s.n } (i + 1) := by
  obtain ⟨ho, hx, hy, hout, hn⟩ := h
  have h6 : s.o.length ≤ (i + 1) * 4000 := Nat.le_trans ho (Nat.mul_le_mul_right 4000 (Nat.le_succ i))
  have h7 : (s.x ++ i1).length ≤ (i + 1) * 8000 := by clear hout; rw [List.length_append, Nat.succ_mul]; omega
  have h8 : (s.y ++ i2).length ≤ (i + 1) * 8000 := by clear hout; rw [List.length_append, Nat.succ_mul]; omega
  have h5 : s.out.length ≤ (i + 1) * 100000000 := Nat.le_trans hout (Nat.mul_le_mul_right 100000000 (Nat.le_succ i))
  exact ⟨h6, h7, h8, h5, Nat.le_succ_of_le hn⟩
theorem textsV (f g h a b : List UInt8) (hf : f.length ≤ 3000) (hg : g.length ≤ 3000) (hh : h.length ≤ 3000) (hab : a.length + b.length ≤ 3000) :
    VFresh Try.prog 28 [slB f, slB g, slB h, ts a, ts b] (fun r => r = .tup [slB (textsOf a b (linesOf f) (side f g) (side f h)).1, i64 ((textsOf a b (linesOf f) (side f g) (side f h)).2 : Int)]) := by
  refine VCalls.toFreshV (go_merge_Texts (by simp) ?_)
  simp -dsimp (disch := first | assumption | omega | (simp only [List.length_set, List.length_append, List.length_cons, List.length_nil]; done) | (simp only [List.length_set, List.length_append, List.length_cons, List.length_nil]; omega)) only [↓vmPre, vmPost, vmWrd, vmDat, eq_self, forall_const, Nat.reduceLT, Nat.reduceEqDiff, Nat.reduceSub, Nat.reduceMul, Nat.reduceMod, Nat.reduceDiv, Nat.reducePow, UInt8.reduceToNat, Int.reduceEq, Int.reduceLT, Int.reduceLE, ↓reduceIte, Nat.reduceEqDiff, Nat.reduceAdd, Int.reduceToNat, reduceCtorEq, Nat.reduceLeDiff, ↓u_merge_Texts]
  refine (sideV f g (by omega) (by omega)).lends (args' := [slB f, slB g]) ?_ ?_
  · simp -dsimp (disch := first | assumption | omega) only [↓vmPre, vmPost, vmWrd, vmDat, eq_self, forall_const, Nat.reduceLT, Nat.reduceEqDiff, Nat.reduceSub, Nat.reduceMul, Nat.reduceMod, Nat.reduceDiv, Nat.reducePow, UInt8.reduceToNat, Int.reduceEq, Int.reduceLT, Int.reduceLE, ↓reduceIte, Nat.reduceEqDiff, Nat.reduceAdd, Int.reduceToNat, reduceCtorEq, Nat.reduceLeDiff]
  rintro _ rfl
  simp -dsimp (disch := first | assumption | omega | (simp only [List.length_set, List.length_append, List.length_cons, List.length_nil]; done) | (simp only [List.length_set, List.length_append, List.length_cons, List.length_nil]; omega)) only [↓vmPre, vmPost, vmWrd, vmDat, eq_self, forall_const, Nat.reduceLT, Nat.reduceEqDiff, Nat.reduceSub, Nat.reduceMul, Nat.reduceMod, Nat.reduceDiv, Nat.reducePow, UInt8.reduceToNat, Int.reduceEq, Int.reduceLT, Int.reduceLE, ↓reduceIte, Nat.reduceEqDiff, Nat.reduceAdd, Int.reduceToNat, reduceCtorEq, Nat.reduceLeDiff, ↓u_merge_Texts]
  refine (sideV f h (by omega) (by omega)).lends (args' := [slB f, slB h]) ?_ ?_
  · simp -dsimp (disch := first | assumption | omega) only [↓vmPre, vmPost, vmWrd, vmDat, eq_self, forall_const, Nat.reduceLT, Nat.reduceEqDiff, Nat.reduceSub, Nat.reduceMul, Nat.reduceMod, Nat.reduceDiv, Nat.reducePow, UInt8.reduceToNat, Int.reduceEq, Int.reduceLT, Int.reduceLE, ↓reduceIte, Nat.reduceEqDiff, Nat.reduceAdd, Int.reduceToNat, reduceCtorEq, Nat.reduceLeDiff]
  rintro _ rfl
  have gx := side_len f g
  have gy := side_len f h
  have sx : ∀ s ∈ (side f g).2, s.length ≤ 4000 := fun s hs => Nat.le_trans (side_small f g s hs) (by omega)
  have sy : ∀ s ∈ (side f h).2, s.length ≤ 4000 := fun s hs => Nat.le_trans (side_small f h s hs) (by omega)
  have sl : ∀ s ∈ linesOf f, s.length ≤ 4000 := fun s hs => Nat.le_trans (line_small s hs) (by omega)
  have hlen := linesOf_length f
  generalize side f g = X at *
  generalize side f h = Y at *
  simp -dsimp (disch := first | assumption | omega | (simp only [List.length_set, List.length_append, List.length_cons, List.length_nil]; done) | (simp only [List.length_set, List.length_append, List.length_cons, List.length_nil]; omega)) only [↓vmPre, vmPost, vmWrd, vmDat, eq_self, forall_const, Nat.reduceLT, Nat.reduceEqDiff, Nat.reduceSub, Nat.reduceMul, Nat.reduceMod, Nat.reduceDiv, Nat.reducePow, UInt8.reduceToNat, Int.reduceEq, Int.reduceLT, Int.reduceLE, ↓reduceIte, Nat.reduceEqDiff, Nat.reduceAdd, Int.reduceToNat, reduceCtorEq, Nat.reduceLeDiff, ↓u_merge_Texts]
  refine (diffLines f (by omega)).lends (args' := [slB f]) ?_ ?_
  · simp -dsimp (disch := first | assumption | omega) only [↓vmPre, vmPost, vmWrd, vmDat, eq_self, forall_const, Nat.reduceLT, Nat.reduceEqDiff, Nat.reduceSub, Nat.reduceMul, Nat.reduceMod, Nat.reduceDiv, Nat.reducePow, UInt8.reduceToNat, Int.reduceEq, Int.reduceLT, Int.reduceLE, ↓reduceIte, Nat.reduceEqDiff, Nat.reduceAdd, Int.reduceToNat, reduceCtorEq, Nat.reduceLeDiff]
  rintro _ rfl
  generalize linesOf f = L at *
  simp -dsimp (disch := first | assumption | omega | (simp only [List.length_set, List.length_append, List.length_cons, List.length_nil]; done) | (simp only [List.length_set, List.length_append, List.length_cons, List.length_nil]; omega)) only [↓vmPre, vmPost, vmWrd, vmDat, eq_self, forall_const, Nat.reduceLT, Nat.reduceEqDiff, Nat.reduceSub, Nat.reduceMul, Nat.reduceMod, Nat.reduceDiv, Nat.reducePow, UInt8.reduceToNat, Int.reduceEq, Int.reduceLT, Int.reduceLE, ↓reduceIte, Nat.reduceEqDiff, Nat.reduceAdd, Int.reduceToNat, reduceCtorEq, Nat.reduceLeDiff, ↓u_merge_Texts]
  have small := fun i => tst_small (a := a) (b := b) (L := L) (X := X) (Y := Y) (by omega) sl sx sy i
  refine w_loop (fun q e H => ∃ i k : Nat, q = L.length - i ∧ i ≤ L.length ∧ TSt H a b X Y (tst a b L X Y i) k ∧ e = [(12, .op 2 0 []), (13, .op 3 0 []), (14, .op 4 0 []), (15, .op 6 0 []), (16, .op 9 0 []), (17, .fn (.func 39) [] [.op 9 0 [], .op 4 0 [], .op 0 0 [], .op 1 0 [], .op 6 0 []]), (30, slS L), (31, i64 (L.length : Int)), (32, i64 (i : Int))]) L.length ?_ ?_
  · refine ⟨0, 7, rfl, by omega, ⟨rfl, rfl, rfl, rfl, rfl, rfl, none, none, none, none, ⟨⟨_, _, _, _, _, _, rfl, .inl rfl, .inl rfl, .inl rfl, ⟨rfl, rfl⟩, ⟨rfl, rfl⟩, ⟨rfl, rfl⟩⟩, ⟨8, rfl⟩, by simp, by simp, by simp⟩, ⟨⟨_, _, rfl, .inl rfl, ⟨rfl, rfl⟩⟩, rfl⟩, by simp⟩, rfl⟩
  · rintro q e H ⟨i, k, rfl, hi, S, rfl⟩
    have hx := S.hx
    have hy := S.hy
    have hc := S.hc
    have hL : 10 ≤ H.length := (List.getElem?_eq_some_iff.1 hc).1
    have ss := small i (by omega)
    by_cases hlt : i < L.length
    · have g1 : L[i]? = some L[i] := List.getElem?_eq_getElem hlt
      have g2 : X.1[i]? = some X.1[i] := List.getElem?_eq_getElem (by omega)
      have g3 : Y.1[i]? = some Y.1[i] := List.getElem?_eq_getElem (by omega)
      have g4 : X.2[i]? = some X.2[i] := List.getElem?_eq_getElem (by omega)
      have g5 : Y.2[i]? = some Y.2[i] := List.getElem?_eq_getElem (by omega)
      have hst : tst a b L X Y (i + 1) = tstep a b (tst a b L X Y i) L[i] X.1[i] Y.1[i] X.2[i] Y.2[i] := by
        rw [tst]; simp [List.getD_eq_getElem?_getD, g1, g2, g3, g4, g5]
      have z1 := sl _ (List.getElem_mem hlt)
      have z4 := sx _ (List.getElem_mem (l := X.2) (n := i) (by omega))
      have z5 := sy _ (List.getElem_mem (l := Y.2) (n := i) (by omega))
      have ss0 := ss
      generalize tst a b L X Y i = s at *
      generalize L[i] = ln at *
      generalize X.1[i] = c1 at *
      generalize Y.1[i] = c2 at *
      generalize X.2[i] = i1 at *
      generalize Y.2[i] = i2 at *
      obtain ⟨so, sxx, syy, sout, sn⟩ := ss
      unfold sideT at hx hy
      simp -dsimp (disch := first | assumption | omega | (simp only [List.length_set, List.length_append, List.length_cons, List.length_nil]; done) | (simp only [List.length_set, List.length_append, List.length_cons, List.length_nil]; omega)) only [↓vmPre, vmPost, vmWrd, vmDat, eq_self, forall_const, Nat.reduceLT, Nat.reduceEqDiff, Nat.reduceSub, Nat.reduceMul, Nat.reduceMod, Nat.reduceDiv, Nat.reducePow, UInt8.reduceToNat, Int.reduceEq, Int.reduceLT, Int.reduceLE, ↓reduceIte, Nat.reduceEqDiff, Nat.reduceAdd, Int.reduceToNat, reduceCtorEq, Nat.reduceLeDiff, ↓u_merge_Texts, hx, hy, hc, g1, g2, g3, g4, g5]
      refine S.wX (by omega) fun H1 S1 => ?_
      have hx := S1.hx
      have hy := S1.hy
      have hc := S1.hc
      unfold sideT at hx hy
      simp -dsimp (disch := first | assumption | omega | (simp only [List.length_set, List.length_append, List.length_cons, List.length_nil]; done) | (simp only [List.length_set, List.length_append, List.length_cons, List.length_nil]; omega)) only [↓vmPre, vmPost, vmWrd, vmDat, eq_self, forall_const, Nat.reduceLT, Nat.reduceEqDiff, Nat.reduceSub, Nat.reduceMul, Nat.reduceMod, Nat.reduceDiv, Nat.reducePow, UInt8.reduceToNat, Int.reduceEq, Int.reduceLT, Int.reduceLE, ↓reduceIte, Nat.reduceEqDiff, Nat.reduceAdd, Int.reduceToNat, reduceCtorEq, Nat.reduceLeDiff, ↓u_merge_Texts, hx, hy, hc, g1, g2, g3, g4, g5]
      refine S1.wY (by first | omega | (simp only [List.length_append]; omega) | (simp only []; omega)) fun H2 S2 => ?_
      have hx := S2.hx
      have hy := S2.hy
      have hc := S2.hc
      unfold sideT at hx hy
      cases c1 <;> cases c2
      · simp -dsimp (disch := first | assumption | omega | (simp only [List.length_set, List.length_append, List.length_cons, List.length_nil]; done) | (simp only [List.length_set, List.length_append, List.length_cons, List.length_nil]; omega)) only [↓vmPre, vmPost, vmWrd, vmDat, eq_self, forall_const, Nat.reduceLT, Nat.reduceEqDiff, Nat.reduceSub, Nat.reduceMul, Nat.reduceMod, Nat.reduceDiv, Nat.reducePow, UInt8.reduceToNat, Int.reduceEq, Int.reduceLT, Int.reduceLE, ↓reduceIte, Nat.reduceEqDiff, Nat.reduceAdd, Int.reduceToNat, reduceCtorEq, Nat.reduceLeDiff, ↓u_merge_Texts, hx, hy, hc, g1, g2, g3, g4, g5]
        refine S2.wO (by first | omega | (simp only [List.length_append]; omega) | (simp only []; omega)) fun H3 S3 => ?_
        have hx := S3.hx
        have hy := S3.hy
        have hc := S3.hc
        have hn := S3.hn
        unfold sideT at hx hy
        simp -dsimp (disch := first | assumption | omega | (simp only [List.length_set, List.length_append, List.length_cons, List.length_nil]; done) | (simp only [List.length_set, List.length_append, List.length_cons, List.length_nil]; omega)) only [↓vmPre, vmPost, vmWrd, vmDat, eq_self, forall_const, Nat.reduceLT, Nat.reduceEqDiff, Nat.reduceSub, Nat.reduceMul, Nat.reduceMod, Nat.reduceDiv, Nat.reducePow, UInt8.reduceToNat, Int.reduceEq, Int.reduceLT, Int.reduceLE, ↓reduceIte, Nat.reduceEqDiff, Nat.reduceAdd, Int.reduceToNat, reduceCtorEq, Nat.reduceLeDiff, ↓u_merge_Texts, hx, hy, hc, g1, g2, g3, g4, g5]
        have hHL : 10 ≤ H3.length := (List.getElem?_eq_some_iff.1 hc).1
        exact Rnd_keep (L.length - (i + 1)) (by omega) (by simpa using hHL) ⟨i + 1, k, rfl, by omega, by rw [hst]; exact S3, rfl⟩
      · simp -dsimp (disch := first | assumption | omega | (simp only [List.length_set, List.length_append, List.length_cons, List.length_nil]; done) | (simp only [List.length_set, List.length_append, List.length_cons, List.length_nil]; omega)) only [↓vmPre, vmPost, vmWrd, vmDat, eq_self, forall_const, Nat.reduceLT, Nat.reduceEqDiff, Nat.reduceSub, Nat.reduceMul, Nat.reduceMod, Nat.reduceDiv, Nat.reducePow, UInt8.reduceToNat, Int.reduceEq, Int.reduceLT, Int.reduceLE, ↓reduceIte, Nat.reduceEqDiff, Nat.reduceAdd, Int.reduceToNat, reduceCtorEq, Nat.reduceLeDiff, ↓u_merge_Texts, hx, hy, hc, g1, g2, g3, g4, g5]
        refine S2.wO (by first | omega | (simp only [List.length_append]; omega) | (simp only []; omega)) fun H3 S3 => ?_
        have hx := S3.hx
        have hy := S3.hy
        have hc := S3.hc
        have hn := S3.hn
        unfold sideT at hx hy
        simp -dsimp (disch := first | assumption | omega | (simp only [List.length_set, List.length_append, List.length_cons, List.length_nil]; done) | (simp only [List.length_set, List.length_append, List.length_cons, List.length_nil]; omega)) only [↓vmPre, vmPost, vmWrd, vmDat, eq_self, forall_const, Nat.reduceLT, Nat.reduceEqDiff, Nat.reduceSub, Nat.reduceMul, Nat.reduceMod, Nat.reduceDiv, Nat.reducePow, UInt8.reduceToNat, Int.reduceEq, Int.reduceLT, Int.reduceLE, ↓reduceIte, Nat.reduceEqDiff, Nat.reduceAdd, Int.reduceToNat, reduceCtorEq, Nat.reduceLeDiff, ↓u_merge_Texts, hx, hy, hc, g1, g2, g3, g4, g5]
        refine S3.wY (by first | omega | (simp only [List.length_append]; omega) | (simp only []; omega)) fun H4 S4 => ?_
        have hx := S4.hx
        have hy := S4.hy
        have hc := S4.hc
        have hn := S4.hn
        unfold sideT at hx hy
        simp -dsimp (disch := first | assumption | omega | (simp only [List.length_set, List.length_append, List.length_cons, List.length_nil]; done) | (simp only [List.length_set, List.length_append, List.length_cons, List.length_nil]; omega)) only [↓vmPre, vmPost, vmWrd, vmDat, eq_self, forall_const, Nat.reduceLT, Nat.reduceEqDiff, Nat.reduceSub, Nat.reduceMul, Nat.reduceMod, Nat.reduceDiv, Nat.reducePow, UInt8.reduceToNat, Int.reduceEq, Int.reduceLT, Int.reduceLE, ↓reduceIte, Nat.reduceEqDiff, Nat.reduceAdd, Int.reduceToNat, reduceCtorEq, Nat.reduceLeDiff, ↓u_merge_Texts, hx, hy, hc, g1, g2, g3, g4, g5]
        have hHL : 10 ≤ H4.length := (List.getElem?_eq_some_iff.1 hc).1
        exact Rnd_keep (L.length - (i + 1)) (by omega) (by simpa using hHL) ⟨i + 1, k, rfl, by omega, by rw [hst]; exact S4, rfl⟩
      · simp -dsimp (disch := first | assumption | omega | (simp only [List.length_set, List.length_append, List.length_cons, List.length_nil]; done) | (simp only [List.length_set, List.length_append, List.length_cons, List.length_nil]; omega)) only [↓vmPre, vmPost, vmWrd, vmDat, eq_self, forall_const, Nat.reduceLT, Nat.reduceEqDiff, Nat.reduceSub, Nat.reduceMul, Nat.reduceMod, Nat.reduceDiv, Nat.reducePow, UInt8.reduceToNat, Int.reduceEq, Int.reduceLT, Int.reduceLE, ↓reduceIte, Nat.reduceEqDiff, Nat.reduceAdd, Int.reduceToNat, reduceCtorEq, Nat.reduceLeDiff, ↓u_merge_Texts, hx, hy, hc, g1, g2, g3, g4, g5]
        refine S2.wO (by first | omega | (simp only [List.length_append]; omega) | (simp only []; omega)) fun H3 S3 => ?_
        have hx := S3.hx
        have hy := S3.hy
        have hc := S3.hc
        have hn := S3.hn
        unfold sideT at hx hy
        simp -dsimp (disch := first | assumption | omega | (simp only [List.length_set, List.length_append, List.length_cons, List.length_nil]; done) | (simp only [List.length_set, List.length_append, List.length_cons, List.length_nil]; omega)) only [↓vmPre, vmPost, vmWrd, vmDat, eq_self, forall_const, Nat.reduceLT, Nat.reduceEqDiff, Nat.reduceSub, Nat.reduceMul, Nat.reduceMod, Nat.reduceDiv, Nat.reducePow, UInt8.reduceToNat, Int.reduceEq, Int.reduceLT, Int.reduceLE, ↓reduceIte, Nat.reduceEqDiff, Nat.reduceAdd, Int.reduceToNat, reduceCtorEq, Nat.reduceLeDiff, ↓u_merge_Texts, hx, hy, hc, g1, g2, g3, g4, g5]
        refine S3.wX (by first | omega | (simp only [List.length_append]; omega) | (simp only []; omega)) fun H4 S4 => ?_
        have hx := S4.hx
        have hy := S4.hy
        have hc := S4.hc
        have hn := S4.hn
        unfold sideT at hx hy
        simp -dsimp (disch := first | assumption | omega | (simp only [List.length_set, List.length_append, List.length_cons, List.length_nil]; done) | (simp only [List.length_set, List.length_append, List.length_cons, List.length_nil]; omega)) only [↓vmPre, vmPost, vmWrd, vmDat, eq_self, forall_const, Nat.reduceLT, Nat.reduceEqDiff, Nat.reduceSub, Nat.reduceMul, Nat.reduceMod, Nat.reduceDiv, Nat.reducePow, UInt8.reduceToNat, Int.reduceEq, Int.reduceLT, Int.reduceLE, ↓reduceIte, Nat.reduceEqDiff, Nat.reduceAdd, Int.reduceToNat, reduceCtorEq, Nat.reduceLeDiff, ↓u_merge_Texts, hx, hy, hc, g1, g2, g3, g4, g5]
        have hHL : 10 ≤ H4.length := (List.getElem?_eq_some_iff.1 hc).1
        exact Rnd_keep (L.length - (i + 1)) (by omega) (by simpa using hHL) ⟨i + 1, k, rfl, by omega, by rw [hst]; exact S4, rfl⟩
      · simp -dsimp (disch := first | assumption | omega | (simp only [List.length_set, List.length_append, List.length_cons, List.length_nil]; done) | (simp only [List.length_set, List.length_append, List.length_cons, List.length_nil]; omega)) only [↓vmPre, vmPost, vmWrd, vmDat, eq_self, forall_const, Nat.reduceLT, Nat.reduceEqDiff, Nat.reduceSub, Nat.reduceMul, Nat.reduceMod, Nat.reduceDiv, Nat.reducePow, UInt8.reduceToNat, Int.reduceEq, Int.reduceLT, Int.reduceLE, ↓reduceIte, Nat.reduceEqDiff, Nat.reduceAdd, Int.reduceToNat, reduceCtorEq, Nat.reduceLeDiff, ↓u_merge_Texts, hx, hy, hc, g1, g2, g3, g4, g5]
        simp -dsimp (disch := first | assumption | omega | (simp only [List.length_set, List.length_append, List.length_cons, List.length_nil]; done) | (simp only [List.length_set, List.length_append, List.length_cons, List.length_nil]; omega)) only [↓vmPre, vmPost, vmWrd, vmDat, eq_self, forall_const, Nat.reduceLT, Nat.reduceEqDiff, Nat.reduceSub, Nat.reduceMul, Nat.reduceMod, Nat.reduceDiv, Nat.reducePow, UInt8.reduceToNat, Int.reduceEq, Int.reduceLT, Int.reduceLE, ↓reduceIte, Nat.reduceEqDiff, Nat.reduceAdd, Int.reduceToNat, reduceCtorEq, Nat.reduceLeDiff, ↓u_merge_Texts, isGo_closure]
        refine closV S2 (ss0.app z4 z5) (by omega) (by omega) fun H3 k3 S3 ⟨jo, O3⟩ => ?_
        have hx := S3.hx
        have hy := S3.hy
        have hc := S3.hc
        have hn := S3.hn
        unfold sideT at hx hy
        simp -dsimp (disch := first | assumption | omega | (simp only [List.length_set, List.length_append, List.length_cons, List.length_nil]; done) | (simp only [List.length_set, List.length_append, List.length_cons, List.length_nil]; omega)) only [↓vmPre, vmPost, vmWrd, vmDat, eq_self, forall_const, Nat.reduceLT, Nat.reduceEqDiff, Nat.reduceSub, Nat.reduceMul, Nat.reduceMod, Nat.reduceDiv, Nat.reducePow, UInt8.reduceToNat, Int.reduceEq, Int.reduceLT, Int.reduceLE, ↓reduceIte, Nat.reduceEqDiff, Nat.reduceAdd, Int.reduceToNat, reduceCtorEq, Nat.reduceLeDiff, ↓u_merge_Texts, hx, hy, hc, g1, g2, g3, g4, g5]
        have hpl := pieceOf_len s.o (s.x ++ i1) (s.y ++ i2) a b
        simp only [List.length_append] at hpl
        refine S3.wAll (by first | omega | (simp only [List.length_append]; omega) | (simp only []; omega)) fun H4 S4 => ?_
        have hx := S4.hx
        have hy := S4.hy
        have hc := S4.hc
        have hn := S4.hn
        unfold sideT at hx hy
        simp -dsimp (disch := first | assumption | omega | (simp only [List.length_set, List.length_append, List.length_cons, List.length_nil]; done) | (simp only [List.length_set, List.length_append, List.length_cons, List.length_nil]; omega)) only [↓vmPre, vmPost, vmWrd, vmDat, eq_self, forall_const, Nat.reduceLT, Nat.reduceEqDiff, Nat.reduceSub, Nat.reduceMul, Nat.reduceMod, Nat.reduceDiv, Nat.reducePow, UInt8.reduceToNat, Int.reduceEq, Int.reduceLT, Int.reduceLE, ↓reduceIte, Nat.reduceEqDiff, Nat.reduceAdd, Int.reduceToNat, reduceCtorEq, Nat.reduceLeDiff, ↓u_merge_Texts, hx, hy, hc, g1, g2, g3, g4, g5]
        have hHL : 10 ≤ H4.length := (List.getElem?_eq_some_iff.1 hc).1
        exact Rnd_keep (L.length - (i + 1)) (by omega) (by simpa using hHL) ⟨i + 1, k3, rfl, by omega, by rw [hst]; exact S4, rfl⟩
    · have hi2 : i = L.length := by omega
      obtain ⟨i1, g4⟩ : ∃ i1, X.2[X.1.length]? = some i1 := ⟨_, List.getElem?_eq_getElem (by omega)⟩
      obtain ⟨i2, g5⟩ : ∃ i2, Y.2[Y.1.length]? = some i2 := ⟨_, List.getElem?_eq_getElem (by omega)⟩
      have z4 := sx _ (List.mem_of_getElem? g4)
      have z5 := sy _ (List.mem_of_getElem? g5)
      have hst : textsOf a b L X Y = tend a b (tst a b L X Y i) i1 i2 := by
        have e4 := g4
        have e5 := g5
        rw [gx.1] at e4
        rw [gy.1] at e5
        rw [textsOf, hi2]; simp [List.getD_eq_getElem?_getD, e4, e5]
      rw [hst]
      have ss0 := ss
      generalize tst a b L X Y i = s at *
      obtain ⟨so, sxx, syy, sout, sn⟩ := ss
      unfold sideT at hx hy
      simp -dsimp (disch := first | assumption | omega | (simp only [List.length_set, List.length_append, List.length_cons, List.length_nil]; done) | (simp only [List.length_set, List.length_append, List.length_cons, List.length_nil]; omega)) only [↓vmPre, vmPost, vmWrd, vmDat, eq_self, forall_const, Nat.reduceLT, Nat.reduceEqDiff, Nat.reduceSub, Nat.reduceMul, Nat.reduceMod, Nat.reduceDiv, Nat.reducePow, UInt8.reduceToNat, Int.reduceEq, Int.reduceLT, Int.reduceLE, ↓reduceIte, Nat.reduceEqDiff, Nat.reduceAdd, Int.reduceToNat, reduceCtorEq, Nat.reduceLeDiff, ↓u_merge_Texts, hx, hy, hc, g4, g5]
      refine S.wX (by omega) fun H1 S1 => ?_
      have hx := S1.hx
      have hy := S1.hy
      have hc := S1.hc
      unfold sideT at hx hy
      simp -dsimp (disch := first | assumption | omega | (simp only [List.length_set, List.length_append, List.length_cons, List.length_nil]; done) | (simp only [List.length_set, List.length_append, List.length_cons, List.length_nil]; omega)) only [↓vmPre, vmPost, vmWrd, vmDat, eq_self, forall_const, Nat.reduceLT, Nat.reduceEqDiff, Nat.reduceSub, Nat.reduceMul, Nat.reduceMod, Nat.reduceDiv, Nat.reducePow, UInt8.reduceToNat, Int.reduceEq, Int.reduceLT, Int.reduceLE, ↓reduceIte, Nat.reduceEqDiff, Nat.reduceAdd, Int.reduceToNat, reduceCtorEq, Nat.reduceLeDiff, ↓u_merge_Texts, hx, hy, hc, g4, g5]
      refine S1.wY (by first | omega | (simp only [List.length_append]; omega) | (simp only []; omega)) fun H2 S2 => ?_
      have hx := S2.hx
      have hy := S2.hy
      have hc := S2.hc
      unfold sideT at hx hy
      simp -dsimp (disch := first | assumption | omega | (simp only [List.length_set, List.length_append, List.length_cons, List.length_nil]; done) | (simp only [List.length_set, List.length_append, List.length_cons, List.length_nil]; omega)) only [↓vmPre, vmPost, vmWrd, vmDat, eq_self, forall_const, Nat.reduceLT, Nat.reduceEqDiff, Nat.reduceSub, Nat.reduceMul, Nat.reduceMod, Nat.reduceDiv, Nat.reducePow, UInt8.reduceToNat, Int.reduceEq, Int.reduceLT, Int.reduceLE, ↓reduceIte, Nat.reduceEqDiff, Nat.reduceAdd, Int.reduceToNat, reduceCtorEq, Nat.reduceLeDiff, ↓u_merge_Texts, hx, hy, hc, g4, g5, isGo_closure]
      refine closV S2 (ss0.app z4 z5) (by omega) (by omega) fun H3 k3 S3 ⟨jo, O3⟩ => ?_
      have hn := S3.hn
      obtain ⟨⟨a0, r0, ho, ha0, vv, rfl, hbv⟩, _⟩ := O3
      have wa := width_self ha0
      have hpl := pieceOf_len s.o (s.x ++ i1) (s.y ++ i2) a b
      simp only [List.length_append] at hpl
      have hout : (s.out ++ (pieceOf s.o (s.x ++ i1) (s.y ++ i2) a b).1).length ≤ 9223372036854775807 := by simp only [List.length_append]; omega
      have hb := bstr_is
      unfold tend
      simp only [] at hn ho hbv
      generalize s.out ++ (pieceOf s.o (s.x ++ i1) (s.y ++ i2) a b).1 = w at *
      generalize s.n + (pieceOf s.o (s.x ++ i1) (s.y ++ i2) a b).2 = nn at *
      simp -dsimp (disch := first | assumption | omega | (simp only [List.length_set, List.length_append, List.length_cons, List.length_nil]; done) | (simp only [List.length_set, List.length_append, List.length_cons, List.length_nil]; omega)) only [↓vmPre, vmPost, vmWrd, vmDat, eq_self, forall_const, Nat.reduceLT, Nat.reduceEqDiff, Nat.reduceSub, Nat.reduceMul, Nat.reduceMod, Nat.reduceDiv, Nat.reducePow, UInt8.reduceToNat, Int.reduceEq, Int.reduceLT, Int.reduceLE, ↓reduceIte, Nat.reduceEqDiff, Nat.reduceAdd, Int.reduceToNat, reduceCtorEq, Nat.reduceLeDiff, ↓u_merge_Texts, hn, ho, hbv, wa, hb, bl_strN]
      trace_state
end Go.Proofs.Ytknphdcjopaaoaa
