/- The document's Texts. -/
import Derived.Test.YtknphdcjopaaoaaVnRef
namespace Go.Proofs.Ytknphdcjopaaoaa
open Go.RowKit
set_option linter.unusedVariables false
set_option linter.unusedSimpArgs false

def rEnv (a b : List UInt8) (L : List (List UInt8)) (X Y : List Bool × List (List UInt8)) (s : TS) (i : Nat) : Env :=
  [(3, ts a), (4, ts b), (12, slS L), (13, .sl 1 (X.1.map tb)), (14, slS X.2), (15, .sl 1 (Y.1.map tb)), (16, slS Y.2), (17, ts s.out), (18, i64 (s.n : Int)), (19, ts s.o), (20, ts s.x), (21, ts s.y), (22, i64 (i : Int))]
theorem refTextsV (f g h a b : List UInt8) (hf : f.length ≤ 3000) (hg : g.length ≤ 3000) (hh : h.length ≤ 3000) (hab : a.length + b.length ≤ 3000) :
    VFresh Try.prog 29 [slB f, slB g, slB h, ts a, ts b] (fun r => r = .tup [slB (textsOf a b (linesOf f) (side f g) (side f h)).1, i64 ((textsOf a b (linesOf f) (side f g) (side f h)).2 : Int)]) := by
  refine VCalls.toFreshV (go_ref11_Texts (by simp) ?_)
  simp -dsimp (disch := first | assumption | omega | (simp only [List.length_set, List.length_append, List.length_cons, List.length_nil]; done) | (simp only [List.length_set, List.length_append, List.length_cons, List.length_nil]; omega)) only [↓vmPre, vmPost, vmWrd, vmDat, eq_self, forall_const, Nat.reduceLT, Nat.reduceEqDiff, Nat.reduceSub, Nat.reduceMul, Nat.reduceMod, Nat.reduceDiv, Nat.reducePow, UInt8.reduceToNat, Int.reduceEq, Int.reduceLT, Int.reduceLE, ↓reduceIte, Nat.reduceEqDiff, Nat.reduceAdd, Int.reduceToNat, reduceCtorEq, Nat.reduceLeDiff, ↓u_ref11_Texts]
  refine (refLines f (by omega)).calls rfl ?_
  rintro _ rfl
  simp -dsimp (disch := first | assumption | omega | (simp only [List.length_set, List.length_append, List.length_cons, List.length_nil]; done) | (simp only [List.length_set, List.length_append, List.length_cons, List.length_nil]; omega)) only [↓vmPre, vmPost, vmWrd, vmDat, eq_self, forall_const, Nat.reduceLT, Nat.reduceEqDiff, Nat.reduceSub, Nat.reduceMul, Nat.reduceMod, Nat.reduceDiv, Nat.reducePow, UInt8.reduceToNat, Int.reduceEq, Int.reduceLT, Int.reduceLE, ↓reduceIte, Nat.reduceEqDiff, Nat.reduceAdd, Int.reduceToNat, reduceCtorEq, Nat.reduceLeDiff, ↓u_ref11_Texts]
  refine (refSideV f g (by omega) (by omega)).calls rfl ?_
  rintro _ rfl
  simp -dsimp (disch := first | assumption | omega | (simp only [List.length_set, List.length_append, List.length_cons, List.length_nil]; done) | (simp only [List.length_set, List.length_append, List.length_cons, List.length_nil]; omega)) only [↓vmPre, vmPost, vmWrd, vmDat, eq_self, forall_const, Nat.reduceLT, Nat.reduceEqDiff, Nat.reduceSub, Nat.reduceMul, Nat.reduceMod, Nat.reduceDiv, Nat.reducePow, UInt8.reduceToNat, Int.reduceEq, Int.reduceLT, Int.reduceLE, ↓reduceIte, Nat.reduceEqDiff, Nat.reduceAdd, Int.reduceToNat, reduceCtorEq, Nat.reduceLeDiff, ↓u_ref11_Texts]
  refine (refSideV f h (by omega) (by omega)).calls rfl ?_
  rintro _ rfl
  have gx := side_len f g
  have gy := side_len f h
  have sx : ∀ s ∈ (side f g).2, s.length ≤ 4000 := fun s hs => Nat.le_trans (side_small f g s hs) (by omega)
  have sy : ∀ s ∈ (side f h).2, s.length ≤ 4000 := fun s hs => Nat.le_trans (side_small f h s hs) (by omega)
  have sl : ∀ s ∈ linesOf f, s.length ≤ 4000 := fun s hs => Nat.le_trans (line_small s hs) (by omega)
  have hlen := linesOf_length f
  generalize side f g = X at *
  generalize side f h = Y at *
  generalize linesOf f = L at *
  simp -dsimp (disch := first | assumption | omega | (simp only [List.length_set, List.length_append, List.length_cons, List.length_nil]; done) | (simp only [List.length_set, List.length_append, List.length_cons, List.length_nil]; omega)) only [↓vmPre, vmPost, vmWrd, vmDat, eq_self, forall_const, Nat.reduceLT, Nat.reduceEqDiff, Nat.reduceSub, Nat.reduceMul, Nat.reduceMod, Nat.reduceDiv, Nat.reducePow, UInt8.reduceToNat, Int.reduceEq, Int.reduceLT, Int.reduceLE, ↓reduceIte, Nat.reduceEqDiff, Nat.reduceAdd, Int.reduceToNat, reduceCtorEq, Nat.reduceLeDiff, ↓u_ref11_Texts]
  have small := fun i => tst_small (a := a) (b := b) (L := L) (X := X) (Y := Y) (by omega) sl sx sy i
  refine w_loop (fun q e H => ∃ (i : Nat) (s : TS), q = L.length + 1 - i ∧ (i ≤ L.length ∧ s = tst a b L X Y i ∨ i = L.length + 1 ∧ (s.out, s.n) = textsOf a b L X Y ∧ s.out.length ≤ 9223372036854775807) ∧ e = rEnv a b L X Y s i ∧ H = []) (L.length + 1) ?_ ?_
  · exact ⟨0, ⟨[], [], [], [], 0⟩, rfl, .inl ⟨by omega, rfl⟩, rfl, rfl⟩
  · rintro q e H ⟨i, s, rfl, hs, rfl, rfl⟩
    unfold rEnv
    rcases hs with ⟨hi, rfl⟩ | ⟨rfl, hs, hol⟩
    · have ss := small i (by omega)
      obtain ⟨i1, g4⟩ : ∃ i1, X.2[i]? = some i1 := ⟨_, List.getElem?_eq_getElem (by omega)⟩
      obtain ⟨i2, g5⟩ : ∃ i2, Y.2[i]? = some i2 := ⟨_, List.getElem?_eq_getElem (by omega)⟩
      have z4 := sx _ (List.mem_of_getElem? g4)
      have z5 := sy _ (List.mem_of_getElem? g5)
      by_cases hlt : i < L.length
      · obtain ⟨ln, g1⟩ : ∃ ln, L[i]? = some ln := ⟨_, List.getElem?_eq_getElem (by omega)⟩
        obtain ⟨c1, g2⟩ : ∃ c, X.1[i]? = some c := ⟨_, List.getElem?_eq_getElem (by omega)⟩
        obtain ⟨c2, g3⟩ : ∃ c, Y.1[i]? = some c := ⟨_, List.getElem?_eq_getElem (by omega)⟩
        have z1 := sl _ (List.mem_of_getElem? g1)
        have hst : tst a b L X Y (i + 1) = tstep a b (tst a b L X Y i) ln c1 c2 i1 i2 := by
          rw [tst]; simp [List.getD_eq_getElem?_getD, g1, g2, g3, g4, g5]
        generalize tst a b L X Y i = s at *
        obtain ⟨so, sxx, syy, sout, sn⟩ := ss
        have hpl := pieceOf_len s.o (s.x ++ i1) (s.y ++ i2) a b
        have hpn := pieceOf_n s.o (s.x ++ i1) (s.y ++ i2) a b
        simp only [List.length_append] at hpl
        cases c1 <;> cases c2
        · simp -dsimp (disch := first | assumption | omega | (simp only [List.length_set, List.length_append, List.length_cons, List.length_nil]; done) | (simp only [List.length_set, List.length_append, List.length_cons, List.length_nil]; omega)) only [↓vmPre, vmPost, vmWrd, vmDat, eq_self, forall_const, Nat.reduceLT, Nat.reduceEqDiff, Nat.reduceSub, Nat.reduceMul, Nat.reduceMod, Nat.reduceDiv, Nat.reducePow, UInt8.reduceToNat, Int.reduceEq, Int.reduceLT, Int.reduceLE, ↓reduceIte, Nat.reduceEqDiff, Nat.reduceAdd, Int.reduceToNat, reduceCtorEq, Nat.reduceLeDiff, ↓u_ref11_Texts, g1, g2, g3, g4, g5, s_cat]
          exact Rnd_keep (L.length + 1 - (i + 1)) (by omega) (by simp) ⟨i + 1, ⟨s.o ++ ln, s.x ++ i1, s.y ++ i2, s.out, s.n⟩, rfl, .inl ⟨by omega, by rw [hst]; simp [tstep]⟩, rfl, rfl⟩
        · simp -dsimp (disch := first | assumption | omega | (simp only [List.length_set, List.length_append, List.length_cons, List.length_nil]; done) | (simp only [List.length_set, List.length_append, List.length_cons, List.length_nil]; omega)) only [↓vmPre, vmPost, vmWrd, vmDat, eq_self, forall_const, Nat.reduceLT, Nat.reduceEqDiff, Nat.reduceSub, Nat.reduceMul, Nat.reduceMod, Nat.reduceDiv, Nat.reducePow, UInt8.reduceToNat, Int.reduceEq, Int.reduceLT, Int.reduceLE, ↓reduceIte, Nat.reduceEqDiff, Nat.reduceAdd, Int.reduceToNat, reduceCtorEq, Nat.reduceLeDiff, ↓u_ref11_Texts, g1, g2, g3, g4, g5, s_cat]
          exact Rnd_keep (L.length + 1 - (i + 1)) (by omega) (by simp) ⟨i + 1, ⟨s.o ++ ln, s.x ++ i1, s.y ++ i2 ++ ln, s.out, s.n⟩, rfl, .inl ⟨by omega, by rw [hst]; simp [tstep]⟩, rfl, rfl⟩
        · simp -dsimp (disch := first | assumption | omega | (simp only [List.length_set, List.length_append, List.length_cons, List.length_nil]; done) | (simp only [List.length_set, List.length_append, List.length_cons, List.length_nil]; omega)) only [↓vmPre, vmPost, vmWrd, vmDat, eq_self, forall_const, Nat.reduceLT, Nat.reduceEqDiff, Nat.reduceSub, Nat.reduceMul, Nat.reduceMod, Nat.reduceDiv, Nat.reducePow, UInt8.reduceToNat, Int.reduceEq, Int.reduceLT, Int.reduceLE, ↓reduceIte, Nat.reduceEqDiff, Nat.reduceAdd, Int.reduceToNat, reduceCtorEq, Nat.reduceLeDiff, ↓u_ref11_Texts, g1, g2, g3, g4, g5, s_cat]
          exact Rnd_keep (L.length + 1 - (i + 1)) (by omega) (by simp) ⟨i + 1, ⟨s.o ++ ln, s.x ++ i1 ++ ln, s.y ++ i2, s.out, s.n⟩, rfl, .inl ⟨by omega, by rw [hst]; simp [tstep]⟩, rfl, rfl⟩
        · simp -dsimp (disch := first | assumption | omega | (simp only [List.length_set, List.length_append, List.length_cons, List.length_nil]; done) | (simp only [List.length_set, List.length_append, List.length_cons, List.length_nil]; omega)) only [↓vmPre, vmPost, vmWrd, vmDat, eq_self, forall_const, Nat.reduceLT, Nat.reduceEqDiff, Nat.reduceSub, Nat.reduceMul, Nat.reduceMod, Nat.reduceDiv, Nat.reducePow, UInt8.reduceToNat, Int.reduceEq, Int.reduceLT, Int.reduceLE, ↓reduceIte, Nat.reduceEqDiff, Nat.reduceAdd, Int.reduceToNat, reduceCtorEq, Nat.reduceLeDiff, ↓u_ref11_Texts, g1, g2, g3, g4, g5, s_cat]
          refine (refPieceV s.o (s.x ++ i1) (s.y ++ i2) a b (by rw [List.length_append]; omega) (by rw [List.length_append]; omega) (by omega)).calls rfl ?_
          rintro _ rfl
          have hpl2 : (pieceOf s.o (s.x ++ i1) (s.y ++ i2) a b).1.length ≤ s.x.length + i1.length + (s.y.length + i2.length) + a.length + b.length + 28 := hpl
          simp -dsimp (disch := first | assumption | omega | (simp only [List.length_set, List.length_append, List.length_cons, List.length_nil]; done) | (simp only [List.length_set, List.length_append, List.length_cons, List.length_nil]; omega)) only [↓vmPre, vmPost, vmWrd, vmDat, eq_self, forall_const, Nat.reduceLT, Nat.reduceEqDiff, Nat.reduceSub, Nat.reduceMul, Nat.reduceMod, Nat.reduceDiv, Nat.reducePow, UInt8.reduceToNat, Int.reduceEq, Int.reduceLT, Int.reduceLE, ↓reduceIte, Nat.reduceEqDiff, Nat.reduceAdd, Int.reduceToNat, reduceCtorEq, Nat.reduceLeDiff, ↓u_ref11_Texts, g1, g2, g3, g4, g5, s_cat]
          exact Rnd_keep (L.length + 1 - (i + 1)) (by omega) (by simp) ⟨i + 1, ⟨[], [], [], s.out ++ (pieceOf s.o (s.x ++ i1) (s.y ++ i2) a b).1 ++ ln, s.n + (pieceOf s.o (s.x ++ i1) (s.y ++ i2) a b).2⟩, rfl, .inl ⟨by omega, by rw [hst]; simp [tstep]⟩, rfl, rfl⟩
      · have hi2 : i = L.length := by omega
        have hst : textsOf a b L X Y = tend a b (tst a b L X Y i) i1 i2 := by
          rw [hi2] at g4 g5 ⊢
          simp [textsOf, List.getD_eq_getElem?_getD, g4, g5]
        generalize tst a b L X Y i = s at *
        obtain ⟨so, sxx, syy, sout, sn⟩ := ss
        have hpl := pieceOf_len s.o (s.x ++ i1) (s.y ++ i2) a b
        have hpn := pieceOf_n s.o (s.x ++ i1) (s.y ++ i2) a b
        simp only [List.length_append] at hpl
        simp -dsimp (disch := first | assumption | omega | (simp only [List.length_set, List.length_append, List.length_cons, List.length_nil]; done) | (simp only [List.length_set, List.length_append, List.length_cons, List.length_nil]; omega)) only [↓vmPre, vmPost, vmWrd, vmDat, eq_self, forall_const, Nat.reduceLT, Nat.reduceEqDiff, Nat.reduceSub, Nat.reduceMul, Nat.reduceMod, Nat.reduceDiv, Nat.reducePow, UInt8.reduceToNat, Int.reduceEq, Int.reduceLT, Int.reduceLE, ↓reduceIte, Nat.reduceEqDiff, Nat.reduceAdd, Int.reduceToNat, reduceCtorEq, Nat.reduceLeDiff, ↓u_ref11_Texts, g4, g5, s_cat]
        refine (refPieceV s.o (s.x ++ i1) (s.y ++ i2) a b (by rw [List.length_append]; omega) (by rw [List.length_append]; omega) (by omega)).calls rfl ?_
        rintro _ rfl
        have hpl2 : (pieceOf s.o (s.x ++ i1) (s.y ++ i2) a b).1.length ≤ s.x.length + i1.length + (s.y.length + i2.length) + a.length + b.length + 28 := hpl
        simp -dsimp (disch := first | assumption | omega | (simp only [List.length_set, List.length_append, List.length_cons, List.length_nil]; done) | (simp only [List.length_set, List.length_append, List.length_cons, List.length_nil]; omega)) only [↓vmPre, vmPost, vmWrd, vmDat, eq_self, forall_const, Nat.reduceLT, Nat.reduceEqDiff, Nat.reduceSub, Nat.reduceMul, Nat.reduceMod, Nat.reduceDiv, Nat.reducePow, UInt8.reduceToNat, Int.reduceEq, Int.reduceLT, Int.reduceLE, ↓reduceIte, Nat.reduceEqDiff, Nat.reduceAdd, Int.reduceToNat, reduceCtorEq, Nat.reduceLeDiff, ↓u_ref11_Texts, g4, g5, s_cat]
        exact Rnd_keep (L.length + 1 - (i + 1)) (by omega) (by simp) ⟨i + 1, ⟨[], [], [], s.out ++ (pieceOf s.o (s.x ++ i1) (s.y ++ i2) a b).1, s.n + (pieceOf s.o (s.x ++ i1) (s.y ++ i2) a b).2⟩, rfl, .inr ⟨by omega, by rw [hst]; rfl, by rw [List.length_append]; omega⟩, rfl, rfl⟩
    · have hs1 : (textsOf a b L X Y).1 = s.out := by rw [← hs]
      have hs2 : (textsOf a b L X Y).2 = s.n := by rw [← hs]
      rw [hs1, hs2]
      simp -dsimp (disch := first | assumption | omega | (simp only [List.length_set, List.length_append, List.length_cons, List.length_nil]; done) | (simp only [List.length_set, List.length_append, List.length_cons, List.length_nil]; omega)) only [↓vmPre, vmPost, vmWrd, vmDat, eq_self, forall_const, Nat.reduceLT, Nat.reduceEqDiff, Nat.reduceSub, Nat.reduceMul, Nat.reduceMod, Nat.reduceDiv, Nat.reducePow, UInt8.reduceToNat, Int.reduceEq, Int.reduceLT, Int.reduceLE, ↓reduceIte, Nat.reduceEqDiff, Nat.reduceAdd, Int.reduceToNat, reduceCtorEq, Nat.reduceLeDiff, ↓u_ref11_Texts, bl_strN]
end Go.Proofs.Ytknphdcjopaaoaa
