/- diff.Edits, as a whole. -/
import Derived.Test.YtijidndhlgbjhaaDoorVlEdits
namespace Go.Proofs.YtijidndhlgbjhaaDoor
open Go.RowKit
variable [Globs]
set_option linter.unusedSectionVars false
set_option linter.unusedVariables false
set_option linter.unusedSimpArgs false

def isLong (a b : List UInt8) : Bool := decide (2000 < (linesOf a).length) || decide (2000 < (linesOf b).length)
theorem edits16 {tot p : List (Nat × List UInt8)} {x y : List (List UInt8)} {v : Nat} {L : Bool} (hb : p.length + x.length ≤ 4000) (hb2 : p.length + y.length ≤ 4000) (hs : L = false → x.length ≤ 2000 ∧ y.length ≤ 2000) (ht : tot = p ++ edx L x y) (hne : ∀ a ∈ x.head?, ∀ b ∈ y.head?, a ≠ b) :
    vwp Tryd.prog c_diff_Edits_k16 (atEnd r_diff_Edits (EndIs tot)) [(5, slS x), (6, slS y), (7, .op 0 0 []), (8, adds), (9, .val (.bool L))] (outs v p) := by
  cases L with
  | true =>
    have ht' : tot = p ++ (x.map (fun l => (1, l)) ++ y.map (fun l => (2, l))) := by rw [ht]; show p ++ edl x y = _; rw [edl_end hne]
    have fin := editsLong (v := v) (tb := .agg [i64 ((0 : Nat) : Int), .val (.slice none 0 0)]) hb (by omega) ht' rfl
    unfold outs at fin ⊢
    simp -dsimp (disch := first | assumption | omega) only [↓vmPre, vmPost, vmWrd, vmDat, eq_self, forall_const, Nat.reduceLT, Nat.reduceEqDiff, Nat.reduceSub, Nat.reduceMul, Nat.reduceMod, Nat.reduceDiv, Nat.reducePow, UInt8.reduceToNat, Int.reduceEq, Int.reduceLT, Int.reduceLE, ↓reduceIte, Nat.reduceEqDiff, Nat.reduceAdd, Int.reduceToNat, reduceCtorEq, Nat.reduceLeDiff, ↓u_diff_Edits_k16_e, ↓u_diff_Edits_k15_e]
    exact fin
  | false =>
    obtain ⟨hx, hy⟩ := hs rfl
    have fin := editsShort (v := v) (tb := .agg [i64 ((y.length + 1 : Nat) : Int), .sl 1 ((tabc x y).map cel)]) hb hx hy ht rfl
    unfold outs at fin ⊢
    simp -dsimp (disch := first | assumption | omega) only [↓vmPre, vmPost, vmWrd, vmDat, eq_self, forall_const, Nat.reduceLT, Nat.reduceEqDiff, Nat.reduceSub, Nat.reduceMul, Nat.reduceMod, Nat.reduceDiv, Nat.reducePow, UInt8.reduceToNat, Int.reduceEq, Int.reduceLT, Int.reduceLE, ↓reduceIte, Nat.reduceEqDiff, Nat.reduceAdd, Int.reduceToNat, reduceCtorEq, Nat.reduceLeDiff, ↓u_diff_Edits_k16_e, ↓u_diff_Edits_k15_e]
    refine (fillV hx hy).calls rfl ?_
    rintro r rfl
    simp -dsimp (disch := first | assumption | omega) only [↓vmPre, vmPost, vmWrd, vmDat, eq_self, forall_const, Nat.reduceLT, Nat.reduceEqDiff, Nat.reduceSub, Nat.reduceMul, Nat.reduceMod, Nat.reduceDiv, Nat.reducePow, UInt8.reduceToNat, Int.reduceEq, Int.reduceLT, Int.reduceLE, ↓reduceIte, Nat.reduceEqDiff, Nat.reduceAdd, Int.reduceToNat, reduceCtorEq, Nat.reduceLeDiff, ↓u_diff_Edits_k16_e, ↓u_diff_Edits_k15_e]
    exact fin
theorem edits17 {a b : List UInt8} (ha : a.length ≤ 4000) (hb : b.length ≤ 4000) {p : List (Nat × List UInt8)} {x y : List (List UInt8)} {v : Nat} {q : TV} (hx : p.length + x.length ≤ (linesOf a).length) (hy : p.length + y.length ≤ (linesOf b).length) (ht : edx (isLong a b) (linesOf a) (linesOf b) = p ++ edx (isLong a b) x y) (hne : ∀ a ∈ x.head?, ∀ b ∈ y.head?, a ≠ b) :
    vwp Tryd.prog c_diff_Edits_k17 (atEnd r_diff_Edits (EndIs (edx (isLong a b) (linesOf a) (linesOf b)))) [(0, slB a), (1, slB b), (5, slS x), (6, slS y), (7, .op 0 0 []), (8, adds), (34, q)] (outs v p) := by
  have la := linesOf_length a
  have lb := linesOf_length b
  have hl : isLong a b = false → (linesOf a).length ≤ 2000 ∧ (linesOf b).length ≤ 2000 := by
    intro h; unfold isLong at h; simp at h; exact h
  have fin := edits16 (L := isLong a b) (v := v) (by omega) (by omega) (fun h => ⟨by have := hl h; omega, by have := hl h; omega⟩) ht hne
  simp -dsimp (disch := first | assumption | omega) only [↓vmPre, vmPost, vmWrd, vmDat, eq_self, forall_const, Nat.reduceLT, Nat.reduceEqDiff, Nat.reduceSub, Nat.reduceMul, Nat.reduceMod, Nat.reduceDiv, Nat.reducePow, UInt8.reduceToNat, Int.reduceEq, Int.reduceLT, Int.reduceLE, ↓reduceIte, Nat.reduceEqDiff, Nat.reduceAdd, Int.reduceToNat, reduceCtorEq, Nat.reduceLeDiff, ↓u_diff_Edits_k17_e]
  refine (diffLines a ha).pure.calls rfl ?_
  rintro _ rfl
  simp -dsimp (disch := first | assumption | omega) only [↓vmPre, vmPost, vmWrd, vmDat, eq_self, forall_const, Nat.reduceLT, Nat.reduceEqDiff, Nat.reduceSub, Nat.reduceMul, Nat.reduceMod, Nat.reduceDiv, Nat.reducePow, UInt8.reduceToNat, Int.reduceEq, Int.reduceLT, Int.reduceLE, ↓reduceIte, Nat.reduceEqDiff, Nat.reduceAdd, Int.reduceToNat, reduceCtorEq, Nat.reduceLeDiff, ↓u_diff_Edits_k17_e]
  refine (diffLines b hb).pure.calls rfl ?_
  rintro _ rfl
  simp -dsimp (disch := first | assumption | omega) only [↓vmPre, vmPost, vmWrd, vmDat, eq_self, forall_const, Nat.reduceLT, Nat.reduceEqDiff, Nat.reduceSub, Nat.reduceMul, Nat.reduceMod, Nat.reduceDiv, Nat.reducePow, UInt8.reduceToNat, Int.reduceEq, Int.reduceLT, Int.reduceLE, ↓reduceIte, Nat.reduceEqDiff, Nat.reduceAdd, Int.reduceToNat, reduceCtorEq, Nat.reduceLeDiff, ↓u_diff_Edits_k17_e]
  refine vif_cases (fun h => ?_) (fun h => ?_)
  · have e1 : decide (2000 < (linesOf b).length) = isLong a b := by unfold isLong; rw [Bool.eq_iff_iff]; simp; omega
    simp -dsimp (disch := first | assumption | omega) only [↓vmPre, vmPost, vmWrd, vmDat, eq_self, forall_const, Nat.reduceLT, Nat.reduceEqDiff, Nat.reduceSub, Nat.reduceMul, Nat.reduceMod, Nat.reduceDiv, Nat.reducePow, UInt8.reduceToNat, Int.reduceEq, Int.reduceLT, Int.reduceLE, ↓reduceIte, Nat.reduceEqDiff, Nat.reduceAdd, Int.reduceToNat, reduceCtorEq, Nat.reduceLeDiff, ↓u_diff_Edits_k17_e]
    rw [e1]; exact fin
  · have e1 : decide (2000 < (linesOf a).length) = isLong a b := by unfold isLong; rw [Bool.eq_iff_iff]; simp; omega
    simp -dsimp (disch := first | assumption | omega) only [↓vmPre, vmPost, vmWrd, vmDat, eq_self, forall_const, Nat.reduceLT, Nat.reduceEqDiff, Nat.reduceSub, Nat.reduceMul, Nat.reduceMod, Nat.reduceDiv, Nat.reducePow, UInt8.reduceToNat, Int.reduceEq, Int.reduceLT, Int.reduceLE, ↓reduceIte, Nat.reduceEqDiff, Nat.reduceAdd, Int.reduceToNat, reduceCtorEq, Nat.reduceLeDiff, ↓u_diff_Edits_k17_e]
    rw [e1]; exact fin
theorem diffEdits {a b : List UInt8} (ha : a.length ≤ 4000) (hb : b.length ≤ 4000) : VFresh Tryd.prog 57 [slB a, slB b] (fun r => r = .sl 2 ((edx (isLong a b) (linesOf a) (linesOf b)).map ed)) := by
  have la := linesOf_length a
  have lb := linesOf_length b
  refine VCalls.toFreshV (go_diff_Edits (by simp) ?_)
  show vwp Tryd.prog c_diff_Edits (atEnd r_diff_Edits (EndIs (edx (isLong a b) (linesOf a) (linesOf b)))) _ _
  simp -dsimp (disch := first | assumption | omega) only [↓vmPre, vmPost, vmWrd, vmDat, eq_self, forall_const, Nat.reduceLT, Nat.reduceEqDiff, Nat.reduceSub, Nat.reduceMul, Nat.reduceMod, Nat.reduceDiv, Nat.reducePow, UInt8.reduceToNat, Int.reduceEq, Int.reduceLT, Int.reduceLE, ↓reduceIte, Nat.reduceEqDiff, Nat.reduceAdd, Int.reduceToNat, reduceCtorEq, Nat.reduceLeDiff, ↓u_diff_Edits]
  refine (diffLines a ha).pure.calls rfl ?_
  rintro x rfl
  simp -dsimp (disch := first | assumption | omega) only [↓vmPre, vmPost, vmWrd, vmDat, eq_self, forall_const, Nat.reduceLT, Nat.reduceEqDiff, Nat.reduceSub, Nat.reduceMul, Nat.reduceMod, Nat.reduceDiv, Nat.reducePow, UInt8.reduceToNat, Int.reduceEq, Int.reduceLT, Int.reduceLE, ↓reduceIte, Nat.reduceEqDiff, Nat.reduceAdd, Int.reduceToNat, reduceCtorEq, Nat.reduceLeDiff, ↓u_diff_Edits]
  refine (diffLines b hb).pure.calls rfl ?_
  rintro x rfl
  simp -dsimp (disch := first | assumption | omega) only [↓vmPre, vmPost, vmWrd, vmDat, eq_self, forall_const, Nat.reduceLT, Nat.reduceEqDiff, Nat.reduceSub, Nat.reduceMul, Nat.reduceMod, Nat.reduceDiv, Nat.reducePow, UInt8.reduceToNat, Int.reduceEq, Int.reduceLT, Int.reduceLE, ↓reduceIte, Nat.reduceEqDiff, Nat.reduceAdd, Int.reduceToNat, reduceCtorEq, Nat.reduceLeDiff, ↓u_diff_Edits]
  refine w_loop (fun m e H => ∃ (p : List (Nat × List UInt8)) (x y : List (List UInt8)) (v : Nat), m = x.length ∧ edx (isLong a b) (linesOf a) (linesOf b) = p ++ edx (isLong a b) x y ∧ p.length + x.length ≤ (linesOf a).length ∧ p.length + y.length ≤ (linesOf b).length ∧
    e = [(0, slB a), (1, slB b), (5, slS x), (6, slS y), (7, .op 0 0 []), (8, adds)] ∧ H = outs v p) (linesOf a).length ?_ ?_
  · exact ⟨[], linesOf a, linesOf b, 0, rfl, rfl, by simp, by simp, rfl, rfl⟩
  · rintro m e H ⟨p, x, y, v, rfl, h1, h2, h3, rfl, rfl⟩
    rcases x with _ | ⟨a1, x⟩
    · simp -dsimp (disch := first | assumption | omega) only [↓vmPre, vmPost, vmWrd, vmDat, eq_self, forall_const, Nat.reduceLT, Nat.reduceEqDiff, Nat.reduceSub, Nat.reduceMul, Nat.reduceMod, Nat.reduceDiv, Nat.reducePow, UInt8.reduceToNat, Int.reduceEq, Int.reduceLT, Int.reduceLE, ↓reduceIte, Nat.reduceEqDiff, Nat.reduceAdd, Int.reduceToNat, reduceCtorEq, Nat.reduceLeDiff, ↓u_diff_Edits_L1_e]
      exact edits17 ha hb h2 h3 h1 (by simp)
    · rcases y with _ | ⟨b1, y⟩
      · simp -dsimp (disch := first | assumption | omega) only [↓vmPre, vmPost, vmWrd, vmDat, eq_self, forall_const, Nat.reduceLT, Nat.reduceEqDiff, Nat.reduceSub, Nat.reduceMul, Nat.reduceMod, Nat.reduceDiv, Nat.reducePow, UInt8.reduceToNat, Int.reduceEq, Int.reduceLT, Int.reduceLE, ↓reduceIte, Nat.reduceEqDiff, Nat.reduceAdd, Int.reduceToNat, reduceCtorEq, Nat.reduceLeDiff, ↓u_diff_Edits_L1_e]
        exact edits17 ha hb h2 h3 h1 (by simp)
      · unfold outs
        simp -dsimp (disch := first | assumption | omega) only [↓vmPre, vmPost, vmWrd, vmDat, eq_self, forall_const, Nat.reduceLT, Nat.reduceEqDiff, Nat.reduceSub, Nat.reduceMul, Nat.reduceMod, Nat.reduceDiv, Nat.reducePow, UInt8.reduceToNat, Int.reduceEq, Int.reduceLT, Int.reduceLE, ↓reduceIte, Nat.reduceEqDiff, Nat.reduceAdd, Int.reduceToNat, reduceCtorEq, Nat.reduceLeDiff, ↓u_diff_Edits_L1_e, isGo_add]
        refine vif_cases (fun h => ?_) (fun h => ?_)
        · subst h
          simp -dsimp (disch := first | assumption | omega) only [↓vmPre, vmPost, vmWrd, vmDat, eq_self, forall_const, Nat.reduceLT, Nat.reduceEqDiff, Nat.reduceSub, Nat.reduceMul, Nat.reduceMod, Nat.reduceDiv, Nat.reducePow, UInt8.reduceToNat, Int.reduceEq, Int.reduceLT, Int.reduceLE, ↓reduceIte, Nat.reduceEqDiff, Nat.reduceAdd, Int.reduceToNat, reduceCtorEq, Nat.reduceLeDiff, ↓u_diff_Edits_L1_e, isGo_add]
          refine VCalls.mono (addV (k := 0) (s := a1) (es := p) (v := v) (Hr := []) (by omega)) ?_
          rintro _ H' ⟨rfl, g, hg, rfl⟩
          simp -dsimp (disch := first | assumption | omega) only [↓vmPre, vmPost, vmWrd, vmDat, eq_self, forall_const, Nat.reduceLT, Nat.reduceEqDiff, Nat.reduceSub, Nat.reduceMul, Nat.reduceMod, Nat.reduceDiv, Nat.reducePow, UInt8.reduceToNat, Int.reduceEq, Int.reduceLT, Int.reduceLE, ↓reduceIte, Nat.reduceEqDiff, Nat.reduceAdd, Int.reduceToNat, reduceCtorEq, Nat.reduceLeDiff, ↓u_diff_Edits_L1_e, isGo_add]
          refine Rnd_cut x.length 2 (by omega) (by omega) rfl rfl ⟨p ++ [(0, a1)], x, y, v + 1, rfl, ?_, ?_, ?_, rfl, rfl⟩
          · rw [h1, edx_keep, List.append_assoc]; rfl
          · simp only [List.length_append, List.length_cons, List.length_nil] at *; omega
          · simp only [List.length_append, List.length_cons, List.length_nil] at *; omega
        · simp -dsimp (disch := first | assumption | omega) only [↓vmPre, vmPost, vmWrd, vmDat, eq_self, forall_const, Nat.reduceLT, Nat.reduceEqDiff, Nat.reduceSub, Nat.reduceMul, Nat.reduceMod, Nat.reduceDiv, Nat.reducePow, UInt8.reduceToNat, Int.reduceEq, Int.reduceLT, Int.reduceLE, ↓reduceIte, Nat.reduceEqDiff, Nat.reduceAdd, Int.reduceToNat, reduceCtorEq, Nat.reduceLeDiff, ↓u_diff_Edits_L1_e, isGo_add]
          exact edits17 ha hb h2 h3 h1 (by simpa using h)
end Go.Proofs.YtijidndhlgbjhaaDoor
