/- strings.SplitSeq at a separator of one byte: what it hands out, piece by piece. -/
import Derived.Test.YtijidndhlgbjhaaDoorCodeK
import Derived.Test.YtijidndhlgbjhaaDoorVsKit
import Derived.Test.YtijidndhlgbjhaaDoorVmQ
namespace Go.Proofs.YtijidndhlgbjhaaDoor
open Go.RowKit
variable [Globs]
set_option linter.unusedSectionVars false
set_option linter.unusedVariables false
set_option linter.unusedSimpArgs false

/-- The pieces between bytes c. -/
def pieces (c : UInt8) : List UInt8 → List (List UInt8)
  | [] => [[]]
  | b :: l => if b = c then [] :: pieces c l else match pieces c l with
    | [] => [[b]]
    | p :: ps => (b :: p) :: ps
theorem pieces_ne (c : UInt8) (l : List UInt8) : pieces c l ≠ [] := by
  cases l with
  | nil => simp [pieces]
  | cons b l => rw [pieces]; split
                · simp
                · split <;> simp
theorem ixb_cases (c : UInt8) : ∀ l : List UInt8, (Lib.indexByte l c = -1 ∧ c ∉ l ∧ pieces c l = [l]) ∨ ∃ k : Nat, Lib.indexByte l c = (k : Int) ∧ k < l.length ∧ l[k]? = some c ∧ c ∉ l.take k ∧ pieces c l = l.take k :: pieces c (l.drop (k + 1))
  | [] => .inl ⟨rfl, by simp, rfl⟩
  | b :: l => by
    by_cases h : b = c
    · subst h
      refine .inr ⟨0, by simp [Lib.indexByte], by simp, rfl, by simp, by simp [pieces]⟩
    · rcases ixb_cases c l with ⟨h1, h2, h3⟩ | ⟨k, h1, h2, h3, h4, h5⟩
      · refine .inl ⟨by simp [Lib.indexByte, h, h1], by simp [h2, Ne.symm h], by rw [pieces, if_neg h, h3]⟩
      · refine .inr ⟨k + 1, ?_, by simp; omega, by simpa using h3, by simp [h4, Ne.symm h], by rw [pieces, if_neg h, h5]; simp⟩
        have : ¬ ((k : Int) = -1) := by omega
        simp [Lib.indexByte, h, h1, this]
theorem strIndexV (s : List UInt8) (c : UInt8) : VPure Tryd.prog 106 [ts s, ts [c]] (fun x => x = i64 (Lib.indexByte s c)) := by
  have h := VPure.ofBelow (f := 106) (args := [.string (str s), .string (str [c])]) (r := .int .i64 (Lib.indexByte s c)) (fun F w _ => by
    have h1 := Tryd.strings_Index_one (str s) c w
    rw [strL] at h1
    refine h1.mono ?_
    rintro e w' ⟨rfl, rfl⟩
    exact ⟨rfl, below_self _⟩)
  exact h
theorem split_iter {c : UInt8} {I : List UInt8 → List Ob → Prop} {J E : List Ob → Prop} {id sp sid sv L : Nat} {r0 : List UInt8} {H0 : List Ob}
    (hI : ∀ r H, I r H → L ≤ H.length ∧ r.length ≤ 9223372036854775800 ∧ H[sid]? = some (.obj 0 (ts r)) ∧ H[sp]? = some (.obj 0 (ts [c])) ∧ H[sv]? = some (.obj 0 (i64 ((0 : Nat) : Int))))
    (hy : ∀ r H k, I r H → k < r.length → pieces c r = r.take k :: pieces c (r.drop (k + 1)) → VYield Tryd.prog id 0 [ts (r.take k)] H (fun y H' => (y = .val (.bool true) ∧ H'[sid]? = some (.obj 0 (ts r)) ∧ H'[sp]? = some (.obj 0 (ts [c])) ∧ I (r.drop (k + 1)) (H'.set sid (.obj 0 (ts (r.drop (k + 1)))))) ∨ (y = .val (.bool false) ∧ J H')))
    (hend : ∀ r H, I r H → pieces c r = [r] → VYield Tryd.prog id 0 [ts r] H (fun y H' => E H'))
    (h0 : I r0 H0) (hL : H0.length = L) : VCalls Tryd.prog 172 [.yl id 0, .op sp 0 [], .op sid 0 [], .op sv 0 []] H0 (fun _ H' => E H' ∨ J H') := by
  refine go_strings_splitSeq_1 (by simp) ?_
  obtain ⟨_, _, _, q2, _⟩ := hI r0 H0 h0
  simp -dsimp (disch := first | assumption | omega) only [↓vmPre, vmPost, vmWrd, vmDat, eq_self, forall_const, Nat.reduceLT, Nat.reduceEqDiff, Nat.reduceSub, Nat.reduceMul, Nat.reduceMod, Nat.reduceDiv, Nat.reducePow, UInt8.reduceToNat, Int.reduceEq, Int.reduceLT, Int.reduceLE, ↓reduceIte, Nat.reduceEqDiff, Nat.reduceAdd, Int.reduceToNat, reduceCtorEq, Nat.reduceLeDiff, ↓u_strings_splitSeq_1, q2, bl_strN]
  refine w_loop (fun m e H => ∃ r, m = r.length ∧ e = [(0, .yl id 0), (1, .op sp 0 []), (2, .op sid 0 []), (3, .op sv 0 [])] ∧ I r H) r0.length ?_ ?_
  · exact ⟨r0, rfl, rfl, h0⟩
  · rintro n e H ⟨r, rfl, rfl, hr⟩
    obtain ⟨h1, h2, h3, h4, h5⟩ := hI r H hr
    simp -dsimp (disch := first | assumption | omega) only [↓vmPre, vmPost, vmWrd, vmDat, eq_self, forall_const, Nat.reduceLT, Nat.reduceEqDiff, Nat.reduceSub, Nat.reduceMul, Nat.reduceMod, Nat.reduceDiv, Nat.reducePow, UInt8.reduceToNat, Int.reduceEq, Int.reduceLT, Int.reduceLE, ↓reduceIte, Nat.reduceEqDiff, Nat.reduceAdd, Int.reduceToNat, reduceCtorEq, Nat.reduceLeDiff, ↓u_strings_splitSeq_1, h3, h4]
    refine (strIndexV r c).calls rfl ?_
    rintro _ rfl
    rcases ixb_cases c r with ⟨k1, k2, k3⟩ | ⟨k, k1, k2, k3, k4, k5⟩
    · rw [k1]
      simp -dsimp (disch := first | assumption | omega) only [↓vmPre, vmPost, vmWrd, vmDat, eq_self, forall_const, Nat.reduceLT, Nat.reduceEqDiff, Nat.reduceSub, Nat.reduceMul, Nat.reduceMod, Nat.reduceDiv, Nat.reducePow, UInt8.reduceToNat, Int.reduceEq, Int.reduceLT, Int.reduceLE, ↓reduceIte, Nat.reduceEqDiff, Nat.reduceAdd, Int.reduceToNat, reduceCtorEq, Nat.reduceLeDiff, ↓u_strings_splitSeq_1, h3]
      refine VYield.mono (hend r H hr k3) ?_
      rintro y H' hE
      simp -dsimp (disch := first | assumption | omega) only [↓vmPre, vmPost, vmWrd, vmDat, eq_self, forall_const, Nat.reduceLT, Nat.reduceEqDiff, Nat.reduceSub, Nat.reduceMul, Nat.reduceMod, Nat.reduceDiv, Nat.reducePow, UInt8.reduceToNat, Int.reduceEq, Int.reduceLT, Int.reduceLE, ↓reduceIte, Nat.reduceEqDiff, Nat.reduceAdd, Int.reduceToNat, reduceCtorEq, Nat.reduceLeDiff, ↓u_strings_splitSeq_1]
      exact .inl hE
    · rw [k1]
      simp -dsimp (disch := first | assumption | omega) only [↓vmPre, vmPost, vmWrd, vmDat, eq_self, forall_const, Nat.reduceLT, Nat.reduceEqDiff, Nat.reduceSub, Nat.reduceMul, Nat.reduceMod, Nat.reduceDiv, Nat.reducePow, UInt8.reduceToNat, Int.reduceEq, Int.reduceLT, Int.reduceLE, ↓reduceIte, Nat.reduceEqDiff, Nat.reduceAdd, Int.reduceToNat, reduceCtorEq, Nat.reduceLeDiff, ↓u_strings_splitSeq_1, h3, h5, bl_strN]
      refine VYield.mono (hy r H k hr k2 k5) ?_
      rintro y H' (⟨rfl, g1, g2, g3⟩ | ⟨rfl, hJ⟩)
      · simp -dsimp (disch := first | assumption | omega) only [↓vmPre, vmPost, vmWrd, vmDat, eq_self, forall_const, Nat.reduceLT, Nat.reduceEqDiff, Nat.reduceSub, Nat.reduceMul, Nat.reduceMod, Nat.reduceDiv, Nat.reducePow, UInt8.reduceToNat, Int.reduceEq, Int.reduceLT, Int.reduceLE, ↓reduceIte, Nat.reduceEqDiff, Nat.reduceAdd, Int.reduceToNat, reduceCtorEq, Nat.reduceLeDiff, ↓u_strings_splitSeq_1, g1, g2, bl_strN]
        exact Rnd_keep (r.length - (k + 1)) (by omega) (by rw [hL]; exact (hI _ _ g3).1) ⟨r.drop (k + 1), by simp, rfl, g3⟩
      · simp -dsimp (disch := first | assumption | omega) only [↓vmPre, vmPost, vmWrd, vmDat, eq_self, forall_const, Nat.reduceLT, Nat.reduceEqDiff, Nat.reduceSub, Nat.reduceMul, Nat.reduceMod, Nat.reduceDiv, Nat.reducePow, UInt8.reduceToNat, Int.reduceEq, Int.reduceLT, Int.reduceLE, ↓reduceIte, Nat.reduceEqDiff, Nat.reduceAdd, Int.reduceToNat, reduceCtorEq, Nat.reduceLeDiff, ↓u_strings_splitSeq_1]
        exact .inr hJ
end Go.Proofs.YtijidndhlgbjhaaDoor
