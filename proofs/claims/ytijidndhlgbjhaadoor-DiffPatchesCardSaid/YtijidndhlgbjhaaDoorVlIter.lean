/- The loop over bytes.Lines. -/
import Derived.Test.YtijidndhlgbjhaaDoorCodeL
import Derived.Test.YtijidndhlgbjhaaDoorVlByte
import Derived.Test.YtijidndhlgbjhaaDoorVlPlain
namespace Go.Proofs.YtijidndhlgbjhaaDoor
open Go.RowKit
variable [Globs]
set_option linter.unusedSectionVars false
set_option linter.unusedVariables false
set_option linter.unusedSimpArgs false

/-- The captured text holds these bytes. -/
def RestAs (r : List UInt8) (x : TV) : Prop := x = slB r ∨ (r = [] ∧ x = .val (.slice none 0 0))
theorem lines_iter {I : List UInt8 → List Ob → Prop} {J : List Ob → Prop} {id sid L : Nat}
    (hI : ∀ r H, I r H → L ≤ H.length ∧ r.length ≤ 9223372036854775800 ∧ ∃ x, H[sid]? = some (.obj 0 x) ∧ RestAs r x)
    (hy : ∀ r H x, r ≠ [] → I r H → RestAs (cutL r).2 x → VYield Tryd.prog id 0 [slB (cutL r).1] (H.set sid (.obj 0 x)) (fun y H' => (y = .val (.bool true) ∧ I (cutL r).2 H') ∨ (y = .val (.bool false) ∧ J H')))
    {r0 : List UInt8} {H0 : List Ob} (h0 : I r0 H0) (hL : H0.length = L) : VCalls Tryd.prog 205 [.yl id 0, .op sid 0 []] H0 (fun _ H' => I [] H' ∨ J H') := by
  refine go_bytes_Lines_1 (by simp) ?_
  simp -dsimp (disch := first | assumption | omega) only [↓vmPre, vmPost, vmWrd, vmDat, eq_self, forall_const, Nat.reduceLT, Nat.reduceEqDiff, Nat.reduceSub, Nat.reduceMul, Nat.reduceMod, Nat.reduceDiv, Nat.reducePow, UInt8.reduceToNat, Int.reduceEq, Int.reduceLT, Int.reduceLE, ↓reduceIte, Nat.reduceEqDiff, Nat.reduceAdd, Int.reduceToNat, reduceCtorEq, Nat.reduceLeDiff, ↓u_bytes_Lines_1]
  refine w_loop (fun m e H => ∃ r, m = r.length ∧ e = [(0, .yl id 0), (1, .op sid 0 [])] ∧ I r H) r0.length ?_ ?_
  · exact ⟨r0, rfl, rfl, h0⟩
  · rintro n e H ⟨r, rfl, rfl, hr⟩
    obtain ⟨h1, h2, x, hx, hrx⟩ := hI r H hr
    have hlt : sid < H.length := (List.getElem?_eq_some_iff.1 hx).1
    rcases hrx with rfl | ⟨rfl, rfl⟩
    · simp -dsimp (disch := first | assumption | omega) only [↓vmPre, vmPost, vmWrd, vmDat, eq_self, forall_const, Nat.reduceLT, Nat.reduceEqDiff, Nat.reduceSub, Nat.reduceMul, Nat.reduceMod, Nat.reduceDiv, Nat.reducePow, UInt8.reduceToNat, Int.reduceEq, Int.reduceLT, Int.reduceLE, ↓reduceIte, Nat.reduceEqDiff, Nat.reduceAdd, Int.reduceToNat, reduceCtorEq, Nat.reduceLeDiff, ↓u_bytes_Lines_1, hx, List.length_map]
      refine vif_cases (fun h => ?_) (fun h => ?_)
      · simp -dsimp (disch := first | assumption | omega) only [↓vmPre, vmPost, vmWrd, vmDat, eq_self, forall_const, Nat.reduceLT, Nat.reduceEqDiff, Nat.reduceSub, Nat.reduceMul, Nat.reduceMod, Nat.reduceDiv, Nat.reducePow, UInt8.reduceToNat, Int.reduceEq, Int.reduceLT, Int.reduceLE, ↓reduceIte, Nat.reduceEqDiff, Nat.reduceAdd, Int.reduceToNat, reduceCtorEq, Nat.reduceLeDiff, ↓u_bytes_Lines_1, hx, List.length_map]
        have hne : r ≠ [] := by rintro rfl; simp at h
        have hlen := cutL_len r hne
        refine (VPure.indexByte r 10).calls rfl ?_
        rintro x rfl
        have fin : ∀ x', RestAs (cutL r).2 x' → VYield Tryd.prog id 0 [slB (cutL r).1] (H.set sid (.obj 0 x')) (fun y H' => (y = .val (.bool true) ∧ I (cutL r).2 H') ∨ (y = .val (.bool false) ∧ J H')) := fun x' hx' => hy r H x' hne hr hx'
        rcases cutL_cases r with ⟨k, k1, k2, k3⟩ | ⟨k1, k3⟩
        · rw [k1]
          simp -dsimp (disch := first | assumption | omega) only [↓vmPre, vmPost, vmWrd, vmDat, eq_self, forall_const, Nat.reduceLT, Nat.reduceEqDiff, Nat.reduceSub, Nat.reduceMul, Nat.reduceMod, Nat.reduceDiv, Nat.reducePow, UInt8.reduceToNat, Int.reduceEq, Int.reduceLT, Int.reduceLE, ↓reduceIte, Nat.reduceEqDiff, Nat.reduceAdd, Int.reduceToNat, reduceCtorEq, Nat.reduceLeDiff, ↓u_bytes_Lines_1, hx, List.length_map]
          rw [List.take_take, Nat.min_self]
          rw [k3] at fin hlen
          refine VYield.mono (fin _ (.inl rfl)) ?_
          rintro y H' (⟨rfl, hI'⟩ | ⟨rfl, hJ⟩)
          · simp -dsimp (disch := first | assumption | omega) only [↓vmPre, vmPost, vmWrd, vmDat, eq_self, forall_const, Nat.reduceLT, Nat.reduceEqDiff, Nat.reduceSub, Nat.reduceMul, Nat.reduceMod, Nat.reduceDiv, Nat.reducePow, UInt8.reduceToNat, Int.reduceEq, Int.reduceLT, Int.reduceLE, ↓reduceIte, Nat.reduceEqDiff, Nat.reduceAdd, Int.reduceToNat, reduceCtorEq, Nat.reduceLeDiff, ↓u_bytes_Lines_1]
            exact Rnd_keep _ hlen (by have := (hI _ _ hI').1; omega) ⟨_, rfl, rfl, hI'⟩
          · simp -dsimp (disch := first | assumption | omega) only [↓vmPre, vmPost, vmWrd, vmDat, eq_self, forall_const, Nat.reduceLT, Nat.reduceEqDiff, Nat.reduceSub, Nat.reduceMul, Nat.reduceMod, Nat.reduceDiv, Nat.reducePow, UInt8.reduceToNat, Int.reduceEq, Int.reduceLT, Int.reduceLE, ↓reduceIte, Nat.reduceEqDiff, Nat.reduceAdd, Int.reduceToNat, reduceCtorEq, Nat.reduceLeDiff, ↓u_bytes_Lines_1]
            exact .inr hJ
        · rw [k1]
          simp -dsimp (disch := first | assumption | omega) only [↓vmPre, vmPost, vmWrd, vmDat, eq_self, forall_const, Nat.reduceLT, Nat.reduceEqDiff, Nat.reduceSub, Nat.reduceMul, Nat.reduceMod, Nat.reduceDiv, Nat.reducePow, UInt8.reduceToNat, Int.reduceEq, Int.reduceLT, Int.reduceLE, ↓reduceIte, Nat.reduceEqDiff, Nat.reduceAdd, Int.reduceToNat, reduceCtorEq, Nat.reduceLeDiff, ↓u_bytes_Lines_1, hx, List.length_map]
          rw [k3] at fin hlen
          refine VYield.mono (fin _ (.inr ⟨rfl, rfl⟩)) ?_
          rintro y H' (⟨rfl, hI'⟩ | ⟨rfl, hJ⟩)
          · simp -dsimp (disch := first | assumption | omega) only [↓vmPre, vmPost, vmWrd, vmDat, eq_self, forall_const, Nat.reduceLT, Nat.reduceEqDiff, Nat.reduceSub, Nat.reduceMul, Nat.reduceMod, Nat.reduceDiv, Nat.reducePow, UInt8.reduceToNat, Int.reduceEq, Int.reduceLT, Int.reduceLE, ↓reduceIte, Nat.reduceEqDiff, Nat.reduceAdd, Int.reduceToNat, reduceCtorEq, Nat.reduceLeDiff, ↓u_bytes_Lines_1]
            exact Rnd_keep _ hlen (by have := (hI _ _ hI').1; omega) ⟨_, rfl, rfl, hI'⟩
          · simp -dsimp (disch := first | assumption | omega) only [↓vmPre, vmPost, vmWrd, vmDat, eq_self, forall_const, Nat.reduceLT, Nat.reduceEqDiff, Nat.reduceSub, Nat.reduceMul, Nat.reduceMod, Nat.reduceDiv, Nat.reducePow, UInt8.reduceToNat, Int.reduceEq, Int.reduceLT, Int.reduceLE, ↓reduceIte, Nat.reduceEqDiff, Nat.reduceAdd, Int.reduceToNat, reduceCtorEq, Nat.reduceLeDiff, ↓u_bytes_Lines_1]
            exact .inr hJ
      · have hr0 : r = [] := by cases r with
          | nil => rfl
          | cons b r => simp at h
        subst hr0
        simp -dsimp (disch := first | assumption | omega) only [↓vmPre, vmPost, vmWrd, vmDat, eq_self, forall_const, Nat.reduceLT, Nat.reduceEqDiff, Nat.reduceSub, Nat.reduceMul, Nat.reduceMod, Nat.reduceDiv, Nat.reducePow, UInt8.reduceToNat, Int.reduceEq, Int.reduceLT, Int.reduceLE, ↓reduceIte, Nat.reduceEqDiff, Nat.reduceAdd, Int.reduceToNat, reduceCtorEq, Nat.reduceLeDiff, ↓u_bytes_Lines_1, hx, List.length_map]
        exact .inl hr
    · simp -dsimp (disch := first | assumption | omega) only [↓vmPre, vmPost, vmWrd, vmDat, eq_self, forall_const, Nat.reduceLT, Nat.reduceEqDiff, Nat.reduceSub, Nat.reduceMul, Nat.reduceMod, Nat.reduceDiv, Nat.reducePow, UInt8.reduceToNat, Int.reduceEq, Int.reduceLT, Int.reduceLE, ↓reduceIte, Nat.reduceEqDiff, Nat.reduceAdd, Int.reduceToNat, reduceCtorEq, Nat.reduceLeDiff, ↓u_bytes_Lines_1, hx, List.length_map]
      exact .inl hr
end Go.Proofs.YtijidndhlgbjhaaDoor
