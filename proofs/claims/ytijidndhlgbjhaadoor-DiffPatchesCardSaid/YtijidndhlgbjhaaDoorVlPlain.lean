/- A text's first line, and what is behind it. No program in sight. -/
import Derived.Test.YtijidndhlgbjhaaDoorLinesPlain
import Derived.Lib.Bytealg
namespace Go.Proofs.YtijidndhlgbjhaaDoor

def cutL : List UInt8 → List UInt8 × List UInt8
  | [] => ([], [])
  | b :: r => if b = 10 then ([b], r) else (b :: (cutL r).1, (cutL r).2)
theorem cutL_flat (r : List UInt8) : (cutL r).1 ++ (cutL r).2 = r := by
  induction r with
  | nil => rfl
  | cons b r ih => rw [cutL]; split <;> simp [ih]
theorem cutL_len : ∀ (r : List UInt8), r ≠ [] → (cutL r).2.length < r.length
  | [], h => absurd rfl h
  | b :: r, _ => by
    rw [cutL]; split
    · simp
    · have := congrArg List.length (cutL_flat r)
      rw [List.length_append] at this
      simp only [List.length_cons]; omega
theorem cutL_cases (r : List UInt8) : (∃ k : Nat, Lib.indexByte r 10 = k ∧ k < r.length ∧ cutL r = (r.take (k + 1), r.drop (k + 1))) ∨ (Lib.indexByte r 10 = -1 ∧ cutL r = (r, [])) := by
  induction r with
  | nil => exact .inr ⟨rfl, rfl⟩
  | cons b r ih =>
    rw [cutL, Lib.indexByte]
    by_cases hb : b = 10
    · subst hb
      exact .inl ⟨0, by simp, by simp, by simp⟩
    · have hbf : (b == 10) = false := by simpa using hb
      rw [if_neg hb, hbf]
      rcases ih with ⟨k, h1, h2, h3⟩ | ⟨h1, h2⟩
      · refine .inl ⟨k + 1, ?_, by simpa using h2, by rw [h3]; rfl⟩
        rw [h1]
        have : ((k : Int) == -1) = false := by rw [beq_eq_false_iff_ne]; omega
        simp [this]
      · refine .inr ⟨by rw [h1]; simp, by rw [h2]⟩
theorem lin_cut (r : List UInt8) : ∀ cur, (cur ≠ [] ∨ r ≠ []) → lin cur r = (cur ++ (cutL r).1) :: linesOf (cutL r).2 := by
  induction r with
  | nil => intro cur h; rcases h with h | h
           · simp [lin, cutL, h, linesOf]
           · exact absurd rfl h
  | cons b r ih =>
    intro cur h
    rw [lin, cutL]
    by_cases hb : b = 10
    · simp [hb, linesOf]
    · rw [if_neg hb, if_neg hb, ih (cur ++ [b]) (.inl (by simp))]; simp
theorem linesOf_cons (r : List UInt8) (h : r ≠ []) : linesOf r = (cutL r).1 :: linesOf (cutL r).2 := by
  have := lin_cut r [] (.inr h); simpa [linesOf] using this
theorem cutL_ne (r : List UInt8) (h : r ≠ []) : (cutL r).1 ≠ [] := by
  cases r with
  | nil => exact absurd rfl h
  | cons b r => rw [cutL]; split <;> simp
end Go.Proofs.YtijidndhlgbjhaaDoor
