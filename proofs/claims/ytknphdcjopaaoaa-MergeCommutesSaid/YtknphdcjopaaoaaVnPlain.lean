/- Merging: what becomes of a text; plain. -/
import Derived.Test.YtknphdcjopaaoaaVlRefS
namespace Go.Proofs.Ytknphdcjopaaoaa
set_option linter.unusedVariables false
set_option linter.unusedSectionVars false

section
variable {α : Type} [DecidableEq α]
/-- What an edit leaves of the old text, and of the new one. -/
def olds : List (Nat × α) → List α
  | [] => []
  | e :: l => if e.1 = 2 then olds l else e.2 :: olds l
def news : List (Nat × α) → List α
  | [] => []
  | e :: l => if e.1 = 1 then news l else e.2 :: news l
theorem eds_texts : ∀ (x y : List α), olds (eds x y) = x ∧ news (eds x y) = y
  | [], [] => by rw [eds]; simp [olds, news]
  | a :: x, [] => by have := eds_texts x []; rw [eds]; simpa [olds, news] using this
  | [], b :: y => by have := eds_texts [] y; rw [eds]; simpa [olds, news] using this
  | a :: x, b :: y => by
    have h1 := eds_texts x y
    have h2 := eds_texts x (b :: y)
    have h3 := eds_texts (a :: x) y
    rw [eds]
    split
    · rename_i e; subst e; simpa [olds, news] using h1
    · split
      · simpa [olds, news] using h2
      · simpa [olds, news] using h3
termination_by x y => x.length + y.length
theorem olds_map {x : List α} : olds (x.map fun a => (1, a)) = x ∧ news (x.map fun a => (1, a)) = [] := by
  induction x with
  | nil => exact ⟨rfl, rfl⟩
  | cons a x ih => simpa [olds, news] using ih
theorem news_map {x : List α} : olds (x.map fun a => (2, a)) = [] ∧ news (x.map fun a => (2, a)) = x := by
  induction x with
  | nil => exact ⟨rfl, rfl⟩
  | cons a x ih => simpa [olds, news] using ih
theorem app_texts : ∀ {l m : List (Nat × α)}, olds (l ++ m) = olds l ++ olds m ∧ news (l ++ m) = news l ++ news m
  | [], m => ⟨rfl, rfl⟩
  | e :: l, m => by
    obtain ⟨h1, h2⟩ := app_texts (l := l) (m := m)
    rw [List.cons_append, olds, news, olds, news, h1, h2]
    exact ⟨by split <;> rfl, by split <;> rfl⟩
theorem edl_texts : ∀ (x y : List α), olds (edl x y) = x ∧ news (edl x y) = y
  | [], y => by rw [edl.eq_def]; simp [app_texts, news_map, olds, news]
  | a :: x, [] => by rw [edl.eq_def]; simp only [List.map_nil, List.append_nil]; exact olds_map
  | a :: x, b :: y => by
    have h := edl_texts x y
    rw [edl]
    split
    · rename_i e; subst e; simpa [olds, news] using h
    · rw [app_texts.1, app_texts.2, olds_map.1, olds_map.2, news_map.1, news_map.2]; simp
theorem edx_texts (L : Bool) (x y : List α) : olds (edx L x y) = x ∧ news (edx L x y) = y := by
  unfold edx; split
  · exact edl_texts x y
  · exact eds_texts x y
end
theorem eds_len {α : Type} [DecidableEq α] : ∀ (x y : List α), (eds x y).length ≤ x.length + y.length
  | [], [] => by simp [eds]
  | a :: x, [] => by have := eds_len x []; rw [eds]; simp at *; omega
  | [], b :: y => by have := eds_len [] y; rw [eds]; simp at *; omega
  | a :: x, b :: y => by
    have h1 := eds_len x y
    have h2 := eds_len x (b :: y)
    have h3 := eds_len (a :: x) y
    rw [eds]
    split
    · simp at *; omega
    · split <;> simp at * <;> omega
termination_by x y => x.length + y.length
theorem edl_len {α : Type} [DecidableEq α] : ∀ (x y : List α), (edl x y).length ≤ x.length + y.length
  | [], y => by simp [edl]
  | a :: x, [] => by simp [edl]
  | a :: x, b :: y => by
    have h1 := edl_len x y
    rw [edl]
    split <;> simp at * <;> omega
theorem edx_len (L : Bool) (x y : List (List UInt8)) : (edx L x y).length ≤ x.length + y.length := by
  cases L
  · exact eds_len x y
  · exact edl_len x y
/-- Of each line of the old text whether it is kept; what is inserted ahead of it (and behind the last one). -/
def sideOf : List (Nat × List UInt8) → List UInt8 → List Bool × List (List UInt8)
  | [], cur => ([], [cur])
  | e :: es, cur => if e.1 = 2 then sideOf es (cur ++ e.2) else (decide (e.1 = 0) :: (sideOf es []).1, cur :: (sideOf es []).2)
theorem sideOf_len : ∀ (l : List (Nat × List UInt8)) (cur : List UInt8), (sideOf l cur).1.length = (olds l).length ∧ (sideOf l cur).2.length = (olds l).length + 1
  | [], cur => by simp [sideOf, olds]
  | e :: es, cur => by
    have h1 := sideOf_len es (cur ++ e.2)
    have h2 := sideOf_len es []
    rw [sideOf, olds]
    split
    · exact h1
    · simp [h2.1, h2.2]
theorem sideOf_small : ∀ (l : List (Nat × List UInt8)) (cur : List UInt8), ∀ s ∈ (sideOf l cur).2, s.length ≤ cur.length + (news l).flatten.length
  | [], cur => by simp [sideOf]
  | e :: es, cur => by
    have h1 := sideOf_small es (cur ++ e.2)
    have h2 := sideOf_small es []
    rw [sideOf, news]
    intro s hs
    split at hs
    · rename_i h
      have := h1 s hs
      rw [if_neg (by omega)]; simp at *; omega
    · rcases List.mem_cons.1 hs with rfl | hs
      · simp
      · have := h2 s hs
        split <;> simp at * <;> omega
/-- What becomes of a text. -/
def side (a b : List UInt8) : List Bool × List (List UInt8) := sideOf (edx (isLong a b) (linesOf a) (linesOf b)) []
theorem side_len (a b : List UInt8) : (side a b).1.length = (linesOf a).length ∧ (side a b).2.length = (linesOf a).length + 1 := by
  have := sideOf_len (edx (isLong a b) (linesOf a) (linesOf b)) []
  rw [(edx_texts _ _ _).1] at this; exact this
theorem side_small (a b : List UInt8) : ∀ s ∈ (side a b).2, s.length ≤ b.length := by
  intro s hs
  have := sideOf_small _ _ s hs
  rw [(edx_texts _ _ _).2, linesOf_flat] at this
  simpa using this
end Go.Proofs.Ytknphdcjopaaoaa
