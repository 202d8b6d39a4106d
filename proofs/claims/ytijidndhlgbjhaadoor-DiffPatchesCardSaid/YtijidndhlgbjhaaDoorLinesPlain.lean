/- The lines of a text, and what two texts have in common. No program in sight. -/
import Derived.Test.YtijidndhlgbjhaaDoorMem
namespace Go.Proofs.YtijidndhlgbjhaaDoor

/-- The lines of what is left, the first one begun already. -/
def lin : List UInt8 → List UInt8 → List (List UInt8)
  | cur, [] => if cur = [] then [] else [cur]
  | cur, b :: r => if b = 10 then (cur ++ [b]) :: lin [] r else lin (cur ++ [b]) r
def linesOf (b : List UInt8) : List (List UInt8) := lin [] b

theorem lin_flat (r : List UInt8) : ∀ cur, (lin cur r).flatten = cur ++ r := by
  induction r with
  | nil => intro cur; by_cases h : cur = [] <;> simp [lin, h]
  | cons b r ih => intro cur; by_cases h : b = 10 <;> simp [lin, h, ih]
theorem linesOf_flat (b : List UInt8) : (linesOf b).flatten = b := by simp [linesOf, lin_flat]
theorem lin_ne (r : List UInt8) : ∀ cur, ∀ l ∈ lin cur r, l ≠ [] := by
  induction r with
  | nil => intro cur l hl; by_cases h : cur = [] <;> simp [lin, h] at hl; subst hl; exact h
  | cons b r ih =>
    intro cur l hl
    by_cases h : b = 10
    · simp [lin, h] at hl
      rcases hl with rfl | hl
      · simp
      · exact ih _ _ hl
    · simp [lin, h] at hl; exact ih _ _ hl
theorem flat_len (ls : List (List UInt8)) (h : ∀ l ∈ ls, l ≠ []) : ls.length ≤ ls.flatten.length := by
  induction ls with
  | nil => simp
  | cons l ls ih =>
    have h1 := ih (fun x hx => h x (by simp [hx]))
    have h2 : 0 < l.length := List.length_pos_iff.2 (h l (by simp))
    rw [List.flatten_cons, List.length_append, List.length_cons]; omega
theorem linesOf_length (b : List UInt8) : (linesOf b).length ≤ b.length := by
  have := flat_len (linesOf b) (lin_ne b [])
  rwa [linesOf_flat] at this
/-- Where no line ends in p, it is taken whole. -/
theorem lin_app (p : List UInt8) (hp : (10 : UInt8) ∉ p) : ∀ cur r, lin cur (p ++ r) = lin (cur ++ p) r := by
  induction p with
  | nil => intro cur r; simp
  | cons b p ih =>
    intro cur r
    have hb : b ≠ 10 := fun e => hp (by simp [e])
    rw [List.cons_append, lin, if_neg hb, ih (fun h => hp (by simp [h]))]
    simp
theorem linesOf_cut (p r : List UInt8) (hp : (10 : UInt8) ∉ p) : linesOf (p ++ 10 :: r) = (p ++ [10]) :: linesOf r := by
  rw [linesOf, lin_app p hp]; simp [lin, linesOf]
theorem linesOf_last (p : List UInt8) (hp : (10 : UInt8) ∉ p) (hn : p ≠ []) : linesOf p = [p] := by
  have := lin_app p hp [] []
  rw [List.append_nil] at this
  rw [linesOf, this]; simp [lin, hn]
theorem linesOf_nil : linesOf [] = [] := rfl

/-- The bytes of the lines of y that x has too, each of x's used once. -/
def com (x : List (List UInt8)) : List (List UInt8) → Nat
  | [] => 0
  | l :: y => if l ∈ x then l.length + com (x.erase l) y else com x y

theorem com_nil_left (y : List (List UInt8)) : com [] y = 0 := by induction y <;> simp [com, *]
theorem com_cons_left (l : List UInt8) (y : List (List UInt8)) : ∀ x, com (l :: x) y = if l ∈ y then l.length + com x (y.erase l) else com x y := by
  induction y with
  | nil => intro x; simp [com]
  | cons m y ih =>
    intro x
    by_cases e : m = l
    · subst e; rw [com, if_pos (by simp), if_pos (by simp)]; simp
    · have hne : ¬ l = m := fun h => e h.symm
      have e1 : (l :: x).erase m = l :: x.erase m := by rw [List.erase_cons, if_neg (by simpa using hne)]
      have e2 : (m :: y).erase l = m :: y.erase l := by rw [List.erase_cons, if_neg (by simpa using e)]
      have m1 : (m ∈ l :: x) ↔ m ∈ x := by simp [e]
      have m2 : (l ∈ m :: y) ↔ l ∈ y := by simp [hne]
      by_cases hm : m ∈ x
      · rw [com, if_pos (m1.2 hm), e1, ih]
        by_cases hl : l ∈ y
        · rw [if_pos hl, if_pos (m2.2 hl), e2, com, if_pos hm]; omega
        · rw [if_neg hl, if_neg (fun h => hl (m2.1 h)), com, if_pos hm]
      · rw [com, if_neg (fun h => hm (m1.1 h)), ih]
        by_cases hl : l ∈ y
        · rw [if_pos hl, if_pos (m2.2 hl), e2, com, if_neg hm]
        · rw [if_neg hl, if_neg (fun h => hl (m2.1 h)), com, if_neg hm]
theorem com_comm (x : List (List UInt8)) : ∀ y, com x y = com y x := by
  induction x with
  | nil => intro y; rw [com_nil_left]; rfl
  | cons l x ih => intro y; rw [com_cons_left, com]; split <;> rw [ih]
theorem com_le (y : List (List UInt8)) : ∀ x, com x y ≤ y.flatten.length := by
  induction y with
  | nil => intro x; simp [com]
  | cons l y ih => intro x; rw [com, List.flatten_cons, List.length_append]; have h1 := ih (x.erase l); have h2 := ih x; split <;> omega
theorem com_self (x : List (List UInt8)) : com x x = x.flatten.length := by
  induction x with
  | nil => rfl
  | cons l x ih => simp [com, ih]
end Go.Proofs.YtijidndhlgbjhaaDoor
