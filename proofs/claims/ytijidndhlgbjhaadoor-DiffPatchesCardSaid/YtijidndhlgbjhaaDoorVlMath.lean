/- How a text becomes another one, by the table. No program in sight. -/
import Derived.Test.YtijidndhlgbjhaaDoorVlPlain
namespace Go.Proofs.YtijidndhlgbjhaaDoor
variable {α : Type} [DecidableEq α]

def tab : List α → List α → Nat
  | [], _ => 0
  | _ :: _, [] => 0
  | a :: x, b :: y => if a = b then tab x y + 1 else max (tab x (b :: y)) (tab (a :: x) y)
termination_by x y => x.length + y.length
theorem tab_nil (x : List α) : tab x [] = 0 := by cases x <;> simp [tab]
theorem tab_le : ∀ (x y : List α), tab x y ≤ x.length
  | [], _ => by simp [tab]
  | _ :: _, [] => by simp [tab]
  | a :: x, b :: y => by
    have h1 := tab_le x y
    have h2 := tab_le x (b :: y)
    have h3 := tab_le (a :: x) y
    rw [tab]
    split <;> simp only [List.length_cons] at * <;> omega
termination_by x y => x.length + y.length
theorem tab_step {x y : List α} {i j : Nat} (hi : i < x.length) (hj : j < y.length) : tab (x.drop i) (y.drop j) = if x[i] = y[j] then tab (x.drop (i + 1)) (y.drop (j + 1)) + 1 else max (tab (x.drop (i + 1)) (y.drop j)) (tab (x.drop i) (y.drop (j + 1))) := by
  rw [List.drop_eq_getElem_cons hi, List.drop_eq_getElem_cons hj, tab, ← List.drop_eq_getElem_cons hi, ← List.drop_eq_getElem_cons hj]

/-- Keep 0, drop 1, insert 2. -/
def eds : List α → List α → List (Nat × α)
  | [], [] => []
  | a :: x, [] => (1, a) :: eds x []
  | [], b :: y => (2, b) :: eds [] y
  | a :: x, b :: y => if a = b then (0, a) :: eds x y else if tab (a :: x) y ≤ tab x (b :: y) then (1, a) :: eds x (b :: y) else (2, b) :: eds (a :: x) y
termination_by x y => x.length + y.length
theorem eds_keep {x y : List α} {i j : Nat} (hi : i < x.length) (hj : j < y.length) (h : x[i] = y[j]) : eds (x.drop i) (y.drop j) = (0, x[i]) :: eds (x.drop (i + 1)) (y.drop (j + 1)) := by
  rw [List.drop_eq_getElem_cons hi, List.drop_eq_getElem_cons hj, eds, if_pos h]
theorem eds_drop {x y : List α} {i j : Nat} (hi : i < x.length) (h : j = y.length ∨ ∃ hj : j < y.length, x[i] ≠ y[j] ∧ tab (x.drop i) (y.drop (j + 1)) ≤ tab (x.drop (i + 1)) (y.drop j)) : eds (x.drop i) (y.drop j) = (1, x[i]) :: eds (x.drop (i + 1)) (y.drop j) := by
  rcases h with rfl | ⟨hj, h1, h2⟩
  · rw [List.drop_eq_getElem_cons hi, List.drop_length, eds]
  · rw [List.drop_eq_getElem_cons hi, List.drop_eq_getElem_cons hj] at *
    rw [eds, if_neg h1, if_pos h2]
theorem eds_ins {x y : List α} {i j : Nat} (hj : j < y.length) (h : i = x.length ∨ ∃ hi : i < x.length, x[i] ≠ y[j] ∧ ¬ tab (x.drop i) (y.drop (j + 1)) ≤ tab (x.drop (i + 1)) (y.drop j)) : eds (x.drop i) (y.drop j) = (2, y[j]) :: eds (x.drop i) (y.drop (j + 1)) := by
  rcases h with rfl | ⟨hi, h1, h2⟩
  · rw [List.drop_eq_getElem_cons hj, List.drop_length, eds]
  · rw [List.drop_eq_getElem_cons hi, List.drop_eq_getElem_cons hj] at *
    rw [eds, if_neg h1, if_neg h2]

/-- Of long texts. -/
def edl : List α → List α → List (Nat × α)
  | a :: x, b :: y => if a = b then (0, a) :: edl x y else (a :: x).map (fun l => (1, l)) ++ (b :: y).map (fun l => (2, l))
  | x, y => x.map (fun l => (1, l)) ++ y.map (fun l => (2, l))
theorem edl_keep {x y : List α} {i j : Nat} (hi : i < x.length) (hj : j < y.length) (h : x[i] = y[j]) : edl (x.drop i) (y.drop j) = (0, x[i]) :: edl (x.drop (i + 1)) (y.drop (j + 1)) := by
  rw [List.drop_eq_getElem_cons hi, List.drop_eq_getElem_cons hj, edl, if_pos h]
theorem edl_end {x y : List α} (h : ∀ a ∈ x.head?, ∀ b ∈ y.head?, a ≠ b) : edl x y = x.map (fun l => (1, l)) ++ y.map (fun l => (2, l)) := by
  cases x with
  | nil => simp [edl]
  | cons a x => cases y with
    | nil => simp [edl]
    | cons b y => rw [edl, if_neg (h a (by simp) b (by simp))]
/-- Both alike: at heads that are the same. -/
def edx (long : Bool) (x y : List α) : List (Nat × α) := if long then edl x y else eds x y
theorem edx_keep {long : Bool} {a : α} {x y : List α} : edx long (a :: x) (a :: y) = (0, a) :: edx long x y := by
  cases long
  · show eds (a :: x) (a :: y) = _ :: eds x y
    rw [eds, if_pos rfl]
  · show edl (a :: x) (a :: y) = _ :: edl x y
    rw [edl, if_pos rfl]

/-- The table, row by row. -/
def tabc (x y : List α) : List Nat := (List.range ((x.length + 1) * (y.length + 1))).map fun c => tab (x.drop (c / (y.length + 1))) (y.drop (c % (y.length + 1)))
theorem tabc_length (x y : List α) : (tabc x y).length = (x.length + 1) * (y.length + 1) := by simp [tabc]
theorem grid_lt {n m i j : Nat} (hi : i ≤ n) (hj : j ≤ m) : i * (m + 1) + j < (n + 1) * (m + 1) := by
  have : i * (m + 1) + (m + 1) ≤ (n + 1) * (m + 1) := by rw [← Nat.succ_mul]; exact Nat.mul_le_mul_right _ (by omega)
  omega
theorem tabc_at {x y : List α} {i j : Nat} (hi : i ≤ x.length) (hj : j ≤ y.length) : (tabc x y)[i * (y.length + 1) + j]? = some (tab (x.drop i) (y.drop j)) := by
  have h := grid_lt hi hj
  rw [tabc, List.getElem?_map, List.getElem?_range h, Option.map_some]
  have e1 : (i * (y.length + 1) + j) / (y.length + 1) = i := by
    rw [Nat.mul_comm, Nat.mul_add_div (by omega), Nat.div_eq_of_lt (by omega), Nat.add_zero]
  have e2 : (i * (y.length + 1) + j) % (y.length + 1) = j := by
    rw [Nat.mul_comm, Nat.mul_add_mod, Nat.mod_eq_of_lt (by omega)]
  rw [e1, e2]
/-- The table, worked out from the end on: what is behind (i, j) is right. -/
structure Fil (x y : List α) (c : List Nat) (i j : Nat) : Prop where
  len : c.length = (x.length + 1) * (y.length + 1)
  ok : ∀ i' j', i' ≤ x.length → j' ≤ y.length → (i < i' ∨ (i = i' ∧ j ≤ j') ∨ j' = y.length) → c[i' * (y.length + 1) + j']? = some (tab (x.drop i') (y.drop j'))
  zero : ∀ i' j', i' ≤ x.length → j' ≤ y.length → (i' < i ∨ (i' = i ∧ j' < j)) → j' < y.length → c[i' * (y.length + 1) + j']? = some 0
theorem Fil.start (x y : List α) : Fil x y (List.replicate ((x.length + 1) * (y.length + 1)) 0) x.length 0 := by
  refine ⟨by simp, fun i' j' h1 h2 h3 => ?_, fun i' j' h1 h2 h3 h4 => ?_⟩
  · rw [List.getElem?_replicate, if_pos (grid_lt h1 h2)]
    rcases h3 with h3 | ⟨rfl, _⟩ | rfl
    · omega
    · simp [tab]
    · simp [tab_nil]
  · rw [List.getElem?_replicate, if_pos (grid_lt h1 h2)]
theorem Fil.done {x y : List α} {c : List Nat} (h : Fil x y c 0 0) : c = tabc x y := by
  apply List.ext_getElem?
  intro k
  by_cases hk : k < (x.length + 1) * (y.length + 1)
  · have e : k = k / (y.length + 1) * (y.length + 1) + k % (y.length + 1) := by rw [Nat.mul_comm]; exact (Nat.div_add_mod k _).symm
    have h1 : k / (y.length + 1) ≤ x.length := by
      have := Nat.div_lt_of_lt_mul (m := k) (n := y.length + 1) (k := x.length + 1) (by rw [Nat.mul_comm]; exact hk)
      omega
    have h2 : k % (y.length + 1) ≤ y.length := by have := Nat.mod_lt k (show y.length + 1 > 0 by omega); omega
    rw [e, h.ok _ _ h1 h2 ((Nat.eq_zero_or_pos _).elim (fun h => .inr (.inl ⟨h.symm, Nat.zero_le _⟩)) .inl), tabc_at h1 h2]
  · rw [List.getElem?_eq_none (by rw [h.len]; omega), List.getElem?_eq_none (by rw [tabc_length]; omega)]
/-- A new row. -/
theorem Fil.row {x y : List α} {c : List Nat} {i : Nat} (h : Fil x y c (i + 1) 0) : Fil x y c i y.length := by
  refine ⟨h.len, fun i' j' h1 h2 h3 => h.ok i' j' h1 h2 (by omega), fun i' j' h1 h2 h3 h4 => h.zero i' j' h1 h2 (by omega) h4⟩
theorem grid_ne {m i j i' j' : Nat} (hj : j ≤ m) (hj' : j' ≤ m) (h : i ≠ i' ∨ j ≠ j') : i * (m + 1) + j ≠ i' * (m + 1) + j' := by
  intro e
  have e1 : (i * (m + 1) + j) / (m + 1) = i := by
    rw [Nat.mul_comm, Nat.mul_add_div (by omega), Nat.div_eq_of_lt (by omega), Nat.add_zero]
  have e2 : (i' * (m + 1) + j') / (m + 1) = i' := by
    rw [Nat.mul_comm, Nat.mul_add_div (by omega), Nat.div_eq_of_lt (by omega), Nat.add_zero]
  rw [e, e2] at e1
  subst e1
  omega
theorem Fil.set {x y : List α} {c : List Nat} {i j : Nat} (hi : i < x.length) (hj : j < y.length) (h : Fil x y c i (j + 1)) : Fil x y (c.set (i * (y.length + 1) + j) (tab (x.drop i) (y.drop j))) i j := by
  refine ⟨by rw [List.length_set, h.len], fun i' j' h1 h2 h3 => ?_, fun i' j' h1 h2 h3 h4 => ?_⟩
  · by_cases he : i = i' ∧ j = j'
    · obtain ⟨rfl, rfl⟩ := he
      rw [List.getElem?_set_self (by rw [h.len]; exact grid_lt h1 h2)]
    · rw [List.getElem?_set_ne (grid_ne (by omega) h2 (by omega))]
      exact h.ok i' j' h1 h2 (by omega)
  · rw [List.getElem?_set_ne (grid_ne (by omega) h2 (by omega))]
    exact h.zero i' j' h1 h2 (by omega) h4
theorem eds_len {α : Type} [DecidableEq α] : ∀ (x y : List α), (eds x y).length ≤ x.length + y.length
  | [], [] => by simp [eds]
  | a :: x, [] => by have := eds_len x []; rw [eds]; simp at *; omega
  | [], b :: y => by have := eds_len [] y; rw [eds]; simp at *; omega
  | a :: x, b :: y => by
    have h1 := eds_len x y
    have h2 := eds_len x (b :: y)
    have h3 := eds_len (a :: x) y
    rw [eds]
    split
    · simp at *; omega
    · split <;> simp at * <;> omega
termination_by x y => x.length + y.length
theorem edl_len {α : Type} [DecidableEq α] : ∀ (x y : List α), (edl x y).length ≤ x.length + y.length
  | [], y => by simp [edl]
  | a :: x, [] => by simp [edl]
  | a :: x, b :: y => by
    have h1 := edl_len x y
    rw [edl]
    split <;> simp at * <;> omega
theorem edx_len (L : Bool) (x y : List (List UInt8)) : (edx L x y).length ≤ x.length + y.length := by
  cases L
  · exact eds_len x y
  · exact edl_len x y
theorem eds_mem {α : Type} [DecidableEq α] : ∀ (x y : List α) (e : Nat × α), e ∈ eds x y → e.1 ≤ 2 ∧ (e.2 ∈ x ∨ e.2 ∈ y)
  | [], [], e, h => by simp [eds] at h
  | a :: x, [], e, h => by
    rw [eds] at h
    rcases List.mem_cons.1 h with rfl | h
    · simp
    · have := eds_mem x [] e h; simp at this ⊢; exact ⟨this.1, .inr this.2⟩
  | [], b :: y, e, h => by
    rw [eds] at h
    rcases List.mem_cons.1 h with rfl | h
    · simp
    · have := eds_mem [] y e h; simp at this ⊢; exact ⟨this.1, .inr this.2⟩
  | a :: x, b :: y, e, h => by
    rw [eds] at h
    split at h
    · rcases List.mem_cons.1 h with rfl | h
      · simp
      · obtain ⟨h1, h2⟩ := eds_mem x y e h; exact ⟨h1, by rcases h2 with h2 | h2 <;> simp [h2]⟩
    · split at h
      · rcases List.mem_cons.1 h with rfl | h
        · simp
        · obtain ⟨h1, h2⟩ := eds_mem x (b :: y) e h; exact ⟨h1, h2.imp (fun h => List.mem_cons_of_mem _ h) id⟩
      · rcases List.mem_cons.1 h with rfl | h
        · simp
        · obtain ⟨h1, h2⟩ := eds_mem (a :: x) y e h; exact ⟨h1, h2.imp id fun h => List.mem_cons_of_mem _ h⟩
termination_by x y => x.length + y.length
theorem edl_mem {α : Type} [DecidableEq α] : ∀ (x y : List α) (e : Nat × α), e ∈ edl x y → e.1 ≤ 2 ∧ (e.2 ∈ x ∨ e.2 ∈ y)
  | [], y, e, h => by
    simp only [edl, List.map_nil, List.nil_append, List.mem_map] at h
    obtain ⟨a, ha, rfl⟩ := h; exact ⟨by omega, .inr ha⟩
  | a :: x, [], e, h => by
    simp only [edl, List.map_nil, List.append_nil, List.mem_map] at h
    obtain ⟨b, hb, rfl⟩ := h; exact ⟨by omega, .inl hb⟩
  | a :: x, b :: y, e, h => by
    rw [edl] at h
    split at h
    · rcases List.mem_cons.1 h with rfl | h
      · simp
      · obtain ⟨h1, h2⟩ := edl_mem x y e h; exact ⟨h1, by rcases h2 with h2 | h2 <;> simp [h2]⟩
    · rcases List.mem_append.1 h with h | h
      · obtain ⟨c, hc, rfl⟩ := List.mem_map.1 h; exact ⟨by omega, .inl hc⟩
      · obtain ⟨c, hc, rfl⟩ := List.mem_map.1 h; exact ⟨by omega, .inr hc⟩
theorem edx_mem (L : Bool) (x y : List (List UInt8)) (e : Nat × List UInt8) (h : e ∈ edx L x y) : e.1 ≤ 2 ∧ (e.2 ∈ x ∨ e.2 ∈ y) := by
  cases L
  · exact eds_mem x y e h
  · exact edl_mem x y e h
end Go.Proofs.YtijidndhlgbjhaaDoor
