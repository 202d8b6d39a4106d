/- Patches: what both texts make of the edits. Plain Lean. -/
import Derived.Lib.ItoaNum
namespace Go.Proofs.YtijidndhlgbjhaaDoor
set_option linter.unusedVariables false

abbrev Ed := Nat × List UInt8
/-- How many lines of the one text, of the other one. -/
def cA (l : List Ed) : Nat := l.countP fun e => decide (e.1 ≠ 2)
def cB (l : List Ed) : Nat := l.countP fun e => decide (e.1 ≠ 1)
def noEndT : List UInt8 := [10, 92, 32, 78, 111, 32, 110, 101, 119, 108, 105, 110, 101, 32, 97, 116, 32, 101, 110, 100, 32, 111, 102, 32, 102, 105, 108, 101, 10]
def signOf (k : Nat) : List UInt8 := if k = 0 then [32] else if k = 1 then [45] else [43]
def lineOf (e : Ed) : List UInt8 := signOf e.1 ++ e.2 ++ (if e.2.getLast? = some 10 then [] else noEndT)
def placeOf (t n : Nat) : List UInt8 := Lib.decDigits (if 0 < n then t + 1 else t) ++ [44] ++ Lib.decDigits n
def headOf (a n b m : Nat) : List UInt8 := [64, 64, 32, 45] ++ placeOf a n ++ [32, 43] ++ placeOf b m ++ [32, 64, 64, 10]
def midP (l : List Ed) (p : Nat × Nat) : List Ed := (l.take p.2).drop p.1
def hunkText (l : List Ed) (p : Nat × Nat) : List UInt8 := headOf (cA (l.take p.1)) (cA (midP l p)) (cB (l.take p.1)) (cB (midP l p)) ++ (midP l p).flatMap lineOf
/-- The changes from the k-th place on. -/
def chs : Nat → List Ed → List Nat
  | _, [] => []
  | k, e :: l => if e.1 = 0 then chs (k + 1) l else k :: chs (k + 1) l
/-- The changes that belong together: the last one; the rest. -/
def run (c x : Nat) : List Nat → Nat × List Nat
  | [] => (x, [])
  | y :: ys => if y ≤ x + 2 * c + 1 then run c y ys else (x, y :: ys)
theorem runs_len (c : Nat) : ∀ (l : List Nat) (x : Nat), (run c x l).2.length ≤ l.length
  | [], x => Nat.le_refl _
  | y :: ys, x => by
    rw [run]; split
    · have := runs_len c ys y; simp only [List.length_cons]; omega
    · exact Nat.le_refl _
/-- The hunks: from where, to where. -/
def hks (c L : Nat) : List Nat → List (Nat × Nat)
  | [] => []
  | x :: xs => (x - c, min L ((run c x xs).1 + 1 + c)) :: hks c L (run c x xs).2
termination_by l => l.length
decreasing_by have := runs_len c xs x; simp only [List.length_cons]; omega
def patchOf (l : List Ed) (c : Nat) : List UInt8 := (hks c l.length (chs 0 l)).flatMap (hunkText l)

theorem chs_ge : ∀ (l : List Ed) (k y : Nat), y ∈ chs k l → k ≤ y ∧ y < k + l.length
  | [], k, y, h => by simp [chs] at h
  | e :: l, k, y, h => by
    rw [chs] at h
    split at h
    · have := chs_ge l (k + 1) y h; simp only [List.length_cons]; omega
    · rcases List.mem_cons.1 h with rfl | h
      · simp
      · have := chs_ge l (k + 1) y h; simp only [List.length_cons]; omega
theorem chs_len : ∀ (l : List Ed) (k : Nat), (chs k l).length ≤ l.length
  | [], k => by simp [chs]
  | e :: l, k => by
    rw [chs]; have := chs_len l (k + 1)
    split <;> simp only [List.length_cons] <;> omega
theorem chs_keep {E : List Ed} {k : Nat} {e : Ed} (h : E[k]? = some e) (h0 : e.1 = 0) : chs k (E.drop k) = chs (k + 1) (E.drop (k + 1)) := by
  obtain ⟨hk, rfl⟩ := List.getElem?_eq_some_iff.1 h
  rw [List.drop_eq_getElem_cons hk, chs, if_pos h0]
theorem chs_ch {E : List Ed} {k : Nat} {e : Ed} (h : E[k]? = some e) (h0 : e.1 ≠ 0) : chs k (E.drop k) = k :: chs (k + 1) (E.drop (k + 1)) := by
  obtain ⟨hk, rfl⟩ := List.getElem?_eq_some_iff.1 h
  rw [List.drop_eq_getElem_cons hk, chs, if_neg h0]
theorem chs_end {E : List Ed} {k : Nat} (h : E.length ≤ k) : chs k (E.drop k) = [] := by rw [List.drop_eq_nil_of_le h, chs]
/-- Between two places there are no changes. -/
theorem chs_skip {E : List Ed} {a : Nat} : ∀ (n : Nat), (∀ y ∈ chs a (E.drop a), a + n ≤ y) → a + n ≤ E.length → chs a (E.drop a) = chs (a + n) (E.drop (a + n))
  | 0, _, _ => rfl
  | n + 1, h, hl => by
    have ih := chs_skip (E := E) (a := a) n (fun y hy => by have := h y hy; omega) (by omega)
    obtain ⟨e, he⟩ : ∃ e, E[a + n]? = some e := ⟨_, List.getElem?_eq_getElem (by omega)⟩
    by_cases h0 : e.1 = 0
    · rw [ih, chs_keep he h0]; rfl
    · rw [ih, chs_ch he h0] at h
      have := h (a + n) (by simp)
      omega
theorem chs_no {E : List Ed} {a k : Nat} {e : Ed} (hak : a ≤ k) (he : E[k]? = some e) (h : ∀ y ∈ chs a (E.drop a), k < y) : e.1 = 0 := by
  apply Classical.byContradiction
  intro h0
  have hk := (List.getElem?_eq_some_iff.1 he).1
  have e1 : a + (k - a) = k := by omega
  have := chs_skip (E := E) (a := a) (k - a) (fun y hy => by have := h y hy; omega) (by omega)
  rw [e1, chs_ch he h0] at this
  have := h k (by rw [this]; simp)
  omega
/-- What is behind the changes that belong together. -/
theorem runs_chs {E : List Ed} {c : Nat} : ∀ (n x k : Nat), n = E.length - k → x ≤ k → (∀ y ∈ chs (x + 1) (E.drop (x + 1)), k ≤ y ∨ y ≤ x) → x < E.length →
    (∃ l, run c x (chs k (E.drop k)) = (l, chs (l + 1) (E.drop (l + 1))) ∧ x ≤ l ∧ l < E.length ∧ (∀ y ∈ chs (l + 1) (E.drop (l + 1)), l + 2 * c + 1 < y)) := by
  intro n
  induction n using Nat.strongRecOn with
  | ind n ih =>
    intro x k hn hxk hno hx
    have key : ∀ y ∈ chs (x + 1) (E.drop (x + 1)), k ≤ y := fun y hy => by
      rcases hno y hy with h | h
      · exact h
      · have := (chs_ge _ _ _ hy).1; omega
    by_cases hk : k < E.length
    · obtain ⟨e, he⟩ : ∃ e, E[k]? = some e := ⟨_, List.getElem?_eq_getElem hk⟩
      by_cases hxk1 : x < k
      · have e1 : chs (x + 1) (E.drop (x + 1)) = chs k (E.drop k) := by
          have := chs_skip (E := E) (a := x + 1) (k - (x + 1)) (fun y hy => by have := key y hy; omega) (by omega)
          rwa [show x + 1 + (k - (x + 1)) = k from by omega] at this
        by_cases h0 : e.1 = 0
        · have e2 := chs_keep he h0
          rw [e2]
          exact ih (E.length - (k + 1)) (by omega) x (k + 1) rfl (by omega) (fun y hy => .inl (by rw [e1, e2] at hy; exact (chs_ge _ _ _ hy).1)) hx
        · rw [chs_ch he h0, run]
          by_cases hc : k ≤ x + 2 * c + 1
          · rw [if_pos hc]
            obtain ⟨l, g1, g2, g3⟩ := ih (E.length - (k + 1)) (by omega) k (k + 1) rfl (by omega) (fun y hy => .inl (chs_ge _ _ _ hy).1) hk
            exact ⟨l, g1, by omega, g3⟩
          · rw [if_neg hc]
            refine ⟨x, by rw [e1, chs_ch he h0], Nat.le_refl _, hx, fun y hy => ?_⟩
            rw [e1] at hy
            have := (chs_ge _ _ _ hy).1; omega
      · obtain rfl : x = k := by omega
        by_cases h0 : e.1 = 0
        · rw [chs_keep he h0]
          exact ih (E.length - (x + 1)) (by omega) x (x + 1) rfl (by omega) (fun y hy => .inl (chs_ge _ _ _ hy).1) hx
        · rw [chs_ch he h0, run, if_pos (by omega)]
          exact ih (E.length - (x + 1)) (by omega) x (x + 1) rfl (by omega) (fun y hy => .inl (chs_ge _ _ _ hy).1) hx
    · rw [chs_end (by omega), run]
      have e1 : chs (x + 1) (E.drop (x + 1)) = [] := by
        apply List.eq_nil_iff_forall_not_mem.2
        intro y hy
        have := key y hy; have := (chs_ge _ _ _ hy).2
        simp only [List.length_drop] at this
        omega
      exact ⟨x, by rw [e1], Nat.le_refl _, hx, fun y hy => by rw [e1] at hy; simp at hy⟩
/-- The changes from a change on that belong together. -/
theorem runs_spec {E : List Ed} {c x : Nat} (hx : x < E.length) : ∃ l, run c x (chs (x + 1) (E.drop (x + 1))) = (l, chs (l + 1) (E.drop (l + 1))) ∧ x ≤ l ∧ l < E.length ∧ (∀ y ∈ chs (l + 1) (E.drop (l + 1)), l + 2 * c + 1 < y) :=
  runs_chs _ x (x + 1) rfl (by omega) (fun y hy => .inl (chs_ge _ _ _ hy).1) hx
/-- The rest of the patch, from a place on. -/
def restOf (E : List Ed) (c i : Nat) : List UInt8 := (hks c E.length (chs i (E.drop i))).flatMap (hunkText E)
theorem rest_keep {E : List Ed} {c i : Nat} {e : Ed} (h : E[i]? = some e) (h0 : e.1 = 0) : restOf E c i = restOf E c (i + 1) := by unfold restOf; rw [chs_keep h h0]
theorem rest_end {E : List Ed} {c i : Nat} (h : E.length ≤ i) : restOf E c i = [] := by unfold restOf; rw [chs_end h, hks]; rfl
theorem rest_ch {E : List Ed} {c i l : Nat} {e : Ed} (h : E[i]? = some e) (h0 : e.1 ≠ 0) (hr : run c i (chs (i + 1) (E.drop (i + 1))) = (l, chs (l + 1) (E.drop (l + 1)))) (hl : l < E.length)
    (hn : ∀ y ∈ chs (l + 1) (E.drop (l + 1)), l + 2 * c + 1 < y) : restOf E c i = hunkText E (i - c, min E.length (l + 1 + c)) ++ restOf E c (min E.length (l + 1 + c)) := by
  unfold restOf
  rw [chs_ch h h0, hks, hr, List.flatMap_cons]
  congr 3
  have := chs_skip (E := E) (a := l + 1) (min E.length (l + 1 + c) - (l + 1)) (fun y hy => by have := hn y hy; omega) (by omega)
  rwa [show l + 1 + (min E.length (l + 1 + c) - (l + 1)) = min E.length (l + 1 + c) from by omega] at this
/-- All changes ahead are far away. -/
def Far (E : List Ed) (c i : Nat) : Prop := ∀ j e, j < i → E[j]? = some e → e.1 ≠ 0 → ∀ y ∈ chs i (E.drop i), j + c < y
theorem far_0 {E : List Ed} {c : Nat} : Far E c 0 := fun j e h => by omega
theorem far_keep {E : List Ed} {c i : Nat} {e : Ed} (h : Far E c i) (he : E[i]? = some e) (h0 : e.1 = 0) : Far E c (i + 1) := fun j e' hj he' h' y hy => by
  by_cases hji : j = i
  · subst hji; rw [he] at he'; cases he'; exact absurd h0 h'
  · exact h j e' (by omega) he' h' y (by rw [chs_keep he h0]; exact hy)
theorem far_next {E : List Ed} {c l : Nat} (hn : ∀ y ∈ chs (l + 1) (E.drop (l + 1)), l + 2 * c + 1 < y) (hl : l < E.length) : Far E c (min E.length (l + 1 + c)) := by
  have hs := chs_skip (E := E) (a := l + 1) (min E.length (l + 1 + c) - (l + 1)) (fun y hy => by have := hn y hy; omega) (by omega)
  rw [show l + 1 + (min E.length (l + 1 + c) - (l + 1)) = min E.length (l + 1 + c) from by omega] at hs
  intro j e hj he h0 y hy
  rw [← hs] at hy
  have h1 := hn y hy
  by_cases hjl : j ≤ l
  · omega
  · exact absurd (chs_no (a := l + 1) (k := j) (by omega) he fun y hy => by have := hn y hy; omega) h0
theorem far_use {E : List Ed} {c i j : Nat} {e e' : Ed} (h : Far E c i) (he : E[i]? = some e) (h0 : e.1 ≠ 0) (hj : j < i) (hc : i ≤ j + c) (he' : E[j]? = some e') : e'.1 = 0 := by
  apply Classical.byContradiction
  intro h'
  have := h j e' hj he' h' i (by rw [chs_ch he h0]; simp)
  omega

theorem cA_le (l : List Ed) : cA l ≤ l.length := List.countP_le_length
theorem cB_le (l : List Ed) : cB l ≤ l.length := List.countP_le_length
theorem takeP_mid {E : List Ed} {a b : Nat} (h : a ≤ b) : E.take b = E.take a ++ midP E (a, b) := by
  unfold midP
  have : (E.take b).take a = E.take a := by rw [List.take_take, Nat.min_eq_left h]
  rw [← this, List.take_append_drop]
theorem cA_mid {E : List Ed} {a b : Nat} (h : a ≤ b) : cA (E.take b) = cA (E.take a) + cA (midP E (a, b)) := by rw [takeP_mid h, cA, List.countP_append]; rfl
theorem cB_mid {E : List Ed} {a b : Nat} (h : a ≤ b) : cB (E.take b) = cB (E.take a) + cB (midP E (a, b)) := by rw [takeP_mid h, cB, List.countP_append]; rfl
theorem mid_same {E : List Ed} {a : Nat} : midP E (a, a) = [] := by
  unfold midP; exact List.drop_eq_nil_of_le (by simp; omega)
theorem mid_succ {E : List Ed} {a k : Nat} {e : Ed} (h : a ≤ k) (he : E[k]? = some e) : midP E (a, k + 1) = midP E (a, k) ++ [e] := by
  obtain ⟨hk, rfl⟩ := List.getElem?_eq_some_iff.1 he
  unfold midP
  rw [List.take_succ_eq_append_getElem hk, List.drop_append_of_le_length (by simp; omega)]
theorem mid_len {E : List Ed} {a b : Nat} : (midP E (a, b)).length ≤ E.length := by unfold midP; simp; omega
theorem mid_mem {E : List Ed} {p : Nat × Nat} {e : Ed} (h : e ∈ midP E p) : e ∈ E := List.mem_of_mem_take (List.mem_of_mem_drop h)
theorem cA_one (e : Ed) : cA [e] = if e.1 = 2 then 0 else 1 := by unfold cA; by_cases h : e.1 = 2 <;> simp [h]
theorem cB_one (e : Ed) : cB [e] = if e.1 = 1 then 0 else 1 := by unfold cB; by_cases h : e.1 = 1 <;> simp [h]
theorem cA_app (l m : List Ed) : cA (l ++ m) = cA l + cA m := List.countP_append
theorem cB_app (l m : List Ed) : cB (l ++ m) = cB l + cB m := List.countP_append
/-- Kept lines count for both. -/
theorem keep_count : ∀ (l : List Ed), (∀ e ∈ l, e.1 = 0) → cA l = l.length ∧ cB l = l.length
  | [], _ => ⟨rfl, rfl⟩
  | e :: l, h => by
    obtain ⟨h1, h2⟩ := keep_count l fun x hx => h x (by simp [hx])
    have h0 := h e (by simp)
    have a1 := cA_app [e] l
    have a2 := cB_app [e] l
    rw [cA_one, h0] at a1
    rw [cB_one, h0] at a2
    simp at a1 a2
    simp only [List.length_cons]
    omega
theorem mid_keep {E : List Ed} {c i : Nat} {e : Ed} (h : Far E c i) (he : E[i]? = some e) (h0 : e.1 ≠ 0) : ∀ x ∈ midP E (i - c, i), x.1 = 0 := by
  intro x hx
  obtain ⟨k, hk, rfl⟩ := List.mem_iff_getElem.1 hx
  have hi := (List.getElem?_eq_some_iff.1 he).1
  have hk' : k < i - (i - c) := by unfold midP at hk; simp at hk; omega
  have e1 : (midP E (i - c, i))[k] = E[i - c + k] := by simp [midP]
  rw [e1]
  exact far_use h he h0 (j := i - c + k) (by omega) (by omega) (List.getElem?_eq_getElem (by omega))
theorem back_count {E : List Ed} {c i : Nat} {e : Ed} (h : Far E c i) (he : E[i]? = some e) (h0 : e.1 ≠ 0) : cA (E.take i) = cA (E.take (i - c)) + (i - (i - c)) ∧ cB (E.take i) = cB (E.take (i - c)) + (i - (i - c)) := by
  have hi := (List.getElem?_eq_some_iff.1 he).1
  obtain ⟨h1, h2⟩ := keep_count _ (mid_keep h he h0)
  have hl : (midP E (i - c, i)).length = i - (i - c) := by unfold midP; simp; omega
  rw [cA_mid (E := E) (a := i - c) (b := i) (by omega), cB_mid (E := E) (a := i - c) (b := i) (by omega), h1, h2, hl]
  exact ⟨rfl, rfl⟩

/-! Lengths. -/
theorem dec_len (n : Nat) : (Lib.decDigits n).length ≤ n + 1 := by
  induction n using Nat.strongRecOn with
  | ind n ih =>
    rw [Lib.decDigits]
    split
    · simp
    · rw [List.length_append, List.length_singleton]
      have := ih (n / 10) (by omega)
      omega
theorem lineP_len (e : Ed) : (lineOf e).length ≤ e.2.length + 30 := by
  unfold lineOf signOf
  have : noEndT.length = 29 := rfl
  split <;> split <;> (try split) <;> simp [this] <;> omega
theorem textl_len (l : List Ed) (B : Nat) (h : ∀ e ∈ l, e.2.length ≤ B) : (l.flatMap lineOf).length ≤ l.length * (B + 30) := by
  induction l with
  | nil => simp
  | cons e l ih =>
    rw [List.flatMap_cons, List.length_append, List.length_cons, Nat.add_mul]
    have h1 := lineP_len e
    have h2 := h e (by simp)
    have h3 := ih fun x hx => h x (by simp [hx])
    omega
theorem headP_len (a n b m : Nat) : (headOf a n b m).length ≤ a + n + b + m + 20 := by
  unfold headOf placeOf
  have h1 := dec_len (if 0 < n then a + 1 else a)
  have h2 := dec_len n
  have h3 := dec_len (if 0 < m then b + 1 else b)
  have h4 := dec_len m
  simp only [List.length_append, List.length_cons, List.length_nil]
  split at h1 <;> split at h3 <;> simp_all <;> omega
theorem hunk_len {E : List Ed} (p : Nat × Nat) (h1 : E.length ≤ 10000) (h2 : ∀ e ∈ E, e.2.length ≤ 4000) : (hunkText E p).length ≤ 50000000 := by
  unfold hunkText
  have a := headP_len (cA (E.take p.1)) (cA (midP E p)) (cB (E.take p.1)) (cB (midP E p))
  have b := textl_len (midP E p) 4000 fun e he => h2 e (mid_mem he)
  have c1 := cA_le (E.take p.1)
  have c2 := cA_le (midP E p)
  have c3 := cB_le (E.take p.1)
  have c4 := cB_le (midP E p)
  have c5 : (midP E p).length ≤ E.length := mid_len
  have c6 : (E.take p.1).length ≤ E.length := by simp; omega
  rw [List.length_append]
  have : (midP E p).length * (4000 + 30) ≤ 10000 * 4030 := Nat.mul_le_mul (by omega) (Nat.le_refl _)
  omega
theorem hks_len (c L : Nat) : ∀ (n : Nat) (l : List Nat), l.length ≤ n → (hks c L l).length ≤ l.length := by
  intro n
  induction n with
  | zero => intro l h; rw [List.length_eq_zero_iff.1 (Nat.le_zero.1 h), hks]; simp
  | succ n ih =>
    intro l h
    cases l with
    | nil => rw [hks]; simp
    | cons x xs =>
      rw [hks, List.length_cons, List.length_cons]
      have h1 := runs_len c xs x
      simp only [List.length_cons] at h
      have := ih (run c x xs).2 (by omega)
      omega
theorem texts_len {E : List Ed} (h1 : E.length ≤ 10000) (h2 : ∀ e ∈ E, e.2.length ≤ 4000) (l : List (Nat × Nat)) : (l.flatMap (hunkText E)).length ≤ l.length * 50000000 := by
  induction l with
  | nil => simp
  | cons p l ih =>
    rw [List.flatMap_cons, List.length_append, List.length_cons, Nat.add_mul]
    have := hunk_len p h1 h2
    omega
theorem patch_len {E : List Ed} {c : Nat} (h1 : E.length ≤ 10000) (h2 : ∀ e ∈ E, e.2.length ≤ 4000) : (patchOf E c).length ≤ 500000000000 := by
  unfold patchOf
  have a := texts_len h1 h2 (hks c E.length (chs 0 E))
  have b := hks_len c E.length _ (chs 0 E) (Nat.le_refl _)
  have d := chs_len E 0
  have : (hks c E.length (chs 0 E)).length * 50000000 ≤ 10000 * 50000000 := Nat.mul_le_mul (by omega) (Nat.le_refl _)
  omega
end Go.Proofs.YtijidndhlgbjhaaDoor
