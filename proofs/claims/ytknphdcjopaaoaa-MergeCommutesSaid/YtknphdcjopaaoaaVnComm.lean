/- Merging commutes; what one side alone changed is its; plain. -/
import Derived.Test.YtknphdcjopaaoaaVnRefT
namespace Go.Proofs.Ytknphdcjopaaoaa
set_option linter.unusedVariables false

theorem pieceOf_n_swap (o x y a b : List UInt8) : (pieceOf o y x b a).2 = (pieceOf o x y a b).2 := by
  unfold pieceOf
  by_cases h1 : x = y
  · subst h1; simp
  · rw [if_neg h1, if_neg (Ne.symm h1)]
    by_cases h2 : x = o <;> by_cases h3 : y = o <;> simp [h2, h3]
theorem pieceOf_swap (o x y a b : List UInt8) (h : (pieceOf o x y a b).2 = 0) : (pieceOf o y x b a).1 = (pieceOf o x y a b).1 := by
  unfold pieceOf at *
  by_cases h1 : x = y
  · subst h1; simp
  · rw [if_neg h1] at h ⊢
    rw [if_neg (Ne.symm h1)]
    by_cases h2 : x = o
    · rw [if_pos h2]
      by_cases h3 : y = o
      · exact absurd (h2.trans h3.symm) h1
      · rw [if_neg h3, if_pos h2]
    · rw [if_neg h2] at h ⊢
      by_cases h3 : y = o
      · rw [if_pos h3, if_neg h2, if_pos h3]
      · rw [if_neg h3] at h; simp at h
structure Swapped (s t : TS) : Prop where
  o : t.o = s.o
  x : t.x = s.y
  y : t.y = s.x
  n : t.n = s.n
  out : s.n = 0 → t.out = s.out
theorem tst_swap (a b : List UInt8) (L : List (List UInt8)) (X Y : List Bool × List (List UInt8)) : ∀ i, Swapped (tst a b L X Y i) (tst b a L Y X i)
  | 0 => ⟨rfl, rfl, rfl, rfl, fun _ => rfl⟩
  | i + 1 => by
    obtain ⟨ho, hx, hy, hn, hout⟩ := tst_swap a b L X Y i
    rw [tst, tst]
    generalize tst a b L X Y i = s at *
    generalize tst b a L Y X i = t at *
    generalize L.getD i [] = l
    generalize X.1.getD i false = k1
    generalize Y.1.getD i false = k2
    generalize X.2.getD i [] = i1
    generalize Y.2.getD i [] = i2
    have e1 := pieceOf_n_swap s.o (s.x ++ i1) (s.y ++ i2) a b
    have e2 := pieceOf_swap s.o (s.x ++ i1) (s.y ++ i2) a b
    cases k1 <;> cases k2
    all_goals simp only [tstep, Bool.and_true, Bool.and_false, Bool.true_and, Bool.false_and, if_true, if_false, Bool.false_eq_true, reduceIte]
    · exact ⟨by simp [ho], by simp [hx], by simp [hy], hn, hout⟩
    · exact ⟨by simp [ho], by simp [hx], by simp [hy], hn, hout⟩
    · exact ⟨by simp [ho], by simp [hx], by simp [hy], hn, hout⟩
    · refine ⟨rfl, rfl, rfl, ?_, fun h => ?_⟩
      · simp only [ho, hx, hy, hn, e1]
      · simp only [] at h
        simp only [ho, hx, hy, hout (by omega), e2 (by omega)]
theorem textsOf_swap (a b : List UInt8) (L : List (List UInt8)) (X Y : List Bool × List (List UInt8)) : (textsOf b a L Y X).2 = (textsOf a b L X Y).2 ∧ ((textsOf a b L X Y).2 = 0 → (textsOf b a L Y X).1 = (textsOf a b L X Y).1) := by
  obtain ⟨ho, hx, hy, hn, hout⟩ := tst_swap a b L X Y L.length
  unfold textsOf tend
  generalize tst a b L X Y L.length = s at *
  generalize tst b a L Y X L.length = t at *
  generalize X.2.getD L.length [] = i1
  generalize Y.2.getD L.length [] = i2
  have e1 := pieceOf_n_swap s.o (s.x ++ i1) (s.y ++ i2) a b
  have e2 := pieceOf_swap s.o (s.x ++ i1) (s.y ++ i2) a b
  refine ⟨by simp only [ho, hx, hy, hn, e1], fun h => ?_⟩
  simp only [] at h
  simp only [ho, hx, hy, hout (by omega), e2 (by omega)]
/-! One side alone, or both alike. -/
/-- The text that a side makes of these lines. -/
def madeOf : List Bool → List (List UInt8) → List (List UInt8) → List UInt8
  | k :: ks, i :: az, l :: L => i ++ (if k = true then l else []) ++ madeOf ks az L
  | _, i :: _, _ => i
  | _, _, _ => []
theorem made_side : ∀ (E : List (Nat × List UInt8)) (cur : List UInt8), (∀ e ∈ E, e.1 ≤ 2) → madeOf (sideOf E cur).1 (sideOf E cur).2 (olds E) = cur ++ (news E).flatten
  | [], cur, _ => by simp [sideOf, olds, news, madeOf]
  | e :: es, cur, h => by
    have h1 := made_side es (cur ++ e.2) fun x hx => h x (by simp [hx])
    have h2 := made_side es [] fun x hx => h x (by simp [hx])
    have hk := h e (by simp)
    obtain ⟨k, l⟩ := e
    simp only [] at hk
    have : k = 0 ∨ k = 1 ∨ k = 2 := by omega
    rcases this with rfl | rfl | rfl
    · simp [sideOf, olds, news, madeOf, h2]
    · simp [sideOf, olds, news, madeOf, h2]
    · simpa [sideOf, olds, news] using h1
theorem made_text (f g : List UInt8) : madeOf (side f g).1 (side f g).2 (linesOf f) = g := by
  have := made_side (edx (isLong f g) (linesOf f) (linesOf g)) [] (edx_kinds _ _ _)
  rw [(edx_texts _ _ _).1, (edx_texts _ _ _).2, linesOf_flat] at this
  exact this
theorem getD_at {α : Type} {l : List α} {i : Nat} {d : α} (h : i < l.length) : l.getD i d = l[i] := by simp [List.getD_eq_getElem?_getD, h]
theorem piece_alone (o x a b : List UInt8) : pieceOf o x o a b = (x, 0) := by
  unfold pieceOf
  by_cases h : x = o
  · rw [if_pos h]
  · rw [if_neg h, if_neg h, if_pos rfl]
theorem piece_both (o x a b : List UInt8) : pieceOf o x x a b = (x, 0) := by unfold pieceOf; rw [if_pos rfl]
/-- What is done and what is left make the text. -/
structure Making (L : List (List UInt8)) (X : List Bool × List (List UInt8)) (s : TS) (i : Nat) : Prop where
  n : s.n = 0
  eq : s.out ++ s.x ++ madeOf (X.1.drop i) (X.2.drop i) (L.drop i) = madeOf X.1 X.2 L
theorem Making.step {L : List (List UInt8)} {X : List Bool × List (List UInt8)} {s t : TS} {i : Nat} (h : Making L X s i) (hi : i < L.length) (h1 : X.1.length = L.length) (h2 : X.2.length = L.length + 1) (hn : t.n = 0)
    (ht : t.out ++ t.x = s.out ++ (s.x ++ X.2.getD i []) ++ (if X.1.getD i false = true then L.getD i [] else [])) : Making L X t (i + 1) := by
  have e := h.eq
  rw [List.drop_eq_getElem_cons hi, List.drop_eq_getElem_cons (l := X.1) (by omega), List.drop_eq_getElem_cons (l := X.2) (by omega), madeOf] at e
  rw [getD_at hi, getD_at (l := X.1) (by omega), getD_at (l := X.2) (by omega)] at ht
  refine ⟨hn, ?_⟩
  rw [← e, ht]
  simp
theorem Making.done {L : List (List UInt8)} {X : List Bool × List (List UInt8)} {s : TS} (h : Making L X s L.length) (h1 : X.1.length = L.length) (h2 : X.2.length = L.length + 1) : s.out ++ (s.x ++ X.2.getD L.length []) = madeOf X.1 X.2 L := by
  have e := h.eq
  rw [List.drop_length, ← h1, List.drop_length, List.drop_eq_getElem_cons (l := X.2) (by omega)] at e
  rw [← e, ← h1, getD_at (by omega)]
  simp [madeOf]
theorem both_tst (a b : List UInt8) (L : List (List UInt8)) (X : List Bool × List (List UInt8)) (h1 : X.1.length = L.length) (h2 : X.2.length = L.length + 1) : ∀ i, i ≤ L.length → Making L X (tst a b L X X i) i ∧ (tst a b L X X i).y = (tst a b L X X i).x
  | 0, _ => ⟨⟨rfl, by simp [tst]⟩, rfl⟩
  | i + 1, hi => by
    obtain ⟨m, e⟩ := both_tst a b L X h1 h2 i (by omega)
    have hst := m.step (t := tst a b L X X (i + 1)) (by omega) h1 h2
    rw [tst] at hst ⊢
    have hn := m.n
    generalize tst a b L X X i = s at *
    generalize L.getD i [] = l at *
    generalize X.1.getD i false = k at *
    generalize X.2.getD i [] = i1 at *
    cases k
    · refine ⟨hst hn ?_, ?_⟩ <;> simp [tstep, e]
    · refine ⟨hst ?_ ?_, ?_⟩ <;> simp [tstep, e, piece_both, hn]
theorem both_text (a b : List UInt8) (L : List (List UInt8)) (X : List Bool × List (List UInt8)) (h1 : X.1.length = L.length) (h2 : X.2.length = L.length + 1) : textsOf a b L X X = (madeOf X.1 X.2 L, 0) := by
  obtain ⟨m, e⟩ := both_tst a b L X h1 h2 L.length (Nat.le_refl _)
  rw [textsOf, tend, e, piece_both, m.done h1 h2, m.n]; rfl
theorem alone_tst (a b : List UInt8) (L : List (List UInt8)) (X Y : List Bool × List (List UInt8)) (h1 : X.1.length = L.length) (h2 : X.2.length = L.length + 1) (y1 : ∀ i, i < L.length → Y.1.getD i false = true) (y2 : ∀ i, Y.2.getD i [] = []) : ∀ i, i ≤ L.length → Making L X (tst a b L X Y i) i ∧ (tst a b L X Y i).y = (tst a b L X Y i).o
  | 0, _ => ⟨⟨rfl, by simp [tst]⟩, rfl⟩
  | i + 1, hi => by
    obtain ⟨m, e⟩ := alone_tst a b L X Y h1 h2 y1 y2 i (by omega)
    have hst := m.step (t := tst a b L X Y (i + 1)) (by omega) h1 h2
    rw [tst, y1 i (by omega), y2] at hst ⊢
    have hn := m.n
    generalize tst a b L X Y i = s at *
    generalize L.getD i [] = l at *
    generalize X.1.getD i false = k at *
    generalize X.2.getD i [] = i1 at *
    cases k
    · refine ⟨hst hn ?_, ?_⟩ <;> simp [tstep, e]
    · refine ⟨hst ?_ ?_, ?_⟩ <;> simp [tstep, e, piece_alone, hn]
theorem alone_text (a b : List UInt8) (L : List (List UInt8)) (X Y : List Bool × List (List UInt8)) (h1 : X.1.length = L.length) (h2 : X.2.length = L.length + 1) (y1 : ∀ i, i < L.length → Y.1.getD i false = true) (y2 : ∀ i, Y.2.getD i [] = []) : textsOf a b L X Y = (madeOf X.1 X.2 L, 0) := by
  obtain ⟨m, e⟩ := alone_tst a b L X Y h1 h2 y1 y2 L.length (Nat.le_refl _)
  rw [textsOf, tend, e, y2, List.append_nil, piece_alone, m.done h1 h2, m.n]; rfl
theorem edx_self {α : Type} [DecidableEq α] (L : Bool) : ∀ (x : List α), edx L x x = x.map fun a => (0, a)
  | [] => by cases L <;> simp [edx, eds, edl]
  | a :: x => by rw [edx_keep, edx_self L x]; rfl
theorem side_self (f : List UInt8) : ∀ i, (side f f).2.getD i [] = [] ∧ (i < (linesOf f).length → (side f f).1.getD i false = true) := by
  unfold side
  rw [edx_self]
  generalize linesOf f = L
  have h : ∀ (L : List (List UInt8)), sideOf (L.map fun a => (0, a)) [] = (List.replicate L.length true, List.replicate (L.length + 1) []) := by
    intro L
    induction L with
    | nil => rfl
    | cons l L ih => rw [List.map_cons, sideOf, if_neg (by simp), ih]; rfl
  intro i
  rw [h]
  refine ⟨?_, fun hi => ?_⟩
  · rw [List.getD_eq_getElem?_getD, List.getElem?_replicate]; split <;> rfl
  · rw [List.getD_eq_getElem?_getD, List.getElem?_replicate, if_pos hi]; rfl
theorem texts_ours (f g a b : List UInt8) : textsOf a b (linesOf f) (side f g) (side f f) = (g, 0) := by
  have h := side_len f g
  rw [alone_text a b _ _ _ h.1 h.2 (fun i hi => (side_self f i).2 hi) (fun i => (side_self f i).1), made_text]
theorem texts_theirs (f g a b : List UInt8) : textsOf a b (linesOf f) (side f f) (side f g) = (g, 0) := by
  have h := textsOf_swap b a (linesOf f) (side f g) (side f f)
  rw [texts_ours] at h
  exact Prod.ext (h.2 rfl) h.1
theorem texts_both (f g a b : List UInt8) : textsOf a b (linesOf f) (side f g) (side f g) = (g, 0) := by
  have h := side_len f g
  rw [both_text a b _ _ h.1 h.2, made_text]
end Go.Proofs.Ytknphdcjopaaoaa
