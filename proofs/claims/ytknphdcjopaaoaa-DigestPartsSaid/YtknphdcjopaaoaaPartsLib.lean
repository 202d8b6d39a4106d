/- Two digests and a list of bytes, apart from each other. -/
import Derived.Test.YtknphdcjopaaoaaShaTop
import Derived.Test.YtknphdcjopaaoaaShaRef
namespace Go.Proofs.Ytknphdcjopaaoaa
open Go.RowKit
set_option linter.unusedVariables false

/-- The parts' bytes, as far as part k; and those of even places. -/
def allTo (ps : List (List UInt8)) : Nat → List UInt8
  | 0 => []
  | k + 1 => allTo ps k ++ ps.getD k []
def evTo (ps : List (List UInt8)) : Nat → List UInt8
  | 0 => []
  | k + 1 => if k % 2 = 0 then evTo ps k ++ ps.getD k [] else evTo ps k
theorem evTo_le (ps : List (List UInt8)) (k : Nat) : (evTo ps k).length ≤ (allTo ps k).length := by
  induction k with
  | zero => exact Nat.le_refl _
  | succ k ih => simp only [evTo, allTo, List.length_append]; split <;> simp <;> omega
theorem evTo_two (ps : List (List UInt8)) (q : Nat) : evTo ps (2 * q + 2) = evTo ps (2 * q) ++ ps.getD (2 * q) [] := by
  have h1 : evTo ps (2 * q + 2) = evTo ps (2 * q + 1) := by show (if (2 * q + 1) % 2 = 0 then _ else _) = _; rw [if_neg (by omega)]
  have h2 : evTo ps (2 * q + 1) = evTo ps (2 * q) ++ ps.getD (2 * q) [] := by show (if (2 * q) % 2 = 0 then _ else _) = _; rw [if_pos (by omega)]
  rw [h1, h2]
theorem evTo_end (ps : List (List UInt8)) (n : Nat) (hn : ps.length ≤ n) : evTo ps (n + 1) = evTo ps n := by
  have h : ps.getD n [] = [] := by rw [List.getD_eq_getElem?_getD, List.getElem?_eq_none hn]; rfl
  show (if n % 2 = 0 then evTo ps n ++ ps.getD n [] else evTo ps n) = _
  rw [h]; split <;> simp
theorem evTo_grow (ps : List (List UInt8)) (k d : Nat) : (evTo ps k).length ≤ (evTo ps (k + d)).length := by
  induction d with
  | zero => exact Nat.le_refl _
  | succ d ih =>
    refine Nat.le_trans ih ?_
    show _ ≤ (if (k + d) % 2 = 0 then evTo ps (k + d) ++ ps.getD (k + d) [] else evTo ps (k + d)).length
    split <;> simp
theorem evTo_upto (ps : List (List UInt8)) {k n : Nat} (h : k ≤ n) : (evTo ps k).length ≤ (evTo ps n).length := by
  have := evTo_grow ps k (n - k); rw [show k + (n - k) = n from by omega] at this; exact this
theorem evTo_last (ps : List (List UInt8)) {k : Nat} (h1 : ps.length ≤ k) (h2 : k ≤ ps.length + 1) : evTo ps k = evTo ps ps.length := by
  rcases (show k = ps.length ∨ k = ps.length + 1 from by omega) with rfl | rfl
  · rfl
  · exact evTo_end ps _ (Nat.le_refl _)
theorem allTo_mono (ps : List (List UInt8)) (k : Nat) : (allTo ps k).length ≤ (allTo ps (k + 1)).length := by simp [allTo]

/-- Parts that came in. -/
def Parts (w : World) (a : Option Addr) (ps : List (List UInt8)) : Prop := ∀ i, i < ps.length → ∃ b off x c, a = some ⟨b, off, none⟩ ∧
  w.cell? ⟨b, off + i, none⟩ = some (.slice x (ps.getD i []).length c) ∧ (ps.getD i []).length ≤ c ∧ c ≤ 140737488355328 ∧ Bs w x (ps.getD i [])
theorem Parts.keep {w w' : World} {a : Option Addr} {ps : List (List UInt8)} (h : Parts w a ps) (k : Keeps w w') : Parts w' a ps := fun i hi => by
  obtain ⟨b, off, x, c, e, hc, h1, h2, h3⟩ := h i hi
  exact ⟨b, off, x, c, e, k.cell hc, h1, h2, h3.keep k⟩

structure Two (w0 w : World) (gd ge : Nat) (vd ve va : Value) (D E A : List UInt8) : Prop where
  hd : Dig w w0.heap.size gd vd D
  he : Dig w w0.heap.size ge ve E
  ha : Seg w w0.heap.size 5 1 va A.length (bv A)
  nde : gd ≠ ge
  gd0 : w0.heap.size ≤ gd
  ge0 : w0.heap.size ≤ ge
  o1 : ∀ i, vd.ownBlock = some i → ve.ownBlock ≠ some i
  o2 : ∀ i, vd.ownBlock = some i → va.ownBlock ≠ some i
  o3 : ∀ i, ve.ownBlock = some i → va.ownBlock ≠ some i
  kp : Keeps w0 w

section
variable {w0 w w' : World} {gd ge : Nat} {vd ve va : Value} {D E A : List UInt8}
theorem Two.fr {S : Nat → Prop} (h : Two w0 w gd ge vd ve va D E A) (k : Fr S w w') (h1 : ¬ S gd) (h2 : ¬ S ge) (h3 : ∀ i, vd.ownBlock = some i → ¬ S i) (h4 : ∀ i, ve.ownBlock = some i → ¬ S i) (h5 : ∀ i, va.ownBlock = some i → ¬ S i)
    (h6 : ∀ i, i < w0.heap.size → ¬ S i) : Two w0 w' gd ge vd ve va D E A :=
  ⟨h.hd.fr k h1 h3, h.he.fr k h2 h4, h.ha.fr k h5, h.nde, h.gd0, h.ge0, h.o1, h.o2, h.o3, ((Fr.of_keeps h.kp (fun _ => False)).then k (fun i hi hs => h6 i hi hs)).keeps (fun _ _ h => h)⟩
theorem Two.keep (h : Two w0 w gd ge vd ve va D E A) (k : Keeps w w') : Two w0 w' gd ge vd ve va D E A :=
  h.fr (S := fun _ => False) (Fr.of_keeps k _) (fun h => h) (fun h => h) (fun _ _ h => h) (fun _ _ h => h) (fun _ _ h => h) (fun _ _ h => h)
theorem Two.grown {g : Nat} (h : Two w0 w gd ge vd ve va D E A) (k : w.grownBy w' (some g)) (h1 : gd ≠ g) (h2 : ge ≠ g) (h3 : vd.ownBlock ≠ some g) (h4 : ve.ownBlock ≠ some g) (h5 : va.ownBlock ≠ some g) (h6 : w0.heap.size ≤ g) : Two w0 w' gd ge vd ve va D E A :=
  h.fr (S := fun i => i = g) (Fr.of_grown k (fun i e _ => by cases e; rfl)) h1 h2 (fun i hi e => h3 (by rw [hi, e])) (fun i hi e => h4 (by rw [hi, e])) (fun i hi e => h5 (by rw [hi, e])) (fun i hi e => by omega)
theorem Two.addD {vd' : Value} {b : List UInt8} (h : Two w0 w gd ge vd ve va D E A) (hD : Dig w' w0.heap.size gd vd' (D ++ b)) (k : Fr (fun i => i = gd ∨ vd.ownBlock = some i) w w') (ho : vd'.ownBlock = vd.ownBlock ∨ ∃ i, w.heap.size ≤ i ∧ vd'.ownBlock = some i) :
    Two w0 w' gd ge vd' ve va (D ++ b) E A := by
  have l1 := fun i hi => (h.he.seg.lt i hi).2
  have l2 := fun i hi => (h.ha.lt i hi).2
  refine ⟨hD, h.he.fr k ?_ ?_, h.ha.fr k ?_, h.nde, h.gd0, h.ge0, ?_, ?_, h.o3, ?_⟩
  · rintro (e | e)
    · exact h.nde e.symm
    · exact h.hd.seg.ne_arr h.he.arr (by decide) e
  · rintro i hi (e | e)
    · exact h.he.seg.ne_arr h.hd.arr (by decide) (by rw [hi, e])
    · exact h.o1 i e hi
  · rintro i hi (e | e)
    · exact h.ha.ne_arr h.hd.arr (by decide) (by rw [hi, e])
    · exact h.o2 i e hi
  · intro i hi hv
    rcases ho with e | ⟨j, hj, e⟩
    · exact h.o1 i (by rw [← e]; exact hi) hv
    · rw [e] at hi; cases hi; have := l1 i hv; omega
  · intro i hi hv
    rcases ho with e | ⟨j, hj, e⟩
    · exact h.o2 i (by rw [← e]; exact hi) hv
    · rw [e] at hi; cases hi; have := l2 i hv; omega
  · refine ((Fr.of_keeps h.kp (fun _ => False)).then k (fun i hi hs => ?_)).keeps (fun _ _ h => h)
    rcases hs with e | e
    · have := h.gd0; omega
    · have := (h.hd.seg.lt i e).1; omega
theorem Two.swap (h : Two w0 w gd ge vd ve va D E A) : Two w0 w ge gd ve vd va E D A :=
  ⟨h.he, h.hd, h.ha, h.nde.symm, h.ge0, h.gd0, fun i hi e => h.o1 i e hi, h.o3, h.o2, h.kp⟩
theorem Two.app {va' : Value} {b : List UInt8} (h : Two w0 w gd ge vd ve va D E A) (hA : Seg w' w0.heap.size 5 1 va' (A.length + b.length) (bv A ++ bv b)) (k : w.grownBy w' va.ownBlock) (ho : va'.ownBlock = va.ownBlock ∨ va'.ownBlock = some w.heap.size) :
    Two w0 w' gd ge vd ve va' D E (A ++ b) := by
  have k' : Fr (fun i => va.ownBlock = some i) w w' := Fr.of_grown k (fun i e _ => e)
  have l1 := fun i hi => (h.hd.seg.lt i hi).2
  have l2 := fun i hi => (h.he.seg.lt i hi).2
  refine ⟨h.hd.fr k' ?_ ?_, h.he.fr k' ?_ ?_, ?_, h.nde, h.gd0, h.ge0, h.o1, ?_, ?_, ?_⟩
  · exact h.ha.ne_arr h.hd.arr (by decide)
  · intro i hi e; exact h.o2 i hi e
  · exact h.ha.ne_arr h.he.arr (by decide)
  · intro i hi e; exact h.o3 i hi e
  · rw [List.length_append, show bv (A ++ b) = bv A ++ bv b from by simp [bv]]; exact hA
  · intro i hi hv
    rcases ho with e | e
    · exact h.o2 i hi (by rw [← e]; exact hv)
    · rw [e] at hv; cases hv; have := l1 _ hi; omega
  · intro i hi hv
    rcases ho with e | e
    · exact h.o3 i hi (by rw [← e]; exact hv)
    · rw [e] at hv; cases hv; have := l2 _ hi; omega
  · refine ((Fr.of_keeps h.kp (fun _ => False)).then k' (fun i hi hs => ?_)).keeps (fun _ _ h => h)
    have := (h.ha.lt i hs).1; omega
end

theorem Dig.nil {w : World} {g : Nat} (base : Nat) (h : Dig w 0 g (.slice none 0 0) []) : Dig w base g (.slice none 0 0) [] := ⟨h.arr, Seg.nil _ _ _ _⟩
end Go.Proofs.Ytknphdcjopaaoaa
