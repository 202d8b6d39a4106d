/- A block whose cells are known, one by one: arrays and structs of the call's own. No program in sight. -/
import Derived.Test.YtknphdcjopaaoaaMem
namespace Go.Proofs.Ytknphdcjopaaoaa
open Go.RowKit
set_option linter.unusedVariables false

/-- Block b holds the cells cs, of type t, none of them frozen. -/
def Arr (w : World) (b : Nat) (t : TypeId) (cs : List Value) : Prop := w.heap[b]? = some (.cells cs.toArray t (0, 0))

section
variable {w : World} {b : Nat} {t : TypeId} {cs : List Value}
theorem Arr.cell (h : Arr w b t cs) (i : Nat) : w.cell? ⟨b, i, none⟩ = cs[i]? := by rw [cell_of_row w b i _ t _ h]; simp
theorem Arr.frozen (h : Arr w b t cs) (i : Nat) : w.frozen? ⟨b, i, none⟩ = false := frozen_of_row _ _ _ _ _ h
theorem Arr.set (h : Arr w b t cs) (i : Nat) (v : Value) : Arr (w.setCell ⟨b, i, none⟩ v) b t (cs.set i v) := by
  unfold Arr; rw [heap_setCell_same _ _ _ _ _ _ h]; simp
theorem Arr.other (h : Arr w b t cs) (a : Addr) (v : Value) (hne : b ≠ a.block) : Arr (w.setCell a v) b t cs := by
  unfold Arr; rw [heap_setCell_other _ _ _ _ hne]; exact h
theorem Arr.keep {w' : World} (h : Arr w b t cs) (k : Keeps w w') : Arr w' b t cs := by
  unfold Arr at *; rw [Below.block k b (Array.getElem?_eq_some_iff.1 h).1]; exact h
theorem Arr.alloc (h : Arr w b t cs) (o : Obj) : Arr (w.alloc o) b t cs := h.keep ((Keeps.refl w).alloc o)
theorem Arr.drewN (h : Arr w b t cs) (n : Nat) : Arr (w.drewN n) b t cs := h
theorem Arr.drew (h : Arr w b t cs) : Arr w.drew b t cs := h
theorem Arr.lt (h : Arr w b t cs) : b < w.heap.size := (Array.getElem?_eq_some_iff.1 h).1
theorem Arr.grown {w' : World} {row : Option Nat} (h : Arr w b t cs) (hg : w.grownBy w' row) (hne : some b ≠ row) : Arr w' b t cs := by
  unfold Arr; rw [hg.block b h.lt hne]; exact h
end
theorem Arr.ne {w : World} {b c : Nat} {t u : TypeId} {xs ys : List Value} (h : Arr w b t xs) (k : Arr w c u ys) (hne : t ≠ u) : b ≠ c := by
  rintro rfl
  unfold Arr at h k; rw [h] at k
  simp only [Option.some.injEq, Obj.cells.injEq] at k
  exact hne k.2.1
theorem Arr.new (w : World) (cs : Array Value) (t : TypeId) : Arr (w.alloc (.cells cs t)) w.heap.size t cs.toList := by unfold Arr; rw [heap_alloc_new]
theorem Arr.newAt (w : World) (cs : Array Value) (t : TypeId) (b : Nat) (hb : b = w.heap.size) : Arr (w.alloc (.cells cs t)) b t cs.toList := by subst hb; exact Arr.new w cs t

theorem Arr.five {w : World} {b : Nat} {t : TypeId} {c0 c1 c2 c3 c4 : Value} (h : Arr w b t [c0, c1, c2, c3, c4]) :
    w.cell? ⟨b, 0, none⟩ = some c0 ∧ w.cell? ⟨b, 1, none⟩ = some c1 ∧ w.cell? ⟨b, 2, none⟩ = some c2 ∧ w.cell? ⟨b, 3, none⟩ = some c3 ∧ w.cell? ⟨b, 4, none⟩ = some c4 :=
  ⟨h.cell 0, h.cell 1, h.cell 2, h.cell 3, h.cell 4⟩
end Go.Proofs.Ytknphdcjopaaoaa
