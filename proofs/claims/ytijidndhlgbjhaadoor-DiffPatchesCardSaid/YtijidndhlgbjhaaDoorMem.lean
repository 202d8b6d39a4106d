/- Memory as lists: what the walks say of slices of bytes. No program in sight. -/
import Derived.WalkKit
import Derived.WalkSpells
import Derived.WalkLawsBesides
import Derived.Lib.Hide
import Derived.Deep.QuietTactic
import Derived.BigQuiet
import Derived.Deep.OwnRows
import Derived.Laws.CopyOwn
namespace Go.Proofs.YtijidndhlgbjhaaDoor
open Go.RowKit

/-- Nothing that was there has turned; there may be more. -/
def Keeps (w w' : World) : Prop := Below w.heap.size w w'

theorem Keeps.refl (w : World) : Keeps w w := Below.refl _ _
theorem Keeps.of_eq {w w' : World} (h : w' = w) : Keeps w w' := h ▸ Below.refl _ _
theorem Keeps.trans {a b c : World} (h : Keeps a b) (k : Keeps b c) : Keeps a c := Below.trans h (Below.mono k (Below.size h))
theorem Keeps.drew {a b : World} (h : Keeps a b) : Keeps a b.drew := Below.drew h
theorem Keeps.drewN {a b : World} (h : Keeps a b) (n : Nat) : Keeps a (b.drewN n) := Below.trans h ⟨rfl, rfl, rfl, Nat.le_refl _, fun _ _ => rfl⟩
theorem Keeps.alloc {a b : World} (h : Keeps a b) (o : Obj) : Keeps a (b.alloc o) := Below.alloc h (Below.size h) o
theorem Below.drewN' {B : Nat} {a b : World} (n : Nat) (h : Below B a b) : Below B a (b.drewN n) := Below.trans h ⟨rfl, rfl, rfl, Nat.le_refl _, fun _ _ => rfl⟩
theorem Keeps.cell {w w' : World} (h : Keeps w w') {p : Addr} {v : Value} (hv : w.cell? p = some v) : w'.cell? p = some v := by
  rw [Below.cell h (World.block_lt_of_cell? w p hv)]; exact hv

/-- The slice's elements, from address 'a' on, are the bytes 'l'. -/
def Bs (w : World) (a : Option Addr) (l : List UInt8) : Prop :=
  ∀ j, j < l.length → ∃ b off, a = some ⟨b, off, none⟩ ∧ w.cell? ⟨b, off + j, none⟩ = some (.int .u8 (l.getD j 0).toNat)

theorem Bs.keep {w w' : World} {a : Option Addr} {l : List UInt8} (h : Bs w a l) (k : Keeps w w') : Bs w' a l := fun j hj =>
  let ⟨b, off, e, hc⟩ := h j hj; ⟨b, off, e, k.cell hc⟩

theorem Bs.nil (w : World) (a : Option Addr) : Bs w a [] := fun j hj => absurd hj (by simp)

theorem drop_getD {α : Type} (l : List α) (k : Nat) (d : α) (h : k < l.length) : l.drop k = l.getD k d :: l.drop (k + 1) := by
  rw [List.drop_eq_getElem_cons h]; simp [List.getD, h]

/-- A slice's length: for a loop's measure. -/
def lenOf : Value → Nat
  | .slice _ n _ => n
  | _ => 0

theorem Bs.take {w : World} {a : Option Addr} {l : List UInt8} (h : Bs w a l) (n : Nat) : Bs w a (l.take n) := fun j hj => by
  have hj' : j < l.length := by simp at hj; omega
  have hjn : j < n := by simp at hj; omega
  obtain ⟨b, off, e, hc⟩ := h j hj'
  exact ⟨b, off, e, by rw [hc]; simp [List.getD, hjn]⟩

theorem Bs.drop {w : World} {b off : Nat} {l : List UInt8} (h : Bs w (some ⟨b, off, none⟩) l) (n : Nat) : Bs w (some ⟨b, off + n, none⟩) (l.drop n) := fun j hj => by
  have hj' : n + j < l.length := by simp at hj; omega
  obtain ⟨b', off', e, hc⟩ := h (n + j) hj'
  simp only [Option.some.injEq, Addr.mk.injEq, and_true] at e
  obtain ⟨rfl, rfl⟩ := e
  refine ⟨b, off + n, rfl, ?_⟩
  rw [Nat.add_assoc, hc]
  simp [List.getD]

/-- Bytes as cells. -/
def bv (l : List UInt8) : List Value := l.map fun x => .int .u8 (x.toNat : Int)

@[simp] theorem bv_length (l : List UInt8) : (bv l).length = l.length := by simp [bv]
theorem bv_get? (l : List UInt8) (j : Nat) (h : j < l.length) : (bv l)[j]? = some (.int .u8 ((l.getD j 0).toNat : Int)) := by simp [bv, List.getD, h]
theorem bv_cell1 (l : List UInt8) : ∀ v ∈ bv l, v.oneCell' = true := by
  intro v hv; simp only [bv, List.mem_map] at hv; obtain ⟨x, _, rfl⟩ := hv; rfl

/-- A whole block of bytes reads so. -/
theorem Bs.of_block {w : World} {g : Nat} {cs : List Value} {t : TypeId} {fr : Nat × Nat} (hg : w.heap[g]? = some (.cells cs.toArray t fr)) {off : Nat} {l : List UInt8}
    (h : ∀ j, j < l.length → cs[off + j]? = some (.int .u8 ((l.getD j 0).toNat : Int))) : Bs w (some ⟨g, off, none⟩) l := fun j hj =>
  ⟨g, off, rfl, by rw [cell_of_row w g (off + j) _ t fr hg]; simpa using h j hj⟩

theorem Bs.src {w : World} {a : Option Addr} {l : List UInt8} (h : Bs w a l) (hp : 0 < (bv l).length) : ∃ ad, a = some ad ∧ ∀ j v, (bv l)[j]? = some v → w.cell? (ad.add j) = some v := by
  obtain ⟨b, off, rfl, _⟩ := h 0 (by simpa using hp)
  refine ⟨_, rfl, fun j v hv => ?_⟩
  have hj : j < l.length := by
    rcases Nat.lt_or_ge j l.length with h1 | h1
    · exact h1
    · rw [List.getElem?_eq_none (by simpa using h1)] at hv; cases hv
  obtain ⟨b', off', e, hc⟩ := h j hj
  simp only [Option.some.injEq, Addr.mk.injEq, and_true] at e
  obtain ⟨rfl, rfl⟩ := e
  rw [bv_get? l j hj] at hv
  rw [show (⟨b, off, none⟩ : Addr).add j = ⟨b, off + j, none⟩ from by simp [Addr.add], hc]; exact hv

theorem byte_lt (x : UInt8) : (x.toNat : Int) < 256 := by have := UInt8.toNat_lt x; omega

theorem Bs.at {w : World} {a : Option Addr} {l : List UInt8} (h : Bs w a l) {j : Nat} (hj : j < l.length) :
    ∃ b off x, a = some ⟨b, off, none⟩ ∧ w.cell? ⟨b, off + j, none⟩ = some (.int .u8 (x.toNat : Int)) ∧ (x.toNat : Int) < 256 ∧ Hid (x = l.getD j 0) := by
  obtain ⟨b, off, e, hc⟩ := h j hj
  exact ⟨b, off, l.getD j 0, e, hc, byte_lt _, rfl⟩

theorem Bs.at' {w : World} {b off : Nat} {l : List UInt8} (h : Bs w (some ⟨b, off, none⟩) l) {j : Nat} (hj : j < l.length) :
    ∃ x, w.cell? ⟨b, off + j, none⟩ = some (.int .u8 (x.toNat : Int)) ∧ (x.toNat : Int) < 256 ∧ Hid (x = l.getD j 0) := by
  obtain ⟨b', off', e, hc⟩ := h j hj
  simp only [Option.some.injEq, Addr.mk.injEq, and_true] at e
  obtain ⟨rfl, rfl⟩ := e
  exact ⟨l.getD j 0, hc, byte_lt _, rfl⟩

theorem quiet_add {P : Program} {f : FuncId} {args : Array Value} {w : World} {a n : Nat} {v : Value}
    (h : Calls P f args (w.drewN (a + n)) fun e w' => e = .returned v ∧ ∃ m, w' = (w.drewN (a + n)).drewN m) :
    Calls P f args (w.drewN (a + n)) fun e w'' => e = .returned v ∧ ∃ m, w'' = w.drewN (a + m) :=
  h.mono fun _ _ ⟨he, m, hm⟩ => ⟨he, n + m, by rw [hm, World.drewN_drewN, Nat.add_assoc]⟩
theorem quiet_add_left {P : Program} {f : FuncId} {args : Array Value} {w : World} {a n : Nat} {v : Value}
    (h : Calls P f args (w.drewN (a + n)) fun e w' => e = .returned v ∧ w.drewN (a + n) = w') :
    Calls P f args (w.drewN (a + n)) fun e w'' => e = .returned v ∧ ∃ m, w'' = w.drewN (a + m) :=
  h.mono fun _ _ ⟨he, hm⟩ => ⟨he, n, hm.symm⟩
theorem quiet_left {P : Program} {f : FuncId} {args : Array Value} {w : World} {n : Nat} {v : Value}
    (h : Calls P f args (w.drewN n) fun e w' => e = .returned v ∧ w.drewN n = w') : Calls P f args (w.drewN n) fun e w'' => e = .returned v ∧ ∃ m, w'' = w.drewN m :=
  h.mono fun _ _ ⟨he, hm⟩ => ⟨he, n, hm.symm⟩

theorem only_refl (w : World) (row : Option Nat) : w.grownBy w row := ⟨rfl, rfl, rfl, Nat.le_refl _, fun _ _ _ => rfl⟩
theorem only_drewN {a w : World} {row : Option Nat} (h : a.grownBy w row) (n : Nat) : a.grownBy (w.drewN n) row := ⟨h.os, h.tape, h.output, h.size, h.block⟩
theorem only_drew {a w : World} {row : Option Nat} (h : a.grownBy w row) : a.grownBy w.drew row := ⟨h.os, h.tape, h.output, h.size, h.block⟩
theorem only_alloc {a w : World} {row : Option Nat} (h : a.grownBy w row) (o : Obj) : a.grownBy (w.alloc o) row :=
  ⟨h.os, h.tape, h.output, Nat.le_trans h.size (by simp), fun i hi hne => (Below.heap_alloc w o i (Nat.lt_of_lt_of_le hi h.size)).trans (h.block i hi hne)⟩
theorem only_setCell {a w : World} {g : Nat} (h : a.grownBy w (some g)) {p : Addr} (hp : p.block = g ∨ a.heap.size ≤ p.block) (u : Value) : a.grownBy (w.setCell p u) (some g) :=
  ⟨h.os, h.tape, h.output, by simpa [World.setCell] using h.size, fun i hi hne => (Below.heap_setCell w p u i (by
    rintro rfl
    rcases hp with hp | hp
    · exact hne (by rw [hp])
    · omega)).trans (h.block i hi hne)⟩
theorem only_of_keeps {a w : World} (h : Keeps a w) (row : Option Nat) : a.grownBy w row := ⟨h.os, h.tape, h.output, h.size, fun i hi _ => h.block i hi⟩
theorem only_keeps {a b c : World} {row : Option Nat} (h : a.grownBy b row) (k : Keeps b c) : a.grownBy c row :=
  ⟨k.os.trans h.os, k.tape.trans h.tape, k.output.trans h.output, Nat.le_trans h.size k.size, fun i hi hne => (k.block i (Nat.lt_of_lt_of_le hi h.size)).trans (h.block i hi hne)⟩
theorem only_trans {a b c : World} {row : Option Nat} (h : a.grownBy b row) (k : b.grownBy c row) : a.grownBy c row :=
  ⟨k.os.trans h.os, k.tape.trans h.tape, k.output.trans h.output, Nat.le_trans h.size k.size, fun i hi hne => (k.block i (Nat.lt_of_lt_of_le hi h.size) hne).trans (h.block i hi hne)⟩
/-- A block that is new since a may be written. -/
theorem only_new {a b c : World} {row : Option Nat} {g : Nat} (h : a.grownBy b row) (k : b.grownBy c (some g)) (hg : a.heap.size ≤ g) : a.grownBy c row :=
  ⟨k.os.trans h.os, k.tape.trans h.tape, k.output.trans h.output, Nat.le_trans h.size k.size, fun i hi hne => (k.block i (Nat.lt_of_lt_of_le hi h.size) (by intro e; cases e; omega)).trans (h.block i hi hne)⟩
theorem Keeps.only {a b c : World} {g : Nat} (h : Keeps a b) (k : b.grownBy c (some g)) (hg : a.heap.size ≤ g) : Keeps a c :=
  Below.grown h k h.size (by intro j e; cases e; exact hg)

end Go.Proofs.YtijidndhlgbjhaaDoor
