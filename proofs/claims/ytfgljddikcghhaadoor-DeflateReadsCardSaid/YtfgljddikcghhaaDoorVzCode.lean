import Derived.Test.YtfgljddikcghhaaDoorVzRSym
namespace Go.Proofs.YtfgljddikcghhaaDoor
open Go.RowKit
variable [Globs]
set_option linter.unusedSectionVars false
set_option linter.unusedVariables false

section
omit [Globs]
/-- What code keeps in mind: bits, the next one, how many are used, the longest, the space taken. -/
structure CSt where
 bs : List Nat
 nx : Nat
 us : Nat
 lg : Nat
 sp : Nat
/-- One symbol, at the length n. -/
def CSt.one (ls : List Nat) (n i : Nat) (s : CSt) : CSt := if ls[i]? = some n then ⟨s.bs.set i s.nx, s.nx + 1, s.us + 1, n, s.sp + 2 ^ (15 - n)⟩ else s
/-- The first i symbols, at the length n. -/
def CSt.row (ls : List Nat) (n : Nat) : Nat → CSt → CSt
 | 0, s => s
 | i + 1, s => CSt.one ls n i (CSt.row ls n i s)
/-- The lengths up to n. -/
def CSt.all (ls : List Nat) : Nat → CSt
 | 0 => ⟨List.replicate ls.length 0, 0, 0, 0, 0⟩
 | n + 1 => CSt.row ls (n + 1) ls.length { CSt.all ls n with nx := (CSt.all ls n).nx * 2 }
theorem CSt.one_len (ls : List Nat) (n i : Nat) (s : CSt) : (s.one ls n i).bs.length = s.bs.length := by unfold CSt.one; split <;> simp
theorem CSt.row_len (ls : List Nat) (n : Nat) : ∀ (i : Nat) (s : CSt), (s.row ls n i).bs.length = s.bs.length
 | 0, s => rfl
 | i + 1, s => by rw [CSt.row, CSt.one_len, CSt.row_len ls n i s]
theorem CSt.all_len (ls : List Nat) : ∀ n, (CSt.all ls n).bs.length = ls.length
 | 0 => by simp [CSt.all]
 | n + 1 => by rw [CSt.all, CSt.row_len]; exact CSt.all_len ls n
/-- How great they may be. -/
def CSt.ok (s : CSt) (a b c : Nat) : Prop := s.nx ≤ a ∧ s.us ≤ b ∧ s.sp ≤ c
set_option maxRecDepth 100000 in
theorem CSt.row_ok (ls : List Nat) (n : Nat) : ∀ (i : Nat) (s : CSt) (a b c : Nat), s.ok a b c → (s.row ls n i).ok (a + i) (b + i) (c + i * 32768)
 | 0, s, a, b, c, h => by simpa [CSt.row] using h
 | i + 1, s, a, b, c, h => by
  obtain ⟨h1, h2, h3⟩ := CSt.row_ok ls n i s a b c h
  have hp : 2 ^ (15 - n) ≤ 32768 := Nat.le_trans (Nat.pow_le_pow_right (by omega) (by omega : 15 - n ≤ 15)) (by decide)
  rw [CSt.row]
  unfold CSt.one
  generalize CSt.row ls n i s = t at *
  split
  ·refine ⟨?_, ?_, ?_⟩
   ·show t.nx + 1 ≤ _; omega
   ·show t.us + 1 ≤ _; omega
   ·show t.sp + 2 ^ (15 - n) ≤ _; omega
  ·exact ⟨by omega, by omega, by omega⟩
set_option maxRecDepth 100000 in
theorem CSt.all_ok (ls : List Nat) (hl : ls.length ≤ 1000) : ∀ n, (CSt.all ls n).ok (1000 * (2 ^ n - 1)) (1000 * n) (32768000 * n)
 | 0 => ⟨by simp [CSt.all], by simp [CSt.all], by simp [CSt.all]⟩
 | n + 1 => by
  obtain ⟨h1, h2, h3⟩ := CSt.all_ok ls hl n
  have hp : 1 ≤ 2 ^ n := Nat.one_le_two_pow
  have h := CSt.row_ok ls (n + 1) ls.length { CSt.all ls n with nx := (CSt.all ls n).nx * 2 } (2000 * (2 ^ n - 1)) (1000 * n) (32768000 * n) ⟨by show _ * 2 ≤ _; omega, h2, h3⟩
  obtain ⟨k1, k2, k3⟩ := h
  rw [CSt.all]
  refine ⟨Nat.le_trans k1 ?_, Nat.le_trans k2 (by omega), Nat.le_trans k3 (by omega)⟩
  rw [Nat.pow_succ]; omega
end
end Go.Proofs.YtfgljddikcghhaaDoor

