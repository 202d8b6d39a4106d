import Derived.Test.YtfgljddikcghhaaDoorVzAdd
namespace Go.Proofs.YtfgljddikcghhaaDoor
open Go.RowKit
variable [Globs]
set_option linter.unusedSectionVars false
set_option linter.unusedVariables false

section
omit [Globs]
/-- Where the codes of n bits begin. -/
def stN (ls : List Nat) : Nat → Nat
 | 0 => 0
 | 1 => 0
 | n + 2 => (stN ls (n + 1) + ls.count (n + 1)) * 2
/-- How many codes of n bits are left. -/
def leftN (ls : List Nat) : Nat → Int
 | 0 => 1
 | n + 1 => leftN ls n * 2 - (ls.count (n + 1) : Int)
def usedN (ls : List Nat) : Nat → Nat
 | 0 => 0
 | n + 1 => usedN ls n + ls.count (n + 1)
def leftOk (ls : List Nat) (n : Nat) : Prop := ∀ k, k ≤ n → 0 ≤ leftN ls k
def okP (ls : List Nat) (few non : Bool) : Prop := leftOk ls 15 ∧ (leftN ls 15 ≤ 0 ∨ (few = true ∧ usedN ls 15 = 1 ∧ ls.count 1 = 1) ∨ (non = true ∧ usedN ls 15 = 0))
/-- The bits of the symbol i. -/
def codeN (ls : List Nat) (n i : Nat) : Nat := stN ls n + (ls.take i).count n
def growT (ls : List Nat) : Nat → List (Int × Int)
 | 0 => [(0, 0)]
 | i + 1 => match ls[i]? with
  | some (n + 1) => addT n (growT ls i) 0 (codeN ls (n + 1) i) i
  | _ => growT ls i
def GrowOk (ls : List Nat) : Prop := ∀ i n, ls[i]? = some (n + 1) → AddOk n (growT ls i) 0 (codeN ls (n + 1) i)
theorem leftN_eq (ls : List Nat) : ∀ n, leftN ls (n + 1) = (2 : Int) ^ (n + 1) - ((stN ls (n + 1) + ls.count (n + 1) : Nat) : Int)
 | 0 => by simp [leftN, stN]
 | n + 1 => by
  rw [leftN, leftN_eq ls n, stN, Int.pow_succ _ (n + 1)]
  push_cast
  omega
theorem addT_len : ∀ (n : Nat) (T : List (Int × Int)) (a code s : Nat), (addT n T a code s).length ≤ T.length + n
 | 0, T, a, code, s => by rw [addT, setT_len]; omega
 | n + 1, T, a, code, s => by
  rw [addT]
  split
  ·have := addT_len n (setT (T ++ [(0, 0)]) a (code / 2 ^ (n + 1) % 2 == 1) (T.length : Int)) T.length code s
   rw [setT_len, List.length_append] at this
   simp at this; omega
  ·have := addT_len n T (slotT T a (code / 2 ^ (n + 1) % 2 == 1)).toNat code s
   omega
theorem growT_len (ls : List Nat) (h : ∀ n ∈ ls, n ≤ 15) : ∀ i, (growT ls i).length ≤ 1 + 15 * i
 | 0 => by simp [growT]
 | i + 1 => by
  have ih := growT_len ls h i
  rw [growT]
  split
  ·rename_i n hn
   have := addT_len n (growT ls i) 0 (codeN ls (n + 1) i) i
   have := h _ (List.mem_of_getElem? hn)
   omega
  ·omega
theorem stN_le (ls : List Nat) {m : Nat} (h : leftOk ls m) : ∀ n, n ≤ m + 1 → stN ls n ≤ 2 ^ n ∧ (1 ≤ n → n ≤ m → stN ls n + ls.count n ≤ 2 ^ n)
 | 0, _ => ⟨by simp [stN], fun h => by omega⟩
 | 1, hn => ⟨by simp [stN], fun _ h1 => by
  have h2 := h 1 h1
  have h3 : leftN ls 1 = 2 - ((stN ls 1 + ls.count 1 : Nat) : Int) := leftN_eq ls 0
  rw [h3] at h2
  have : (2 : Nat) ^ 1 = 2 := rfl
  omega⟩
 | n + 2, hn => by
  have h1 := (stN_le ls h (n + 1) (by omega)).2 (by omega) (by omega)
  refine ⟨by rw [stN, Nat.pow_succ]; omega, fun _ h2 => ?_⟩
  have h4 := h (n + 2) h2
  have h3 : leftN ls (n + 2) = ((2 ^ (n + 2) : Nat) : Int) - ((stN ls (n + 2) + ls.count (n + 2) : Nat) : Int) := by rw [leftN_eq ls (n + 1)]; push_cast; rfl
  rw [h3] at h4
  omega
end
end Go.Proofs.YtfgljddikcghhaaDoor

