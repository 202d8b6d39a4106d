import Derived.Test.YtfgljddikcghhaaDoorVzTree
import Derived.Test.YtfgljddikcghhaaDoorVzRTold
namespace Go.Proofs.YtfgljddikcghhaaDoor
open Go.RowKit
variable [Globs]
set_option linter.unusedSectionVars false
set_option linter.unusedVariables false

theorem take_count (ls : List Nat) (n i : Nat) : (ls.take (i + 1)).count n = (ls.take i).count n + (if ls[i]? = some n then 1 else 0) := by
 rw [List.take_add_one, List.count_append]
 congr 1
 cases h : ls[i]? with
 | none => simp
 | some m =>
  by_cases e : m = n
  ·subst e; simp
  ·simp [e]
/-- A row of the document's code. -/
theorem row_is (ls : List Nat) (n : Nat) (s : CSt) : ∀ i, (CSt.row ls n i s).nx = s.nx + (ls.take i).count n ∧ (CSt.row ls n i s).us = s.us + (ls.take i).count n ∧ (CSt.row ls n i s).sp = s.sp + (ls.take i).count n * 2 ^ (15 - n) ∧
  (CSt.row ls n i s).lg = (if (ls.take i).count n = 0 then s.lg else n) ∧ ∀ k, (CSt.row ls n i s).bs[k]? = (if k < i ∧ ls[k]? = some n ∧ k < s.bs.length then some (s.nx + (ls.take k).count n) else s.bs[k]?)
 | 0 => by simp [CSt.row]
 | i + 1 => by
  obtain ⟨h1, h2, h3, h4, h5⟩ := row_is ls n s i
  have hbl := CSt.row_len ls n i s
  rw [CSt.row, take_count]
  generalize CSt.row ls n i s = t at *
  unfold CSt.one
  by_cases e : ls[i]? = some n
  ·rw [if_pos e, if_pos e]
   refine ⟨by show t.nx + 1 = _; omega, by show t.us + 1 = _; omega, by show t.sp + _ = _; rw [h3, Nat.add_mul]; omega, by simp, fun k => ?_⟩
   show (t.bs.set i t.nx)[k]? = _
   by_cases ek : k = i
   ·subst ek
    by_cases hkl : k < s.bs.length
    ·rw [List.getElem?_set_self (by omega), h1, if_pos ⟨by omega, e, hkl⟩]
    ·rw [List.getElem?_eq_none (by simp; omega), if_neg (by omega), List.getElem?_eq_none (by omega)]
   ·rw [List.getElem?_set_ne (Ne.symm ek), h5 k]
    by_cases hc : k < i ∧ ls[k]? = some n ∧ k < s.bs.length
    ·rw [if_pos hc, if_pos ⟨by omega, hc.2⟩]
    ·rw [if_neg hc, if_neg (fun hh => hc ⟨by omega, hh.2⟩)]
  ·rw [if_neg e, if_neg e]
   refine ⟨by omega, by omega, by rw [h3]; simp, by rw [h4]; simp, fun k => ?_⟩
   rw [h5 k]
   by_cases hc : k < i ∧ ls[k]? = some n ∧ k < s.bs.length
   ·rw [if_pos hc, if_pos ⟨by omega, hc.2⟩]
   ·rw [if_neg hc, if_neg (fun hh => hc ⟨by
     have : k ≠ i := fun e2 => e (by rw [← e2]; exact hh.2.1)
     omega, hh.2⟩)]
theorem all_nx (ls : List Nat) : ∀ n, (CSt.all ls n).nx * 2 = stN ls (n + 1)
 | 0 => by simp [CSt.all, stN]
 | n + 1 => by
  have h := (row_is ls (n + 1) { CSt.all ls n with nx := (CSt.all ls n).nx * 2 } ls.length).1
  rw [List.take_length] at h
  have e : (CSt.all ls (n + 1)).nx = (CSt.all ls n).nx * 2 + ls.count (n + 1) := h
  rw [e, all_nx ls n, stN]
theorem all_nx2 (ls : List Nat) (n : Nat) : (CSt.all ls (n + 1)).nx = stN ls (n + 1) + ls.count (n + 1) := by
 have h := (row_is ls (n + 1) { CSt.all ls n with nx := (CSt.all ls n).nx * 2 } ls.length).1
 rw [List.take_length] at h
 have e : (CSt.all ls (n + 1)).nx = (CSt.all ls n).nx * 2 + ls.count (n + 1) := h
 rw [e, all_nx]
theorem all_us (ls : List Nat) : ∀ n, (CSt.all ls n).us = usedN ls n
 | 0 => rfl
 | n + 1 => by
  have h := (row_is ls (n + 1) { CSt.all ls n with nx := (CSt.all ls n).nx * 2 } ls.length).2.1
  rw [List.take_length] at h
  have e : (CSt.all ls (n + 1)).us = (CSt.all ls n).us + ls.count (n + 1) := h
  rw [e, all_us ls n, usedN]
theorem all_lg (ls : List Nat) (n : Nat) : (CSt.all ls (n + 1)).lg = if ls.count (n + 1) = 0 then (CSt.all ls n).lg else n + 1 := by
 have h := (row_is ls (n + 1) { CSt.all ls n with nx := (CSt.all ls n).nx * 2 } ls.length).2.2.2.1
 rw [List.take_length] at h
 exact h
theorem all_sp1 (ls : List Nat) (n : Nat) : (CSt.all ls (n + 1)).sp = (CSt.all ls n).sp + ls.count (n + 1) * 2 ^ (15 - (n + 1)) := by
 have h := (row_is ls (n + 1) { CSt.all ls n with nx := (CSt.all ls n).nx * 2 } ls.length).2.2.1
 rw [List.take_length] at h
 exact h
theorem all_sp (ls : List Nat) : ∀ n, n ≤ 15 → (CSt.all ls n).sp = (CSt.all ls n).nx * 2 ^ (15 - n)
 | 0, _ => by simp [CSt.all]
 | n + 1, hn => by
  rw [all_sp1, all_sp ls n (by omega), all_nx2, ← all_nx, Nat.add_mul]
  congr 1
  rw [show 15 - n = (15 - (n + 1)) + 1 by omega, Nat.pow_succ, Nat.mul_comm (2 ^ (15 - (n + 1))) 2, ← Nat.mul_assoc]
theorem all_sp_us (ls : List Nat) : ∀ n, n ≤ 15 → (CSt.all ls n).sp ≤ (CSt.all ls n).us * 16384
 | 0, _ => by simp [CSt.all]
 | n + 1, hn => by
  have ih := all_sp_us ls n (by omega)
  rw [all_sp1, all_us, usedN, ← all_us, Nat.add_mul]
  have h : 2 ^ (15 - (n + 1)) ≤ 2 ^ 14 := Nat.pow_le_pow_right (by omega) (by omega)
  have := Nat.mul_le_mul_left (ls.count (n + 1)) h
  omega
theorem all_bs (ls : List Nat) {i m : Nat} (hi : ls[i]? = some (m + 1)) : ∀ n, m + 1 ≤ n → (CSt.all ls n).bs[i]? = some (codeN ls (m + 1) i)
 | 0, h => by omega
 | n + 1, h => by
  have hil : i < ls.length := (List.getElem?_eq_some_iff.1 hi).1
  have hrow := (row_is ls (n + 1) { CSt.all ls n with nx := (CSt.all ls n).nx * 2 } ls.length).2.2.2.2 i
  have hlen : (CSt.all ls n).bs.length = ls.length := CSt.all_len ls n
  have e : (CSt.all ls (n + 1)).bs[i]? = if i < ls.length ∧ ls[i]? = some (n + 1) ∧ i < (CSt.all ls n).bs.length then some ((CSt.all ls n).nx * 2 + (ls.take i).count (n + 1)) else (CSt.all ls n).bs[i]? := hrow
  rw [e]
  by_cases hmn : m = n
  ·subst hmn
   rw [if_pos ⟨hil, hi, by omega⟩, all_nx, codeN]
  ·rw [if_neg (by rw [hi]; simp; omega)]
   exact all_bs ls hi n (by omega)
theorem used0 (ls : List Nat) : ∀ n, usedN ls n = 0 → ∀ k, 1 ≤ k → k ≤ n → ls.count k = 0
 | 0, _, k, h1, h2 => by omega
 | n + 1, h, k, h1, h2 => by
  rw [usedN] at h
  by_cases e : k = n + 1
  ·rw [e]; omega
  ·exact used0 ls n (by omega) k h1 (by omega)
theorem used1 (ls : List Nat) : ∀ n, usedN ls n = 1 → ((CSt.all ls n).lg = 1 ↔ ls.count 1 = 1)
 | 0, h => by simp [usedN] at h
 | n + 1, h => by
  rw [usedN] at h
  rw [all_lg]
  by_cases hc : ls.count (n + 1) = 0
  ·rw [if_pos hc]
   exact used1 ls n (by omega)
  ·rw [if_neg hc]
   have h0 : usedN ls n = 0 := by omega
   by_cases hn : n = 0
   ·subst hn
    have hc1 : ls.count (0 + 1) = 1 := by omega
    exact ⟨fun _ => hc1, fun _ => rfl⟩
   ·have := used0 ls n h0 1 (Nat.le_refl _) (by omega)
    omega
theorem left_down (ls : List Nat) : ∀ n m, n ≤ m → leftN ls n < 0 → leftN ls m < 0
 | n, 0, h, hl => by rw [Nat.le_zero.1 h] at hl; exact hl
 | n, m + 1, h, hl => by
  by_cases e : n = m + 1
  ·rw [← e]; exact hl
  ·have := left_down ls n m (by omega) hl
   rw [leftN]; omega
theorem left15 (ls : List Nat) : leftN ls 15 = 32768 - ((CSt.all ls 15).sp : Int) := by
 have h : leftN ls 15 = (2 : Int) ^ 15 - ((stN ls 15 + ls.count 15 : Nat) : Int) := leftN_eq ls 14
 have h2 : (CSt.all ls 15).nx = stN ls 15 + ls.count 15 := all_nx2 ls 14
 have h3 := all_sp ls 15 (Nat.le_refl _)
 rw [h, ← h2, h3]
 simp
theorem leftOk15 (ls : List Nat) (h : (CSt.all ls 15).sp ≤ 32768) : leftOk ls 15 := fun k hk => by
 refine Classical.byContradiction fun hn => ?_
 have := left_down ls k 15 hk (by omega)
 rw [left15] at this
 omega
/-- Both know the same codes. -/
theorem okC_iff (ls : List Nat) (few non : Bool) : okC ls few non = true ↔ okP ls few non := by
 have hl := left15 ls
 have hu := all_us ls 15
 have hs := all_sp_us ls 15 (Nat.le_refl _)
 unfold okC okP
 simp only [Bool.or_eq_true, Bool.and_eq_true, decide_eq_true_eq]
 constructor
 ·rintro (h | ⟨⟨h1, h2⟩, h3⟩ | ⟨h1, h2⟩)
  ·exact ⟨leftOk15 ls (by omega), .inl (by omega)⟩
  ·have hu1 : usedN ls 15 = 1 := by omega
   exact ⟨leftOk15 ls (by omega), .inr (.inl ⟨h1, hu1, (used1 ls 15 hu1).1 h3⟩)⟩
  ·exact ⟨leftOk15 ls (by omega), .inr (.inr ⟨h1, by omega⟩)⟩
 ·rintro ⟨h0, h | ⟨h1, h2, h3⟩ | ⟨h1, h2⟩⟩
  ·have := h0 15 (Nat.le_refl _)
   exact .inl (by omega)
  ·exact .inr (.inl ⟨⟨h1, by omega⟩, (used1 ls 15 h2).2 h3⟩)
  ·exact .inr (.inr ⟨h1, by omega⟩)
end Go.Proofs.YtfgljddikcghhaaDoor

