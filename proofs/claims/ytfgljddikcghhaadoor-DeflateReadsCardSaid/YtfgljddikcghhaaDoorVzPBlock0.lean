import Derived.Test.YtfgljddikcghhaaDoorVzPTold
namespace Go.Proofs.YtfgljddikcghhaaDoor
open Go.RowKit
variable [Globs]
set_option linter.unusedSectionVars false
set_option linter.unusedVariables false
set_option linter.unusedSimpArgs false

theorem rowsP_le {sc : Rd} (hsc : ∀ B y B1, sc B = some (y, B1) → y ≤ 18) {tot : Nat} : ∀ {f : Nat} {B : List Bool} {row row' : List Nat} {B' : List Bool}, (∀ n ∈ row, n ≤ 15) → row.length ≤ tot → rowsP sc tot f B row = some (row', B') → (∀ n ∈ row', n ≤ 15) ∧ row'.length ≤ tot
 | 0, B, row, row', B', h1, h2, h => by simp [rowsP] at h
 | f + 1, B, row, row', B', h1, h2, h => by
  rw [rowsP] at h
  split at h
  ·cases h; exact ⟨h1, h2⟩
  ·split at h
   ·cases h
   ·rename_i y B1 hs
    have hy := hsc _ _ _ hs
    split at h
    ·cases h
    ·rename_i n base what hstep
     split at h
     ·cases h
     ·split at h
      ·cases h
      ·refine rowsP_le hsc (fun k hk => ?_) (by simp; omega) h
       rcases List.mem_append.1 hk with hk | hk
       ·exact h1 k hk
       ·rw [List.mem_replicate] at hk
        rw [hk.2]
        unfold stepR at hstep
        split at hstep
        ·obtain ⟨w, hw, e⟩ := Option.map_eq_some_iff.1 hstep
         cases e
         exact h1 _ (List.mem_of_getLast? hw)
        ·split at hstep
         ·cases hstep; omega
         ·split at hstep
          ·cases hstep; omega
          ·cases hstep; omega
theorem told_le {B : List Bool} {a b : List Nat} {B' : List Bool} (h : toldP okC rdR B = some (a, b, B')) : (a.length ≤ 1000 ∧ ∀ n ∈ a, n ≤ 15) ∧ (b.length ≤ 1000 ∧ ∀ n ∈ b, n ≤ 15) := by
 unfold toldP at h
 split at h
 ·cases h
 ·split at h
  ·cases h
  ·rename_i hlim
   split at h
   ·cases h
   ·split at h
    ·cases h
    ·split at h
     ·cases h
     ·rename_i row B2 hs
      obtain ⟨k1, k2⟩ := rowsP_le (fun B y B1 h => by have := (rdC_spec h).1; rw [thirdL_len] at this; omega) (by simp) (by simp) hs
      split at h
      ·cases h
      ·cases h
       refine ⟨⟨by rw [List.length_take]; omega, fun n hn => k1 n (List.mem_of_mem_take hn)⟩, by rw [List.length_drop]; omega, fun n hn => k1 n (List.mem_of_mem_drop hn)⟩
theorem b_xor64 {t : TypeId} {a b : Nat} (h1 : a < 2 ^ 62) (h2 : b < 2 ^ 62) : binV t .xor (.int .i64 (a : Int)) (.int .i64 (b : Int)) = some (.int .i64 ((a ^^^ b : Nat) : Int)) := by
 have h3 := Nat.xor_lt_two_pow h1 h2
 have e1 : (BitVec.ofInt 64 (a : Int)).toNat = a := by rw [BitVec.toNat_ofInt]; omega
 have e2 : (BitVec.ofInt 64 (b : Int)).toNat = b := by rw [BitVec.toNat_ofInt]; omega
 rw [show binV t .xor (.int .i64 (a : Int)) (.int .i64 (b : Int)) = some (.int .i64 (IntKind.i64.wrap ((BitVec.ofInt 64 (a : Int) ^^^ BitVec.ofInt 64 (b : Int)).toNat : Int))) from rfl, BitVec.toNat_xor, e1, e2, wrap64_id (by omega) (by omega)]
set_option maxRecDepth 100000 in
theorem left_fixL : (∀ k, k < 16 → 0 ≤ leftN fixL k) ∧ leftN fixL 15 ≤ 0 := by decide
set_option maxRecDepth 100000 in
theorem left_fixD : (∀ k, k < 16 → 0 ≤ leftN fixD k) ∧ leftN fixD 15 ≤ 0 := by decide
theorem ok_fixL : okC fixL false false = true := (okC_iff _ _ _).2 ⟨fun k hk => left_fixL.1 k (by omega), .inl left_fixL.2⟩
theorem ok_fixD : okC fixD false false = true := (okC_iff _ _ _).2 ⟨fun k hk => left_fixD.1 k (by omega), .inl left_fixD.2⟩
section
omit [Globs]
set_option maxRecDepth 100000 in
theorem fixL_15 : ∀ n ∈ fixL, n ≤ 15 := by decide
theorem fixD_15 : ∀ n ∈ fixD, n ≤ 15 := by decide
theorem xor_all (n : Nat) (h : n < 65536) : n ^^^ 65535 = 65535 - n := by
 have h1 : n ^^^ 65535 = n ^^^ (2 ^ 16 - 1) := rfl
 apply Nat.eq_of_testBit_eq
 intro i
 rw [Nat.testBit_xor]
 by_cases hi : i < 16
 ·have e1 : (65535 : Nat).testBit i = true := by
   have : ∀ i, i < 16 → (65535 : Nat).testBit i = true := by decide
   exact this i hi
  have e2 := Nat.testBit_two_pow_sub_succ (n := 16) (x := n) (by omega) i
  rw [show 65535 - n = 2 ^ 16 - (n + 1) by omega, e2, e1, decide_eq_true hi]
  cases n.testBit i <;> rfl
 ·have e0 : n < 2 ^ i := Nat.lt_of_lt_of_le (show n < 2 ^ 16 from h) (Nat.pow_le_pow_right (by omega) (by omega : 16 ≤ i))
  have e1 : (65535 : Nat) < 2 ^ i := Nat.lt_of_lt_of_le (show (65535 : Nat) < 2 ^ 16 by decide) (Nat.pow_le_pow_right (by omega) (by omega : 16 ≤ i))
  have e3 : 65535 - n < 2 ^ i := Nat.lt_of_le_of_lt (Nat.sub_le _ _) e1
  rw [Nat.testBit_lt_two_pow e0, Nat.testBit_lt_two_pow e1, Nat.testBit_lt_two_pow e3]; rfl
theorem val16 (a b : UInt8) (r : List UInt8) : valN ((allB (a :: b :: r)).take 16) = a.toNat + 256 * b.toNat := by
 have e : (allB (a :: b :: r)).take 16 = bitsN 16 (a.toNat + b.toNat * 2 ^ 8) := by
  rw [allB_cons, allB_cons, ← List.append_assoc, ← bitsN_add 8 8 _ _ a.toNat_lt, List.take_append_of_le_length (by rw [bitsN_len]; omega), List.take_of_length_le (by rw [bitsN_len]; omega)]
 rw [e, valN_bits]
 have := a.toNat_lt
 have := b.toNat_lt
 omega
end
end Go.Proofs.YtfgljddikcghhaaDoor

