/- Numbers of 8 bits: what operations on them yield. No program in sight. -/
import Derived.Test.YtijidndhlgbjhaaDoorBaseC
namespace Go.Proofs.YtijidndhlgbjhaaDoor
open Go.RowKit
variable [Globs]
set_option linter.unusedSectionVars false
set_option linter.unusedSimpArgs false
set_option linter.unusedVariables false
set_option autoImplicit false

section
variable {t : TypeId} {a b : Nat} {k2 : IntKind}
theorem wrap8 {n : Nat} (h : n < 256) : IntKind.u8.wrap (n : Int) = n := by rw [IntKind.wrap_u8]; omega
theorem bv8 {n : Nat} : (BitVec.ofInt 8 (n : Int)).toNat = n % 256 := by
  rw [BitVec.toNat_ofInt]; omega
theorem b_add8 : binV t .add (.int .u8 (a : Int)) (.int .u8 (b : Int)) = some (.int .u8 (((a + b) % 256 : Nat) : Int)) := by
  rw [show binV t .add (.int .u8 (a : Int)) (.int .u8 (b : Int)) = some (.int .u8 (IntKind.u8.wrap ((a : Int) + b))) from rfl, IntKind.wrap_u8]
  congr 2
theorem b_mul8 : binV t .mul (.int .u8 (a : Int)) (.int .u8 (b : Int)) = some (.int .u8 (((a * b) % 256 : Nat) : Int)) := by
  rw [show binV t .mul (.int .u8 (a : Int)) (.int .u8 (b : Int)) = some (.int .u8 (IntKind.u8.wrap ((a : Int) * b))) from rfl, IntKind.wrap_u8]
  congr 2
theorem b_sub8 (h : b ≤ a) (h2 : a < 256) : binV t .sub (.int .u8 (a : Int)) (.int .u8 (b : Int)) = some (.int .u8 ((a - b : Nat) : Int)) := by
  rw [show binV t .sub (.int .u8 (a : Int)) (.int .u8 (b : Int)) = some (.int .u8 (IntKind.u8.wrap ((a : Int) - b))) from rfl, IntKind.wrap_u8]
  congr 2; omega
theorem b_and8 (h1 : a < 256) (h2 : b < 256) : binV t .and (.int .u8 (a : Int)) (.int .u8 (b : Int)) = some (.int .u8 ((a &&& b : Nat) : Int)) := by
  rw [show binV t .and (.int .u8 (a : Int)) (.int .u8 (b : Int)) = some (.int .u8 (IntKind.u8.wrap ((BitVec.ofInt 8 a &&& BitVec.ofInt 8 b).toNat : Int))) from rfl, BitVec.toNat_and, bv8, bv8, Nat.mod_eq_of_lt (by omega), Nat.mod_eq_of_lt (by omega)]
  have := Nat.and_le_left (n := a) (m := b)
  rw [wrap8 (by omega)]
theorem b_or8 (h1 : a < 256) (h2 : b < 256) : binV t .or (.int .u8 (a : Int)) (.int .u8 (b : Int)) = some (.int .u8 ((a ||| b : Nat) : Int)) := by
  rw [show binV t .or (.int .u8 (a : Int)) (.int .u8 (b : Int)) = some (.int .u8 (IntKind.u8.wrap ((BitVec.ofInt 8 a ||| BitVec.ofInt 8 b).toNat : Int))) from rfl, BitVec.toNat_or, bv8, bv8, Nat.mod_eq_of_lt (by omega), Nat.mod_eq_of_lt (by omega)]
  have := Nat.or_lt_two_pow (n := 8) (x := a) (y := b) (by omega) (by omega)
  rw [wrap8 (by omega)]
theorem b_shr8 (h1 : a < 256) (h2 : b ≤ 8) : binV t .shr (.int .u8 (a : Int)) (.int k2 (b : Int)) = some (.int .u8 ((a / 2 ^ b : Nat) : Int)) := by
  have e : binOp .shr t (.int .u8 (a : Int)) (.int k2 (b : Int)) = pure (.int .u8 ((a / 2 ^ b : Nat) : Int)) := by
    show Op.shift .shr .u8 a k2 b = _
    unfold Op.shift
    rw [if_neg (by omega)]
    have hm : min ((b : Int)).toNat IntKind.u8.bits = b := by
      have : IntKind.u8.bits = 8 := rfl
      omega
    simp only [hm]
    rw [Int.fdiv_eq_ediv_of_nonneg _ (by exact Int.le_of_lt (Int.pow_pos (by omega)))]
    have hle : a / 2 ^ b ≤ a := Nat.div_le_self _ _
    have e2 : (a : Int) / 2 ^ b = ((a / 2 ^ b : Nat) : Int) := by rw [Int.natCast_ediv, Int.natCast_pow]; rfl
    rw [e2]
  unfold binV; rw [e]; rfl
theorem b_quo8 (h : b ≠ 0) (h1 : a < 256) : binV t .quo (.int .u8 (a : Int)) (.int .u8 (b : Int)) = some (.int .u8 ((a / b : Nat) : Int)) := by
  have hz : ¬ (b : Int) = 0 := by omega
  have hle : a / b ≤ a := Nat.div_le_self _ _
  have e2 : (a : Int).tdiv (b : Int) = ((a / b : Nat) : Int) := by rw [Int.tdiv_eq_ediv_of_nonneg (by omega)]; rfl
  have e : binOp .quo t (.int .u8 (a : Int)) (.int .u8 (b : Int)) = pure (.int .u8 ((a / b : Nat) : Int)) := by
    unfold binOp
    simp only [ne_eq, not_true_eq_false, if_false, Op.intDiv, hz, e2, wrap8 (show a / b < 256 by omega)]
  unfold binV; rw [e]; rfl
end
theorem by8_of {n : Nat} (h : n < 256) : TV.val (.int .u8 (n : Int)) = by8 (UInt8.ofNat n) := by
  show TV.val (.int .u8 (n : Int)) = TV.val (.int .u8 ((UInt8.ofNat n).toNat : Int))
  rw [UInt8.toNat_ofNat', Nat.mod_eq_of_lt (by omega)]
/-! Strings. -/
theorem bl_strN {l : List UInt8} : bl (str l) = l := by simp [bl, str]
theorem str_app {l m : List UInt8} : str l ++ str m = str (l ++ m) := by
  apply ByteArray.ext
  simp [str]
theorem s_cat {t : TypeId} {l m : List UInt8} (h : l.length + m.length ≤ 9223372036854775807) : binV t .add (.string (str l)) (.string (str m)) = some (.string (str (l ++ m))) := by
  have e1 : (str l).size = l.length := by show l.toArray.size = _; simp
  have e2 : (str m).size = m.length := by show m.toArray.size = _; simp
  rw [← str_app, binV, binOp_string_add, Op.stringOp]
  simp only [e1, e2]
  rw [if_neg (by show ¬ ((l.length + m.length : Nat) : Int) > 9223372036854775807; omega)]
  rfl
end Go.Proofs.YtijidndhlgbjhaaDoor
