/- The small functions of both SHA-1s. -/
import Derived.Test.YtknphdcjopaaoaaProg
import Derived.Test.YtknphdcjopaaoaaShaPlain
import Derived.Test.YtknphdcjopaaoaaSumsWalks
namespace Go.Proofs.Ytknphdcjopaaoaa
open Go.RowKit
set_option linter.unusedVariables false

theorem rot_val (x : Nat) (k : Nat) (hx : x < 4294967296) (hk : k < 32) : bits .or .u32 ((x : Int) * (2 ^ k : Nat) % 4294967296) ((x : Int) / (2 ^ (32 - k) : Nat)) = ((rot x k : Nat) : Int) := by
  rw [show (x : Int) * (2 ^ k : Nat) % 4294967296 = ((x * 2 ^ k % 4294967296 : Nat) : Int) from by rw [Int.natCast_emod, Int.natCast_mul]; rfl, show (x : Int) / (2 ^ (32 - k) : Nat) = ((x / 2 ^ (32 - k) : Nat) : Int) from by rw [Int.natCast_ediv],
    u32_or_nat _ _ (Nat.mod_lt _ (by omega)) (Nat.lt_of_le_of_lt (Nat.div_le_self _ _) hx)]
  rfl

set_option maxRecDepth 100000 in
set_option maxHeartbeats 400000 in
theorem rotate (x : Nat) (k : Int) (w : World) (hx : x < 4294967296) (hk : k = 1 ∨ k = 5 ∨ k = 30) :
    Calls Try.prog 45 #[.int .u32 x, .int .i64 k] w fun e w' => e = .returned (.int .u32 (rot x k.toNat)) ∧ w = w' := by
  rcases hk with rfl | rfl | rfl
  · have hm : bits .and .u64 1 31 = 1 := by decide
    go_enter Try.func45, Try.ntmps45
    go_wp2
    go_ret
    exact ⟨ret_u32 (rot_val x 1 hx (by omega)), rfl⟩
  · have hm : bits .and .u64 5 31 = 5 := by decide
    go_enter Try.func45, Try.ntmps45
    go_wp2
    go_ret
    exact ⟨ret_u32 (rot_val x 5 hx (by omega)), rfl⟩
  · have hm : bits .and .u64 30 31 = 30 := by decide
    go_enter Try.func45, Try.ntmps45
    go_wp2
    go_ret
    exact ⟨ret_u32 (rot_val x 30 hx (by omega)), rfl⟩

set_option maxRecDepth 100000 in
set_option maxHeartbeats 400000 in
theorem turn (x : Nat) (k : Int) (w : World) (hx : x < 4294967296) (hk : k = 1 ∨ k = 5 ∨ k = 30) :
    Calls Try.prog 48 #[.int .u32 x, .int .i64 k] w fun e w' => e = .returned (.int .u32 (rot x k.toNat)) ∧ ∃ n, w' = w.drewN n := by
  rcases hk with rfl | rfl | rfl
  · go_enter Try.func48, Try.ntmps48
    go_wp2
    go_quiet (fail)
    go_wp2
    go_ret
    exact ⟨ret_u32 (rot_val x 1 hx (by omega)), _, rfl⟩
  · go_enter Try.func48, Try.ntmps48
    go_wp2
    go_quiet (fail)
    go_wp2
    go_ret
    exact ⟨ret_u32 (rot_val x 5 hx (by omega)), _, rfl⟩
  · go_enter Try.func48, Try.ntmps48
    go_wp2
    go_quiet (fail)
    go_wp2
    go_ret
    exact ⟨ret_u32 (rot_val x 30 hx (by omega)), _, rfl⟩

theorem xor4_val (a b c d : Nat) (ha : a < 4294967296) (hb : b < 4294967296) (hc : c < 4294967296) (hd : d < 4294967296) :
    bits .xor .u32 (bits .xor .u32 (bits .xor .u32 a b) c) d = (((((a ^^^ b) ^^^ c) ^^^ d : Nat)) : Int) := by
  rw [u32_xor_nat _ _ ha hb, u32_xor_nat _ _ (u32_xor_lt ha hb) hc, u32_xor_nat _ _ (u32_xor_lt (u32_xor_lt ha hb) hc) hd]
theorem sf1_val (b c d : Nat) (hb : b < 4294967296) (hc : c < 4294967296) (hd : d < 4294967296) :
    bits .or .u32 (bits .and .u32 b c) (bits .and .u32 (bits .xor .u32 IntKind.u32.max b) d) = ((sf1 b c d : Nat) : Int) := by
  rw [show IntKind.u32.max = ((4294967295 : Nat) : Int) from rfl, u32_and_nat _ _ hb hc, u32_xor_nat _ _ (by omega) hb, u32_and_nat _ _ (u32_xor_lt (by omega) hb) hd, u32_or_nat _ _ (u32_and_lt hb) (u32_and_lt (u32_xor_lt (by omega) hb))]; rfl
theorem sf2_val (b c d : Nat) (hb : b < 4294967296) (hc : c < 4294967296) (hd : d < 4294967296) : bits .xor .u32 (bits .xor .u32 b c) d = ((sf2 b c d : Nat) : Int) := by
  rw [u32_xor_nat _ _ hb hc, u32_xor_nat _ _ (u32_xor_lt hb hc) hd]; rfl
theorem sf3_val (b c d : Nat) (hb : b < 4294967296) (hc : c < 4294967296) (hd : d < 4294967296) :
    bits .or .u32 (bits .or .u32 (bits .and .u32 b c) (bits .and .u32 b d)) (bits .and .u32 c d) = ((sf3 b c d : Nat) : Int) := by
  rw [u32_and_nat _ _ hb hc, u32_and_nat _ _ hb hd, u32_and_nat _ _ hc hd, u32_or_nat _ _ (u32_and_lt hb) (u32_and_lt hb), u32_or_nat _ _ (u32_or_lt (u32_and_lt hb) (u32_and_lt hb)) (u32_and_lt hc)]; rfl

set_option maxRecDepth 100000 in
set_option maxHeartbeats 400000 in
theorem mix1 (b c d : Nat) (w : World) (hb : b < 4294967296) (hc : c < 4294967296) (hd : d < 4294967296) :
    Calls Try.prog 55 #[.int .u32 b, .int .u32 c, .int .u32 d] w fun e w' => e = .returned (.int .u32 (sf1 b c d)) ∧ w = w' := by
  go_enter Try.func55, Try.ntmps55
  go_wp2
  go_ret
  exact ⟨ret_u32 (sf1_val b c d hb hc hd), rfl⟩

set_option maxRecDepth 100000 in
set_option maxHeartbeats 400000 in
theorem mix2 (b c d : Nat) (w : World) (hb : b < 4294967296) (hc : c < 4294967296) (hd : d < 4294967296) :
    Calls Try.prog 56 #[.int .u32 b, .int .u32 c, .int .u32 d] w fun e w' => e = .returned (.int .u32 (sf2 b c d)) ∧ w = w' := by
  go_enter Try.func56, Try.ntmps56
  go_wp2
  go_ret
  exact ⟨ret_u32 (sf2_val b c d hb hc hd), rfl⟩

set_option maxRecDepth 100000 in
set_option maxHeartbeats 400000 in
theorem mix3 (b c d : Nat) (w : World) (hb : b < 4294967296) (hc : c < 4294967296) (hd : d < 4294967296) :
    Calls Try.prog 57 #[.int .u32 b, .int .u32 c, .int .u32 d] w fun e w' => e = .returned (.int .u32 (sf3 b c d)) ∧ w = w' := by
  go_enter Try.func57, Try.ntmps57
  go_wp2
  go_ret
  exact ⟨ret_u32 (sf3_val b c d hb hc hd), rfl⟩

set_option maxRecDepth 100000 in
set_option maxHeartbeats 400000 in
theorem mix4 (b c d : Nat) (w : World) (hb : b < 4294967296) (hc : c < 4294967296) (hd : d < 4294967296) :
    Calls Try.prog 58 #[.int .u32 b, .int .u32 c, .int .u32 d] w fun e w' => e = .returned (.int .u32 (sf2 b c d)) ∧ w = w' := by
  go_enter Try.func58, Try.ntmps58
  go_wp2
  go_ret
  exact ⟨ret_u32 (sf2_val b c d hb hc hd), rfl⟩

theorem num4_val (x0 x1 x2 x3 : UInt8) : bits .or .u32 (bits .or .u32 (bits .or .u32 ((x0.toNat : Int) * 16777216) ((x1.toNat : Int) * 65536)) ((x2.toNat : Int) * 256)) (x3.toNat : Int) =
    ((x0.toNat * 16777216 + x1.toNat * 65536 + x2.toNat * 256 + x3.toNat : Nat) : Int) := by
  have := UInt8.toNat_lt x0; have := UInt8.toNat_lt x1; have := UInt8.toNat_lt x2; have := UInt8.toNat_lt x3
  rw [show (x0.toNat : Int) * 16777216 = ((x0.toNat * 16777216 : Nat) : Int) from by omega, show (x1.toNat : Int) * 65536 = ((x1.toNat * 65536 : Nat) : Int) from by omega, show (x2.toNat : Int) * 256 = ((x2.toNat * 256 : Nat) : Int) from by omega,
    u32_or_nat _ _ (by omega) (by omega), nat_join 24 (x0.toNat * 16777216) (x1.toNat * 65536) (by omega) (by omega),
    u32_or_nat _ _ (by omega) (by omega), nat_join 16 (x0.toNat * 16777216 + x1.toNat * 65536) (x2.toNat * 256) (by omega) (by omega),
    u32_or_nat _ _ (by omega) (by omega), nat_join 8 (x0.toNat * 16777216 + x1.toNat * 65536 + x2.toNat * 256) x3.toNat (by omega) (by omega)]

set_option maxRecDepth 100000 in
set_option maxHeartbeats 400000 in
theorem number4 (a : Option Addr) (cap i : Nat) (p : List UInt8) (w : World) (hb : Bs w a p) (hi : i + 4 ≤ p.length) (hp : p.length ≤ 9223372036854775807) :
    Calls Try.prog 47 #[.slice a p.length cap, .int .i64 i] w fun e w' => e = .returned (.int .u32 (num4 p i)) ∧ ∃ n, w' = w.drewN n := by
  obtain ⟨b, off, x0, rfl, hc0, hx0, HX0⟩ := hb.at (j := i) (by omega)
  obtain ⟨x1, hc1, hx1, HX1⟩ := hb.at' (j := i + 1) (by omega)
  obtain ⟨x2, hc2, hx2, HX2⟩ := hb.at' (j := i + 2) (by omega)
  obtain ⟨x3, hc3, hx3, HX3⟩ := hb.at' (j := i + 3) (by omega)
  go_enter Try.func47, Try.ntmps47
  go_wp2
  go_quiet (fail)
  go_wp2
  go_ret
  refine ⟨ret_u32 ?_, _, rfl⟩
  rw [num4_val]; unfold num4; rw [← HX0.out, ← HX1.out, ← HX2.out, ← HX3.out]
theorem number4' (a : Option Addr) (cap : Nat) (i : Int) (p : List UInt8) (w : World) (hb : Bs w a p) (hp : p.length = 64) (hi : 0 ≤ i ∧ i + 4 ≤ 64) :
    Calls Try.prog 47 #[.slice a 64 cap, .int .i64 i] w fun e w' => e = .returned (.int .u32 (num4 p i.toNat)) ∧ ∃ n, w' = w.drewN n := by
  obtain ⟨j, rfl⟩ := Int.eq_ofNat_of_zero_le hi.1
  rw [Int.toNat_natCast]
  have := number4 a cap j p w hb (by omega) (by omega)
  rw [hp] at this; exact this
end Go.Proofs.Ytknphdcjopaaoaa
