/- Adler and CRC, the program's and the document's: what they compute. -/
import Derived.Test.YtknphdcjopaaoaaProg
import Derived.Test.YtknphdcjopaaoaaSumsPlain
namespace Go.Proofs.Ytknphdcjopaaoaa
open Go.RowKit

theorem ret_u32 {a b : Int} (h : a = b) : Ending.returned (.int .u32 a) = .returned (.int .u32 b) := by rw [h]

set_option maxRecDepth 100000 in
set_option maxHeartbeats 400000 in
theorem refAdler (a : Option Addr) (cap : Nat) (l : List UInt8) (w : World) (hl : l.length ≤ 9223372036854775807) (hb : Bs w a l) :
    Calls Try.prog 14 #[.slice a l.length cap] w fun e w' => e = .returned (.int .u32 (adOf l)) ∧ w = w' := by
  go_enter Try.func14, Try.ntmps14
  go_wp2
  go_loop [3, 4, 5] (fun s t i => ∃ k s' t' : Nat, k ≤ l.length ∧ s' < 65521 ∧ t' < 65521 ∧ i = .int .i64 k ∧ s = .int .u32 s' ∧ t = .int .u32 t' ∧ Hid (adFold s' t' (l.drop k) = adFold 1 0 l)) (fun _ _ i => l.length - (intOf i).toNat)
  case atStart => exact ⟨0, 1, 0, by omega, by omega, by omega, rfl, rfl, rfl, rfl⟩
  case round =>
    obtain ⟨k, s', t', hk, hs, ht, rfl, rfl, rfl, hf⟩ := hrel
    by_cases hlt : k < l.length
    · obtain ⟨b, off, rfl, hcell⟩ := hb k hlt
      have hbd := byte_lt (l.getD k 0)
      have hg : l[k] = l.getD k 0 := by simp [List.getD, hlt]
      have HG := Lib.hid hg; clear hg
      go_wp2
      go_round
      case rel =>
        refine ⟨k + 1, (s' + (l.getD k 0).toNat) % 65521, (t' + (s' + (l.getD k 0).toNat) % 65521) % 65521, by omega, by omega, by omega, by go_num, ?_, ?_, ?_⟩
        · rw [HG.out]; go_num
        · rw [HG.out]; go_num
        · have hf' := hf.out; rw [adFold_drop _ _ _ _ hlt] at hf'; exact hf'
      case measure => simp [intOf]; omega
    · go_wp2
      go_ret
      have hf' := hf.out
      rw [List.drop_eq_nil_of_le (by omega)] at hf'
      have h1 : s' = (adFold 1 0 l).1 := by rw [← hf']; rfl
      have h2 : t' = (adFold 1 0 l).2 := by rw [← hf']; rfl
      exact ⟨ret_u32 (by unfold adOf; rw [← h1, ← h2]; omega), rfl⟩

set_option maxRecDepth 100000 in
set_option maxHeartbeats 400000 in
theorem refCRC (a : Option Addr) (cap : Nat) (l : List UInt8) (w : World) (hl : l.length ≤ 9223372036854775807) (hb : Bs w a l) :
    Calls Try.prog 15 #[.slice a l.length cap] w fun e w' => e = .returned (.int .u32 (crcOf l)) ∧ w = w' := by
  go_enter Try.func15, Try.ntmps15
  go_wp2
  go_loop [3, 4, 5, 6] (fun s i _ _ => ∃ k s' : Nat, k ≤ l.length ∧ s' < 4294967296 ∧ i = .int .i64 k ∧ s = .int .u32 s' ∧ Hid (crcFold s' (l.drop k) = crcFold 4294967295 l)) (fun _ i _ _ => l.length - (intOf i).toNat)
  case atStart => exact ⟨0, 4294967295, by omega, by omega, rfl, rfl, rfl⟩
  case round =>
    obtain ⟨k, s', hk, hs, rfl, rfl, hf⟩ := hrel
    by_cases hlt : k < l.length
    · obtain ⟨b, off, rfl, hcell⟩ := hb k hlt
      have hbd := byte_lt (l.getD k 0)
      have hg : l[k] = l.getD k 0 := by simp [List.getD, hlt]
      have HG := Lib.hid hg; clear hg
      go_wp2
      go_loop [3, 5, 6] (fun s i _ => ∃ j z : Nat, j ≤ 8 ∧ z < 4294967296 ∧ i = .int .i64 j ∧ s = .int .u32 z ∧ Hid (crcIt (8 - j) z = crcIt 8 (s' ^^^ (l.getD k 0).toNat))) (fun _ i _ => 8 - (intOf i).toNat)
      case atStart =>
        have hx : s' ^^^ (l.getD k 0).toNat < 4294967296 := Nat.xor_lt_two_pow (n := 32) (by omega) (by omega)
        refine ⟨0, s' ^^^ (l.getD k 0).toNat, by omega, hx, rfl, ?_, rfl⟩
        rw [HG.out, show ((l.getD k 0).toNat : Int) % 4294967296 = (l.getD k 0).toNat from by omega, u32_xor_nat _ _ hs (by omega)]
      case round =>
        obtain ⟨j, z, hj, hz, rfl, rfl, hi⟩ := hrel
        have hst := crcStep_lt hz
        by_cases hj8 : j < 8
        · have hi' := hi.out
          rw [show 8 - j = (8 - (j + 1)) + 1 from by omega, crcIt] at hi'
          have HI : Hid _ := hi'; clear hi'
          by_cases h2 : z % 2 = 1
          · have hstep : crcStep z = (z / 2) ^^^ 3988292384 := by unfold crcStep; rw [if_pos h2]
            have HS := Lib.hid hstep; clear hstep
            have hm : ((z : Int) % 2 == 1) = true := by simp; omega
            have H2 := Lib.hid h2; clear h2
            go_wp2
            go_round
            case rel =>
              refine ⟨j + 1, crcStep z, by omega, hst, by go_num, ?_, HI⟩
              rw [HS.out, show ((z : Int) / 2) = ((z / 2 : Nat) : Int) from by omega, show (3988292384 : Int) = ((3988292384 : Nat) : Int) from rfl, u32_xor_nat _ _ (by omega) (by omega)]
            case measure => simp [intOf]; omega
          · have hstep : crcStep z = z / 2 := by unfold crcStep; rw [if_neg h2]
            have HS := Lib.hid hstep; clear hstep
            have hm : ((z : Int) % 2 == 1) = false := by simp; omega
            have H2 := Lib.hid h2; clear h2
            go_wp2
            go_round
            case rel =>
              refine ⟨j + 1, crcStep z, by omega, hst, by go_num, ?_, HI⟩
              rw [HS.out, show ((z : Int) / 2) = ((z / 2 : Nat) : Int) from by omega]
            case measure => simp [intOf]; omega
        · go_wp2
          go_round
          case rel =>
            refine ⟨k + 1, z, by omega, hz, by go_num, rfl, ?_⟩
            have hf' := hf.out
            rw [crcFold_drop _ _ _ hlt, ← hi.out, show 8 - j = 0 from by omega] at hf'
            exact hf'
          case measure => simp [intOf]; omega
    · go_wp2
      go_ret
      have hf' := hf.out
      rw [List.drop_eq_nil_of_le (by omega)] at hf'
      refine ⟨ret_u32 ?_, rfl⟩
      rw [show (4294967295 : Int) = ((4294967295 : Nat) : Int) from rfl, u32_xor_nat _ _ hs (by omega)]
      unfold crcOf; rw [← hf']; rfl

set_option maxRecDepth 100000 in
set_option maxHeartbeats 400000 in
theorem crc (a : Option Addr) (cap : Nat) (l : List UInt8) (w : World) (hl : l.length ≤ 9223372036854775807) (hb : Bs w a l) :
    Calls Try.prog 12 #[.slice a l.length cap] w fun e w' => e = .returned (.int .u32 (crcOf l)) ∧ w = w' := by
  go_enter Try.func12, Try.ntmps12
  go_wp2
  go_loop [3, 5, 8, 16] (fun s _ i _ => ∃ k s' : Nat, k ≤ l.length ∧ s' < 4294967296 ∧ i = .int .i64 k ∧ s = .int .u32 s' ∧ Hid (crcFold s' (l.drop k) = crcFold 4294967295 l)) (fun _ _ i _ => l.length - (intOf i).toNat)
  case atStart => exact ⟨0, 4294967295, by omega, by omega, rfl, rfl, rfl⟩
  case round =>
    obtain ⟨k, s', hk, hs, rfl, rfl, hf⟩ := hrel
    by_cases hlt : k < l.length
    · obtain ⟨b, off, rfl, hcell⟩ := hb k hlt
      have hbd := byte_lt (l.getD k 0)
      have hg : l[k] = l.getD k 0 := by simp [List.getD, hlt]
      have HG := Lib.hid hg; clear hg
      go_wp2
      go_loop [3, 16] (fun s i => ∃ j z : Nat, j ≤ 8 ∧ z < 4294967296 ∧ i = .int .i64 j ∧ s = .int .u32 z ∧ Hid (crcIt (8 - j) z = crcIt 8 (s' ^^^ (l.getD k 0).toNat))) (fun _ i => 8 - (intOf i).toNat)
      case atStart =>
        have hx : s' ^^^ (l.getD k 0).toNat < 4294967296 := Nat.xor_lt_two_pow (n := 32) (by omega) (by omega)
        refine ⟨0, s' ^^^ (l.getD k 0).toNat, by omega, hx, rfl, ?_, rfl⟩
        rw [HG.out, show ((l.getD k 0).toNat : Int) % 4294967296 = (l.getD k 0).toNat from by omega, u32_xor_nat _ _ hs (by omega)]
      case round =>
        obtain ⟨j, z, hj, hz, rfl, rfl, hi⟩ := hrel
        have hst := crcStep_lt hz
        by_cases hj8 : j < 8
        · have hi' := hi.out
          rw [show 8 - j = (8 - (j + 1)) + 1 from by omega, crcIt] at hi'
          have HI : Hid _ := hi'; clear hi'
          go_wp2
          go_round
          case rel =>
            refine ⟨j + 1, crcStep z, by omega, hst, by go_num, ?_, HI⟩
            rw [← crcStep_mul, show (1 : Int) = ((1 : Nat) : Int) from rfl, u32_and_nat _ _ hz (by omega), show ((z : Int) / 2) = ((z / 2 : Nat) : Int) from by omega,
              show ((z &&& 1 : Nat) : Int) * 3988292384 % 4294967296 = (((z &&& 1) * 3988292384 % 4294967296 : Nat) : Int) from by omega, u32_xor_nat _ _ (by omega) (by omega)]
          case measure => simp [intOf]; omega
        · go_wp2
          go_round
          case rel =>
            refine ⟨k + 1, z, by omega, hz, by go_num, rfl, ?_⟩
            have hf' := hf.out
            rw [crcFold_drop _ _ _ hlt, ← hi.out, show 8 - j = 0 from by omega] at hf'
            exact hf'
          case measure => simp [intOf]; omega
    · go_wp2
      go_ret
      have hf' := hf.out
      rw [List.drop_eq_nil_of_le (by omega)] at hf'
      refine ⟨ret_u32 ?_, rfl⟩
      rw [show IntKind.u32.max = ((4294967295 : Nat) : Int) from rfl, u32_xor_nat _ _ (by omega) hs, Nat.xor_comm]
      unfold crcOf; rw [← hf']; rfl

end Go.Proofs.Ytknphdcjopaaoaa
