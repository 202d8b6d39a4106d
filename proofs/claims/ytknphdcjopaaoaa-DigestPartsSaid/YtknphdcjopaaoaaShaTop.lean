/- The sum of bytes, the program's. -/
import Derived.Test.YtknphdcjopaaoaaShaSum
namespace Go.Proofs.Ytknphdcjopaaoaa
open Go.RowKit
set_option linter.unusedVariables false

theorem bvid (l : List UInt8) (hl : l.length = 20) : (bv l).length = (z8 20).length := by rw [bv_length, hl]; rfl

set_option maxRecDepth 100000 in
set_option maxHeartbeats 1000000 in
theorem shaSum (a : Option Addr) (cap : Nat) (b : List UInt8) (w : World) (hb : Bs w a b) (hbl : b.length ≤ 1000000000) :
    Calls Try.prog 22 #[.slice a b.length cap] w fun e w' => e = .returned (.agg (bv (sha b)).toArray) ∧ Keeps w w' := by
  go_enter Try.func22, Try.ntmps22
  go_wp2_with fail
  have hI0 : Arr (w.alloc (.cells #[.int .u8 0, .int .u8 0, .int .u8 0, .int .u8 0, .int .u8 0, .int .u8 0, .int .u8 0, .int .u8 0, .int .u8 0, .int .u8 0, .int .u8 0, .int .u8 0, .int .u8 0, .int .u8 0, .int .u8 0, .int .u8 0, .int .u8 0, .int .u8 0, .int .u8 0, .int .u8 0] 34)) w.heap.size 34 (z8 20) := Arr.new _ _ _
  have hk0 := (Keeps.refl w).alloc (.cells #[.int .u8 0, .int .u8 0, .int .u8 0, .int .u8 0, .int .u8 0, .int .u8 0, .int .u8 0, .int .u8 0, .int .u8 0, .int .u8 0, .int .u8 0, .int .u8 0, .int .u8 0, .int .u8 0, .int .u8 0, .int .u8 0, .int .u8 0, .int .u8 0, .int .u8 0, .int .u8 0] 34)
  (with_reducible refine (digNew _).mono ?_)
  rintro e w1 ⟨rfl, hD, hk1⟩
  have hI1 := hI0.keep hk1
  have hk2 := Keeps.trans hk0 hk1
  have hsz : w.heap.size ≤ w1.heap.size := Below.size hk2
  rw [World.size_alloc] at hD
  have hag : 0 < b.length → ∀ p, a = some p → p.block ≠ w.heap.size + 1 := by
    intro hl p hp e
    have := hb.lt hl p hp; omega
  clear hI0 hk0 hk1
  go_wp2_with fail
  (with_reducible refine (digAdd _ _ _ _ _ _ _ _ hD (hb.keep hk2) hag hbl (by omega)).mono ?_)
  rintro e w2 ⟨rfl, vr, hD2, hF2, ho⟩
  simp only [List.nil_append] at hD2
  have hI2 : Arr w2 w.heap.size 34 (z8 20) := hI1.fr hF2 (fun h => by
    rcases h with h | h
    · omega
    · cases h)
  have hk3 : Keeps w w2 := ((Fr.of_keeps hk2 (fun _ => False)).then hF2 (fun i hi h => by
    rcases h with h | h
    · omega
    · cases h)).keeps (fun _ _ h => h)
  go_wp2_with fail
  (with_reducible refine (digSum _ _ _ _ _ hD2 (by omega)).mono ?_)
  rintro e w3 ⟨rfl, hk4⟩
  have hk := Keeps.trans hk3 hk4
  have hI := hI2.keep hk4
  clear hk3 hk4 hI2 hD2 hF2 ho hD hI1 hk2
  have hl : (sha b).length = 20 := sha_length b
  generalize hX : sha b = X at *
  have HX := Lib.hid hX; clear hX
  have hsa := hI.setAll (bvid X hl)
  have hks := Keeps.setCells (Nat.le_refl _) (bv X) 0 _ hk
  have z1 : (Try.prog.info? 34).map (·.size) = some (bv X).toArray.size := by rw [List.size_toArray, bv_length, hl]; kernel_rfl
  have z2 : w3.there w.heap.size 0 (bv X).toArray.size := by rw [show (bv X).toArray.size = 20 from by simp [hl]]; exact hI.there 20 (by simp [z8])
  have z3 := all_oneCell_toArray (bv_cell1 X)
  have Z1 := Lib.hid z1
  clear z1
  unfold Arr at hsa
  go_wp2_with (with_reducible refine wpList_store_mid rfl 34 (.tmp 2) (.tmp 9) rfl w.heap.size 0 (bv X).toArray rfl rfl z2 Z1.out z3 ?_)
  refine bodyPost_ret (results_cell_row rfl _ _ w.heap.size 34 (bv X).toArray (0, 0) _ rfl hsa Try.underlying34 rfl Z1.out) rfl ⟨by rw [HX.out], hks⟩
end Go.Proofs.Ytknphdcjopaaoaa
