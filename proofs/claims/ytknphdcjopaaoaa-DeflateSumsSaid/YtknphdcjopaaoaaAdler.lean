/- The program's Adler: in runs of 5000. -/
import Derived.Test.YtknphdcjopaaoaaProg
import Derived.Test.YtknphdcjopaaoaaSumsWalks
namespace Go.Proofs.Ytknphdcjopaaoaa
open Go.RowKit

set_option maxRecDepth 100000 in
set_option maxHeartbeats 4000000 in
theorem adler (a : Option Addr) (cap : Nat) (l : List UInt8) (w : World) (hl : l.length ≤ cap) (hcap : cap ≤ 9223372036854775807) (hb : Bs w a l) :
    Calls Try.prog 11 #[.slice a l.length cap] w fun e w' => e = .returned (.int .u32 (adOf l)) ∧ w = w' := by
  go_enter Try.func11, Try.ntmps11
  go_wp2
  go_loop [0, 3, 4, 5, 7, 16, 18] (fun v s t _ _ _ _ => ∃ (m : List UInt8) (a' : Option Addr) (cap' s' t' : Nat), m.length ≤ cap' ∧ cap' ≤ 9223372036854775807 ∧ Bs w a' m ∧ s' < 65521 ∧ t' < 65521 ∧ v = .slice a' m.length cap' ∧ s = .int .u32 s' ∧ t = .int .u32 t' ∧ Hid (adFold s' t' m = adFold 1 0 l)) (fun v _ _ _ _ _ _ => lenOf v)
  case atStart => exact ⟨l, a, cap, 1, 0, by omega, by omega, hb, by omega, by omega, rfl, rfl, rfl, rfl⟩
  case round =>
    obtain ⟨m, a', cap', s', t', hm, hc', hbm, hs, ht, rfl, rfl, rfl, hf⟩ := hrel
    by_cases hpos : 0 < m.length
    · obtain ⟨b, off, x0, rfl, hcell0, _, _⟩ := hbm.at hpos
      have hd : decide ((0 : Int) < (m.length : Int)) = true := by simp; omega
      rcases (show m.length ≤ 5000 ∧ m.length = cap' ∨ m.length ≤ 5000 ∧ m.length < cap' ∨ 5000 < m.length from by omega) with h5 | h5 | h5
      · have hcn : m.length ≤ m.length := by omega
        have hmax : m.length ≤ 5000 := by omega
        obtain ⟨h5, hcc⟩ := h5
        go_wp2
        go_loop [3, 4, 7, 18] (fun s t _ i => ∃ j s1 t1 : Nat, j ≤ m.length ∧ s1 ≤ 65520 + 255 * j ∧ t1 ≤ tb j ∧ i = .int .i64 j ∧ s = .int .u32 s1 ∧ t = .int .u32 t1 ∧ Hid (raw s1 t1 ((m.take (m.length)).drop j) = raw s' t' (m.take (m.length)))) (fun _ _ _ i => m.length - (intOf i).toNat)
        case atStart => exact ⟨0, s', t', by omega, by omega, by have : tb 0 = 65520 := rfl; omega, rfl, rfl, rfl, rfl⟩
        case round =>
          obtain ⟨j, s1, t1, hj, hs1, ht1, rfl, rfl, rfl, hr⟩ := hrel
          have htb := tb_le j (by omega)
          have htl : (m.take (m.length)).length = m.length := by simp; try omega
          by_cases hjn : j < m.length
          · obtain ⟨x, hcell, hx, HX⟩ := hbm.at' (j := j) (by omega)
            have hgt : (m.take (m.length)).getD j 0 = m.getD j 0 := by simp [List.getD, hjn]
            have HGT := Lib.hid hgt; clear hgt
            have htb' := tb_le (j + 1) (by omega)
            have htbs : tb (j + 1) = tb j + (65520 + 255 * (j + 1)) := rfl
            have HTB := Lib.hid htbs; clear htbs
            have HTL := Lib.hid htl; clear htl
            go_wp2
            go_round
            case rel =>
              refine ⟨j + 1, s1 + x.toNat, t1 + (s1 + x.toNat), by omega, by omega, by rw [HTB.out]; omega, by go_num, by go_num, by go_num, ?_⟩
              have hr' := hr.out; rw [raw_drop _ _ _ _ (by rw [HTL.out]; exact hjn), HGT.out, ← HX.out] at hr'; exact hr'
            case measure => simp [intOf]; omega
          · have hjx : j = m.length := by omega
            have HJ := Lib.hid hjx; clear hjx
            have HTL := Lib.hid htl; clear htl
            go_wp2
            go_round
            case rel =>
              have h1 : (s1, t1) = raw s' t' (m.take (m.length)) := by
                have h2 := hr.out; rw [List.drop_eq_nil_of_le (by rw [HTL.out]; omega)] at h2; exact h2
              refine ⟨m.drop (m.length), some ⟨b, off + 0, none⟩, cap' - m.length, s1 % 65521, t1 % 65521, ?_, ?_, by rw [List.drop_length]; exact Bs.nil _ _, by omega, by omega, by rw [List.drop_length, show cap' - m.length = 0 from by omega]; rfl, by go_num, by go_num, ?_⟩
              · simp only [List.length_drop]; omega
              · omega
              · have h3 := adFold_raw (m.take (m.length)) s' t' (m.drop (m.length))
                rw [List.take_append_drop, Nat.mod_eq_of_lt hs, Nat.mod_eq_of_lt ht, ← h1] at h3
                exact h3.symm.trans hf.out
            case measure => simp only [lenOf]; omega
      · have hcn : m.length ≤ m.length := by omega
        have hmax : m.length ≤ 5000 := by omega
        obtain ⟨h5, hcc⟩ := h5
        go_wp2
        go_loop [3, 4, 7, 18] (fun s t _ i => ∃ j s1 t1 : Nat, j ≤ m.length ∧ s1 ≤ 65520 + 255 * j ∧ t1 ≤ tb j ∧ i = .int .i64 j ∧ s = .int .u32 s1 ∧ t = .int .u32 t1 ∧ Hid (raw s1 t1 ((m.take (m.length)).drop j) = raw s' t' (m.take (m.length)))) (fun _ _ _ i => m.length - (intOf i).toNat)
        case atStart => exact ⟨0, s', t', by omega, by omega, by have : tb 0 = 65520 := rfl; omega, rfl, rfl, rfl, rfl⟩
        case round =>
          obtain ⟨j, s1, t1, hj, hs1, ht1, rfl, rfl, rfl, hr⟩ := hrel
          have htb := tb_le j (by omega)
          have htl : (m.take (m.length)).length = m.length := by simp; try omega
          by_cases hjn : j < m.length
          · obtain ⟨x, hcell, hx, HX⟩ := hbm.at' (j := j) (by omega)
            have hgt : (m.take (m.length)).getD j 0 = m.getD j 0 := by simp [List.getD, hjn]
            have HGT := Lib.hid hgt; clear hgt
            have htb' := tb_le (j + 1) (by omega)
            have htbs : tb (j + 1) = tb j + (65520 + 255 * (j + 1)) := rfl
            have HTB := Lib.hid htbs; clear htbs
            have HTL := Lib.hid htl; clear htl
            go_wp2
            go_round
            case rel =>
              refine ⟨j + 1, s1 + x.toNat, t1 + (s1 + x.toNat), by omega, by omega, by rw [HTB.out]; omega, by go_num, by go_num, by go_num, ?_⟩
              have hr' := hr.out; rw [raw_drop _ _ _ _ (by rw [HTL.out]; exact hjn), HGT.out, ← HX.out] at hr'; exact hr'
            case measure => simp [intOf]; omega
          · have hjx : j = m.length := by omega
            have HJ := Lib.hid hjx; clear hjx
            have HTL := Lib.hid htl; clear htl
            go_wp2
            go_round
            case rel =>
              have h1 : (s1, t1) = raw s' t' (m.take (m.length)) := by
                have h2 := hr.out; rw [List.drop_eq_nil_of_le (by rw [HTL.out]; omega)] at h2; exact h2
              refine ⟨m.drop (m.length), some ⟨b, off + m.length, none⟩, cap' - m.length, s1 % 65521, t1 % 65521, ?_, ?_, by rw [List.drop_length]; exact Bs.nil _ _, by omega, by omega, by rw [List.drop_length]; rfl, by go_num, by go_num, ?_⟩
              · simp only [List.length_drop]; omega
              · omega
              · have h3 := adFold_raw (m.take (m.length)) s' t' (m.drop (m.length))
                rw [List.take_append_drop, Nat.mod_eq_of_lt hs, Nat.mod_eq_of_lt ht, ← h1] at h3
                exact h3.symm.trans hf.out
            case measure => simp only [lenOf]; omega
      · have hcn : 5000 ≤ m.length := by omega
        have hmax : 5000 ≤ 5000 := by omega
        skip
        go_wp2
        go_loop [3, 4, 7, 18] (fun s t _ i => ∃ j s1 t1 : Nat, j ≤ 5000 ∧ s1 ≤ 65520 + 255 * j ∧ t1 ≤ tb j ∧ i = .int .i64 j ∧ s = .int .u32 s1 ∧ t = .int .u32 t1 ∧ Hid (raw s1 t1 ((m.take (5000)).drop j) = raw s' t' (m.take (5000)))) (fun _ _ _ i => 5000 - (intOf i).toNat)
        case atStart => exact ⟨0, s', t', by omega, by omega, by have : tb 0 = 65520 := rfl; omega, rfl, rfl, rfl, rfl⟩
        case round =>
          obtain ⟨j, s1, t1, hj, hs1, ht1, rfl, rfl, rfl, hr⟩ := hrel
          have htb := tb_le j (by omega)
          have htl : (m.take (5000)).length = 5000 := by simp; try omega
          by_cases hjn : j < 5000
          · obtain ⟨x, hcell, hx, HX⟩ := hbm.at' (j := j) (by omega)
            have hgt : (m.take (5000)).getD j 0 = m.getD j 0 := by simp [List.getD, hjn]
            have HGT := Lib.hid hgt; clear hgt
            have htb' := tb_le (j + 1) (by omega)
            have htbs : tb (j + 1) = tb j + (65520 + 255 * (j + 1)) := rfl
            have HTB := Lib.hid htbs; clear htbs
            have HTL := Lib.hid htl; clear htl
            go_wp2
            go_round
            case rel =>
              refine ⟨j + 1, s1 + x.toNat, t1 + (s1 + x.toNat), by omega, by omega, by rw [HTB.out]; omega, by go_num, by go_num, by go_num, ?_⟩
              have hr' := hr.out; rw [raw_drop _ _ _ _ (by rw [HTL.out]; exact hjn), HGT.out, ← HX.out] at hr'; exact hr'
            case measure => simp [intOf]; omega
          · have hjx : j = 5000 := by omega
            have HJ := Lib.hid hjx; clear hjx
            have HTL := Lib.hid htl; clear htl
            go_wp2
            go_round
            case rel =>
              have h1 : (s1, t1) = raw s' t' (m.take (5000)) := by
                have h2 := hr.out; rw [List.drop_eq_nil_of_le (by rw [HTL.out]; omega)] at h2; exact h2
              refine ⟨m.drop (5000), some ⟨b, off + 5000, none⟩, cap' - 5000, s1 % 65521, t1 % 65521, ?_, ?_, by have := hbm.drop (5000); exact this, by omega, by omega, by rw [List.length_drop], by go_num, by go_num, ?_⟩
              · simp only [List.length_drop]; omega
              · omega
              · have h3 := adFold_raw (m.take (5000)) s' t' (m.drop (5000))
                rw [List.take_append_drop, Nat.mod_eq_of_lt hs, Nat.mod_eq_of_lt ht, ← h1] at h3
                exact h3.symm.trans hf.out
            case measure => simp only [lenOf]; omega
    · have hm0 : m = [] := List.eq_nil_of_length_eq_zero (by omega)
      subst hm0
      go_wp2
      go_ret
      have h1 : (s', t') = adFold 1 0 l := hf.out
      refine ⟨ret_u32 ?_, rfl⟩
      have h2 := nat_join 16 (t' * 65536) s' (by omega) (by omega)
      rw [show (t' : Int) * 65536 = ((t' * 65536 : Nat) : Int) from by omega, u32_or_nat _ _ (by omega) (by omega), h2]
      unfold adOf; rw [← h1]
end Go.Proofs.Ytknphdcjopaaoaa
