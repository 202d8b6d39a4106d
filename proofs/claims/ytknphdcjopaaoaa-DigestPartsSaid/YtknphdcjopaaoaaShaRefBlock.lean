/- The document's SHA-1: one block. -/
import Derived.Test.YtknphdcjopaaoaaShaSmall
import Derived.Test.YtknphdcjopaaoaaArr
import Derived.Deep.DeepCutAuto
import Derived.Deep.Light
import Derived.Deep.CutBlock
import Derived.StillTailTactics
namespace Go.Proofs.Ytknphdcjopaaoaa
open Go.RowKit
set_option linter.unusedVariables false


def Z80 : Array Value := (zs32 80).toArray
theorem Try.zero80 (w : World) : (zeroValue 92).run Try.prog w = .ok (.agg Z80) w := by kernel_rfl

set_option maxRecDepth 100000 in
set_option maxHeartbeats 4000000 in
theorem refBlock (h : V5) (a : Option Addr) (cap : Nat) (p : List UInt8) (w : World) (hh : h.ok) (hb : Bs w a p) (hp : p.length = 64) :
    Calls Try.prog 33 #[.agg #[.int .u32 h.a, .int .u32 h.b, .int .u32 h.c, .int .u32 h.d, .int .u32 h.e], .slice a 64 cap] w fun e w' =>
      e = .returned (.agg #[.int .u32 (blk h p).a, .int .u32 (blk h p).b, .int .u32 (blk h p).c, .int .u32 (blk h p).d, .int .u32 (blk h p).e]) ∧ Keeps w w' := by
  have HP := Lib.hid hp
  have hz := Try.zero80
  clear hp
  go_enter Try.func33, Try.ntmps33
  go_upto_block 0 with (fail)
  have h0 : Arr (((w.alloc (.cells #[.int .u32 h.a, .int .u32 h.b, .int .u32 h.c, .int .u32 h.d, .int .u32 h.e] 53)).alloc (.cells #[.int .u32 0, .int .u32 0, .int .u32 0, .int .u32 0, .int .u32 0] 53)).alloc (.cells Z80 92)) w.heap.size 53 (u32v h.list) := ((Arr.new _ _ _).alloc _).alloc _
  have h1 : Arr (((w.alloc (.cells #[.int .u32 h.a, .int .u32 h.b, .int .u32 h.c, .int .u32 h.d, .int .u32 h.e] 53)).alloc (.cells #[.int .u32 0, .int .u32 0, .int .u32 0, .int .u32 0, .int .u32 0] 53)).alloc (.cells Z80 92)) (w.heap.size + 1) 53 (zs32 5) := (Arr.newAt _ _ _ _ (by simp)).alloc _
  have h2 : Arr (((w.alloc (.cells #[.int .u32 h.a, .int .u32 h.b, .int .u32 h.c, .int .u32 h.d, .int .u32 h.e] 53)).alloc (.cells #[.int .u32 0, .int .u32 0, .int .u32 0, .int .u32 0, .int .u32 0] 53)).alloc (.cells Z80 92)) (w.heap.size + 1 + 1) 92 (zs32 80) := Arr.newAt _ _ _ _ (by simp)
  have hk0 : Keeps w (((w.alloc (.cells #[.int .u32 h.a, .int .u32 h.b, .int .u32 h.c, .int .u32 h.d, .int .u32 h.e] 53)).alloc (.cells #[.int .u32 0, .int .u32 0, .int .u32 0, .int .u32 0, .int .u32 0] 53)).alloc (.cells Z80 92)) := (((Keeps.refl w).alloc _).alloc _).alloc _
  go_cut [] (fun wc => Arr wc (w.heap.size + 1 + 1) 92 (u32v (wl p 16) ++ zs32 (80 - 16)) ∧ Arr wc w.heap.size 53 (u32v h.list) ∧ Arr wc (w.heap.size + 1) 53 (zs32 5) ∧ Keeps w wc)
  case first =>
    go_wp2
    go_loopw [6] (fun i wr => ∃ k : Nat, k ≤ 16 ∧ i = .int .i64 k ∧ Arr wr (w.heap.size + 1 + 1) 92 (u32v (wl p k) ++ zs32 (80 - k)) ∧ Arr wr w.heap.size 53 (u32v h.list) ∧ Arr wr (w.heap.size + 1) 53 (zs32 5) ∧ Keeps w wr) (fun i _ => 16 - (intOf i).toNat)
    case atStart => exact ⟨0, by omega, rfl, h2, h0, h1, hk0⟩
    case round =>
      clear h0 h1 h2 hk0
      obtain ⟨k, hk, rfl, h2, h0, h1, hk0⟩ := hrel
      by_cases hlt : k < 16
      · have hc : wr.cell? ⟨w.heap.size + 1 + 1, k, none⟩ = some (.int .u32 0) := by rw [h2.cell]; exact wl_cell p k (by omega)
        have hf := h2.frozen k
        go_wp2_with fail
        (with_reducible refine (number4' _ _ _ _ _ (hb.keep hk0) HP.out (by omega)).mono ?_)
        rintro e w' ⟨rfl, n, rfl⟩
        go_wp2
        go_roundw
        case rel =>
          go_light
          refine ⟨k + 1, by omega, by go_num, ?_, h0.other _ _ (by simp; omega), h1.other _ _ (by simp), Below.setCell (hk0.drewN n) (by simp; omega) _⟩
          have h3 := Arr.set (h2.drewN n) k (.int .u32 ((num4 p (4 * k) : Nat) : Int))
          rw [wl_set p k _ (by omega) (by unfold wnext; rw [if_pos hlt])] at h3
          exact h3
        case measure => simp [intOf]; omega
      · have HK := Lib.hid (show k = 16 by omega)
        rw [HK.out] at h2
        go_wp2
        go_meet
        case rel => exact ⟨h2, h0, h1, hk0⟩
  case rest =>
    clear h0 h1 h2 hk0
    obtain ⟨h2, h0, h1, hk0⟩ := hcut
    go_upto_block 2 with (fail)
    go_cut [] (fun wc => Arr wc (w.heap.size + 1 + 1) 92 (u32v (wl p 80) ++ zs32 (80 - 80)) ∧ Arr wc w.heap.size 53 (u32v h.list) ∧ Arr wc (w.heap.size + 1) 53 (zs32 5) ∧ Keeps w wc)
    case first =>
      go_wp2
      go_loopw [7, 8] (fun i _ wr => ∃ k : Nat, 16 ≤ k ∧ k ≤ 80 ∧ i = .int .i64 k ∧ Arr wr (w.heap.size + 1 + 1) 92 (u32v (wl p k) ++ zs32 (80 - k)) ∧ Arr wr w.heap.size 53 (u32v h.list) ∧ Arr wr (w.heap.size + 1) 53 (zs32 5) ∧ Keeps w wr) (fun i _ _ => 80 - (intOf i).toNat)
      case atStart => exact ⟨16, by omega, by omega, rfl, h2, h0, h1, hk0⟩
      case round =>
        clear h0 h1 h2 hk0
        obtain ⟨k, hk16, hk, rfl, h2, h0, h1, hk0⟩ := hrel
        by_cases hlt : k < 80
        · have hc : wr.cell? ⟨w.heap.size + 1 + 1, k, none⟩ = some (.int .u32 0) := by rw [h2.cell]; exact wl_cell p k (by omega)
          have hf := h2.frozen k
          have r3 : wr.cell? ⟨w.heap.size + 1 + 1, k - 3, none⟩ = some (.int .u32 (((wl p k).getD (k - 3) 0 : Nat) : Int)) := by rw [h2.cell]; exact wl_read p k _ (by omega)
          have r8 : wr.cell? ⟨w.heap.size + 1 + 1, k - 8, none⟩ = some (.int .u32 (((wl p k).getD (k - 8) 0 : Nat) : Int)) := by rw [h2.cell]; exact wl_read p k _ (by omega)
          have r14 : wr.cell? ⟨w.heap.size + 1 + 1, k - 14, none⟩ = some (.int .u32 (((wl p k).getD (k - 14) 0 : Nat) : Int)) := by rw [h2.cell]; exact wl_read p k _ (by omega)
          have r16 : wr.cell? ⟨w.heap.size + 1 + 1, k - 16, none⟩ = some (.int .u32 (((wl p k).getD (k - 16) 0 : Nat) : Int)) := by rw [h2.cell]; exact wl_read p k _ (by omega)
          have hn : wnext p (wl p k) k = rot ((((wl p k).getD (k - 3) 0 ^^^ (wl p k).getD (k - 8) 0) ^^^ (wl p k).getD (k - 14) 0) ^^^ (wl p k).getD (k - 16) 0) 1 := by unfold wnext; rw [if_neg (by omega)]
          have b3 := wl_getD_lt p k (k - 3)
          have b8 := wl_getD_lt p k (k - 8)
          have b14 := wl_getD_lt p k (k - 14)
          have b16 := wl_getD_lt p k (k - 16)
          generalize (wl p k).getD (k - 3) 0 = x3 at *
          generalize (wl p k).getD (k - 8) 0 = x8 at *
          generalize (wl p k).getD (k - 14) 0 = x14 at *
          generalize (wl p k).getD (k - 16) 0 = x16 at *
          have HN := Lib.hid hn; clear hn
          go_wp2
          go_quiet (fail)
          go_wp2_with fail
          rw [xor4_val _ _ _ _ b3 b8 b14 b16]
          (with_reducible refine (turn _ _ _ (u32_xor_lt (u32_xor_lt (u32_xor_lt b3 b8) b14) b16) (.inl rfl)).mono ?_)
          rintro e w' ⟨rfl, n2, rfl⟩
          go_wp2
          go_roundw
          case rel =>
            go_light
            refine ⟨k + 1, by omega, by omega, by go_num, ?_, h0.other _ _ (by simp; omega), h1.other _ _ (by simp), Below.setCell (hk0.drewN _) (by simp; omega) _⟩
            have h3 := Arr.set (h2.drewN (nq + n2)) k (.int .u32 (((rot (((x3 ^^^ x8) ^^^ x14) ^^^ x16) 1 : Nat) : Int)))
            rw [wl_set p k _ (by omega) HN.out.symm] at h3
            exact h3
          case measure => simp [intOf]; omega
        · have HK := Lib.hid (show k = 80 by omega)
          rw [HK.out] at h2
          go_wp2
          go_meet
          case rel => exact ⟨h2, h0, h1, hk0⟩
    case rest =>
      clear h0 h1 h2 hk0
      obtain ⟨h2, h0, h1, hk0⟩ := hcut
      obtain ⟨c0, c1, c2, c3, c4⟩ := h0.five
      go_upto_block 4 with (fail)
      have hv0 : Arr (wc.alloc (.cells #[.int .u32 h.a, .int .u32 h.b, .int .u32 h.c, .int .u32 h.d, .int .u32 h.e] 53)) wc.heap.size 53 (u32v h.list) := Arr.new _ _ _
      have l0 := h0.lt
      have l1 := h1.lt
      have l2 := h2.lt
      obtain ⟨wo, rfl⟩ : ∃ wo : World, wo = wc := ⟨_, rfl⟩
      clear c0 c1 c2 c3 c4
      go_cut [] (fun wc => Arr wc wo.heap.size 53 (u32v (rnds 0 h (wl p 80)).list) ∧ Arr wc w.heap.size 53 (u32v h.list) ∧ Arr wc (w.heap.size + 1) 53 (zs32 5) ∧ Keeps w wc)
      case first =>
        go_wp2
        go_loopw [10, 11, 12, 13] (fun i _ _ _ wr => ∃ (i' : Nat) (v : V5), i' ≤ 80 ∧ i = .int .i64 i' ∧ v.ok ∧ Arr wr wo.heap.size 53 (u32v v.list) ∧ RndsAt p h i' v ∧ Arr wr (w.heap.size + 1 + 1) 92 (u32v (wl p 80) ++ zs32 (80 - 80)) ∧ Arr wr w.heap.size 53 (u32v h.list) ∧ Arr wr (w.heap.size + 1) 53 (zs32 5) ∧ Keeps w wr) (fun i _ _ _ _ => 80 - (intOf i).toNat)
        case atStart => exact ⟨0, h, by omega, rfl, hh, hv0, RndsAt.zero p h, h2.alloc _, h0.alloc _, h1.alloc _, hk0.alloc _⟩
        case round =>
          clear h0 h1 h2 hk0 hv0
          obtain ⟨i, v, hi, rfl, hv, hva, hr, h2, h0, h1, hk0⟩ := hrel
          by_cases hlt : i < 80
          · obtain ⟨c0, c1, c2, c3, c4⟩ := hva.five
            have f0 := hva.frozen 0
            have f1 := hva.frozen 1
            have f2 := hva.frozen 2
            have f3 := hva.frozen 3
            have f4 := hva.frozen 4
            have cw : wr.cell? ⟨w.heap.size + 1 + 1, i, none⟩ = some (.int .u32 (((wl p 80).getD i 0 : Nat) : Int)) := by rw [h2.cell]; exact W_cell p i hlt
            have bw := wl_getD_lt p 80 i
            have HR := hr.succ hlt; clear hr
            generalize (wl p 80).getD i 0 = x at *
            obtain ⟨va, vb, vc, vd, ve⟩ := v
            obtain ⟨ba, bb, bc, bd, be⟩ := hv
            simp only at ba bb bc bd be c0 c1 c2 c3 c4
            have bf : sff i vb vc vd < 4294967296 := sff_lt i bb bc bd
            go_upto_block 6 with (fail)
            go_cut [11, 12] (fun f k wc => f = .int .u32 (sff i vb vc vd : Nat) ∧ k = .int .u32 (skk i : Nat) ∧ wc = wr)
            case first =>
              rcases (show i < 20 ∨ (20 ≤ i ∧ i < 40) ∨ (40 ≤ i ∧ i < 60) ∨ 60 ≤ i from by omega) with hq | ⟨hq, hq2⟩ | ⟨hq, hq2⟩ | hq
              · go_wp2
                go_meet
                case rel => exact ⟨by rw [sff1 hq, sf1_val _ _ _ bb bc bd], by rw [skk1 hq]; rfl, rfl⟩
              · go_wp2
                go_meet
                case rel => exact ⟨by rw [sff2 hq hq2, sf2_val _ _ _ bb bc bd], by rw [skk2 hq hq2]; rfl, rfl⟩
              · go_wp2
                go_meet
                case rel => exact ⟨by rw [sff3 hq hq2, sf3_val _ _ _ bb bc bd], by rw [skk3 hq hq2]; rfl, rfl⟩
              · go_wp2
                go_meet
                case rel => exact ⟨by rw [sff4 hq, sf2_val _ _ _ bb bc bd], by rw [skk4 hq]; rfl, rfl⟩
            case rest =>
              obtain ⟨rfl, rfl, rfl⟩ := hcut
              have hrt : rtemp i ⟨va, vb, vc, vd, ve⟩ x = ((((rot va 5 + sff i vb vc vd) % 4294967296 + ve) % 4294967296 + skk i) % 4294967296 + x) % 4294967296 := rfl
              have HT := Lib.hid hrt; clear hrt
              have br := rot_lt 5 ba
              have bk : skk i < 4294967296 := by unfold skk; split <;> (try split) <;> (try split) <;> omega
              generalize sff i vb vc vd = F at *
              generalize skk i = KK at *
              go_wp2
              go_quiet ((go_at_call 48; exact Calls.quiet_of (turn _ _ _ ba (.inr (.inl rfl)))))
              go_wp2_with fail
              (with_reducible refine (turn _ _ _ bb (.inr (.inr rfl))).mono ?_)
              rintro e w' ⟨rfl, n2, rfl⟩
              go_wp2
              go_roundw
              case rel =>
                go_light
                have n0 : w.heap.size ≠ wo.heap.size := by omega
                have n1 : w.heap.size + 1 ≠ wo.heap.size := by omega
                have n2' : w.heap.size + 1 + 1 ≠ wo.heap.size := by omega
                refine ⟨i + 1, rnd i ⟨va, vb, vc, vd, ve⟩ x, by omega, by go_num, rnd_ok i x ⟨ba, bb, bc, bd, be⟩, ?_, HR, ?_, ?_, ?_, ?_⟩
                · have h5 := (((((hva.drewN nq).set 4 (.int .u32 vd)).set 3 (.int .u32 vc)).drewN n2).set 2 (.int .u32 (rot vb 30 : Nat))).set 1 (.int .u32 va) |>.set 0 (.int .u32 (rtemp i ⟨va, vb, vc, vd, ve⟩ x : Nat))
                  have e2 : ((rtemp i ⟨va, vb, vc, vd, ve⟩ x : Nat) : Int) = (((rot va 5 : Nat) : Int) + F + ve + KK + x) % 4294967296 := by rw [HT.out]; omega
                  rw [← e2]
                  exact h5
                · exact ((((((h2.drewN nq).other _ _ n2').other _ _ n2').drewN n2).other _ _ n2').other _ _ n2').other _ _ n2'
                · exact ((((((h0.drewN nq).other _ _ n0).other _ _ n0).drewN n2).other _ _ n0).other _ _ n0).other _ _ n0
                · exact ((((((h1.drewN nq).other _ _ n1).other _ _ n1).drewN n2).other _ _ n1).other _ _ n1).other _ _ n1
                · have hle : w.heap.size ≤ wo.heap.size := by omega
                  exact Below.setCell (Below.setCell (Below.setCell (Below.drewN' n2 (Below.setCell (Below.setCell (hk0.drewN nq) (p := ⟨wo.heap.size, 4, none⟩) hle _) (p := ⟨wo.heap.size, 3, none⟩) hle _)) (p := ⟨wo.heap.size, 2, none⟩) hle _) (p := ⟨wo.heap.size, 1, none⟩) hle _) (p := ⟨wo.heap.size, 0, none⟩) hle _
              case measure => simp [intOf]; omega
          · have HK := Lib.hid (show i = 80 by omega)
            rw [HK.out] at hr
            have hva' := hva
            rw [hr.last] at hva'
            clear hva hr
            go_wp2
            go_meet
            case rel => exact ⟨hva', h0, h1, hk0⟩
      case rest =>
        clear h0 h1 h2 hk0 hv0
        obtain ⟨hva, h0, h1, hk0⟩ := hcut
        have hV : (rnds 0 h (wl p 80)).ok := rnds_ok _ _ _ hh
        have hB : blk h p = add5 h (rnds 0 h (wl p 80)) := rfl
        have HB := Lib.hid hB; clear hB
        generalize rnds 0 h (wl p 80) = V at *
        go_wp2
        go_loopw [14] (fun i wr => ∃ k : Nat, k ≤ 5 ∧ i = .int .i64 k ∧ Arr wr wo.heap.size 53 (u32v V.list) ∧ Arr wr w.heap.size 53 (u32v (mix5 h V k)) ∧ Arr wr (w.heap.size + 1) 53 (zs32 5) ∧ Keeps w wr) (fun i _ => 5 - (intOf i).toNat)
        case atStart => exact ⟨0, by omega, rfl, hva, h0, h1, hk0⟩
        case round =>
          clear hva h0 h1 hk0
          obtain ⟨k, hk, rfl, hva, h0, h1, hk0⟩ := hrel
          by_cases hlt : k < 5
          · have cv : wr.cell? ⟨wo.heap.size, k, none⟩ = some (.int .u32 ((V.list.getD k 0 : Nat) : Int)) := by rw [hva.cell]; exact list5_get V k hlt
            have ch : wr.cell? ⟨w.heap.size, k, none⟩ = some (.int .u32 ((h.list.getD k 0 : Nat) : Int)) := by rw [h0.cell]; exact mix5_get h V k hlt
            have fh := h0.frozen k
            have b1 := hV.get k
            have b2 := hh.get k
            have hs := mix5_set h V k hlt
            have HS := Lib.hid hs; clear hs
            generalize V.list.getD k 0 = x at *
            generalize h.list.getD k 0 = y at *
            have hki : (k : Int) < 5 := by omega
            go_wp2
            go_still_tail 9, (by kernel_rfl)
            go_wp2
            go_roundw
            case rel =>
              go_light
              refine ⟨k + 1, by omega, by go_num, hva.other _ _ (by simp; omega), ?_, h1.other _ _ (by simp), Below.drew (Below.setCell hk0 (Nat.le_refl _) _)⟩
              have h5 := h0.set k (.int .u32 (((y + x) % 4294967296 : Nat) : Int))
              rw [HS.out, show (((y + x) % 4294967296 : Nat) : Int) = ((y : Int) + x) % 4294967296 from by omega] at h5
              exact h5
            case measure => simp [intOf]; omega
          · have HK := Lib.hid (show k = 5 by omega)
            rw [HK.out, mix5_five] at h0
            obtain ⟨c0, c1, c2, c3, c4⟩ := h0.five
            obtain ⟨d0, d1, d2, d3, d4⟩ := h1.five
            have f0 := h1.frozen 0
            have f1 := h1.frozen 1
            have f2 := h1.frozen 2
            have f3 := h1.frozen 3
            have f4 := h1.frozen 4
            generalize add5 h V = R at *
            go_wp2
            rw [HB.out]
            have hle : w.heap.size ≤ w.heap.size + 1 := by omega
            refine bodyPost_ret (v := .agg #[.int .u32 R.a, .int .u32 R.b, .int .u32 R.c, .int .u32 R.d, .int .u32 R.e]) (by simp [results, Try.results33, go_sem, d0, d1, d2, d3, d4]) rfl ⟨rfl, ?_⟩
            exact Below.setCell (Below.setCell (Below.setCell (Below.setCell (Below.setCell hk0 (p := ⟨w.heap.size + 1, 0, none⟩) hle _) (p := ⟨w.heap.size + 1, 1, none⟩) hle _) (p := ⟨w.heap.size + 1, 2, none⟩) hle _) (p := ⟨w.heap.size + 1, 3, none⟩) hle _) (p := ⟨w.heap.size + 1, 4, none⟩) hle _
end Go.Proofs.Ytknphdcjopaaoaa
