/- The sum of bytes, the document's. -/
import Derived.Test.YtknphdcjopaaoaaShaRefBlock
import Derived.Test.YtknphdcjopaaoaaFr
import Derived.Test.YtknphdcjopaaoaaHelp
import Derived.Test.YtknphdcjopaaoaaShaTop
import Derived.Deep.LoopGhost
import Derived.Deep.DeepMust
import Derived.StillTailTactics
import Derived.IntWalk
namespace Go.Proofs.Ytknphdcjopaaoaa
open Go.RowKit
set_option linter.unusedVariables false

theorem getD_mid (l : List UInt8) (n : Nat) : (bv (l ++ [128])) = bv l ++ [.int .u8 128] := by simp [bv]

set_option maxRecDepth 100000 in
set_option maxHeartbeats 4000000 in
theorem refSum (a : Option Addr) (cap : Nat) (l : List UInt8) (w : World) (hb : Bs w a l) (hbl : l.length ≤ 1000000000) :
    Calls Try.prog 21 #[.slice a l.length cap] w fun e w' => e = .returned (.agg (bv (sha l)).toArray) ∧ Keeps w w' := by
  go_enter Try.func21, Try.ntmps21
  go_upto_region 2 with (fail)
  have hI0 : Arr (w.alloc (.cells #[.int .u8 0, .int .u8 0, .int .u8 0, .int .u8 0, .int .u8 0, .int .u8 0, .int .u8 0, .int .u8 0, .int .u8 0, .int .u8 0, .int .u8 0, .int .u8 0, .int .u8 0, .int .u8 0, .int .u8 0, .int .u8 0, .int .u8 0, .int .u8 0, .int .u8 0, .int .u8 0] 33)) w.heap.size 33 (z8 20) := Arr.new _ _ _
  have hk0 := (Keeps.refl w).alloc (.cells #[.int .u8 0, .int .u8 0, .int .u8 0, .int .u8 0, .int .u8 0, .int .u8 0, .int .u8 0, .int .u8 0, .int .u8 0, .int .u8 0, .int .u8 0, .int .u8 0, .int .u8 0, .int .u8 0, .int .u8 0, .int .u8 0, .int .u8 0, .int .u8 0, .int .u8 0, .int .u8 0] 33)
  have hsrc : Src Try.prog 1 22 (.slice a l.length cap) l.length (bv l) _ := (hb.keep hk0).srcOf Try.underlying22 cap (fun _ => rfl)
  go_cut [3] (fun v wc => Seg wc w.heap.size 5 1 v l.length (bv l) ∧ Arr wc w.heap.size 33 (z8 20) ∧ Keeps w wc)
  case first =>
    go_wp2_with (at_builtin; go_must (refine wpList_append_seg _ rfl (.tmp 11) (.tmp 12) 22 22 rfl w.heap.size 5 (.int .u8 0) 1 1 Try.underlying22 Try.infoU8 rfl _ 0 [] rfl (Seg.nil _ _ _ _) _ _ _ rfl hsrc ?c1 ?c2 ?c3 ?_))
    case c1 => unfold maxLen; omega
    case c2 => omega
    case c3 => exact Below.size hk0
    intro v1 w1 hS1 hg1 ho1
    try simp only [Nat.zero_add, List.nil_append] at hS1
    have hI1 := hI0.keep (keeps_of_none hg1)
    have hk1 := Keeps.trans hk0 (keeps_of_none hg1)
    clear hI0 hk0 hsrc
    go_wp2
    go_meet
    case rel => exact ⟨hS1, hI1, hk1⟩
  case rest =>
    clear hI0 hk0 hsrc
    obtain ⟨hS, hI, hk⟩ := hcut
    obtain ⟨wa, rfl⟩ : ∃ wa : World, wa = wc := ⟨_, rfl⟩
    go_upto_region 3 with (fail)
    go_cut [3] (fun v wc => Seg wc w.heap.size 5 1 v (l ++ [128]).length (bv (l ++ [128])) ∧ Arr wc w.heap.size 33 (z8 20) ∧ Keeps w wc)
    case first =>
      have hne := hS.ne_arr hI (by decide)
      go_wp2_with (at_builtin; go_must (refine wpList_append_seg _ rfl (.tmp 14) (.tmp 15) 22 22 rfl w.heap.size 5 (.int .u8 0) 1 1 Try.underlying22 Try.infoU8 rfl _ _ _ rfl (hS.alloc _) _ 1 [_] rfl (srcPush Try.underlying22 _ _ _ rfl) ?c1 ?c2 ?c3 ?_))
      case c1 => unfold maxLen; omega
      case c2 => omega
      case c3 => exact Nat.le_trans (Below.size hk) (by simp)
      intro v1 w1 hS1 hg1 ho1
      have hI1 := (hI.alloc (.cells #[.int .u8 128] 5)).grown hg1 (fun e => hne e.symm)
      have hk1 : Keeps w w1 := Below.grown (hk.alloc _) hg1 (Nat.le_trans (Below.size hk) (by simp)) (fun j hj => (hS.lt j hj).1)
      go_wp2
      go_meet
      case rel => exact ⟨by rw [getD_mid l 0, List.length_append]; exact hS1, hI1, hk1⟩
    case rest =>
      clear hS hI hk
      obtain ⟨hS, hI, hk⟩ := hcut
      obtain ⟨wb, rfl⟩ : ∃ wb : World, wb = wc := ⟨_, rfl⟩
      obtain ⟨z, hz⟩ : ∃ z : Nat, z = (119 - l.length % 64) % 64 := ⟨_, rfl⟩
      have HZ := Lib.hid hz
      have hz64 : z < 64 := by omega
      go_upto_block 0 with (fail)
      go_cut [3] (fun v wc => Seg wc w.heap.size 5 1 v (l ++ 128 :: List.replicate z 0).length (bv (l ++ 128 :: List.replicate z 0)) ∧ Arr wc w.heap.size 33 (z8 20) ∧ Keeps w wc)
      case first =>
        go_wp2
        go_loopg [3] z (fun gn v wr => ∃ (j : Nat) (m : List UInt8), j + gn = z ∧ Hid (m = l ++ 128 :: List.replicate j 0) ∧ Seg wr w.heap.size 5 1 v m.length (bv m) ∧ Arr wr w.heap.size 33 (z8 20) ∧ Keeps w wr)
        case atStart => exact ⟨0, l ++ [128], by omega, rfl, hS, hI, hk⟩
        case round =>
          clear hS hI hk
          obtain ⟨j, m, hj, hm, hS, hI, hk⟩ := hrel
          have hml : m.length = l.length + 1 + j := by rw [hm.out]; simp; omega
          obtain ⟨x, cap1, rfl, hn1, hc1, hx1⟩ := hS.form
          by_cases hlt : j < z
          · have ht := pad_more hz hlt hml
            have hml2 : m.length ≤ 1000000100 := by omega
            have HM := Lib.hid hml; clear hml
            have hne := hS.ne_arr hI (by decide)
            clear hz
            go_wp2_with (at_builtin; go_must (refine wpList_append_seg _ rfl (.tmp 21) (.tmp 22) 22 22 rfl w.heap.size 5 (.int .u8 0) 1 1 Try.underlying22 Try.infoU8 rfl _ _ _ rfl (hS.alloc _) _ 1 [_] rfl (srcPush Try.underlying22 _ _ _ rfl) ?c1 ?c2 ?c3 ?_))
            case c1 => unfold maxLen; omega
            case c2 => omega
            case c3 => exact Nat.le_trans (Below.size hk) (by simp)
            intro v1 w1 hS1 hg1 ho1
            have hI1 := (hI.alloc (.cells #[.int .u8 0] 5)).grown hg1 (fun e => hne e.symm)
            have hk1 : Keeps w w1 := Below.grown (hk.alloc _) hg1 (Nat.le_trans (Below.size hk) (by simp)) (fun j hj => (hS.lt j hj).1)
            go_wp2
            go_roundg (gk - 1)
            case measure => omega
            case rel =>
              go_light
              refine ⟨j + 1, m ++ [0], by omega, ?_, ?_, hI1, hk1⟩
              · show m ++ [0] = _
                rw [hm.out]; simp [List.replicate_succ']
              · rw [List.length_append, ← bv_snoc m 0 (z := 0) rfl]; exact hS1
          · have hjz : j = z := by omega
            have ht := pad_done hz hjz hml
            have HM := Lib.hid (And.intro hml hjz); clear hml hjz hz
            go_wp2
            go_meet
            case rel =>
              go_light
              have e := hm.out
              rw [HM.out.2] at e
              rw [← e]; exact ⟨hS, hI, hk⟩
      case rest =>
        clear hS hI hk
        obtain ⟨hS, hI, hk⟩ := hcut
        obtain ⟨wb, rfl⟩ : ∃ wb : World, wb = wc := ⟨_, rfl⟩
        obtain ⟨nn, hnn⟩ : ∃ nn : Nat, nn = l.length * 8 % 18446744073709551616 := ⟨_, rfl⟩
        have hnl : nn < 18446744073709551616 := by omega
        have hn8 : nn = l.length * 8 := by omega
        obtain ⟨P, hP⟩ : ∃ P, P = l ++ padOf l.length := ⟨_, rfl⟩
        have hPe : P = (l ++ 128 :: List.replicate z 0) ++ be8 nn := by rw [hP, padOf, ← hz, ← hnn]; simp
        generalize hQ : l ++ 128 :: List.replicate z 0 = Q0 at *
        have hQl : Q0.length ≤ 1000000100 := by rw [← hQ]; simp; omega
        have HP := Lib.hid (And.intro hP hPe)
        have hPl : P.length ≤ 1000000200 := by rw [hP, List.length_append]; have := padOf_le l.length; omega
        have hPq : ∃ q, P.length = 64 * q := by rw [hP]; exact padded l
        have HN := Lib.hid (And.intro hnn (And.intro hz hQ))
        clear hP hPe hnn hz hQ
        have hn4 : IntKind.u64.wrap ((l.length : Int) * 8) = (nn : Int) := by rw [IntKind.wrap_u64]; omega
        have hn4' : (l.length : Int) * 8 = (nn : Int) := by omega
        go_upto_region 7 with (fail)
        have HN4 := Lib.hid (And.intro hn4 (And.intro hn4' hn8)); clear hn4 hn4' hn8
        go_upto_block 2 with (fail)
        rw [HN4.out.2.1]
        go_cut [3] (fun v wc => Seg wc w.heap.size 5 1 v P.length (bv P) ∧ Arr wc w.heap.size 33 (z8 20) ∧ Keeps w wc)
        case first =>
          go_wp2
          go_loopg [3, 5] 8 (fun gn v iv wr => ∃ (m : List UInt8) (j : Nat), j ≤ 8 ∧ j ≤ gn ∧ (iv = .int .i64 ((j : Int) - 1)) ∧ Hid (m = Q0 ++ (be8 nn).take (8 - j)) ∧ Seg wr w.heap.size 5 1 v m.length (bv m) ∧ Arr wr w.heap.size 33 (z8 20) ∧ Keeps w wr)
          case atStart => exact ⟨Q0, 8, by omega, by omega, rfl, by simp [Hid], hS, hI, hk⟩
          case round =>
            clear hS hI hk
            obtain ⟨m, j, hj8, hjg, rfl, hm, hS, hI, hk⟩ := hrel
            have hml : m.length ≤ 1000000150 := by rw [hm.out]; simp [be8_length]; omega
            cases j with
            | succ q =>
              rw [show ((q + 1 : Nat) : Int) - 1 = (q : Int) from by omega]
              have hne := hS.ne_arr hI (by decide)
              have e8 := ofNat_byte (nn / 2 ^ (8 * q))
              have hb8 := be8_back nn q (by omega)
              generalize hy : UInt8.ofNat (nn / 2 ^ (8 * q) % 256) = y at *
              have HY := Lib.hid (And.intro e8 hb8)
              clear e8 hb8 hy
              go_wp2_with (at_builtin; go_must (refine wpList_append_seg _ rfl (.tmp 32) (.tmp 38) 22 22 rfl w.heap.size 5 (.int .u8 0) 1 1 Try.underlying22 Try.infoU8 rfl _ _ _ rfl (hS.alloc _) _ 1 [_] rfl (srcPush Try.underlying22 _ _ _ rfl) ?c1 ?c2 ?c3 ?_))
              case c1 => unfold maxLen; omega
              case c2 => omega
              case c3 => exact Nat.le_trans (Below.size hk) (by simp)
              intro v1 w1 hS1 hg1 ho1
              have hI1 := (hI.alloc (.cells #[.int .u8 ((nn : Int) / 2 ^ (8 * q) % 256)] 5)).grown hg1 (fun e => hne e.symm)
              have hk1 : Keeps w w1 := Below.grown (hk.alloc _) hg1 (Nat.le_trans (Below.size hk) (by simp)) (fun j hj => (hS.lt j hj).1)
              go_wp2
              go_roundg (gk - 1)
              case measure => omega
              case rel =>
                go_light
                refine ⟨m ++ [y], q, by omega, by omega, rfl, ?_, ?_, hI1, hk1⟩
                · show m ++ [y] = _
                  have e := hm.out
                  rw [show 8 - (q + 1) = 7 - q from by omega] at e
                  rw [HY.out.2, ← List.append_assoc, ← e]
                · rw [List.length_append]
                  have h6 := hS1
                  rw [bv_snoc m y (by rw [HY.out.1]; rfl)] at h6
                  exact h6
            | zero =>
              rw [show ((0 : Nat) : Int) - 1 = -1 from rfl]
              go_wp2
              go_meet
              case rel =>
                go_light
                have e := hm.out
                rw [show 8 - 0 = 8 from rfl, List.take_of_length_le (by rw [be8_length]; omega), ← HP.out.2] at e
                rw [← e]; exact ⟨hS, hI, hk⟩
        case rest =>
          clear hS hI hk HN4
          obtain ⟨hS, hI, hk⟩ := hcut
          obtain ⟨x3, cap3, rfl, hn3, hc3, hx3⟩ := hS.form
          obtain ⟨wd, rfl⟩ : ∃ wd : World, wd = wc := ⟨_, rfl⟩
          go_upto_block 4 with (fail)
          have hh0 : Arr (wd.alloc (.cells #[.int .u32 1732584193, .int .u32 4023233417, .int .u32 2562383102, .int .u32 271733878, .int .u32 3285377520] 53)) wd.heap.size 53 (u32v H0.list) := Arr.new _ _ _
          have hkd : Keeps wd (wd.alloc (.cells #[.int .u32 1732584193, .int .u32 4023233417, .int .u32 2562383102, .int .u32 271733878, .int .u32 3285377520] 53)) := (Keeps.refl wd).alloc _
          have hwd : w.heap.size ≤ wd.heap.size := Below.size hk
          go_cut [] (fun wc => Arr wc wd.heap.size 53 (u32v (blocks H0 P).1.list) ∧ Keeps wd wc)
          case first =>
            go_wp2
            go_loopg [7] (P.length) (fun gn iv wr => ∃ (q : Nat) (h : V5), P.length ≤ 64 * q + gn ∧ 64 * q ≤ P.length ∧ iv = .int .i64 ((64 * q : Nat) : Int) ∧ Arr wr wd.heap.size 53 (u32v h.list) ∧ BlkAt P h (P.drop (64 * q)) ∧ Keeps wd wr)
            case atStart => exact ⟨0, H0, by omega, by omega, rfl, hh0, ⟨rfl, H0_ok⟩, hkd⟩
            case round =>
              clear hh0 hkd
              obtain ⟨q, h, hg, hq, rfl, hh, hB, hkd⟩ := hrel
              obtain ⟨atq, hat⟩ : ∃ n : Nat, n = 64 * q := ⟨_, rfl⟩
              rw [← hat]
              rw [← hat] at hq hg hB
              obtain ⟨QQ, hQQ⟩ := hPq
              have hlast : atq < P.length → atq + 64 ≤ P.length := by intro h; omega
              have hfin : ¬ atq < P.length → atq = P.length := by intro h; omega
              have HA := Lib.hid (And.intro hat hQQ)
              clear hat hQQ
              obtain ⟨c0, c1, c2, c3, c4⟩ := hh.five
              have f0 := hh.frozen 0
              have f1 := hh.frozen 1
              have f2 := hh.frozen 2
              have f3 := hh.frozen 3
              have f4 := hh.frozen 4
              by_cases hlt : atq < P.length
              · have h64 := hlast hlt
                clear hlast hfin
                obtain ⟨bb, off, rfl, hbb, hbw⟩ := hx3 (by omega)
                have hbP : Bs wr (some ⟨bb, off, none⟩) P := hS.bytes.keep hkd
                have hbt := (hbP.drop atq).take 64
                have s1 : IntKind.i64.wrap ((atq : Int) + 64) = (atq : Int) + 64 := IntWalk.i64_in _ (by omega)
                have t1 : ((atq : Int) + 64).toNat = atq + 64 := by omega
                have g1 : (atq : Int) + 64 ≤ (P.length : Int) := by omega
                have g2 : (0 : Int) ≤ (atq : Int) + 64 := by omega
                have g3 : (atq : Int) + 64 ≤ (cap3 : Int) := by omega
                have g4 : ¬ cap3 = atq := by omega
                go_upto_region 15 with (fail)
                go_still_tail 6, (by kernel_rfl)
                have hB2 : BlkAt P (blk h ((P.drop atq).take 64)) (P.drop (atq + 64)) := ⟨by rw [← hB.eq, blocks_long _ (P.drop atq) (by rw [List.length_drop]; omega), List.drop_drop], add5_ok _ _⟩
                have hlt64 : ((P.drop atq).take 64).length = 64 := by rw [List.length_take, List.length_drop]; omega
                have HL := Lib.hid hlt64; clear hlt64
                generalize hHH : blk h ((P.drop atq).take 64) = H2 at *
                have HH := Lib.hid hHH; clear hHH
                go_wp2_with fail
                (with_reducible refine (refBlock h _ _ ((P.drop atq).take 64) _ hB.ok (hbt.keep (Keeps.refl wr).drew) HL.out).mono ?_)
                rw [HH.out]
                rintro e w5 ⟨rfl, hk5⟩
                have hh5 : Arr w5 wd.heap.size 53 (u32v h.list) := Arr.keep hh.drew hk5
                have hkd5 : Keeps wd w5 := Keeps.trans hkd.drew hk5
                clear c0 c1 c2 c3 c4 f0 f1 f2 f3 f4
                obtain ⟨c0, c1, c2, c3, c4⟩ := hh5.five
                have f0 := hh5.frozen 0
                have f1 := hh5.frozen 1
                have f2 := hh5.frozen 2
                have f3 := hh5.frozen 3
                have f4 := hh5.frozen 4
                go_wp2
                go_roundg (P.length - (atq + 64))
                case measure => omega
                case rel =>
                  go_light
                  refine ⟨q + 1, H2, ?_, ?_, ?_, ?_, ?_, ?_⟩
                  · have := HA.out.1; omega
                  · have := HA.out.1; omega
                  · have e : 64 * (q + 1) = atq + 64 := by have := HA.out.1; omega
                    rw [e]; go_num
                  · exact ((((hh5.set 0 _).set 1 _).set 2 _).set 3 _).set 4 _
                  · have e : 64 * (q + 1) = atq + 64 := by have := HA.out.1; omega
                    rw [e]; exact hB2
                  · exact Below.setCell (Below.setCell (Below.setCell (Below.setCell (Below.setCell hkd5 (p := ⟨wd.heap.size, 0, none⟩) (Nat.le_refl _) _) (p := ⟨wd.heap.size, 1, none⟩) (Nat.le_refl _) _) (p := ⟨wd.heap.size, 2, none⟩) (Nat.le_refl _) _) (p := ⟨wd.heap.size, 3, none⟩) (Nat.le_refl _) _) (p := ⟨wd.heap.size, 4, none⟩) (Nat.le_refl _) _
              · have he := hfin hlt
                have hE := hB.eq
                rw [List.drop_eq_nil_of_le (by omega), blocks_short _ _ (by simp)] at hE
                have HE := Lib.hid hE
                clear hlast hfin hE he
                go_wp2
                go_meet
                case rel =>
                  go_light
                  rw [← HE.out]; exact ⟨hh, hkd⟩
          case rest =>
            clear hh0 hkd
            obtain ⟨hh, hkd⟩ := hcut
            have hI2 := hI.keep hkd
            have hk2 := Keeps.trans hk hkd
            have hV : (blocks H0 P).1.ok := blocks_ok _ _ H0_ok
            have hsha : sha l = out20 (blocks H0 P).1 := by rw [HP.out.1]; rfl
            have HS := Lib.hid hsha; clear hsha
            generalize (blocks H0 P).1 = V at *
            clear hI hk hS hkd hx3 hPq
            obtain ⟨we, rfl⟩ : ∃ we : World, we = wc := ⟨_, rfl⟩
            go_upto_block 6 with (fail)
            have ho0 : Arr (we.alloc (.cells #[.int .u8 0, .int .u8 0, .int .u8 0, .int .u8 0, .int .u8 0, .int .u8 0, .int .u8 0, .int .u8 0, .int .u8 0, .int .u8 0, .int .u8 0, .int .u8 0, .int .u8 0, .int .u8 0, .int .u8 0, .int .u8 0, .int .u8 0, .int .u8 0, .int .u8 0, .int .u8 0] 33)) we.heap.size 33 (bv ((out20 V).take (4 * 0)) ++ z8 (20 - 4 * 0)) := Arr.new _ _ _
            have hh1 := hh.alloc (.cells #[.int .u8 0, .int .u8 0, .int .u8 0, .int .u8 0, .int .u8 0, .int .u8 0, .int .u8 0, .int .u8 0, .int .u8 0, .int .u8 0, .int .u8 0, .int .u8 0, .int .u8 0, .int .u8 0, .int .u8 0, .int .u8 0, .int .u8 0, .int .u8 0, .int .u8 0, .int .u8 0] 33)
            have hI1 := hI2.alloc (.cells #[.int .u8 0, .int .u8 0, .int .u8 0, .int .u8 0, .int .u8 0, .int .u8 0, .int .u8 0, .int .u8 0, .int .u8 0, .int .u8 0, .int .u8 0, .int .u8 0, .int .u8 0, .int .u8 0, .int .u8 0, .int .u8 0, .int .u8 0, .int .u8 0, .int .u8 0, .int .u8 0] 33)
            have hk1 := hk2.alloc (.cells #[.int .u8 0, .int .u8 0, .int .u8 0, .int .u8 0, .int .u8 0, .int .u8 0, .int .u8 0, .int .u8 0, .int .u8 0, .int .u8 0, .int .u8 0, .int .u8 0, .int .u8 0, .int .u8 0, .int .u8 0, .int .u8 0, .int .u8 0, .int .u8 0, .int .u8 0, .int .u8 0] 33)
            have l4 := hh.lt
            have l5 := hI2.lt
            go_cut [] (fun wr => Arr wr we.heap.size 33 (bv (out20 V)) ∧ Arr wr w.heap.size 33 (z8 20) ∧ Keeps w wr)
            case first =>
              go_wp2
              go_loopg [9, 10] 5 (fun gn iv _ wr => ∃ i : Nat, i ≤ 5 ∧ 5 ≤ i + gn ∧ iv = .int .i64 i ∧ Arr wr we.heap.size 33 (bv ((out20 V).take (4 * i)) ++ z8 (20 - 4 * i)) ∧ Arr wr wd.heap.size 53 (u32v V.list) ∧ Arr wr w.heap.size 33 (z8 20) ∧ Keeps w wr)
              case atStart => exact ⟨0, by omega, by omega, rfl, ho0, hh1, hI1, hk1⟩
              case round =>
                clear ho0 hh1 hI1 hk1 hh hI2 hk2
                obtain ⟨i, hi, hig, rfl, ho, hh, hI, hk⟩ := hrel
                by_cases hlt : i < 5
                · have hmi : (i : Int) < 5 := by omega
                  obtain ⟨gi, rfl⟩ : ∃ gi : Nat, gi = gk := ⟨_, rfl⟩
                  go_wp2
                  go_loopg [10] 4 (fun gn kv wr => ∃ k : Nat, k ≤ 4 ∧ 4 ≤ k + gn ∧ kv = .int .i64 k ∧ Arr wr we.heap.size 33 (bv ((out20 V).take (4 * i + k)) ++ z8 (20 - (4 * i + k))) ∧ Arr wr wd.heap.size 53 (u32v V.list) ∧ Arr wr w.heap.size 33 (z8 20) ∧ Keeps w wr)
                  case atStart => exact ⟨0, by omega, by omega, rfl, ho, hh, hI, hk⟩
                  case round =>
                    clear ho hh hI hk
                    obtain ⟨k, hk4, hkg, rfl, ho, hh, hI, hk⟩ := hrel
                    by_cases hlk : k < 4
                    · have hmk : (k : Int) < 4 := by omega
                      have ci : wr.cell? ⟨we.heap.size, 4 * i + k, none⟩ = some (.int .u8 0) := by rw [ho.cell]; exact o20_cell V _ (by omega)
                      have fi := ho.frozen (4 * i + k)
                      have ch : wr.cell? ⟨wd.heap.size, i, none⟩ = some (.int .u32 ((V.list.getD i 0 : Nat) : Int)) := by rw [hh.cell]; exact list5_get V _ hlt
                      have hbv := hV.get i
                      have e8 := ofNat_byte (V.list.getD i 0 / 2 ^ (24 - 8 * k))
                      have hb8 := out20_pair V i k hlt hlk
                      generalize hy : UInt8.ofNat (V.list.getD i 0 / 2 ^ (24 - 8 * k) % 256) = y at *
                      have HY := Lib.hid (And.intro e8 hb8)
                      clear e8 hb8 hy
                      generalize V.list.getD i 0 = q at *
                      go_wp2
                      go_roundg (gk - 1)
                      case measure => omega
                      case rel =>
                        go_light
                        have n1 : wd.heap.size ≠ we.heap.size := by omega
                        have n2 : w.heap.size ≠ we.heap.size := by omega
                        refine ⟨k + 1, by omega, by omega, by go_num, ?_, hh.other _ _ n1, hI.other _ _ n2, Below.setCell hk (p := ⟨we.heap.size, 4 * i + k, none⟩) (by show w.heap.size ≤ we.heap.size; omega) _⟩
                        have h5 := ho.set (4 * i + k) (.int .u8 ((q : Int) / 2 ^ (24 - 8 * k) % 256))
                        rw [o20_set V (4 * i + k) (by omega) HY.out.2 (by rw [HY.out.1]; rfl)] at h5
                        exact h5
                    · have hk4e : k = 4 := by omega
                      have HK := Lib.hid hk4e; clear hk4e
                      go_wp2
                      go_roundg (gi - 1)
                      case measure => omega
                      case rel =>
                        go_light
                        refine ⟨i + 1, by omega, by omega, by go_num, ?_, hh, hI, hk⟩
                        have h5 := ho
                        rw [HK.out, show 4 * i + 4 = 4 * (i + 1) from by omega] at h5
                        exact h5
                · have HI := Lib.hid (show i = 5 by omega)
                  rw [HI.out] at ho
                  go_wp2
                  go_meet
                  case rel =>
                    go_light
                    refine ⟨?_, hI, hk⟩
                    have e : bv ((out20 V).take (4 * 5)) ++ z8 (20 - 4 * 5) = bv (out20 V) := by
                      rw [List.take_of_length_le (by rw [out20_length]; omega)]; simp [z8]
                    rw [← e]; exact ho
            case rest =>
              clear ho0 hh1 hI1 hk1 hh hI2 hk2 l4 l5
              obtain ⟨hid, hI, hk⟩ := hcut
              have hl : (bv (out20 V)).length = (z8 20).length := by rw [bv_length, out20_length]; rfl
              have hsa := hI.setAll hl
              have hks := Keeps.setCells (Nat.le_refl _) (bv (out20 V)) 0 _ hk
              have hth := hI.there 20 (by simp [z8])
              unfold Arr at hid hsa
              have z1 : (Try.prog.info? 33).map (·.size) = some (bv (out20 V)).toArray.size := by rw [List.size_toArray, bv_length, out20_length]; kernel_rfl
              have z2 : wc.there w.heap.size 0 (bv (out20 V)).toArray.size := by rw [show (bv (out20 V)).toArray.size = 20 from by simp [out20_length]]; exact hth
              have z3 := all_oneCell_toArray (bv_cell1 (out20 V))
              have Z1 := Lib.hid z1
              clear z1
              clear hth
              go_upto_region 24 with (fail)
              go_wp2_with (first | (with_reducible refine wpList_load_row rfl 33 (.tmp 8) rfl _ rfl 33 (bv (out20 V)).toArray (0, 0) _ hid Try.underlying33 rfl Z1.out ?_) | (with_reducible refine wpList_store_mid rfl 33 (.tmp 2) (.tmp 75) rfl w.heap.size 0 (bv (out20 V)).toArray rfl rfl z2 Z1.out z3 ?_))
              refine bodyPost_ret (results_cell_row rfl _ _ w.heap.size 33 (bv (out20 V)).toArray (0, 0) _ rfl hsa Try.underlying33 rfl Z1.out) rfl ⟨by rw [HS.out], hks⟩
end Go.Proofs.Ytknphdcjopaaoaa
