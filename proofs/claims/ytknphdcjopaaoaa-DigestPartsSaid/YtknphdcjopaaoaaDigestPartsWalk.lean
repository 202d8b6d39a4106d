/- DigestParts: the law's walk. -/
import Derived.Test.YtknphdcjopaaoaaPartsLib
import Derived.Stop.BytesEq
namespace Go.Proofs.Ytknphdcjopaaoaa
open Go.RowKit
set_option linter.unusedVariables false

abbrev zr20p : Array Value := #[.int .u8 0, .int .u8 0, .int .u8 0, .int .u8 0, .int .u8 0, .int .u8 0, .int .u8 0, .int .u8 0, .int .u8 0, .int .u8 0, .int .u8 0, .int .u8 0, .int .u8 0, .int .u8 0, .int .u8 0, .int .u8 0, .int .u8 0, .int .u8 0, .int .u8 0, .int .u8 0]

theorem id_size (l : List UInt8) (h : l.length = 20) : (Try.prog.info? 34).map (·.size) = some (bv l).toArray.size := by rw [show (bv l).toArray.size = 20 from by simp [h]]; kernel_rfl
theorem a20_size (l : List UInt8) (h : l.length = 20) : (Try.prog.info? 33).map (·.size) = some (bv l).toArray.size := by rw [show (bv l).toArray.size = 20 from by simp [h]]; kernel_rfl
theorem id_same (l : List UInt8) (h : l.length = 20) (w : World) : (Op.equalIn 10000 34 (.agg (bv l).toArray) (.agg (bv l).toArray)).run Try.prog w = .ok true w := by
  have hsz : ∀ w, (sizeOf 5).run Try.prog w = .ok 1 w := fun w => by kernel_rfl
  have h9 := run_equalIn_bytes (P := Try.prog) w 9998 34 5 20 Try.underlying34 Try.underlying5 hsz l l h h
  rw [show (l == l) = true from by simp] at h9; exact h9
theorem id_eql (l : List UInt8) (h : l.length = 20) (w : World) : (binOp .eql 34 (.agg (bv l).toArray) (.agg (bv l).toArray)).run Try.prog w = .ok (.bool true) w := by
  rw [run_eql_struct, id_same l h]; rfl
theorem id_neq (l : List UInt8) (h : l.length = 20) (w : World) : (binOp .neq 34 (.agg (bv l).toArray) (.agg (bv l).toArray)).run Try.prog w = .ok (.bool false) w := by
  rw [run_neq_struct, id_same l h]; rfl

set_option maxRecDepth 100000 in
set_option maxHeartbeats 4000000 in
theorem partsWalk (a0 : Option Addr) (cap0 : Nat) (ps : List (List UInt8)) (w : World) (hP : Parts w a0 ps) (hlc : ps.length ≤ 9223372036854775807) :
    Calls Try.prog 5 #[.slice a0 ps.length cap0] w fun e w' => e = .returned (.bool true) ∧ Below w.heap.size w w' := by
  by_cases hbig : 1000 < ps.length
  · go_enter Try.func5, Try.ntmps5
    go_wp2_with fail
    go_ret
    exact ⟨rfl, Below.refl _ _⟩
  · go_enter Try.func5, Try.ntmps5
    go_wp2_with fail
    (with_reducible refine (digNew _).mono ?_)
    rintro e w1 ⟨rfl, hD, hk1⟩
    go_wp2_with fail
    (with_reducible refine (digNew _).mono ?_)
    rintro e w2 ⟨rfl, hE, hk2⟩
    have hs1 : w.heap.size < w1.heap.size := hD.arr.lt
    have T0 : Two w w2 w.heap.size w1.heap.size (.slice none 0 0) (.slice none 0 0) (.slice none 0 0) [] [] [] :=
      ⟨(hD.nil w.heap.size).fr (S := fun _ => False) (Fr.of_keeps hk2 _) (fun h => h) (fun _ _ h => h), hE.nil _, Seg.nil _ _ _ _, by omega, by omega, by omega, (fun i h => by cases h), (fun i h => by cases h), (fun i h => by cases h), Keeps.trans hk1 hk2⟩
    obtain ⟨gd, hgd⟩ : ∃ gd, gd = w.heap.size := ⟨_, rfl⟩
    obtain ⟨ge, hge⟩ : ∃ ge, ge = w1.heap.size := ⟨_, rfl⟩
    rw [← hge] at T0 ⊢
    have T0' : Two w w2 gd ge (.slice none 0 0) (.slice none 0 0) (.slice none 0 0) [] [] [] := by rw [hgd]; exact T0
    clear T0 hD hE hk1 hk2 hs1 hge
    rw [← hgd]
    have HGD := Lib.hid hgd; clear hgd
    go_upto_block 0 with (fail)
    obtain ⟨wz, rfl⟩ : ∃ wz : World, wz = w2 := ⟨_, rfl⟩
    go_cut [] (fun wc => ∃ vd ve va, Two w wc gd ge vd ve va (allTo ps ps.length) (evTo ps ps.length) (allTo ps ps.length) ∧ (allTo ps ps.length).length ≤ 20000)
    case first =>
      go_wp2
      go_loopg [5, 6] (ps.length) (fun gn va iv wr => ∃ (k : Nat) (vd ve : Value), k ≤ ps.length ∧ ps.length ≤ k + gn ∧ iv = .int .i64 k ∧ (allTo ps k).length ≤ 20000 ∧ Two w wr gd ge vd ve va (allTo ps k) (evTo ps k) (allTo ps k))
      case atStart => exact ⟨0, _, _, by omega, by omega, rfl, by simp [allTo], T0'⟩
      case round =>
        clear T0'
        obtain ⟨k, vd, ve, hk, hkg, rfl, hal, T⟩ := hrel
        by_cases hlt : k < ps.length
        · obtain ⟨b, off, x, c, rfl, hcell, hpc, hcm, hbp⟩ := hP k hlt
          obtain ⟨xa, ca, rfl, hna, hca, hxa⟩ := T.ha.form
          have hcell0 := T.kp.cell hcell
          have hA1 : allTo ps (k + 1) = allTo ps k ++ ps.getD k [] := rfl
          have hE1 : evTo ps (k + 1) = if k % 2 = 0 then evTo ps k ++ ps.getD k [] else evTo ps k := rfl
          have HAE := Lib.hid (And.intro hA1 hE1); clear hA1 hE1
          generalize ps.getD k [] = p at *
          by_cases hbg : 20000 < (allTo ps k).length + p.length
          · have hbgI : (20000 : Int) < ((allTo ps k).length : Int) + (p.length : Int) := by omega
            go_wp2_with fail
            go_ret
            exact ⟨rfl, T.kp⟩
          · go_wp2_with fail
            (with_reducible refine (roomy _ _ _ _ (by omega) (hbp.keep T.kp)).mono ?_)
            rintro e w1 ⟨rfl, hg, hk1⟩
            have hgl : gd < wr.heap.size := T.hd.arr.lt
            have hgel : ge < wr.heap.size := T.he.arr.lt
            have lvd := fun i hi => (T.hd.seg.lt i hi).2
            have lve := fun i hi => (T.he.seg.lt i hi).2
            have lva := fun i hi => (T.ha.lt i hi).2
            have hw0 : w.heap.size ≤ wr.heap.size := Below.size T.kp
            have T1 := T.keep hk1
            have hgA : Arr w1 wr.heap.size 5 (bv (p ++ [71, 72])) := hg
            have hr : Bs w1 (some ⟨wr.heap.size, 0, none⟩) p := Bs.of_block hg (fun j hj => by rw [Nat.zero_add, bv_get? _ _ (by simp; omega)]; simp [List.getD, hj, List.getElem?_append_left hj])
            have hsz1 : wr.heap.size < w1.heap.size := hgA.lt
            have hag1 : 0 < p.length → ∀ q, some (⟨wr.heap.size, 0, none⟩ : Addr) = some q → q.block ≠ gd := by
              intro _ q hq e; cases hq; simp at e; omega
            have hs01 : w.heap.size ≤ w1.heap.size := Below.size T1.kp
            clear hg hk1 hcell0
            go_wp2_with fail
            (with_reducible refine (digAdd gd _ _ _ _ _ p _ T1.hd hr hag1 (by omega) hs01).mono ?_)
            rintro e w2 ⟨rfl, vd2, hD2, hF2, ho2⟩
            have T2 := T1.addD hD2 hF2 ho2
            have hgA2 : Arr w2 wr.heap.size 5 (bv (p ++ [71, 72])) := hgA.fr hF2 (by
              rintro (e | e)
              · omega
              · have := lvd _ e; omega)
            have lvd2 : vd2.ownBlock ≠ some wr.heap.size := by
              intro e
              rcases ho2 with h | ⟨j, hj, h⟩
              · rw [h] at e; have := lvd _ e; omega
              · rw [h] at e; cases e; omega
            have hcell2 := T2.kp.cell hcell
            have hg2 : w2.heap[wr.heap.size]? = some (.cells (bv (p ++ [71, 72])).toArray 5 (0, 0)) := hgA2
            clear hgA hr T1 hD2 hF2 ho2
            go_wp2_with fail
            (with_reducible refine (still _ _ _ _ _ (by omega) hg2 (hbp.keep T2.kp)).mono ?_)
            rintro e w3 ⟨rfl, hgr⟩
            have T3 := T2.grown hgr (by omega) (by omega) lvd2 (fun e => by have := lve _ e; omega) (fun e => by have := lva _ e; omega) hw0
            have hcell3 := T3.kp.cell hcell
            have hsrc3 : Src Try.prog 1 22 (.slice x p.length c) p.length (bv p) w3 := (hbp.keep T3.kp).srcOf Try.underlying22 c (fun _ => rfl)
            clear hgA2 T2 hgr hcell2 T lvd2 lvd lve lva
            go_upto_region 16 with (fail)
            go_cut [5] (fun va wc => Two w wc gd ge vd2 ve va (allTo ps k ++ p) (evTo ps k) (allTo ps k ++ p))
            case first =>
              go_wp2_with (at_builtin; go_must (refine wpList_append_seg _ rfl (.tmp 55) (.tmp 59) 22 22 rfl w.heap.size 5 (.int .u8 0) 1 1 Try.underlying22 Try.infoU8 rfl _ _ _ rfl T3.ha _ _ _ rfl hsrc3 ?c1 ?c2 ?c3 ?_))
              case c1 => unfold maxLen; omega
              case c2 => omega
              case c3 => exact Below.size T3.kp
              intro v4 w4 hS4 hg4 ho4
              have T4 := T3.app hS4 hg4 ho4
              go_wp2
              go_meet
              case rel => exact T4
            case rest =>
              clear T3 hcell3 hsrc3
              have T4 := hcut
              obtain ⟨w4, rfl⟩ : ∃ w4 : World, w4 = wc := ⟨_, rfl⟩
              have hcell4 := T4.kp.cell hcell
              go_upto_if 63 with (fail)
              go_cut [] (fun wc => ∃ ve2, Two w wc gd ge vd2 ve2 u5 (allTo ps (k + 1)) (evTo ps (k + 1)) (allTo ps (k + 1)))
              case first =>
                by_cases h2 : k % 2 = 0
                · have hb2 : ((k : Int) % 2 == 0) = true := by rw [beq_iff_eq]; omega
                  have hev : evTo ps (k + 1) = evTo ps k ++ p := by rw [HAE.out.2, if_pos h2]
                  have HEV := Lib.hid (And.intro hev HAE.out.1); clear hev h2
                  have hag : 0 < p.length → ∀ q, x = some q → q.block ≠ ge := by
                    intro hl q hq e; have := hbp.lt hl q hq; have := T4.ge0; omega
                  have hs4 : w.heap.size ≤ w4.heap.size := Below.size T4.kp
                  go_wp2_with fail
                  (with_reducible refine (digAdd ge _ _ _ _ _ p _ T4.he (hbp.keep T4.kp) hag (by omega) hs4).mono ?_)
                  rintro e w5 ⟨rfl, ve5, hD5, hF5, ho5⟩
                  have T5 := (T4.swap.addD hD5 hF5 ho5).swap
                  go_wp2
                  go_meet
                  case rel =>
                    go_light
                    refine ⟨ve5, ?_⟩
                    rw [HEV.out.1, HEV.out.2]; exact T5
                · have hb2 : ((k : Int) % 2 == 0) = false := by rw [beq_eq_false_iff_ne]; omega
                  have hev : evTo ps (k + 1) = evTo ps k := by rw [HAE.out.2, if_neg h2]
                  have HEV := Lib.hid (And.intro hev HAE.out.1); clear hev h2
                  go_wp2
                  go_meet
                  case rel =>
                    go_light
                    refine ⟨ve, ?_⟩
                    rw [HEV.out.1, HEV.out.2]; exact T4
              case rest =>
                have hal2 : (allTo ps (k + 1)).length ≤ 20000 := by rw [HAE.out.1, List.length_append]; omega
                clear T4 hcell4 hal
                obtain ⟨ve2, T5⟩ := hcut
                obtain ⟨w5, rfl⟩ : ∃ w5 : World, w5 = wc := ⟨_, rfl⟩
                have hX : (sha (allTo ps (k + 1))).length = 20 := sha_length _
                have z3 := all_oneCell_toArray (bv_cell1 (sha (allTo ps (k + 1))))
                have Z1 := Lib.hid (And.intro (id_size _ hX) (a20_size _ hX))
                have hneq := id_neq _ hX
                have hshl : Hid (sha (allTo ps (k + 1)) = sha (allTo ps (k + 1))) := rfl
                generalize hXX : sha (allTo ps (k + 1)) = X at *
                have HX := Lib.hid hXX; clear hXX hshl
                go_upto_region 19 with (fail)
                go_cut [9] (fun p9 wc => ∃ s9, p9 = .pointer (some ⟨s9, 0, none⟩) ∧ Arr wc s9 34 (bv X) ∧ Keeps w5 wc)
                case first =>
                  go_wp2_with fail
                  (with_reducible refine (digSum gd _ _ _ _ T5.hd (by omega)).mono ?_)
                  rw [HX.out]
                  rintro e w6 ⟨rfl, hk6⟩
                  have hA0 : Arr (w6.alloc (.cells zr20p 34)) w6.heap.size 34 (z8 20) := Arr.new _ _ _
                  have hA1 := hA0.setAll (bvid X hX)
                  have z2 : (w6.alloc (.cells zr20p 34)).there w6.heap.size 0 (bv X).toArray.size := by rw [show (bv X).toArray.size = 20 from by simp [hX]]; exact hA0.there 20 (by simp [z8])
                  have hks := Keeps.setCells (a := w5) (Below.size hk6) (bv X) 0 _ (hk6.alloc (.cells zr20p 34))
                  go_wp2_with (with_reducible refine wpList_store_mid rfl 34 (.tmp 9) (.tmp 71) rfl w6.heap.size 0 (bv X).toArray rfl rfl z2 Z1.out.1 z3 ?_)
                  go_meet
                  case rel => exact ⟨w6.heap.size, rfl, hA1, hks⟩
                case rest =>
                  obtain ⟨s9, rfl, hA9, hk9⟩ := hcut
                  obtain ⟨w7, rfl⟩ : ∃ w7 : World, w7 = wc := ⟨_, rfl⟩
                  have T7 := T5.keep hk9
                  clear T5 hk9
                  obtain ⟨x5, c5, rfl, hn5, hc5, _⟩ := T7.ha.form
                  go_upto_region 20 with (fail)
                  go_cut [10] (fun p10 wc => ∃ s10, p10 = .pointer (some ⟨s10, 0, none⟩) ∧ Arr wc s10 33 (bv X) ∧ Keeps w7 wc)
                  case first =>
                    go_wp2_with fail
                    (with_reducible refine (refSum _ _ _ _ T7.ha.bytes (by omega)).mono ?_)
                    rw [HX.out]
                    rintro e w8 ⟨rfl, hk8⟩
                    have hA0 : Arr (w8.alloc (.cells zr20p 33)) w8.heap.size 33 (z8 20) := Arr.new _ _ _
                    have hA1 := hA0.setAll (bvid X hX)
                    have z2 : (w8.alloc (.cells zr20p 33)).there w8.heap.size 0 (bv X).toArray.size := by rw [show (bv X).toArray.size = 20 from by simp [hX]]; exact hA0.there 20 (by simp [z8])
                    have hks := Keeps.setCells (a := w7) (Below.size hk8) (bv X) 0 _ (hk8.alloc (.cells zr20p 33))
                    go_wp2_with (with_reducible refine wpList_store_mid rfl 33 (.tmp 10) (.tmp 73) rfl w8.heap.size 0 (bv X).toArray rfl rfl z2 Z1.out.2 z3 ?_)
                    go_meet
                    case rel => exact ⟨w8.heap.size, rfl, hA1, hks⟩
                  case rest =>
                    obtain ⟨s10, rfl, hA10, hk10⟩ := hcut
                    have T9 := T7.keep hk10
                    have hA9' := hA9.keep hk10
                    unfold Arr at hA10 hA9'
                    clear T7 hA9 hk10
                    go_wp2_with (first | (with_reducible refine wpList_load_rowW 34 (.tmp 9) rfl _ rfl 34 (bv X).toArray (0, 0) _ hA9' Try.underlying34 rfl Z1.out.1 rfl ?_) | (with_reducible refine wpList_load_rowW 33 (.tmp 10) rfl _ rfl 33 (bv X).toArray (0, 0) _ hA10 Try.underlying33 rfl Z1.out.2 rfl ?_))
                    go_roundg (gk - 1)
                    case measure => omega
                    case rel =>
                      go_light
                      exact ⟨k + 1, vd2, ve2, by omega, by omega, by go_num, hal2, T9⟩
        · have HK := Lib.hid (show k = ps.length by omega)
          rw [HK.out] at T hal
          go_wp2
          go_meet
          case rel => exact ⟨vd, ve, _, T, hal⟩
    case rest =>
      clear T0'
      obtain ⟨vd, ve, va, T, hal⟩ := hcut
      obtain ⟨wy, rfl⟩ : ∃ wy : World, wy = wc := ⟨_, rfl⟩
      have hev : (evTo ps ps.length).length ≤ 20000 := Nat.le_trans (evTo_le ps _) hal
      have hk0 : Keeps w wy := T.kp
      have hE := T.he
      clear T hal
      go_upto_block 2 with (fail)
      go_cut [11] (fun v wc => Seg wc wy.heap.size 5 1 v (evTo ps ps.length).length (bv (evTo ps ps.length)) ∧ Keeps wy wc)
      case first =>
        go_wp2
        go_loopg [11, 12] (ps.length + 1) (fun gn v iv wr => ∃ q : Nat, 2 * q ≤ ps.length + 1 ∧ ps.length + 1 ≤ 2 * q + gn ∧ iv = .int .i64 ((2 * q : Nat) : Int) ∧ Seg wr wy.heap.size 5 1 v (evTo ps (2 * q)).length (bv (evTo ps (2 * q))) ∧ Keeps wy wr)
        case atStart => exact ⟨0, by omega, by omega, rfl, Seg.nil _ _ _ _, Keeps.refl _⟩
        case round =>
          obtain ⟨q, hq, hqg, rfl, hS, hk⟩ := hrel
          by_cases hlt : 2 * q < ps.length
          · obtain ⟨b, off, x, c, rfl, hcell, hpc, hcm, hbp⟩ := hP (2 * q) hlt
            have hkk := Keeps.trans hk0 hk
            have hcell0 := hkk.cell hcell
            have hE2 : evTo ps (2 * (q + 1)) = evTo ps (2 * q) ++ ps.getD (2 * q) [] := evTo_two ps q
            have hle2 := evTo_upto ps (show 2 * q ≤ ps.length by omega)
            have hle3 := evTo_le ps (2 * q + 1)
            have hsum : (evTo ps (2 * q)).length + (ps.getD (2 * q) []).length ≤ 20000 := by
              have h9 := evTo_upto ps (show 2 * q + 1 ≤ ps.length by omega)
              have h8 : evTo ps (2 * q + 1) = evTo ps (2 * q) ++ ps.getD (2 * q) [] := by show (if (2 * q) % 2 = 0 then _ else _) = _; rw [if_pos (by omega)]
              rw [h8, List.length_append] at h9; omega
            have HE2 := Lib.hid hE2; clear hE2 hle2 hle3
            generalize ps.getD (2 * q) [] = p at *
            obtain ⟨Q, hQ⟩ : ∃ Q : Nat, Q = 2 * q := ⟨_, rfl⟩
            rw [← hQ] at hcell0 hlt hq hqg hS hsum ⊢
            have HQ := Lib.hid hQ; clear hQ hcell hkk
            have hsrc : Src Try.prog 1 22 (.slice x p.length c) p.length (bv p) wr := (hbp.keep (Keeps.trans hk0 hk)).srcOf Try.underlying22 c (fun _ => rfl)
            go_wp2_with (at_builtin; go_must (refine wpList_append_seg _ rfl (.tmp 87) (.tmp 91) 22 22 rfl wy.heap.size 5 (.int .u8 0) 1 1 Try.underlying22 Try.infoU8 rfl _ _ _ rfl hS _ _ _ rfl hsrc ?c1 ?c2 ?c3 ?_))
            case c1 => unfold maxLen; omega
            case c2 => omega
            case c3 => exact Below.size hk
            intro v4 w4 hS4 hg4 ho4
            have hk4 : Keeps wy w4 := Below.grown hk hg4 (Below.size hk) (fun j hj => (hS.lt j hj).1)
            clear hsrc
            go_wp2
            go_roundg (gk - 1)
            case measure => omega
            case rel =>
              go_light
              have e := HQ.out
              refine ⟨q + 1, by omega, by omega, ?_, ?_, hk4⟩
              · rw [show ((2 * (q + 1) : Nat) : Int) = (Q : Int) + 2 from by omega]
              · rw [HE2.out, List.length_append, ← e, show bv (evTo ps Q ++ p) = bv (evTo ps Q) ++ bv p from by simp [bv]]; exact hS4
          · have he := evTo_last ps (show ps.length ≤ 2 * q by omega) hq
            have HE := Lib.hid he; clear he
            go_wp2
            go_meet
            case rel =>
              go_light
              rw [← HE.out]; exact ⟨hS, hk⟩
      case rest =>
        obtain ⟨hS, hk1⟩ := hcut
        obtain ⟨wx, rfl⟩ : ∃ wx : World, wx = wc := ⟨_, rfl⟩
        have hEx := hE.fr (S := fun _ => False) (Fr.of_keeps hk1 _) (fun h => h) (fun _ _ h => h)
        have hkx := Keeps.trans hk0 hk1
        clear hE hk0 hk1
        have hX : (sha (evTo ps ps.length)).length = 20 := sha_length _
        have z3 := all_oneCell_toArray (bv_cell1 (sha (evTo ps ps.length)))
        have Z1 := Lib.hid (And.intro (id_size _ hX) (a20_size _ hX))
        have heql := id_eql _ hX
        generalize hXX : sha (evTo ps ps.length) = X at *
        have HX := Lib.hid hXX; clear hXX
        go_upto_region 28 with (fail)
        go_cut [13] (fun p13 wc => ∃ s13, p13 = .pointer (some ⟨s13, 0, none⟩) ∧ Arr wc s13 34 (bv X) ∧ Keeps wx wc)
        case first =>
          go_wp2_with fail
          (with_reducible refine (digSum ge _ _ _ _ hEx (by omega)).mono ?_)
          rw [HX.out]
          rintro e w6 ⟨rfl, hk6⟩
          have hA0 : Arr (w6.alloc (.cells zr20p 34)) w6.heap.size 34 (z8 20) := Arr.new _ _ _
          have hA1 := hA0.setAll (bvid X hX)
          have z2 : (w6.alloc (.cells zr20p 34)).there w6.heap.size 0 (bv X).toArray.size := by rw [show (bv X).toArray.size = 20 from by simp [hX]]; exact hA0.there 20 (by simp [z8])
          have hks := Keeps.setCells (a := wx) (Below.size hk6) (bv X) 0 _ (hk6.alloc (.cells zr20p 34))
          go_wp2_with (with_reducible refine wpList_store_mid rfl 34 (.tmp 13) (.tmp 94) rfl w6.heap.size 0 (bv X).toArray rfl rfl z2 Z1.out.1 z3 ?_)
          go_meet
          case rel => exact ⟨w6.heap.size, rfl, hA1, hks⟩
        case rest =>
          obtain ⟨s13, rfl, hA13, hk13⟩ := hcut
          obtain ⟨w7, rfl⟩ : ∃ w7 : World, w7 = wc := ⟨_, rfl⟩
          have hS7 := hS.keep hk13
          have hk7 := Keeps.trans hkx hk13
          clear hS hkx hk13 hEx
          obtain ⟨x5, c5, rfl, hn5, hc5, _⟩ := hS7.form
          go_upto_region 29 with (fail)
          go_cut [14] (fun p14 wc => ∃ s14, p14 = .pointer (some ⟨s14, 0, none⟩) ∧ Arr wc s14 33 (bv X) ∧ Keeps w7 wc)
          case first =>
            go_wp2_with fail
            (with_reducible refine (refSum _ _ _ _ hS7.bytes (by omega)).mono ?_)
            rw [HX.out]
            rintro e w8 ⟨rfl, hk8⟩
            have hA0 : Arr (w8.alloc (.cells zr20p 33)) w8.heap.size 33 (z8 20) := Arr.new _ _ _
            have hA1 := hA0.setAll (bvid X hX)
            have z2 : (w8.alloc (.cells zr20p 33)).there w8.heap.size 0 (bv X).toArray.size := by rw [show (bv X).toArray.size = 20 from by simp [hX]]; exact hA0.there 20 (by simp [z8])
            have hks := Keeps.setCells (a := w7) (Below.size hk8) (bv X) 0 _ (hk8.alloc (.cells zr20p 33))
            go_wp2_with (with_reducible refine wpList_store_mid rfl 33 (.tmp 14) (.tmp 96) rfl w8.heap.size 0 (bv X).toArray rfl rfl z2 Z1.out.2 z3 ?_)
            go_meet
            case rel => exact ⟨w8.heap.size, rfl, hA1, hks⟩
          case rest =>
            obtain ⟨s14, rfl, hA14, hk14⟩ := hcut
            have hA13' := hA13.keep hk14
            have hk9 := Keeps.trans hk7 hk14
            unfold Arr at hA14 hA13'
            clear hA13 hk14 hk7 hS7
            go_wp2_with (first | (with_reducible refine wpList_load_row rfl 34 (.tmp 13) rfl _ rfl 34 (bv X).toArray (0, 0) _ hA13' Try.underlying34 rfl Z1.out.1 ?_) | (with_reducible refine wpList_load_row rfl 33 (.tmp 14) rfl _ rfl 33 (bv X).toArray (0, 0) _ hA14 Try.underlying33 rfl Z1.out.2 ?_))
            go_ret
            exact ⟨rfl, hk9⟩
end Go.Proofs.Ytknphdcjopaaoaa
