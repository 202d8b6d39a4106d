/- The program's digest: Sum, and the sum of bytes. -/
import Derived.Test.YtknphdcjopaaoaaShaAdd
import Derived.Deep.RegionHeld3
import Derived.Lib.AppendZerosOnto
namespace Go.Proofs.Ytknphdcjopaaoaa
open Go.RowKit
set_option linter.unusedVariables false

set_option maxRecDepth 100000 in
set_option maxHeartbeats 4000000 in
theorem digSum (g base : Nat) (vr : Value) (all : List UInt8) (w : World) (hD : Dig w base g vr all) (hlen : all.length ≤ 100000000000) :
    Calls Try.prog 20 #[.pointer (some ⟨g, 0, none⟩)] w fun e w' => e = .returned (.agg (bv (sha all)).toArray) ∧ Keeps w w' := by
  obtain ⟨hA, hS⟩ := hD
  obtain ⟨x0, cap0, rfl, hn0, hc0, hx0⟩ := hS.form
  have hrl := blocks_rest_lt H0 all
  obtain ⟨sz, hsz⟩ : ∃ sz : Nat, sz = all.length % 18446744073709551616 := ⟨_, rfl⟩
  have hszl : sz < 18446744073709551616 := by omega
  rw [← hsz] at hA
  obtain ⟨hh, hhE⟩ : ∃ hh, hh = (blocks H0 all).1 := ⟨_, rfl⟩
  obtain ⟨rr, hrE⟩ : ∃ rr, rr = (blocks H0 all).2 := ⟨_, rfl⟩
  rw [← hhE] at hA
  rw [← hrE] at hS hrl hn0 hA
  have HE := Lib.hid (And.intro hsz (And.intro hhE hrE))
  clear hsz hhE hrE
  have hgl : g < w.heap.size := hA.lt
  have c0 : w.cell? ⟨g, 0, none⟩ = some (.int .u32 hh.a) := hA.cell 0
  have c1 : w.cell? ⟨g, 1, none⟩ = some (.int .u32 hh.b) := hA.cell 1
  have c2 : w.cell? ⟨g, 2, none⟩ = some (.int .u32 hh.c) := hA.cell 2
  have c3 : w.cell? ⟨g, 3, none⟩ = some (.int .u32 hh.d) := hA.cell 3
  have c4 : w.cell? ⟨g, 4, none⟩ = some (.int .u32 hh.e) := hA.cell 4
  have c5 : w.cell? ⟨g, 5, none⟩ = some (.slice x0 rr.length cap0) := hA.cell 5
  have c6 : w.cell? ⟨g, 6, none⟩ = some (.int .u64 (sz : Int)) := hA.cell 6
  go_enter Try.func20, Try.ntmps20
  go_upto_region 1 with (fail)
  go_cut [3] (fun c wc => ∃ gc vr2, c = .pointer (some ⟨gc, 0, none⟩) ∧ w.heap.size ≤ gc ∧ (∀ i, vr2.ownBlock = some i → w.heap.size ≤ i) ∧ Dig wc w.heap.size gc vr2 all ∧ Keeps w wc ∧ Arr wc w.heap.size 34 (z8 20))
  case first =>
    have mk : ∀ (W : World) (gc : Nat) (v : Value), Arr W gc 56 (u32v hh.list ++ [v, .int .u64 (sz : Int)]) → Seg W w.heap.size 5 1 v rr.length (bv rr) → Dig W w.heap.size gc v all := by
      intro W gc v h1 h2
      obtain ⟨e1, e2, e3⟩ := HE.out
      exact ⟨by rw [← e2, ← e1]; exact h1, by rw [← e3]; exact h2⟩
    have hgl2 : g < w.heap.size + 1 := by omega
    have hgn1 : ¬ g = w.heap.size + 1 := by omega
    have hgn2 : ¬ w.heap.size + 1 = g := by omega
    have hgl3 : g < w.heap.size + 1 + 1 := by omega
    go_region_held3 (fun w' => w'.cell? ⟨g, 0, none⟩ = some (.int .u32 hh.a) ∧ w'.cell? ⟨g, 1, none⟩ = some (.int .u32 hh.b) ∧ w'.cell? ⟨g, 2, none⟩ = some (.int .u32 hh.c) ∧ w'.cell? ⟨g, 3, none⟩ = some (.int .u32 hh.d) ∧ w'.cell? ⟨g, 4, none⟩ = some (.int .u32 hh.e) ∧ w'.cell? ⟨g, 5, none⟩ = some (.slice x0 rr.length cap0) ∧ w'.cell? ⟨g, 6, none⟩ = some (.int .u64 (sz : Int)))
      (first
        | go_keep)
      ((refine step_append_seg _ (by rfl) (.const (.slice none 0 0)) (.tmp 16) 22 22 (by rfl) w.heap.size 5 (.int .u8 0) 1 1 Try.underlying22 Try.infoU8 rfl (.slice none 0 0) 0 [] (by rfl) (Seg.nil _ _ _ _) (.slice x0 rr.length cap0) rr.length (bv rr) (by rfl) (by exact Bs.srcOf (Bs.keep hS.bytes (by first | exact Keeps.drew ((Keeps.refl w).alloc _) | exact Keeps.drew (((Keeps.refl w).alloc _).alloc _))) Try.underlying22 cap0 (fun _ => rfl)) (by unfold maxLen; omega) (by omega) (by simp <;> omega) ?_; intro v1 w1 hS1 hg1 ho1; obtain ⟨hcw, hfw⟩ := bcellN hg1; obtain ⟨x1, cap1, rfl, hn1, hc1, hx1⟩ := hS1.form; have h9 := hg1.size; simp at h9; have hgl1 : g < w1.heap.size := by omega))
    · go_wp2
      go_meet
      case rel =>
        go_light
        have hk1 : Keeps w w1 := Keeps.trans (Keeps.drew ((Keeps.refl w).alloc _)) (keeps_of_none hg1)
        simp only [Nat.zero_add, List.nil_append] at hS1
        refine ⟨_, .slice x1 rr.length cap1, rfl, Below.size hk1, fun i hi => (hS1.lt i hi).1, mk _ _ _ (Arr.new _ _ _) (hS1.alloc _), hk1.alloc _, Arr.alloc (Arr.keep (Arr.drew (Arr.new w _ _)) (keeps_of_none hg1)) _⟩
    · go_wp2
      go_meet
      case rel =>
        go_light
        have hk0 : Keeps w _ := Keeps.drew (((Keeps.refl w).alloc (.cells #[.int .u8 0, .int .u8 0, .int .u8 0, .int .u8 0, .int .u8 0, .int .u8 0, .int .u8 0, .int .u8 0, .int .u8 0, .int .u8 0, .int .u8 0, .int .u8 0, .int .u8 0, .int .u8 0, .int .u8 0, .int .u8 0, .int .u8 0, .int .u8 0, .int .u8 0, .int .u8 0] 34)).alloc (.cells #[.int .u32 0, .int .u32 0, .int .u32 0, .int .u32 0, .int .u32 0, .slice none 0 0, .int .u64 0] 56))
        have hk1 : Keeps w w1 := Keeps.trans hk0 (keeps_of_none hg1)
        simp only [Nat.zero_add, List.nil_append] at hS1
        have hA0 : Arr w1 (w.heap.size + 1) 56 [.int .u32 0, .int .u32 0, .int .u32 0, .int .u32 0, .int .u32 0, .slice none 0 0, .int .u64 0] := Arr.keep (Arr.drewN (Arr.newAt _ _ _ _ (by simp)) 1) (keeps_of_none hg1)
        have hne1 := hS1.ne_arr hA0 (by decide)
        have hI0 : Arr w1 w.heap.size 34 (z8 20) := Arr.keep (Arr.drew (Arr.alloc (Arr.new w _ _) _)) (keeps_of_none hg1)
        have hin : w.heap.size ≠ w.heap.size + 1 := by omega
        refine ⟨w.heap.size + 1, .slice x1 rr.length cap1, rfl, by omega, fun i hi => (hS1.lt i hi).1, mk _ _ _ (((((((hA0.set 0 _).set 1 _).set 2 _).set 3 _).set 4 _).set 5 _).set 6 _) (hS1.fr (S := fun i => i = w.heap.size + 1) (Fr.setCell (Fr.setCell (Fr.setCell (Fr.setCell (Fr.setCell (Fr.setCell (Fr.setCell (Fr.refl (fun i => i = w.heap.size + 1) w1) (p := ⟨w.heap.size + 1, 0, none⟩) (.inl rfl) _) (p := ⟨w.heap.size + 1, 1, none⟩) (.inl rfl) _) (p := ⟨w.heap.size + 1, 2, none⟩) (.inl rfl) _) (p := ⟨w.heap.size + 1, 3, none⟩) (.inl rfl) _) (p := ⟨w.heap.size + 1, 4, none⟩) (.inl rfl) _) (p := ⟨w.heap.size + 1, 5, none⟩) (.inl rfl) _) (p := ⟨w.heap.size + 1, 6, none⟩) (.inl rfl) _) (fun i hi e => hne1 (by rw [hi, e]))), ?_, (((((((hI0.other _ _ hin).other _ _ hin).other _ _ hin).other _ _ hin).other _ _ hin).other _ _ hin).other _ _ hin)⟩
        have hle : w.heap.size ≤ w.heap.size + 1 := by omega
        exact Below.setCell (Below.setCell (Below.setCell (Below.setCell (Below.setCell (Below.setCell (Below.setCell hk1 (p := ⟨w.heap.size + 1, 0, none⟩) hle _) (p := ⟨w.heap.size + 1, 1, none⟩) hle _) (p := ⟨w.heap.size + 1, 2, none⟩) hle _) (p := ⟨w.heap.size + 1, 3, none⟩) hle _) (p := ⟨w.heap.size + 1, 4, none⟩) hle _) (p := ⟨w.heap.size + 1, 5, none⟩) hle _) (p := ⟨w.heap.size + 1, 6, none⟩) hle _
  case rest =>
    clear hA hS hx0 hc0 hn0 hgl c0 c1 c2 c3 c4 c5 c6
    obtain ⟨gc, vr2, rfl, hgc, hvr2, hD2, hk2, hI2⟩ := hcut
    obtain ⟨wa, rfl⟩ : ∃ wa : World, wa = wc := ⟨_, rfl⟩
    have c6 : wa.cell? ⟨gc, 6, none⟩ = some (.int .u64 (sz : Int)) := by rw [HE.out.1]; exact hD2.arr.cell 6
    have hgcl := hD2.arr.lt
    have hszw : w.heap.size ≤ wa.heap.size := Below.size hk2
    obtain ⟨k, hk⟩ : ∃ k : Nat, k = (119 - sz % 64) % 64 := ⟨_, rfl⟩
    have hk64 : k < 64 := by omega
    have s1 : ((119 : Int) - (sz : Int) % 64) % 64 = (k : Int) := by omega
    have HK := Lib.hid hk; clear hk
    have hseg0 : Seg (wa.alloc (.cells #[.int .u8 128] 5)) wa.heap.size 5 1 (.slice (some ⟨wa.heap.size, 0, none⟩) 1 1) 1 [.int .u8 128] := Seg.made wa #[.int .u8 128] 1 1 (Nat.le_refl _) (Nat.le_refl _) (by unfold maxLen; omega) (Nat.le_refl _)
    have hmkz := run_append_zeros_seg (P := Try.prog) _ wa.heap.size 22 3 22 5 (.int .u8 0) 1 .i64 .i64 Try.underlying22 Try.underlying3 Try.infoU8 rfl wa.heap.size 0 1 [.int .u8 128] hseg0 k (by unfold maxLen; omega) (by omega)
    obtain ⟨v', w1, hr, hS1, hg1⟩ := hmkz
    rw [← s1] at hr
    have HR := Lib.hid hr; clear hr hseg0 s1
    go_upto_region 3 with (fail)
    go_cut [5] (fun v wr => v = v' ∧ wr = w1)
    case first =>
      go_wp2_with (at_builtin; go_must (refine Lib.wpList_append_run _ rfl (.tmp 26) (.tmp 32) 22 3 rfl _ _ rfl rfl v' w1 HR.out ?_))
      go_wp2
      go_meet
      case rel => exact ⟨rfl, rfl⟩
    case rest =>
      obtain ⟨rfl, rfl⟩ := hcut
      have hkw : Keeps wa wc := Keeps.trans ((Keeps.refl wa).alloc _) (keeps_of_none hg1)
      have hsp : Seg wc wa.heap.size 5 1 u5 (1 + k) (bv (128 :: List.replicate k 0)) := by
        have e : bv (128 :: List.replicate k 0) = [Value.int .u8 128] ++ List.replicate k (Value.int .u8 0) := by simp [bv]
        rw [e]; exact hS1
      clear hg1 hS1 HR c6
      obtain ⟨nn, hnn⟩ : ∃ nn : Nat, nn = sz * 8 % 18446744073709551616 := ⟨_, rfl⟩
      have hn4 : IntKind.u64.wrap ((sz : Int) * 8) = (nn : Int) := by rw [IntKind.wrap_u64]; omega
      have hnl : nn < 18446744073709551616 := by omega
      have HN := Lib.hid hnn; clear hnn
      rw [hn4]
      clear hn4
      obtain ⟨wb, rfl⟩ : ∃ wb : World, wb = wc := ⟨_, rfl⟩
      go_upto_block 0 with (fail)
      go_cut [5] (fun v wr => ∃ m : List UInt8, m = 128 :: List.replicate k 0 ++ be8 nn ∧ Seg wr wa.heap.size 5 1 v m.length (bv m) ∧ Keeps wa wr)
      case first =>
        go_wp2
        go_loopg [5, 6, 34] 8 (fun gn v _ iv wr => ∃ (i : Nat) (m : List UInt8), i ≤ 8 ∧ 8 ≤ i + gn ∧ iv = .int .i64 i ∧ Hid (m = 128 :: List.replicate k 0 ++ (be8 nn).take i) ∧ Seg wr wa.heap.size 5 1 v m.length (bv m) ∧ Keeps wa wr)
        case atStart => exact ⟨0, 128 :: List.replicate k 0, by omega, by omega, rfl, by simp [Hid], by simpa [Nat.add_comm] using hsp, hkw⟩
        case round =>
          clear hsp hkw
          obtain ⟨i, m, hi, hig, rfl, hm, hsp, hkw⟩ := hrel
          by_cases hlt : i < 8
          · have hmi : (i : Int) < 8 := by omega
            have hml : m.length ≤ 1000 := by rw [hm.out]; simp [be8_length]; omega
            go_wp2_with (at_builtin; go_must (refine wpList_append_seg _ rfl (.tmp 37) (.tmp 44) 22 22 rfl wa.heap.size 5 (.int .u8 0) 1 1 Try.underlying22 Try.infoU8 rfl _ _ _ rfl (hsp.alloc _) _ 1 [_] rfl (srcPush Try.underlying22 _ _ _ rfl) ?c1 ?c2 ?c3 ?_))
            case c1 => unfold maxLen; omega
            case c2 => omega
            case c3 => exact Nat.le_trans (Below.size hkw) (by simp)
            intro v2 w2 hS2 hg2 ho2
            have hkw2 : Keeps wa w2 := by
              refine Below.grown (hkw.alloc _) hg2 (Nat.le_trans (Below.size hkw) (by simp)) (fun j hj => (hsp.lt j hj).1)
            have e8 := ofNat_byte (nn / 2 ^ (56 - 8 * i))
            have hb8 := be8_take nn i hlt
            generalize hy : UInt8.ofNat (nn / 2 ^ (56 - 8 * i) % 256) = y at *
            have HY := Lib.hid (And.intro e8 hb8)
            clear e8 hb8 hy
            go_wp2
            go_roundg (gk - 1)
            case measure => omega
            case rel =>
              go_light
              refine ⟨i + 1, m ++ [y], by omega, by omega, by go_num, ?_, ?_, hkw2⟩
              · show m ++ [y] = _
                rw [HY.out.2, ← List.append_assoc, ← hm.out]
              · rw [bv_snoc m y (by rw [HY.out.1]; rfl)] at hS2
                rw [List.length_append]; exact hS2
          · go_wp2
            go_meet
            case rel =>
              go_light
              refine ⟨m, ?_, hsp, hkw⟩
              rw [hm.out, List.take_of_length_le (by rw [be8_length]; omega)]
      case rest =>
        clear hsp hkw
        obtain ⟨m, hm, hsp, hkw⟩ := hcut
        have hpad : m = padOf all.length := by
          rw [hm, padOf, HN.out, HK.out, HE.out.1]
          rw [show all.length % 18446744073709551616 % 64 = all.length % 64 from by omega, show all.length % 18446744073709551616 * 8 % 18446744073709551616 = all.length * 8 % 18446744073709551616 from by omega]
        have HP := Lib.hid hpad
        have hml : m.length ≤ 1000 := by rw [hm]; simp [be8_length]; omega
        clear hm hpad
        obtain ⟨x5, cap5, rfl, hn5, hc5, hx5⟩ := hsp.form
        have hD3 := hD2.fr (S := fun _ => False) (Fr.of_keeps hkw _) (fun h => h) (fun _ _ h => h)
        have hag : 0 < m.length → ∀ p, x5 = some p → p.block ≠ gc := by
          intro _ p hp e
          have h1 := (hsp.lt p.block (by rw [hp]; rfl)).1
          omega
        obtain ⟨we, rfl⟩ : ∃ we : World, we = wc := ⟨_, rfl⟩
        have hszb : wa.heap.size ≤ we.heap.size := Below.size hkw
        go_wp2_with fail
        (with_reducible refine (digAdd _ _ _ _ _ _ _ _ hD3 hsp.bytes hag (by omega) (by omega)).mono ?_)
        rintro e w4 ⟨rfl, vr4, hD4, hF4, _⟩
        have hk4 : Keeps w w4 := ((Fr.of_keeps (Keeps.trans hk2 hkw) (fun _ => False)).then hF4 (fun i hi h => by
          rcases h with h | h
          · omega
          · have := hvr2 i h; omega)).keeps (fun _ _ h => h)
        have hI4 : Arr w4 w.heap.size 34 (z8 20) := (hI2.keep hkw).fr hF4 (fun h => by
          rcases h with h | h
          · exact hI2.ne hD2.arr (by decide) h
          · exact hD2.seg.ne_arr hI2 (by decide) h)
        rw [HP.out] at hD4
        have hA4 := hD4.arr
        have hV : (blocks H0 (all ++ padOf all.length)).1.ok := blocks_ok _ _ H0_ok
        have hsha : sha all = out20 (blocks H0 (all ++ padOf all.length)).1 := rfl
        have HS := Lib.hid hsha; clear hsha
        generalize (blocks H0 (all ++ padOf all.length)).1 = V at *
        clear hD4 hF4 hD3 hsp hD2 hkw hag hx5
        go_upto_block 2 with (fail)
        have hid0 : Arr (w4.alloc (.cells #[.int .u8 0, .int .u8 0, .int .u8 0, .int .u8 0, .int .u8 0, .int .u8 0, .int .u8 0, .int .u8 0, .int .u8 0, .int .u8 0, .int .u8 0, .int .u8 0, .int .u8 0, .int .u8 0, .int .u8 0, .int .u8 0, .int .u8 0, .int .u8 0, .int .u8 0, .int .u8 0] 34)) w4.heap.size 34 (bv ((out20 V).take 0) ++ z8 (20 - 0)) := Arr.new _ _ _
        have hA5 := hA4.alloc (.cells #[.int .u8 0, .int .u8 0, .int .u8 0, .int .u8 0, .int .u8 0, .int .u8 0, .int .u8 0, .int .u8 0, .int .u8 0, .int .u8 0, .int .u8 0, .int .u8 0, .int .u8 0, .int .u8 0, .int .u8 0, .int .u8 0, .int .u8 0, .int .u8 0, .int .u8 0, .int .u8 0] 34)
        have hI5 := hI4.alloc (.cells #[.int .u8 0, .int .u8 0, .int .u8 0, .int .u8 0, .int .u8 0, .int .u8 0, .int .u8 0, .int .u8 0, .int .u8 0, .int .u8 0, .int .u8 0, .int .u8 0, .int .u8 0, .int .u8 0, .int .u8 0, .int .u8 0, .int .u8 0, .int .u8 0, .int .u8 0, .int .u8 0] 34)
        have hk5 := hk4.alloc (.cells #[.int .u8 0, .int .u8 0, .int .u8 0, .int .u8 0, .int .u8 0, .int .u8 0, .int .u8 0, .int .u8 0, .int .u8 0, .int .u8 0, .int .u8 0, .int .u8 0, .int .u8 0, .int .u8 0, .int .u8 0, .int .u8 0, .int .u8 0, .int .u8 0, .int .u8 0, .int .u8 0] 34)
        have l4 := hA4.lt
        have l5 := hI4.lt
        have hk4s : w.heap.size ≤ w4.heap.size := Below.size hk4
        go_cut [] (fun wr => Arr wr w4.heap.size 34 (bv (out20 V)) ∧ Arr wr w.heap.size 34 (z8 20) ∧ Keeps w wr)
        case first =>
          go_wp2
          go_loopg [8, 49] 20 (fun gn _ iv wr => ∃ i : Nat, i ≤ 20 ∧ 20 ≤ i + gn ∧ iv = .int .i64 i ∧ Arr wr w4.heap.size 34 (bv ((out20 V).take i) ++ z8 (20 - i)) ∧ Arr wr gc 56 (u32v V.list ++ [vr4, .int .u64 (((all ++ padOf all.length).length % 18446744073709551616 : Nat) : Int)]) ∧ Arr wr w.heap.size 34 (z8 20) ∧ Keeps w wr)
          case atStart => exact ⟨0, by omega, by omega, rfl, hid0, hA5, hI5, hk5⟩
          case round =>
            clear hid0 hA5 hI5 hk5 hA4 hI4 hk4
            obtain ⟨i, hi, hig, rfl, hid, hA, hI, hk⟩ := hrel
            by_cases hlt : i < 20
            · have hmi : (i : Int) < 20 := by omega
              have hq4 : (i : Int) / 4 < 5 := by omega
              have ci : wr.cell? ⟨w4.heap.size, i, none⟩ = some (.int .u8 0) := by rw [hid.cell]; exact o20_cell V i hlt
              have fi := hid.frozen i
              have ch : wr.cell? ⟨gc, i / 4, none⟩ = some (.int .u32 ((V.list.getD (i / 4) 0 : Nat) : Int)) := by
                rw [hA.cell, List.getElem?_append_left (by simp [V5.list]; omega)]; exact list5_get V _ (by omega)
              have hbv := hV.get (i / 4)
              have e8 := ofNat_byte (V.list.getD (i / 4) 0 / 2 ^ (24 - 8 * (i % 4)))
              have hb8 := out20_take V i hlt
              generalize hy : UInt8.ofNat (V.list.getD (i / 4) 0 / 2 ^ (24 - 8 * (i % 4)) % 256) = y at *
              have HY := Lib.hid (And.intro e8 hb8)
              clear e8 hb8 hy
              generalize V.list.getD (i / 4) 0 = q at *
              go_wp2
              go_roundg (gk - 1)
              case measure => omega
              case rel =>
                go_light
                have n1 : gc ≠ w4.heap.size := by omega
                have n2 : w.heap.size ≠ w4.heap.size := by omega
                refine ⟨i + 1, by omega, by omega, by go_num, ?_, hA.other _ _ n1, hI.other _ _ n2, Below.setCell hk (p := ⟨w4.heap.size, i, none⟩) (by show w.heap.size ≤ w4.heap.size; omega) _⟩
                have h5 := hid.set i (.int .u8 ((q : Int) / 2 ^ (24 - 8 * (i % 4)) % 256))
                rw [o20_set V i hlt HY.out.2 (by rw [HY.out.1]; rfl)] at h5
                exact h5
            · have HI := Lib.hid (show i = 20 by omega)
              rw [HI.out] at hid
              go_wp2
              go_meet
              case rel =>
                go_light
                refine ⟨?_, hI, hk⟩
                have e : bv ((out20 V).take 20) ++ z8 (20 - 20) = bv (out20 V) := by
                  rw [List.take_of_length_le (by rw [out20_length]; omega)]; simp [z8]
                rw [← e]; exact hid
        case rest =>
          clear hid0 hA5 hI5 hk5 hA4 hI4 hk4 l4 l5 hk4s
          obtain ⟨hid, hI, hk⟩ := hcut
          have hl : (bv (out20 V)).length = (z8 20).length := by rw [bv_length, out20_length]; rfl
          have hsa := hI.setAll hl
          have hks := Keeps.setCells (Nat.le_refl _) (bv (out20 V)) 0 _ hk
          have hth := hI.there 20 (by simp [z8])
          unfold Arr at hid hsa
          have z1 : (Try.prog.info? 34).map (·.size) = some (bv (out20 V)).toArray.size := by rw [List.size_toArray, bv_length, out20_length]; kernel_rfl
          have z2 : wc.there w.heap.size 0 (bv (out20 V)).toArray.size := by rw [show (bv (out20 V)).toArray.size = 20 from by simp [out20_length]]; exact hth
          have z3 := all_oneCell_toArray (bv_cell1 (out20 V))
          have Z1 := Lib.hid z1
          clear z1
          clear hth
          go_upto_region 16 with (fail)
          go_wp2_with (first | (with_reducible refine wpList_load_row rfl 34 (.tmp 7) rfl _ rfl 34 (bv (out20 V)).toArray (0, 0) _ hid Try.underlying34 rfl Z1.out ?_) | (with_reducible refine wpList_store_mid rfl 34 (.tmp 2) (.tmp 66) rfl w.heap.size 0 (bv (out20 V)).toArray rfl rfl z2 Z1.out z3 ?_))
          rw [HS.out]
          refine bodyPost_ret (results_cell_row rfl _ _ w.heap.size 34 (bv (out20 V)).toArray (0, 0) _ rfl hsa Try.underlying34 rfl Z1.out) rfl ⟨rfl, hks⟩
end Go.Proofs.Ytknphdcjopaaoaa
