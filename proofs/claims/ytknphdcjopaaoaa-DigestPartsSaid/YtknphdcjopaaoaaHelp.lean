/- gitlikelaw0's Same, Roomy, Still: what they do. -/
import Derived.Test.YtknphdcjopaaoaaProg
import Derived.Test.YtknphdcjopaaoaaMem
namespace Go.Proofs.Ytknphdcjopaaoaa
open Go.RowKit
set_option linter.unusedVariables false

theorem ret_bool {a b : Bool} (h : a = b) : Ending.returned (.bool a) = .returned (.bool b) := by rw [h]

theorem ne_of_getD {l m : List UInt8} {k : Nat} (h : l.getD k 0 ≠ m.getD k 0) : (l == m) = false := by
  rw [beq_eq_false_iff_ne]; intro e; exact h (by rw [e])

set_option maxRecDepth 100000 in
set_option maxHeartbeats 400000 in
theorem same (a b : Option Addr) (ca cb : Nat) (l m : List UInt8) (w : World) (hl : l.length ≤ 9223372036854775807) (hm : m.length ≤ 9223372036854775807) (ha : Bs w a l) (hb : Bs w b m) :
    Calls Try.prog 30 #[.slice a l.length ca, .slice b m.length cb] w fun e w' => e = .returned (.bool (l == m)) ∧ ∃ n, w' = w.drewN n := by
  by_cases hlm : l.length = m.length
  · have hne : ((l.length : Int) != (m.length : Int)) = false := by simp [hlm]
    have HLM := Lib.hid hlm; clear hlm
    go_enter Try.func30, Try.ntmps30
    go_wp2
    go_loopw [4, 5] (fun r i wr => ∃ k n : Nat, k ≤ l.length ∧ i = .int .i64 k ∧ wr = w.drewN n ∧ r = .bool false ∧ Hid (l.take k = m.take k)) (fun _ i _ => l.length - (intOf i).toNat)
    case atStart => exact ⟨0, 0, by omega, rfl, rfl, rfl, rfl⟩
    case round =>
      obtain ⟨k, n, hk, rfl, rfl, rfl, hr⟩ := hrel
      by_cases hlt : k < l.length
      · obtain ⟨b1, o1, x, rfl, hc1, hx, HX⟩ := ha.at hlt
        obtain ⟨b2, o2, y, rfl, hc2, hy, HY⟩ := hb.at (j := k) (by rw [← HLM.out]; exact hlt)
        have hlt2 : k < m.length := by rw [← HLM.out]; exact hlt
        by_cases hxy : x = y
        · subst hxy
          go_wp2
          go_quiet (fail)
          go_wp2
          go_roundw
          case rel =>
            refine ⟨k + 1, _, by omega, by go_num, rfl, rfl, ?_⟩
            have h1 := hr.out
            have e1 : l[k] = x := by rw [HX.out]; simp [List.getD, hlt]
            have e2 : m[k] = x := by rw [HY.out]; simp [List.getD, hlt2]
            show l.take (k + 1) = m.take (k + 1)
            rw [List.take_succ_eq_append_getElem hlt, List.take_succ_eq_append_getElem hlt2, h1, e1, e2]
          case measure => simp [intOf]; omega
        · have hn : ((x.toNat : Int) != (y.toNat : Int)) = true := by
            rw [bne_iff_ne]; intro e; exact hxy (UInt8.toNat_inj.1 (by omega))
          have HN := Lib.hid hxy; clear hxy
          go_wp2
          go_quiet (fail)
          go_wp2
          go_ret
          exact ⟨ret_bool (ne_of_getD (k := k) (by rw [← HX.out, ← HY.out]; exact HN.out)).symm, _, World.drewN_drewN ..⟩
      · go_wp2
        go_ret
        refine ⟨ret_bool ?_, _, rfl⟩
        have h1 := hr.out
        rw [List.take_of_length_le (by omega), List.take_of_length_le (by rw [← HLM.out]; omega)] at h1
        simp [h1]
  · have hne : ((l.length : Int) != (m.length : Int)) = true := by rw [bne_iff_ne]; omega
    have HLM := Lib.hid hlm; clear hlm
    go_enter Try.func30, Try.ntmps30
    go_wp2
    go_ret
    refine ⟨ret_bool ?_, 0, rfl⟩
    symm; rw [beq_eq_false_iff_ne]; intro e; exact HLM.out (by rw [e])

theorem Try.infoU8 : (Try.prog.info? 5).map (fun i => (i.zero, i.size, i.bytes)) = some (some (.int .u8 0), 1, 1) := by kernel_rfl
theorem Try.sizeU8 : (Try.prog.info? 5).map (·.size) = some 1 := by kernel_rfl

set_option maxRecDepth 100000 in
set_option maxHeartbeats 400000 in
theorem roomy (a : Option Addr) (ca : Nat) (l : List UInt8) (w : World) (hl : l.length ≤ 1000000) (ha : Bs w a l) :
    Calls Try.prog 10 #[.slice a l.length ca] w fun e w' => e = .returned (.slice (some ⟨w.heap.size, 0, none⟩) l.length (l.length + 2)) ∧
      w'.heap[w.heap.size]? = some (.cells (bv (l ++ [71, 72])).toArray 5 (0, 0)) ∧ Keeps w w' := by
  have hmk := run_make_row' (P := Try.prog) 22 5 (.int .u8 0) 1 Try.underlying22 Try.infoU8 rfl .i64 .i64 (l.length + 2) (by omega) (by omega)
  rw [show ((l.length + 2 : Nat) : Int) = (l.length : Int) + 2 from by omega] at hmk
  have hsz := Try.sizeU8
  go_enter Try.func10, Try.ntmps10
  go_wp2_with (with_reducible refine wpList_copy_splice rfl (.tmp 10) (.tmp 11) 22 22 rfl 5 Try.underlying22 hsz _ _ _ _ _ _ rfl rfl w.heap.size 0 (madeCells #[.int .u8 0] (l.length + 2)).toList 5 ?c1 (bv l) ?c2 ?c3 ?c4 ?c5 w.heap.size w ?c6 (Nat.le_refl _) ?_)
  case c1 => rw [heap_alloc_new]
  case c2 => rw [bv_length]; show _ = min _ _; omega
  case c3 => exact fun h => (ha.keep ((Keeps.refl w).alloc _)).src (by simpa using h)
  case c4 => simp [size_madeCells]
  case c5 => exact bv_cell1 l
  case c6 => exact (Keeps.refl w).alloc _
  intro w1 H1 K1
  have hsp : splice (madeCells #[Value.int .u8 0] (l.length + 2)).toList 0 (bv l) = bv l ++ [Value.int .u8 0, Value.int .u8 0] := by
    rw [toList_madeCells_one, splice]; simp only [List.take_zero, List.nil_append, Nat.zero_add, bv_length, List.drop_replicate]; rw [show l.length + 2 - l.length = 2 from by omega]; rfl
  have H2 : w1.heap[w.heap.size]? = some (.cells (bv l ++ [Value.int .u8 0, Value.int .u8 0]).toArray 5 (0, 0)) := by rw [← hsp]; exact H1.out
  have c1 : w1.cell? ⟨w.heap.size, l.length, none⟩ = some (.int .u8 0) := by rw [cell_of_row _ _ _ _ _ _ H2]; simp
  have c2 : w1.cell? ⟨w.heap.size, l.length + 1, none⟩ = some (.int .u8 0) := by rw [cell_of_row _ _ _ _ _ _ H2]; simp
  have f1 : w1.frozen? ⟨w.heap.size, l.length, none⟩ = false := frozen_of_row _ _ _ _ _ H2
  have f2 : w1.frozen? ⟨w.heap.size, l.length + 1, none⟩ = false := frozen_of_row _ _ _ _ _ H2
  have HB := Lib.hid H2
  clear H1 H2 hsp hmk
  go_wp2
  go_ret
  refine ⟨rfl, ?_, ?_⟩
  · rw [heap_setCell_same _ _ _ _ _ _ (heap_setCell_same _ _ _ _ _ _ HB.out)]
    simp [bv]
  · exact (K1.setCell (Nat.le_refl _) _).setCell (Nat.le_refl _) _
theorem bv_set (m : List UInt8) (i : Nat) (y : UInt8) : (bv m).toArray.setIfInBounds i (.int .u8 (y.toNat : Int)) = (bv (m.set i y)).toArray := by
  simp [bv, List.map_set]

set_option maxRecDepth 100000 in
set_option maxHeartbeats 1000000 in
theorem still (g : Nat) (b : Option Addr) (cb : Nat) (l : List UInt8) (w : World) (hl : l.length ≤ 1000000) (hg : w.heap[g]? = some (.cells (bv (l ++ [71, 72])).toArray 5 (0, 0))) (hb : Bs w b l) :
    Calls Try.prog 13 #[.slice (some ⟨g, 0, none⟩) l.length (l.length + 2), .slice b l.length cb] w fun e w' => e = .returned (.bool true) ∧ w.grownBy w' (some g) := by
  have hr : Bs w (some ⟨g, 0, none⟩) l := Bs.of_block hg (fun j hj => by rw [Nat.zero_add, bv_get? _ _ (by simp; omega)]; simp [List.getD, hj, List.getElem?_append_left hj])
  have c1 : w.cell? ⟨g, l.length, none⟩ = some (.int .u8 71) := by rw [cell_of_row _ _ _ _ _ _ hg]; simp [bv]
  have c2 : w.cell? ⟨g, l.length + 1, none⟩ = some (.int .u8 72) := by rw [cell_of_row _ _ _ _ _ _ hg]; simp [bv]
  have HG := Lib.hid hg; clear hg
  go_enter Try.func13, Try.ntmps13
  go_wp2_with fail
  (with_reducible refine (same _ _ _ _ _ _ _ (by omega) (by omega) hr hb).mono ?_)
  rintro e w' ⟨rfl, n, rfl⟩
  have hll : (l == l) = true := by simp
  go_wp2
  go_loopw [8] (fun i wr => ∃ (k : Nat) (m : List UInt8), k ≤ l.length + 2 ∧ i = .int .i64 k ∧ m.length = l.length + 2 ∧ wr.heap[g]? = some (.cells (bv m).toArray 5 (0, 0)) ∧ w.grownBy wr (some g)) (fun i _ => l.length + 2 - (intOf i).toNat)
  case atStart => exact ⟨0, l ++ [71, 72], by omega, rfl, by simp, HG.out, ⟨rfl, rfl, rfl, Nat.le_refl _, fun _ _ _ => rfl⟩⟩
  case round =>
    obtain ⟨k, m, hk, rfl, hm, hgr, hgrown⟩ := hrel
    by_cases hlt : k < l.length + 2
    · have hcell : wr.cell? ⟨g, k, none⟩ = some (.int .u8 ((m.getD k 0).toNat : Int)) := by rw [cell_of_row _ _ _ _ _ _ hgr]; simpa using bv_get? m k (by omega)
      have hfz : wr.frozen? ⟨g, k, none⟩ = false := frozen_of_row _ _ _ _ _ hgr
      obtain ⟨x, hx⟩ : ∃ x, x = m.getD k 0 := ⟨_, rfl⟩
      rw [← hx] at hcell
      have HGR := Lib.hid hgr; clear hgr hx
      have HM := Lib.hid hm; clear hm
      have hbx := byte_lt x
      go_wp2
      go_roundw
      case rel =>
        refine ⟨k + 1, m.set k (x ^^^ 85), by omega, by go_num, by rw [List.length_set]; exact HM.out, ?_, ?_⟩
        · rw [heap_setCell_same _ _ _ _ _ _ HGR.out, ← bv_set]
          rw [show (85 : Int) = ((85 : Nat) : Int) from rfl, u8_xor_nat _ _ (by omega) (by omega), UInt8.toNat_xor]; rfl
        · exact ⟨hgrown.os, hgrown.tape, hgrown.output, by simpa [World.setCell] using hgrown.size, fun j hj hne => by rw [heap_setCell_other _ _ _ _ (by simpa using fun e => hne (by rw [e]))]; exact hgrown.block j hj hne⟩
      case measure => simp [intOf]; omega
    · have HGR := Lib.hid hgr; clear hgr
      have HM := Lib.hid hm; clear hm
      go_wp2
      go_ret
      exact ⟨rfl, hgrown⟩

end Go.Proofs.Ytknphdcjopaaoaa
