/- The program's SHA-1: one block. -/
import Derived.Test.YtknphdcjopaaoaaShaSmall
import Derived.Test.YtknphdcjopaaoaaArr
import Derived.Laws.EntriesVeiled
import Derived.Deep.DeepCutAuto
import Derived.Deep.Light
import Derived.Deep.CutBlock
import Derived.StillTailTactics
import Derived.IntWalk
namespace Go.Proofs.Ytknphdcjopaaoaa
open Go.RowKit
set_option linter.unusedVariables false

def mixCells : List Value := [.func (.func 55) #[] #[], .int .u32 1518500249, .func (.func 56) #[] #[], .int .u32 1859775393, .func (.func 57) #[] #[], .int .u32 2400959708, .func (.func 58) #[] #[], .int .u32 3395469782]

set_option maxRecDepth 100000 in
theorem mixes (w : World) : Calls Try.prog 46 #[] w fun e w' => e = .returned (.agg #[.func (.func 55) #[] #[], .int .u32 1518500249, .func (.func 56) #[] #[], .int .u32 1859775393, .func (.func 57) #[] #[], .int .u32 2400959708, .func (.func 58) #[] #[], .int .u32 3395469782]) ∧ Keeps w w' := by
  go_enter Try.func46, Try.ntmps46
  go_wp2
  refine bodyPost_ret (v := .agg #[.func (.func 55) #[] #[], .int .u32 1518500249, .func (.func 56) #[] #[], .int .u32 1859775393, .func (.func 57) #[] #[], .int .u32 2400959708, .func (.func 58) #[] #[], .int .u32 3395469782]) (by simp [results, Try.results46, go_sem]) rfl ⟨rfl, ?_⟩
  exact (Keeps.refl w).alloc _

theorem still_of {P : Program} {f : FuncId} {args : Array Value} {w : World} {v : Value} (h : Calls P f args w fun e w' => e = .returned v ∧ w = w') : Calls P f args w fun e w'' => e = .returned v ∧ w'' = w :=
  h.mono fun _ _ ⟨he, hm⟩ => ⟨he, hm.symm⟩

def Z80' : Array Value := (zs32 80).toArray
theorem Try.zero80' (w : World) : (zeroValue 92).run Try.prog w = .ok (.agg Z80') w := by kernel_rfl
theorem Try.infoU32 : (Try.prog.info? 24).map (·.size) = some 1 := by kernel_rfl

/-- An array that was read whole, indexed. -/
theorem run_index_words (L : List Nat) (i : Nat) (hi : i < 80) (hL : L.length = 80) (w : World) : (Instr.index 92 (.agg (u32v L).toArray) (.int .i64 (i : Int))).run Try.prog w = .ok (.int .u32 ((L.getD i 0 : Nat) : Int)) w := by
  have h1 : ∀ w : World, (isAgg 24).run Try.prog w = .ok false w := fun w => by kernel_rfl
  have h2 : ∀ w : World, (sizeOf 24).run Try.prog w = .ok 1 w := fun w => by kernel_rfl
  have h3 : (0 : Int) ≤ i ∧ (i : Int) < 80 := by omega
  simp [Instr.index, run_underlying Try.underlying92, asIntOf, h2, part, h1, go_sem]
  have h5 : (u32v L)[i]? = some (.int .u32 ((L.getD i 0 : Nat) : Int)) := u32v_get? L i (by omega)
  rw [if_pos hi, h5]; simp

set_option maxRecDepth 100000 in
set_option maxHeartbeats 8000000 in
theorem block (g : Nat) (h : V5) (vr vs : Value) (a : Option Addr) (cap : Nat) (p : List UInt8) (w : World) (hh : h.ok) (hb : Bs w a p) (hp : p.length = 64) (hd : Arr w g 56 (u32v h.list ++ [vr, vs])) :
    Calls Try.prog 32 #[.pointer (some ⟨g, 0, none⟩), .slice a 64 cap] w fun e w' =>
      e = .returned (.tuple #[]) ∧ Arr w' g 56 (u32v (blk h p).list ++ [vr, vs]) ∧ w.grownBy w' (some g) := by
  have HP := Lib.hid hp
  have hz := Try.zero80'
  clear hp
  go_enter Try.func32, Try.ntmps32
  go_upto_block 0 with (fail)
  have h2 : Arr (w.alloc (.cells Z80' 92)) w.heap.size 92 (zs32 80) := Arr.newAt _ _ _ _ (by simp)
  have hk0 : Keeps w (w.alloc (.cells Z80' 92)) := (Keeps.refl w).alloc _
  go_cut [] (fun wc => Arr wc w.heap.size 92 (u32v (wl p 80) ++ zs32 (80 - 80)) ∧ Keeps w wc)
  case first =>
    go_wp2
    go_loopw [5, 13] (fun _ i wr => ∃ k : Nat, k ≤ 80 ∧ i = .int .i64 k ∧ Arr wr w.heap.size 92 (u32v (wl p k) ++ zs32 (80 - k)) ∧ Keeps w wr) (fun _ i _ => 80 - (intOf i).toNat)
    case atStart => exact ⟨0, by omega, rfl, h2, hk0⟩
    case round =>
      clear h2 hk0
      obtain ⟨k, hk, rfl, h2, hk0⟩ := hrel
      by_cases hlt : k < 80
      · have hc : wr.cell? ⟨w.heap.size, k, none⟩ = some (.int .u32 0) := by rw [h2.cell]; exact wl_cell p k (by omega)
        have hf := h2.frozen k
        have hki : (k : Int) < 80 := by omega
        by_cases h16 : k < 16
        · have hp := HP.out
          obtain ⟨b, off, x0, rfl, hc0, hx0, HX0⟩ := (hb.keep hk0).at (j := 4 * k) (by omega)
          obtain ⟨x1, hc1, hx1, HX1⟩ := (hb.keep hk0).at' (j := 4 * k + 1) (by omega)
          obtain ⟨x2, hc2, hx2, HX2⟩ := (hb.keep hk0).at' (j := 4 * k + 2) (by omega)
          obtain ⟨x3, hc3, hx3, HX3⟩ := (hb.keep hk0).at' (j := 4 * k + 3) (by omega)
          clear hp
          have s0 : IntKind.i64.wrap (4 * (k : Int)) = 4 * (k : Int) := IntWalk.i64_in _ (by omega)
          have s1 : IntKind.i64.wrap (4 * (k : Int) + 1) = 4 * (k : Int) + 1 := IntWalk.i64_in _ (by omega)
          have s2 : IntKind.i64.wrap (4 * (k : Int) + 2) = 4 * (k : Int) + 2 := IntWalk.i64_in _ (by omega)
          have s3 : IntKind.i64.wrap (4 * (k : Int) + 3) = 4 * (k : Int) + 3 := IntWalk.i64_in _ (by omega)
          have t0 : (4 * (k : Int)).toNat = 4 * k := by omega
          have t1 : (4 * (k : Int) + 1).toNat = 4 * k + 1 := by omega
          have t2 : (4 * (k : Int) + 2).toNat = 4 * k + 2 := by omega
          have t3 : (4 * (k : Int) + 3).toNat = 4 * k + 3 := by omega
          have g0 : (4 * (k : Int)) < 64 := by omega
          have g1 : (4 * (k : Int) + 1) < 64 := by omega
          have g2 : (4 * (k : Int) + 2) < 64 := by omega
          have g3 : (4 * (k : Int) + 3) < 64 := by omega
          have p0 : 0 ≤ (4 * (k : Int)) := by omega
          have p1 : 0 ≤ (4 * (k : Int) + 1) := by omega
          have p2 : 0 ≤ (4 * (k : Int) + 2) := by omega
          have p3 : 0 ≤ (4 * (k : Int) + 3) := by omega
          go_upto_region 5 with (fail)
          go_still_tail 35, (by kernel_rfl)
          go_wp2
          go_roundw
          case rel =>
            go_light
            refine ⟨k + 1, by omega, by go_num, ?_, Below.drew (Below.setCell hk0 (Nat.le_refl _) _)⟩
            have h5 := Arr.set h2 k (.int .u32 ((num4 p (4 * k) : Nat) : Int))
            rw [wl_set p k _ hlt (by unfold wnext; rw [if_pos h16])] at h5
            have e : ((num4 p (4 * k) : Nat) : Int) = bits .or .u32 (bits .or .u32 (bits .or .u32 ((x0.toNat : Int) * 16777216) ((x1.toNat : Int) * 65536)) ((x2.toNat : Int) * 256)) (x3.toNat : Int) := by
              rw [num4_val]; unfold num4; rw [← HX0.out, ← HX1.out, ← HX2.out, ← HX3.out]
            rw [e] at h5
            exact h5
          case measure => simp [intOf]; omega
        · have r3 : wr.cell? ⟨w.heap.size, k - 3, none⟩ = some (.int .u32 (((wl p k).getD (k - 3) 0 : Nat) : Int)) := by rw [h2.cell]; exact wl_read p k _ (by omega)
          have r8 : wr.cell? ⟨w.heap.size, k - 8, none⟩ = some (.int .u32 (((wl p k).getD (k - 8) 0 : Nat) : Int)) := by rw [h2.cell]; exact wl_read p k _ (by omega)
          have r14 : wr.cell? ⟨w.heap.size, k - 14, none⟩ = some (.int .u32 (((wl p k).getD (k - 14) 0 : Nat) : Int)) := by rw [h2.cell]; exact wl_read p k _ (by omega)
          have r16 : wr.cell? ⟨w.heap.size, k - 16, none⟩ = some (.int .u32 (((wl p k).getD (k - 16) 0 : Nat) : Int)) := by rw [h2.cell]; exact wl_read p k _ (by omega)
          have hn : wnext p (wl p k) k = rot ((((wl p k).getD (k - 3) 0 ^^^ (wl p k).getD (k - 8) 0) ^^^ (wl p k).getD (k - 14) 0) ^^^ (wl p k).getD (k - 16) 0) 1 := by unfold wnext; rw [if_neg (by omega)]
          have b3 := wl_getD_lt p k (k - 3)
          have b8 := wl_getD_lt p k (k - 8)
          have b14 := wl_getD_lt p k (k - 14)
          have b16 := wl_getD_lt p k (k - 16)
          generalize (wl p k).getD (k - 3) 0 = x3 at *
          generalize (wl p k).getD (k - 8) 0 = x8 at *
          generalize (wl p k).getD (k - 14) 0 = x14 at *
          generalize (wl p k).getD (k - 16) 0 = x16 at *
          have HN := Lib.hid hn; clear hn
          have s3 : IntKind.i64.wrap ((k : Int) - 3) = (k : Int) - 3 := IntWalk.i64_in _ (by omega)
          have t3 : ((k : Int) - 3).toNat = k - 3 := by omega
          have g3 : ((k : Int) - 3) < 80 := by omega
          have p3 : (3 : Int) ≤ k := by omega
          have s8 : IntKind.i64.wrap ((k : Int) - 8) = (k : Int) - 8 := IntWalk.i64_in _ (by omega)
          have t8 : ((k : Int) - 8).toNat = k - 8 := by omega
          have g8 : ((k : Int) - 8) < 80 := by omega
          have p8 : (8 : Int) ≤ k := by omega
          have s14 : IntKind.i64.wrap ((k : Int) - 14) = (k : Int) - 14 := IntWalk.i64_in _ (by omega)
          have t14 : ((k : Int) - 14).toNat = k - 14 := by omega
          have g14 : ((k : Int) - 14) < 80 := by omega
          have p14 : (14 : Int) ≤ k := by omega
          have s16 : IntKind.i64.wrap ((k : Int) - 16) = (k : Int) - 16 := IntWalk.i64_in _ (by omega)
          have t16 : ((k : Int) - 16).toNat = k - 16 := by omega
          have g16 : ((k : Int) - 16) < 80 := by omega
          have p16 : (16 : Int) ≤ k := by omega
          go_upto_region 6 with (fail)
          go_still_tail 22, (by kernel_rfl)
          refine wpStill_step (fun K hK => ?_)
          go_simp
          rw [xor4_val _ _ _ _ b3 b8 b14 b16]
          refine ⟨_, still_of (rotate _ _ _ (u32_xor_lt (u32_xor_lt (u32_xor_lt b3 b8) b14) b16) (.inl rfl)), hK _ ?_⟩
          clear hK K
          repeat still_step
          refine wpStill_nil ?_
          go_wp2
          go_roundw
          case rel =>
            go_light
            refine ⟨k + 1, by omega, by go_num, ?_, Below.drew (Below.setCell hk0 (Nat.le_refl _) _)⟩
            have h5 := Arr.set h2 k (.int .u32 ((rot (((x3 ^^^ x8) ^^^ x14) ^^^ x16) 1 : Nat) : Int))
            rw [wl_set p k _ hlt HN.out.symm] at h5
            exact h5
          case measure => simp [intOf]; omega
      · have HK := Lib.hid (show k = 80 by omega)
        rw [HK.out] at h2
        go_wp2
        go_meet
        case rel => exact ⟨h2, hk0⟩
  case rest =>
    clear h2 hk0
    obtain ⟨h2, hk0⟩ := hcut
    obtain ⟨wb, rfl⟩ : ∃ wb : World, wb = wc := ⟨_, rfl⟩
    have hgw : g < w.heap.size := hd.lt
    have hdc : Arr wb g 56 (u32v h.list ++ [vr, vs]) := hd.keep hk0
    have c0 : wb.cell? ⟨g, 0, none⟩ = some (.int .u32 h.a) := hdc.cell 0
    have c1 : wb.cell? ⟨g, 1, none⟩ = some (.int .u32 h.b) := hdc.cell 1
    have c2 : wb.cell? ⟨g, 2, none⟩ = some (.int .u32 h.c) := hdc.cell 2
    have c3 : wb.cell? ⟨g, 3, none⟩ = some (.int .u32 h.d) := hdc.cell 3
    have c4 : wb.cell? ⟨g, 4, none⟩ = some (.int .u32 h.e) := hdc.cell 4
    go_wp2_with fail
    (with_reducible refine (mixes _).mono ?_)
    rintro e w2 ⟨rfl, hk2⟩
    have hv0 : Arr w2 wb.heap.size 53 (u32v h.list) := Arr.keep (Arr.new wb #[.int .u32 h.a, .int .u32 h.b, .int .u32 h.c, .int .u32 h.d, .int .u32 h.e] 53) hk2
    have h22 : Arr w2 w.heap.size 92 (u32v (wl p 80) ++ zs32 (80 - 80)) := (h2.alloc _).keep hk2
    have hk3 : Keeps w w2 := (hk0.alloc _).trans hk2
    have hsz : wb.heap.size < w2.heap.size := hv0.lt
    have hle : w.heap.size ≤ wb.heap.size := Below.size hk0
    have hwl : wb.heap.size ≠ w.heap.size := fun e => absurd h2.lt (by omega)
    clear h2 hk0 hk2 hdc c0 c1 c2 c3 c4
    have hwl2 : zs32 (80 - 80) = [] := rfl
    have hmx0 : Arr (w2.alloc (.cells #[.func (.func 55) #[] #[], .int .u32 1518500249, .func (.func 56) #[] #[], .int .u32 1859775393, .func (.func 57) #[] #[], .int .u32 2400959708, .func (.func 58) #[] #[], .int .u32 3395469782] 97)) w2.heap.size 97 mixCells := Arr.new _ _ _
    have hv1 := hv0.alloc (.cells #[.func (.func 55) #[] #[], .int .u32 1518500249, .func (.func 56) #[] #[], .int .u32 1859775393, .func (.func 57) #[] #[], .int .u32 2400959708, .func (.func 58) #[] #[], .int .u32 3395469782] 97)
    have h23 := h22.alloc (.cells #[.func (.func 55) #[] #[], .int .u32 1518500249, .func (.func 56) #[] #[], .int .u32 1859775393, .func (.func 57) #[] #[], .int .u32 2400959708, .func (.func 58) #[] #[], .int .u32 3395469782] 97)
    have hk4 := hk3.alloc (.cells #[.func (.func 55) #[] #[], .int .u32 1518500249, .func (.func 56) #[] #[], .int .u32 1859775393, .func (.func 57) #[] #[], .int .u32 2400959708, .func (.func 58) #[] #[], .int .u32 3395469782] 97)
    rw [hwl2, List.append_nil] at h23
    unfold Arr at h23
    go_upto_block 2 with (with_reducible refine wpList_load_row rfl 92 _ rfl w.heap.size rfl 92 (u32v (wl p 80)).toArray (0, 0) _ h23 Try.underlying92 rfl (by rw [List.size_toArray, u32v_length, wl_length]; kernel_rfl) ?_)
    clear h22 h23 hwl2 hv0 hk3
    have hidx := fun (i : Nat) (hi : i < 80) (w : World) => run_index_words (wl p 80) i hi (wl_length p 80) w
    have HI := Lib.hid hidx; clear hidx
    go_cut [] (fun wr => Arr wr wb.heap.size 53 (u32v (rnds 0 h (wl p 80)).list) ∧ Keeps w wr)
    case first =>
      generalize hW : (u32v (wl p 80)).toArray = WA at *
      have HW := Lib.hid hW; clear hW
      go_wp2
      go_loopw [8, 9, 10, 11, 82] (fun _ _ _ _ i wr => ∃ (i' : Nat) (v : V5), i' ≤ 80 ∧ i = .int .i64 i' ∧ v.ok ∧ Arr wr wb.heap.size 53 (u32v v.list) ∧ RndsAt p h i' v ∧ Arr wr w2.heap.size 97 mixCells ∧ Keeps w wr) (fun _ _ _ _ i _ => 80 - (intOf i).toNat)
      case atStart => exact ⟨0, h, by omega, rfl, hh, hv1, RndsAt.zero p h, hmx0, hk4⟩
      case round =>
        clear hv1 hmx0 hk4
        obtain ⟨i, v, hi, rfl, hv, hva, hr, hmx, hk⟩ := hrel
        by_cases hlt : i < 80
        · obtain ⟨c0, c1, c2, c3, c4⟩ := hva.five
          have f0 := hva.frozen 0
          have f1 := hva.frozen 1
          have f2 := hva.frozen 2
          have f3 := hva.frozen 3
          have f4 := hva.frozen 4
          have hx := HI.out i hlt
          have bw := wl_getD_lt p 80 i
          have HR := hr.succ hlt; clear hr
          generalize (wl p 80).getD i 0 = x at *
          obtain ⟨va, vb, vc, vd, ve⟩ := v
          obtain ⟨ba, bb, bc, bd, be⟩ := hv
          simp only at ba bb bc bd be c0 c1 c2 c3 c4
          have hs1 : wb.heap.size < wr.heap.size := hva.lt
          have hs2 : w2.heap.size < wr.heap.size := hmx.lt
          rcases (show i < 20 ∨ (20 ≤ i ∧ i < 40) ∨ (40 ≤ i ∧ i < 60) ∨ 60 ≤ i from by omega) with hq | ⟨hq, hq2⟩ | ⟨hq, hq2⟩ | hq
          · have hq20 : (i : Int) / 20 = 0 := by omega
            have hm0 : wr.cell? ⟨w2.heap.size, 0, none⟩ = some (.func (.func 55) #[] #[]) := hmx.cell 0
            have hm1 : wr.cell? ⟨w2.heap.size, 1, none⟩ = some (.int .u32 1518500249) := hmx.cell 1
            have hrt : rtemp i ⟨va, vb, vc, vd, ve⟩ x = ((((rot va 5 + sf1 vb vc vd) % 4294967296 + ve) % 4294967296 + 1518500249) % 4294967296 + x) % 4294967296 := by unfold rtemp; rw [sff1 hq, skk1 hq]
            have HT := Lib.hid hrt; clear hrt
            go_upto_region 14 with (fail)
            go_cut [11] (fun t wq => t = .int .u32 (rtemp i ⟨va, vb, vc, vd, ve⟩ x : Nat) ∧ Arr wq wb.heap.size 53 (u32v (V5.list ⟨va, vb, vc, vd, ve⟩)) ∧ Arr wq w2.heap.size 97 mixCells ∧ Keeps w wq)
            case first =>
              go_quiet ((first | (go_at_call 45; exact quiet_left (rotate _ _ _ ba (.inr (.inl rfl)))) | (go_at_call 55; exact quiet_left (mix1 _ _ _ _ bb bc bd))))
              go_wp2
              go_meet
              case rel =>
                go_light
                refine ⟨?_, (hva.alloc _).drewN _, (hmx.alloc _).drewN _, (hk.alloc _).drewN _⟩
                have e2 : ((rtemp i ⟨va, vb, vc, vd, ve⟩ x : Nat) : Int) = (((rot va 5 : Nat) : Int) + (sf1 vb vc vd : Nat) + ve + 1518500249 + x) % 4294967296 := by rw [HT.out]; omega
                rw [e2]
                exact congrArg (Value.int .u32) (by omega)
            case rest =>
              clear c0 c1 c2 c3 c4 f0 f1 f2 f3 f4 hva hmx hk hm0 hm1
              obtain ⟨rfl, hva, hmx, hk⟩ := hcut
              obtain ⟨c0, c1, c2, c3, c4⟩ := hva.five
              have f0 := hva.frozen 0
              have f1 := hva.frozen 1
              have f2 := hva.frozen 2
              have f3 := hva.frozen 3
              have f4 := hva.frozen 4
              generalize hT : rtemp i ⟨va, vb, vc, vd, ve⟩ x = T at *
              have HT2 := Lib.hid hT; clear hT
              go_upto_region 15 with (fail)
              go_still_tail 11, (by kernel_rfl)
              still_call (still_of (rotate _ _ _ bb (.inr (.inr rfl))))
              repeat still_step
              refine wpStill_nil ?_
              go_wp2
              go_roundw
              case rel =>
                go_light
                have n2 : w2.heap.size ≠ wb.heap.size := by omega
                refine ⟨i + 1, rnd i ⟨va, vb, vc, vd, ve⟩ x, by omega, by go_num, rnd_ok i x ⟨ba, bb, bc, bd, be⟩, ?_, HR, ?_, ?_⟩
                · have h5 := (((((hva.set 0 (.int .u32 T)).set 1 (.int .u32 va)).set 2 (.int .u32 (rot vb 30 : Nat))).set 3 (.int .u32 vc)).set 4 (.int .u32 vd)).drew
                  have e3 : u32v (rnd i ⟨va, vb, vc, vd, ve⟩ x).list = [.int .u32 T, .int .u32 va, .int .u32 (rot vb 30 : Nat), .int .u32 vc, .int .u32 vd] := by rw [← HT2.out]; rfl
                  rw [e3]
                  exact h5
                · exact (((((hmx.other _ _ n2).other _ _ n2).other _ _ n2).other _ _ n2).other _ _ n2).drew
                · exact Below.drew (Below.setCell (Below.setCell (Below.setCell (Below.setCell (Below.setCell hk (p := ⟨wb.heap.size, 0, none⟩) hle _) (p := ⟨wb.heap.size, 1, none⟩) hle _) (p := ⟨wb.heap.size, 2, none⟩) hle _) (p := ⟨wb.heap.size, 3, none⟩) hle _) (p := ⟨wb.heap.size, 4, none⟩) hle _)
              case measure => simp [intOf]; omega
          · have hq20 : (i : Int) / 20 = 1 := by omega
            have hm0 : wr.cell? ⟨w2.heap.size, 2, none⟩ = some (.func (.func 56) #[] #[]) := hmx.cell 2
            have hm1 : wr.cell? ⟨w2.heap.size, 3, none⟩ = some (.int .u32 1859775393) := hmx.cell 3
            have hrt : rtemp i ⟨va, vb, vc, vd, ve⟩ x = ((((rot va 5 + sf2 vb vc vd) % 4294967296 + ve) % 4294967296 + 1859775393) % 4294967296 + x) % 4294967296 := by unfold rtemp; rw [sff2 hq hq2, skk2 hq hq2]
            have HT := Lib.hid hrt; clear hrt
            go_upto_region 14 with (fail)
            go_cut [11] (fun t wq => t = .int .u32 (rtemp i ⟨va, vb, vc, vd, ve⟩ x : Nat) ∧ Arr wq wb.heap.size 53 (u32v (V5.list ⟨va, vb, vc, vd, ve⟩)) ∧ Arr wq w2.heap.size 97 mixCells ∧ Keeps w wq)
            case first =>
              go_quiet ((first | (go_at_call 45; exact quiet_left (rotate _ _ _ ba (.inr (.inl rfl)))) | (go_at_call 56; exact quiet_left (mix2 _ _ _ _ bb bc bd))))
              go_wp2
              go_meet
              case rel =>
                go_light
                refine ⟨?_, (hva.alloc _).drewN _, (hmx.alloc _).drewN _, (hk.alloc _).drewN _⟩
                have e2 : ((rtemp i ⟨va, vb, vc, vd, ve⟩ x : Nat) : Int) = (((rot va 5 : Nat) : Int) + (sf2 vb vc vd : Nat) + ve + 1859775393 + x) % 4294967296 := by rw [HT.out]; omega
                rw [e2]
                exact congrArg (Value.int .u32) (by omega)
            case rest =>
              clear c0 c1 c2 c3 c4 f0 f1 f2 f3 f4 hva hmx hk hm0 hm1
              obtain ⟨rfl, hva, hmx, hk⟩ := hcut
              obtain ⟨c0, c1, c2, c3, c4⟩ := hva.five
              have f0 := hva.frozen 0
              have f1 := hva.frozen 1
              have f2 := hva.frozen 2
              have f3 := hva.frozen 3
              have f4 := hva.frozen 4
              generalize hT : rtemp i ⟨va, vb, vc, vd, ve⟩ x = T at *
              have HT2 := Lib.hid hT; clear hT
              go_upto_region 15 with (fail)
              go_still_tail 11, (by kernel_rfl)
              still_call (still_of (rotate _ _ _ bb (.inr (.inr rfl))))
              repeat still_step
              refine wpStill_nil ?_
              go_wp2
              go_roundw
              case rel =>
                go_light
                have n2 : w2.heap.size ≠ wb.heap.size := by omega
                refine ⟨i + 1, rnd i ⟨va, vb, vc, vd, ve⟩ x, by omega, by go_num, rnd_ok i x ⟨ba, bb, bc, bd, be⟩, ?_, HR, ?_, ?_⟩
                · have h5 := (((((hva.set 0 (.int .u32 T)).set 1 (.int .u32 va)).set 2 (.int .u32 (rot vb 30 : Nat))).set 3 (.int .u32 vc)).set 4 (.int .u32 vd)).drew
                  have e3 : u32v (rnd i ⟨va, vb, vc, vd, ve⟩ x).list = [.int .u32 T, .int .u32 va, .int .u32 (rot vb 30 : Nat), .int .u32 vc, .int .u32 vd] := by rw [← HT2.out]; rfl
                  rw [e3]
                  exact h5
                · exact (((((hmx.other _ _ n2).other _ _ n2).other _ _ n2).other _ _ n2).other _ _ n2).drew
                · exact Below.drew (Below.setCell (Below.setCell (Below.setCell (Below.setCell (Below.setCell hk (p := ⟨wb.heap.size, 0, none⟩) hle _) (p := ⟨wb.heap.size, 1, none⟩) hle _) (p := ⟨wb.heap.size, 2, none⟩) hle _) (p := ⟨wb.heap.size, 3, none⟩) hle _) (p := ⟨wb.heap.size, 4, none⟩) hle _)
              case measure => simp [intOf]; omega
          · have hq20 : (i : Int) / 20 = 2 := by omega
            have hm0 : wr.cell? ⟨w2.heap.size, 4, none⟩ = some (.func (.func 57) #[] #[]) := hmx.cell 4
            have hm1 : wr.cell? ⟨w2.heap.size, 5, none⟩ = some (.int .u32 2400959708) := hmx.cell 5
            have hrt : rtemp i ⟨va, vb, vc, vd, ve⟩ x = ((((rot va 5 + sf3 vb vc vd) % 4294967296 + ve) % 4294967296 + 2400959708) % 4294967296 + x) % 4294967296 := by unfold rtemp; rw [sff3 hq hq2, skk3 hq hq2]
            have HT := Lib.hid hrt; clear hrt
            go_upto_region 14 with (fail)
            go_cut [11] (fun t wq => t = .int .u32 (rtemp i ⟨va, vb, vc, vd, ve⟩ x : Nat) ∧ Arr wq wb.heap.size 53 (u32v (V5.list ⟨va, vb, vc, vd, ve⟩)) ∧ Arr wq w2.heap.size 97 mixCells ∧ Keeps w wq)
            case first =>
              go_quiet ((first | (go_at_call 45; exact quiet_left (rotate _ _ _ ba (.inr (.inl rfl)))) | (go_at_call 57; exact quiet_left (mix3 _ _ _ _ bb bc bd))))
              go_wp2
              go_meet
              case rel =>
                go_light
                refine ⟨?_, (hva.alloc _).drewN _, (hmx.alloc _).drewN _, (hk.alloc _).drewN _⟩
                have e2 : ((rtemp i ⟨va, vb, vc, vd, ve⟩ x : Nat) : Int) = (((rot va 5 : Nat) : Int) + (sf3 vb vc vd : Nat) + ve + 2400959708 + x) % 4294967296 := by rw [HT.out]; omega
                rw [e2]
                exact congrArg (Value.int .u32) (by omega)
            case rest =>
              clear c0 c1 c2 c3 c4 f0 f1 f2 f3 f4 hva hmx hk hm0 hm1
              obtain ⟨rfl, hva, hmx, hk⟩ := hcut
              obtain ⟨c0, c1, c2, c3, c4⟩ := hva.five
              have f0 := hva.frozen 0
              have f1 := hva.frozen 1
              have f2 := hva.frozen 2
              have f3 := hva.frozen 3
              have f4 := hva.frozen 4
              generalize hT : rtemp i ⟨va, vb, vc, vd, ve⟩ x = T at *
              have HT2 := Lib.hid hT; clear hT
              go_upto_region 15 with (fail)
              go_still_tail 11, (by kernel_rfl)
              still_call (still_of (rotate _ _ _ bb (.inr (.inr rfl))))
              repeat still_step
              refine wpStill_nil ?_
              go_wp2
              go_roundw
              case rel =>
                go_light
                have n2 : w2.heap.size ≠ wb.heap.size := by omega
                refine ⟨i + 1, rnd i ⟨va, vb, vc, vd, ve⟩ x, by omega, by go_num, rnd_ok i x ⟨ba, bb, bc, bd, be⟩, ?_, HR, ?_, ?_⟩
                · have h5 := (((((hva.set 0 (.int .u32 T)).set 1 (.int .u32 va)).set 2 (.int .u32 (rot vb 30 : Nat))).set 3 (.int .u32 vc)).set 4 (.int .u32 vd)).drew
                  have e3 : u32v (rnd i ⟨va, vb, vc, vd, ve⟩ x).list = [.int .u32 T, .int .u32 va, .int .u32 (rot vb 30 : Nat), .int .u32 vc, .int .u32 vd] := by rw [← HT2.out]; rfl
                  rw [e3]
                  exact h5
                · exact (((((hmx.other _ _ n2).other _ _ n2).other _ _ n2).other _ _ n2).other _ _ n2).drew
                · exact Below.drew (Below.setCell (Below.setCell (Below.setCell (Below.setCell (Below.setCell hk (p := ⟨wb.heap.size, 0, none⟩) hle _) (p := ⟨wb.heap.size, 1, none⟩) hle _) (p := ⟨wb.heap.size, 2, none⟩) hle _) (p := ⟨wb.heap.size, 3, none⟩) hle _) (p := ⟨wb.heap.size, 4, none⟩) hle _)
              case measure => simp [intOf]; omega
          · have hq20 : (i : Int) / 20 = 3 := by omega
            have hm0 : wr.cell? ⟨w2.heap.size, 6, none⟩ = some (.func (.func 58) #[] #[]) := hmx.cell 6
            have hm1 : wr.cell? ⟨w2.heap.size, 7, none⟩ = some (.int .u32 3395469782) := hmx.cell 7
            have hrt : rtemp i ⟨va, vb, vc, vd, ve⟩ x = ((((rot va 5 + sf2 vb vc vd) % 4294967296 + ve) % 4294967296 + 3395469782) % 4294967296 + x) % 4294967296 := by unfold rtemp; rw [sff4 hq, skk4 hq]
            have HT := Lib.hid hrt; clear hrt
            go_upto_region 14 with (fail)
            go_cut [11] (fun t wq => t = .int .u32 (rtemp i ⟨va, vb, vc, vd, ve⟩ x : Nat) ∧ Arr wq wb.heap.size 53 (u32v (V5.list ⟨va, vb, vc, vd, ve⟩)) ∧ Arr wq w2.heap.size 97 mixCells ∧ Keeps w wq)
            case first =>
              go_quiet ((first | (go_at_call 45; exact quiet_left (rotate _ _ _ ba (.inr (.inl rfl)))) | (go_at_call 58; exact quiet_left (mix4 _ _ _ _ bb bc bd))))
              go_wp2
              go_meet
              case rel =>
                go_light
                refine ⟨?_, (hva.alloc _).drewN _, (hmx.alloc _).drewN _, (hk.alloc _).drewN _⟩
                have e2 : ((rtemp i ⟨va, vb, vc, vd, ve⟩ x : Nat) : Int) = (((rot va 5 : Nat) : Int) + (sf2 vb vc vd : Nat) + ve + 3395469782 + x) % 4294967296 := by rw [HT.out]; omega
                rw [e2]
                exact congrArg (Value.int .u32) (by omega)
            case rest =>
              clear c0 c1 c2 c3 c4 f0 f1 f2 f3 f4 hva hmx hk hm0 hm1
              obtain ⟨rfl, hva, hmx, hk⟩ := hcut
              obtain ⟨c0, c1, c2, c3, c4⟩ := hva.five
              have f0 := hva.frozen 0
              have f1 := hva.frozen 1
              have f2 := hva.frozen 2
              have f3 := hva.frozen 3
              have f4 := hva.frozen 4
              generalize hT : rtemp i ⟨va, vb, vc, vd, ve⟩ x = T at *
              have HT2 := Lib.hid hT; clear hT
              go_upto_region 15 with (fail)
              go_still_tail 11, (by kernel_rfl)
              still_call (still_of (rotate _ _ _ bb (.inr (.inr rfl))))
              repeat still_step
              refine wpStill_nil ?_
              go_wp2
              go_roundw
              case rel =>
                go_light
                have n2 : w2.heap.size ≠ wb.heap.size := by omega
                refine ⟨i + 1, rnd i ⟨va, vb, vc, vd, ve⟩ x, by omega, by go_num, rnd_ok i x ⟨ba, bb, bc, bd, be⟩, ?_, HR, ?_, ?_⟩
                · have h5 := (((((hva.set 0 (.int .u32 T)).set 1 (.int .u32 va)).set 2 (.int .u32 (rot vb 30 : Nat))).set 3 (.int .u32 vc)).set 4 (.int .u32 vd)).drew
                  have e3 : u32v (rnd i ⟨va, vb, vc, vd, ve⟩ x).list = [.int .u32 T, .int .u32 va, .int .u32 (rot vb 30 : Nat), .int .u32 vc, .int .u32 vd] := by rw [← HT2.out]; rfl
                  rw [e3]
                  exact h5
                · exact (((((hmx.other _ _ n2).other _ _ n2).other _ _ n2).other _ _ n2).other _ _ n2).drew
                · exact Below.drew (Below.setCell (Below.setCell (Below.setCell (Below.setCell (Below.setCell hk (p := ⟨wb.heap.size, 0, none⟩) hle _) (p := ⟨wb.heap.size, 1, none⟩) hle _) (p := ⟨wb.heap.size, 2, none⟩) hle _) (p := ⟨wb.heap.size, 3, none⟩) hle _) (p := ⟨wb.heap.size, 4, none⟩) hle _)
              case measure => simp [intOf]; omega
        · have HK := Lib.hid (show i = 80 by omega)
          rw [HK.out] at hr
          have hva' := hva
          rw [hr.last] at hva'
          clear hva hr
          go_wp2
          go_meet
          case rel => exact ⟨hva', hk⟩
    case rest =>
      clear hv1 hmx0 hk4 HI
      obtain ⟨hva, hk⟩ := hcut
      have hV : (rnds 0 h (wl p 80)).ok := rnds_ok _ _ _ hh
      have hB : blk h p = add5 h (rnds 0 h (wl p 80)) := rfl
      have HB := Lib.hid hB; clear hB
      generalize rnds 0 h (wl p 80) = V at *
      go_wp2
      go_loopw [12, 123] (fun _ i wr => ∃ k : Nat, k ≤ 5 ∧ i = .int .i64 k ∧ Arr wr wb.heap.size 53 (u32v V.list) ∧ Arr wr g 56 (u32v (mix5 h V k) ++ [vr, vs]) ∧ w.grownBy wr (some g)) (fun _ i _ => 5 - (intOf i).toNat)
      case atStart => exact ⟨0, by omega, rfl, hva, hd.keep hk, ⟨hk.os, hk.tape, hk.output, hk.size, fun j hj _ => hk.block j hj⟩⟩
      case round =>
        clear hva hk
        obtain ⟨k, hk, rfl, hva, hdr, hgr⟩ := hrel
        by_cases hlt : k < 5
        · have cv : wr.cell? ⟨wb.heap.size, k, none⟩ = some (.int .u32 ((V.list.getD k 0 : Nat) : Int)) := by rw [hva.cell]; exact list5_get V k hlt
          have ch : wr.cell? ⟨g, k, none⟩ = some (.int .u32 ((h.list.getD k 0 : Nat) : Int)) := by
            rw [hdr.cell, List.getElem?_append_left (by rw [u32v_length, mix5_length]; exact hlt)]; exact mix5_get h V k hlt
          have fh := hdr.frozen k
          have b1 := hV.get k
          have b2 := hh.get k
          have hs := mix5_set h V k hlt
          have HS := Lib.hid hs; clear hs
          generalize V.list.getD k 0 = x at *
          generalize h.list.getD k 0 = y at *
          have hki : (k : Int) < 5 := by omega
          go_upto_region 20 with (fail)
          go_still_tail 13, (by kernel_rfl)
          go_wp2
          go_roundw
          case rel =>
            go_light
            have ne1 : wb.heap.size ≠ g := by omega
            refine ⟨k + 1, by omega, by go_num, (hva.other _ _ ne1).drew, ?_, ?_⟩
            · have h5 := (hdr.set k (.int .u32 (((y + x) % 4294967296 : Nat) : Int))).drew
              rw [List.set_append_left _ _ (by rw [u32v_length, mix5_length]; exact hlt), HS.out, show (((y + x) % 4294967296 : Nat) : Int) = ((y : Int) + x) % 4294967296 from by omega] at h5
              exact h5
            · exact only_drew (only_setCell hgr (p := ⟨g, k, none⟩) (.inl rfl) _)
          case measure => simp [intOf]; omega
        · have HK := Lib.hid (show k = 5 by omega)
          rw [HK.out, mix5_five] at hdr
          go_wp2
          go_end0
          rw [HB.out]
          exact ⟨rfl, hdr, hgr⟩
end Go.Proofs.Ytknphdcjopaaoaa
