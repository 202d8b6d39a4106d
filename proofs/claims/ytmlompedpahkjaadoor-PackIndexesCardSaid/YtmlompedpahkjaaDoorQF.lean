/- What the proof of PackIndexesCard stands on (texts merged; names shortened by a program): part 6. -/
import Derived.Test.YtmlompedpahkjaaDoorQE
import Derived.Laws.EntriesVeiled
import Derived.Deep.DeepCutAuto
import Derived.Deep.Light
import Derived.Deep.CutBlock
import Derived.StillTailTactics
import Derived.IntWalk
import Derived.Deep.AppendSrc
import Derived.Deep.Upon
import Derived.Lib.AppendZerosOnto
import Derived.Deep.MidRow
import Derived.Test.YtmlompedpahkjaaDoorProg
import Derived.Deep.LoopGhost
import Derived.Deep.DeepMust
import Derived.Deep.RegionHeld3
import Derived.Test.YtmlompedpahkjaaDoorQD
namespace Go.Proofs.YtmlompedpahkjaaDoor.Kit
open Go.RowKit
set_option linter.unusedVariables false

def PH : List Value := [.func (.func 151) #[] #[], .int .u32 1518500249, .func (.func 152) #[] #[], .int .u32 1859775393, .func (.func 153) #[] #[], .int .u32 2400959708, .func (.func 154) #[] #[], .int .u32 3395469782]

set_option maxRecDepth 100000 in
theorem Apf (w : World) : Calls Tryd.prog 132 #[] w fun e w' => e = .returned (.agg #[.func (.func 151) #[] #[], .int .u32 1518500249, .func (.func 152) #[] #[], .int .u32 1859775393, .func (.func 153) #[] #[], .int .u32 2400959708, .func (.func 154) #[] #[], .int .u32 3395469782]) ∧ Au w w' := by
 go_enter Tryd.func132, Tryd.ntmps132
 go_wp2
 refine bodyPost_ret (v := .agg #[.func (.func 151) #[] #[], .int .u32 1518500249, .func (.func 152) #[] #[], .int .u32 1859775393, .func (.func 153) #[] #[], .int .u32 2400959708, .func (.func 154) #[] #[], .int .u32 3395469782]) (by simp [results, Tryd.results132, go_sem]) rfl ⟨rfl, ?_⟩
 exact (Au.refl w).alloc _

theorem SQ {P : Program} {f : FuncId} {args : Array Value} {w : World} {v : Value} (h : Calls P f args w fun e w' => e = .returned v ∧ w = w') : Calls P f args w fun e w'' => e = .returned v ∧ w'' = w :=
 h.mono fun _ _ ⟨he, hm⟩ => ⟨he, hm.symm⟩

def AqE : Array Value := (TA 80).toArray
theorem Tryd.zero80' (w : World) : (zeroValue 191).run Tryd.prog w = .ok (.agg AqE) w := by kernel_rfl

/-- An array that was read whole, indexed. -/
theorem Vy (L : List Nat) (i : Nat) (hi : i < 80) (hL : L.length = 80) (w : World) : (Instr.index 191 (.agg (D8 L).toArray) (.int .i64 (i : Int))).run Tryd.prog w = .ok (.int .u32 ((L.getD i 0 : Nat) : Int)) w := by
 have h1 : ∀ w : World, (isAgg 40).run Tryd.prog w = .ok false w := fun w => by kernel_rfl
 have h2 : ∀ w : World, (sizeOf 40).run Tryd.prog w = .ok 1 w := fun w => by kernel_rfl
 have h3 : (0 : Int) ≤ i ∧ (i : Int) < 80 := by omega
 simp [Instr.index, run_underlying Tryd.underlying191, asIntOf, h2, part, h1, go_sem]
 have h5 : (D8 L)[i]? = some (.int .u32 ((L.getD i 0 : Nat) : Int)) := YU L i (by omega)
 rw [if_pos hi, h5]; simp

set_option maxRecDepth 100000 in
set_option maxHeartbeats 8000000 in
theorem block (g : Nat) (h : V5) (vr vs : Value) (a : Option Addr) (cap : Nat) (p : List UInt8) (w : World) (hh : h.ok) (hb : Bs w a p) (hp : p.length = 64) (hd : Arr w g 190 (D8 h.list ++ [vr, vs])) :
  Calls Tryd.prog 105 #[.pointer (some ⟨g, 0, none⟩), .slice a 64 cap] w fun e w' =>
   e = .returned (.tuple #[]) ∧ Arr w' g 190 (D8 (blk h p).list ++ [vr, vs]) ∧ w.grownBy w' (some g) := by
 have HP := Lib.hid hp
 have hz := Tryd.zero80'
 clear hp
 go_enter Tryd.func105, Tryd.ntmps105
 go_upto_block 0 with (fail)
 have h2 : Arr (w.alloc (.cells AqE 191)) w.heap.size 191 (TA 80) := Arr.newAt _ _ _ _ (by simp)
 have hk0 : Au w (w.alloc (.cells AqE 191)) := (Au.refl w).alloc _
 go_cut [] (fun wc => Arr wc w.heap.size 191 (D8 (wl p 80) ++ TA (80 - 80)) ∧ Au w wc)
 case first =>
  go_wp2
  go_loopw [5, 13] (fun _ i wr => ∃ k : Nat, k ≤ 80 ∧ i = .int .i64 k ∧ Arr wr w.heap.size 191 (D8 (wl p k) ++ TA (80 - k)) ∧ Au w wr) (fun _ i _ => 80 - (intOf i).toNat)
  case atStart => exact ⟨0, by omega, rfl, h2, hk0⟩
  case round =>
   clear h2 hk0
   obtain ⟨k, hk, rfl, h2, hk0⟩ := hrel
   by_cases hlt : k < 80
   ·have hc : wr.cell? ⟨w.heap.size, k, none⟩ = some (.int .u32 0) := by rw [h2.cell]; exact AaL p k (by omega)
    have hf := h2.frozen k
    have hki : (k : Int) < 80 := by omega
    by_cases h16 : k < 16
    ·have hp := HP.out
     obtain ⟨b, off, x0, rfl, hc0, hx0, HX0⟩ := (hb.keep hk0).at (j := 4 * k) (by omega)
     obtain ⟨x1, hc1, hx1, HX1⟩ := (hb.keep hk0).at' (j := 4 * k + 1) (by omega)
     obtain ⟨x2, hc2, hx2, HX2⟩ := (hb.keep hk0).at' (j := 4 * k + 2) (by omega)
     obtain ⟨x3, hc3, hx3, HX3⟩ := (hb.keep hk0).at' (j := 4 * k + 3) (by omega)
     clear hp
     have s0 : IntKind.i64.wrap (4 * (k : Int)) = 4 * (k : Int) := IntWalk.i64_in _ (by omega)
     have s1 : IntKind.i64.wrap (4 * (k : Int) + 1) = 4 * (k : Int) + 1 := IntWalk.i64_in _ (by omega)
     have s2 : IntKind.i64.wrap (4 * (k : Int) + 2) = 4 * (k : Int) + 2 := IntWalk.i64_in _ (by omega)
     have s3 : IntKind.i64.wrap (4 * (k : Int) + 3) = 4 * (k : Int) + 3 := IntWalk.i64_in _ (by omega)
     have t0 : (4 * (k : Int)).toNat = 4 * k := by omega
     have t1 : (4 * (k : Int) + 1).toNat = 4 * k + 1 := by omega
     have t2 : (4 * (k : Int) + 2).toNat = 4 * k + 2 := by omega
     have t3 : (4 * (k : Int) + 3).toNat = 4 * k + 3 := by omega
     have g0 : (4 * (k : Int)) < 64 := by omega
     have g1 : (4 * (k : Int) + 1) < 64 := by omega
     have g2 : (4 * (k : Int) + 2) < 64 := by omega
     have g3 : (4 * (k : Int) + 3) < 64 := by omega
     have p0 : 0 ≤ (4 * (k : Int)) := by omega
     have p1 : 0 ≤ (4 * (k : Int) + 1) := by omega
     have p2 : 0 ≤ (4 * (k : Int) + 2) := by omega
     have p3 : 0 ≤ (4 * (k : Int) + 3) := by omega
     go_upto_region 5 with (fail)
     go_still_tail 35, (by kernel_rfl)
     go_wp2
     go_roundw
     case rel =>
      go_light
      refine ⟨k + 1, by omega, by go_num, ?_, Below.drew (Below.setCell hk0 (Nat.le_refl _) _)⟩
      have h5 := Arr.set h2 k (.int .u32 ((AfB p (4 * k) : Nat) : Int))
      rw [Aa2 p k _ hlt (by unfold XE; rw [if_pos h16])] at h5
      have e : ((AfB p (4 * k) : Nat) : Int) = bits .or .u32 (bits .or .u32 (bits .or .u32 ((x0.toNat : Int) * 16777216) ((x1.toNat : Int) * 65536)) ((x2.toNat : Int) * 256)) (x3.toNat : Int) := by
       rw [AbI]; unfold AfB; rw [← HX0.out, ← HX1.out, ← HX2.out, ← HX3.out]
      rw [e] at h5
      exact h5
     case measure => simp [intOf]; omega
    ·have r3 : wr.cell? ⟨w.heap.size, k - 3, none⟩ = some (.int .u32 (((wl p k).getD (k - 3) 0 : Nat) : Int)) := by rw [h2.cell]; exact Na p k _ (by omega)
     have r8 : wr.cell? ⟨w.heap.size, k - 8, none⟩ = some (.int .u32 (((wl p k).getD (k - 8) 0 : Nat) : Int)) := by rw [h2.cell]; exact Na p k _ (by omega)
     have r14 : wr.cell? ⟨w.heap.size, k - 14, none⟩ = some (.int .u32 (((wl p k).getD (k - 14) 0 : Nat) : Int)) := by rw [h2.cell]; exact Na p k _ (by omega)
     have r16 : wr.cell? ⟨w.heap.size, k - 16, none⟩ = some (.int .u32 (((wl p k).getD (k - 16) 0 : Nat) : Int)) := by rw [h2.cell]; exact Na p k _ (by omega)
     have hn : XE p (wl p k) k = rot ((((wl p k).getD (k - 3) 0 ^^^ (wl p k).getD (k - 8) 0) ^^^ (wl p k).getD (k - 14) 0) ^^^ (wl p k).getD (k - 16) 0) 1 := by unfold XE; rw [if_neg (by omega)]
     have b3 := Dx p k (k - 3)
     have b8 := Dx p k (k - 8)
     have b14 := Dx p k (k - 14)
     have b16 := Dx p k (k - 16)
     generalize (wl p k).getD (k - 3) 0 = x3 at *
     generalize (wl p k).getD (k - 8) 0 = x8 at *
     generalize (wl p k).getD (k - 14) 0 = x14 at *
     generalize (wl p k).getD (k - 16) 0 = x16 at *
     have HN := Lib.hid hn; clear hn
     have s3 : IntKind.i64.wrap ((k : Int) - 3) = (k : Int) - 3 := IntWalk.i64_in _ (by omega)
     have t3 : ((k : Int) - 3).toNat = k - 3 := by omega
     have g3 : ((k : Int) - 3) < 80 := by omega
     have p3 : (3 : Int) ≤ k := by omega
     have s8 : IntKind.i64.wrap ((k : Int) - 8) = (k : Int) - 8 := IntWalk.i64_in _ (by omega)
     have t8 : ((k : Int) - 8).toNat = k - 8 := by omega
     have g8 : ((k : Int) - 8) < 80 := by omega
     have p8 : (8 : Int) ≤ k := by omega
     have s14 : IntKind.i64.wrap ((k : Int) - 14) = (k : Int) - 14 := IntWalk.i64_in _ (by omega)
     have t14 : ((k : Int) - 14).toNat = k - 14 := by omega
     have g14 : ((k : Int) - 14) < 80 := by omega
     have p14 : (14 : Int) ≤ k := by omega
     have s16 : IntKind.i64.wrap ((k : Int) - 16) = (k : Int) - 16 := IntWalk.i64_in _ (by omega)
     have t16 : ((k : Int) - 16).toNat = k - 16 := by omega
     have g16 : ((k : Int) - 16) < 80 := by omega
     have p16 : (16 : Int) ≤ k := by omega
     go_upto_region 6 with (fail)
     go_still_tail 22, (by kernel_rfl)
     refine wpStill_step (fun K hK => ?_)
     go_simp
     rw [AbC _ _ _ _ b3 b8 b14 b16]
     refine ⟨_, SQ (RG _ _ _ (Bl (Bl (Bl b3 b8) b14) b16) (.inl rfl)), hK _ ?_⟩
     clear hK K
     repeat still_step
     refine wpStill_nil ?_
     go_wp2
     go_roundw
     case rel =>
      go_light
      refine ⟨k + 1, by omega, by go_num, ?_, Below.drew (Below.setCell hk0 (Nat.le_refl _) _)⟩
      have h5 := Arr.set h2 k (.int .u32 ((rot (((x3 ^^^ x8) ^^^ x14) ^^^ x16) 1 : Nat) : Int))
      rw [Aa2 p k _ hlt HN.out.symm] at h5
      exact h5
     case measure => simp [intOf]; omega
   ·have HK := Lib.hid (show k = 80 by omega)
    rw [HK.out] at h2
    go_wp2
    go_meet
    case rel => exact ⟨h2, hk0⟩
 case rest =>
  clear h2 hk0
  obtain ⟨h2, hk0⟩ := hcut
  obtain ⟨wb, rfl⟩ : ∃ wb : World, wb = wc := ⟨_, rfl⟩
  have hgw : g < w.heap.size := hd.lt
  have hdc : Arr wb g 190 (D8 h.list ++ [vr, vs]) := hd.keep hk0
  have c0 : wb.cell? ⟨g, 0, none⟩ = some (.int .u32 h.a) := hdc.cell 0
  have c1 : wb.cell? ⟨g, 1, none⟩ = some (.int .u32 h.b) := hdc.cell 1
  have c2 : wb.cell? ⟨g, 2, none⟩ = some (.int .u32 h.c) := hdc.cell 2
  have c3 : wb.cell? ⟨g, 3, none⟩ = some (.int .u32 h.d) := hdc.cell 3
  have c4 : wb.cell? ⟨g, 4, none⟩ = some (.int .u32 h.e) := hdc.cell 4
  go_wp2_with fail
  (with_reducible refine (Apf _).mono ?_)
  rintro e w2 ⟨rfl, hk2⟩
  have hv0 : Arr w2 wb.heap.size 144 (D8 h.list) := Arr.keep (Arr.new wb #[.int .u32 h.a, .int .u32 h.b, .int .u32 h.c, .int .u32 h.d, .int .u32 h.e] 144) hk2
  have h22 : Arr w2 w.heap.size 191 (D8 (wl p 80) ++ TA (80 - 80)) := (h2.alloc _).keep hk2
  have hk3 : Au w w2 := (hk0.alloc _).trans hk2
  have hsz : wb.heap.size < w2.heap.size := hv0.lt
  have hle : w.heap.size ≤ wb.heap.size := Below.size hk0
  have hwl : wb.heap.size ≠ w.heap.size := fun e => absurd h2.lt (by omega)
  clear h2 hk0 hk2 hdc c0 c1 c2 c3 c4
  have hwl2 : TA (80 - 80) = [] := rfl
  have hmx0 : Arr (w2.alloc (.cells #[.func (.func 151) #[] #[], .int .u32 1518500249, .func (.func 152) #[] #[], .int .u32 1859775393, .func (.func 153) #[] #[], .int .u32 2400959708, .func (.func 154) #[] #[], .int .u32 3395469782] 216)) w2.heap.size 216 PH := Arr.new _ _ _
  have hv1 := hv0.alloc (.cells #[.func (.func 151) #[] #[], .int .u32 1518500249, .func (.func 152) #[] #[], .int .u32 1859775393, .func (.func 153) #[] #[], .int .u32 2400959708, .func (.func 154) #[] #[], .int .u32 3395469782] 216)
  have h23 := h22.alloc (.cells #[.func (.func 151) #[] #[], .int .u32 1518500249, .func (.func 152) #[] #[], .int .u32 1859775393, .func (.func 153) #[] #[], .int .u32 2400959708, .func (.func 154) #[] #[], .int .u32 3395469782] 216)
  have hk4 := hk3.alloc (.cells #[.func (.func 151) #[] #[], .int .u32 1518500249, .func (.func 152) #[] #[], .int .u32 1859775393, .func (.func 153) #[] #[], .int .u32 2400959708, .func (.func 154) #[] #[], .int .u32 3395469782] 216)
  rw [hwl2, List.append_nil] at h23
  unfold Arr at h23
  go_upto_block 2 with (with_reducible refine wpList_load_row rfl 191 _ rfl w.heap.size rfl 191 (D8 (wl p 80)).toArray (0, 0) _ h23 Tryd.underlying191 rfl (by rw [List.size_toArray, Ji, L6]; kernel_rfl) ?_)
  clear h22 h23 hwl2 hv0 hk3
  have hidx := fun (i : Nat) (hi : i < 80) (w : World) => Vy (wl p 80) i hi (L6 p 80) w
  have HI := Lib.hid hidx; clear hidx
  go_cut [] (fun wr => Arr wr wb.heap.size 144 (D8 (ZP 0 h (wl p 80)).list) ∧ Au w wr)
  case first =>
   generalize hW : (D8 (wl p 80)).toArray = WA at *
   have HW := Lib.hid hW; clear hW
   go_wp2
   go_loopw [8, 9, 10, 11, 82] (fun _ _ _ _ i wr => ∃ (i' : Nat) (v : V5), i' ≤ 80 ∧ i = .int .i64 i' ∧ v.ok ∧ Arr wr wb.heap.size 144 (D8 v.list) ∧ OM p h i' v ∧ Arr wr w2.heap.size 216 PH ∧ Au w wr) (fun _ _ _ _ i _ => 80 - (intOf i).toNat)
   case atStart => exact ⟨0, h, by omega, rfl, hh, hv1, OM.zero p h, hmx0, hk4⟩
   case round =>
    clear hv1 hmx0 hk4
    obtain ⟨i, v, hi, rfl, hv, hva, hr, hmx, hk⟩ := hrel
    by_cases hlt : i < 80
    ·obtain ⟨c0, c1, c2, c3, c4⟩ := hva.five
     have f0 := hva.frozen 0
     have f1 := hva.frozen 1
     have f2 := hva.frozen 2
     have f3 := hva.frozen 3
     have f4 := hva.frozen 4
     have hx := HI.out i hlt
     have bw := Dx p 80 i
     have HR := hr.succ hlt; clear hr
     generalize (wl p 80).getD i 0 = x at *
     obtain ⟨va, vb, vc, vd, ve⟩ := v
     obtain ⟨ba, bb, bc, bd, be⟩ := hv
     simp only at ba bb bc bd be c0 c1 c2 c3 c4
     have hs1 : wb.heap.size < wr.heap.size := hva.lt
     have hs2 : w2.heap.size < wr.heap.size := hmx.lt
     rcases (show i < 20 ∨ (20 ≤ i ∧ i < 40) ∨ (40 ≤ i ∧ i < 60) ∨ 60 ≤ i from by omega) with hq | ⟨hq, hq2⟩ | ⟨hq, hq2⟩ | hq
     ·have hq20 : (i : Int) / 20 = 0 := by omega
      have hm0 : wr.cell? ⟨w2.heap.size, 0, none⟩ = some (.func (.func 151) #[] #[]) := hmx.cell 0
      have hm1 : wr.cell? ⟨w2.heap.size, 1, none⟩ = some (.int .u32 1518500249) := hmx.cell 1
      have hrt : Ie i ⟨va, vb, vc, vd, ve⟩ x = ((((rot va 5 + sf1 vb vc vd) % 4294967296 + ve) % 4294967296 + 1518500249) % 4294967296 + x) % 4294967296 := by unfold Ie; rw [ArM hq, Ars hq]
      have HT := Lib.hid hrt; clear hrt
      go_upto_region 14 with (fail)
      go_cut [11] (fun t wq => t = .int .u32 (Ie i ⟨va, vb, vc, vd, ve⟩ x : Nat) ∧ Arr wq wb.heap.size 144 (D8 (V5.list ⟨va, vb, vc, vd, ve⟩)) ∧ Arr wq w2.heap.size 216 PH ∧ Au w wq)
      case first =>
       go_quiet ((first | (go_at_call 131; exact EM (RG _ _ _ ba (.inr (.inl rfl)))) | (go_at_call 151; exact EM (Asv _ _ _ _ bb bc bd))))
       go_wp2
       go_meet
       case rel =>
        go_light
        refine ⟨?_, (hva.alloc _).drewN _, (hmx.alloc _).drewN _, (hk.alloc _).drewN _⟩
        have e2 : ((Ie i ⟨va, vb, vc, vd, ve⟩ x : Nat) : Int) = (((rot va 5 : Nat) : Int) + (sf1 vb vc vd : Nat) + ve + 1518500249 + x) % 4294967296 := by rw [HT.out]; omega
        rw [e2]
        exact congrArg (Value.int .u32) (by omega)
      case rest =>
       clear c0 c1 c2 c3 c4 f0 f1 f2 f3 f4 hva hmx hk hm0 hm1
       obtain ⟨rfl, hva, hmx, hk⟩ := hcut
       obtain ⟨c0, c1, c2, c3, c4⟩ := hva.five
       have f0 := hva.frozen 0
       have f1 := hva.frozen 1
       have f2 := hva.frozen 2
       have f3 := hva.frozen 3
       have f4 := hva.frozen 4
       generalize hT : Ie i ⟨va, vb, vc, vd, ve⟩ x = T at *
       have HT2 := Lib.hid hT; clear hT
       go_upto_region 15 with (fail)
       go_still_tail 11, (by kernel_rfl)
       still_call (SQ (RG _ _ _ bb (.inr (.inr rfl))))
       repeat still_step
       refine wpStill_nil ?_
       go_wp2
       go_roundw
       case rel =>
        go_light
        have n2 : w2.heap.size ≠ wb.heap.size := by omega
        refine ⟨i + 1, rnd i ⟨va, vb, vc, vd, ve⟩ x, by omega, by go_num, Xq i x ⟨ba, bb, bc, bd, be⟩, ?_, HR, ?_, ?_⟩
        ·have h5 := (((((hva.set 0 (.int .u32 T)).set 1 (.int .u32 va)).set 2 (.int .u32 (rot vb 30 : Nat))).set 3 (.int .u32 vc)).set 4 (.int .u32 vd)).drew
         have e3 : D8 (rnd i ⟨va, vb, vc, vd, ve⟩ x).list = [.int .u32 T, .int .u32 va, .int .u32 (rot vb 30 : Nat), .int .u32 vc, .int .u32 vd] := by rw [← HT2.out]; rfl
         rw [e3]
         exact h5
        ·exact (((((hmx.other _ _ n2).other _ _ n2).other _ _ n2).other _ _ n2).other _ _ n2).drew
        ·exact Below.drew (Below.setCell (Below.setCell (Below.setCell (Below.setCell (Below.setCell hk (p := ⟨wb.heap.size, 0, none⟩) hle _) (p := ⟨wb.heap.size, 1, none⟩) hle _) (p := ⟨wb.heap.size, 2, none⟩) hle _) (p := ⟨wb.heap.size, 3, none⟩) hle _) (p := ⟨wb.heap.size, 4, none⟩) hle _)
       case measure => simp [intOf]; omega
     ·have hq20 : (i : Int) / 20 = 1 := by omega
      have hm0 : wr.cell? ⟨w2.heap.size, 2, none⟩ = some (.func (.func 152) #[] #[]) := hmx.cell 2
      have hm1 : wr.cell? ⟨w2.heap.size, 3, none⟩ = some (.int .u32 1859775393) := hmx.cell 3
      have hrt : Ie i ⟨va, vb, vc, vd, ve⟩ x = ((((rot va 5 + sf2 vb vc vd) % 4294967296 + ve) % 4294967296 + 1859775393) % 4294967296 + x) % 4294967296 := by unfold Ie; rw [ArE hq hq2, Art hq hq2]
      have HT := Lib.hid hrt; clear hrt
      go_upto_region 14 with (fail)
      go_cut [11] (fun t wq => t = .int .u32 (Ie i ⟨va, vb, vc, vd, ve⟩ x : Nat) ∧ Arr wq wb.heap.size 144 (D8 (V5.list ⟨va, vb, vc, vd, ve⟩)) ∧ Arr wq w2.heap.size 216 PH ∧ Au w wq)
      case first =>
       go_quiet ((first | (go_at_call 131; exact EM (RG _ _ _ ba (.inr (.inl rfl)))) | (go_at_call 152; exact EM (Ar2 _ _ _ _ bb bc bd))))
       go_wp2
       go_meet
       case rel =>
        go_light
        refine ⟨?_, (hva.alloc _).drewN _, (hmx.alloc _).drewN _, (hk.alloc _).drewN _⟩
        have e2 : ((Ie i ⟨va, vb, vc, vd, ve⟩ x : Nat) : Int) = (((rot va 5 : Nat) : Int) + (sf2 vb vc vd : Nat) + ve + 1859775393 + x) % 4294967296 := by rw [HT.out]; omega
        rw [e2]
        exact congrArg (Value.int .u32) (by omega)
      case rest =>
       clear c0 c1 c2 c3 c4 f0 f1 f2 f3 f4 hva hmx hk hm0 hm1
       obtain ⟨rfl, hva, hmx, hk⟩ := hcut
       obtain ⟨c0, c1, c2, c3, c4⟩ := hva.five
       have f0 := hva.frozen 0
       have f1 := hva.frozen 1
       have f2 := hva.frozen 2
       have f3 := hva.frozen 3
       have f4 := hva.frozen 4
       generalize hT : Ie i ⟨va, vb, vc, vd, ve⟩ x = T at *
       have HT2 := Lib.hid hT; clear hT
       go_upto_region 15 with (fail)
       go_still_tail 11, (by kernel_rfl)
       still_call (SQ (RG _ _ _ bb (.inr (.inr rfl))))
       repeat still_step
       refine wpStill_nil ?_
       go_wp2
       go_roundw
       case rel =>
        go_light
        have n2 : w2.heap.size ≠ wb.heap.size := by omega
        refine ⟨i + 1, rnd i ⟨va, vb, vc, vd, ve⟩ x, by omega, by go_num, Xq i x ⟨ba, bb, bc, bd, be⟩, ?_, HR, ?_, ?_⟩
        ·have h5 := (((((hva.set 0 (.int .u32 T)).set 1 (.int .u32 va)).set 2 (.int .u32 (rot vb 30 : Nat))).set 3 (.int .u32 vc)).set 4 (.int .u32 vd)).drew
         have e3 : D8 (rnd i ⟨va, vb, vc, vd, ve⟩ x).list = [.int .u32 T, .int .u32 va, .int .u32 (rot vb 30 : Nat), .int .u32 vc, .int .u32 vd] := by rw [← HT2.out]; rfl
         rw [e3]
         exact h5
        ·exact (((((hmx.other _ _ n2).other _ _ n2).other _ _ n2).other _ _ n2).other _ _ n2).drew
        ·exact Below.drew (Below.setCell (Below.setCell (Below.setCell (Below.setCell (Below.setCell hk (p := ⟨wb.heap.size, 0, none⟩) hle _) (p := ⟨wb.heap.size, 1, none⟩) hle _) (p := ⟨wb.heap.size, 2, none⟩) hle _) (p := ⟨wb.heap.size, 3, none⟩) hle _) (p := ⟨wb.heap.size, 4, none⟩) hle _)
       case measure => simp [intOf]; omega
     ·have hq20 : (i : Int) / 20 = 2 := by omega
      have hm0 : wr.cell? ⟨w2.heap.size, 4, none⟩ = some (.func (.func 153) #[] #[]) := hmx.cell 4
      have hm1 : wr.cell? ⟨w2.heap.size, 5, none⟩ = some (.int .u32 2400959708) := hmx.cell 5
      have hrt : Ie i ⟨va, vb, vc, vd, ve⟩ x = ((((rot va 5 + sf3 vb vc vd) % 4294967296 + ve) % 4294967296 + 2400959708) % 4294967296 + x) % 4294967296 := by unfold Ie; rw [Arl hq hq2, Arn hq hq2]
      have HT := Lib.hid hrt; clear hrt
      go_upto_region 14 with (fail)
      go_cut [11] (fun t wq => t = .int .u32 (Ie i ⟨va, vb, vc, vd, ve⟩ x : Nat) ∧ Arr wq wb.heap.size 144 (D8 (V5.list ⟨va, vb, vc, vd, ve⟩)) ∧ Arr wq w2.heap.size 216 PH ∧ Au w wq)
      case first =>
       go_quiet ((first | (go_at_call 131; exact EM (RG _ _ _ ba (.inr (.inl rfl)))) | (go_at_call 153; exact EM (Asq _ _ _ _ bb bc bd))))
       go_wp2
       go_meet
       case rel =>
        go_light
        refine ⟨?_, (hva.alloc _).drewN _, (hmx.alloc _).drewN _, (hk.alloc _).drewN _⟩
        have e2 : ((Ie i ⟨va, vb, vc, vd, ve⟩ x : Nat) : Int) = (((rot va 5 : Nat) : Int) + (sf3 vb vc vd : Nat) + ve + 2400959708 + x) % 4294967296 := by rw [HT.out]; omega
        rw [e2]
        exact congrArg (Value.int .u32) (by omega)
      case rest =>
       clear c0 c1 c2 c3 c4 f0 f1 f2 f3 f4 hva hmx hk hm0 hm1
       obtain ⟨rfl, hva, hmx, hk⟩ := hcut
       obtain ⟨c0, c1, c2, c3, c4⟩ := hva.five
       have f0 := hva.frozen 0
       have f1 := hva.frozen 1
       have f2 := hva.frozen 2
       have f3 := hva.frozen 3
       have f4 := hva.frozen 4
       generalize hT : Ie i ⟨va, vb, vc, vd, ve⟩ x = T at *
       have HT2 := Lib.hid hT; clear hT
       go_upto_region 15 with (fail)
       go_still_tail 11, (by kernel_rfl)
       still_call (SQ (RG _ _ _ bb (.inr (.inr rfl))))
       repeat still_step
       refine wpStill_nil ?_
       go_wp2
       go_roundw
       case rel =>
        go_light
        have n2 : w2.heap.size ≠ wb.heap.size := by omega
        refine ⟨i + 1, rnd i ⟨va, vb, vc, vd, ve⟩ x, by omega, by go_num, Xq i x ⟨ba, bb, bc, bd, be⟩, ?_, HR, ?_, ?_⟩
        ·have h5 := (((((hva.set 0 (.int .u32 T)).set 1 (.int .u32 va)).set 2 (.int .u32 (rot vb 30 : Nat))).set 3 (.int .u32 vc)).set 4 (.int .u32 vd)).drew
         have e3 : D8 (rnd i ⟨va, vb, vc, vd, ve⟩ x).list = [.int .u32 T, .int .u32 va, .int .u32 (rot vb 30 : Nat), .int .u32 vc, .int .u32 vd] := by rw [← HT2.out]; rfl
         rw [e3]
         exact h5
        ·exact (((((hmx.other _ _ n2).other _ _ n2).other _ _ n2).other _ _ n2).other _ _ n2).drew
        ·exact Below.drew (Below.setCell (Below.setCell (Below.setCell (Below.setCell (Below.setCell hk (p := ⟨wb.heap.size, 0, none⟩) hle _) (p := ⟨wb.heap.size, 1, none⟩) hle _) (p := ⟨wb.heap.size, 2, none⟩) hle _) (p := ⟨wb.heap.size, 3, none⟩) hle _) (p := ⟨wb.heap.size, 4, none⟩) hle _)
       case measure => simp [intOf]; omega
     ·have hq20 : (i : Int) / 20 = 3 := by omega
      have hm0 : wr.cell? ⟨w2.heap.size, 6, none⟩ = some (.func (.func 154) #[] #[]) := hmx.cell 6
      have hm1 : wr.cell? ⟨w2.heap.size, 7, none⟩ = some (.int .u32 3395469782) := hmx.cell 7
      have hrt : Ie i ⟨va, vb, vc, vd, ve⟩ x = ((((rot va 5 + sf2 vb vc vd) % 4294967296 + ve) % 4294967296 + 3395469782) % 4294967296 + x) % 4294967296 := by unfold Ie; rw [Arv hq, ArG hq]
      have HT := Lib.hid hrt; clear hrt
      go_upto_region 14 with (fail)
      go_cut [11] (fun t wq => t = .int .u32 (Ie i ⟨va, vb, vc, vd, ve⟩ x : Nat) ∧ Arr wq wb.heap.size 144 (D8 (V5.list ⟨va, vb, vc, vd, ve⟩)) ∧ Arr wq w2.heap.size 216 PH ∧ Au w wq)
      case first =>
       go_quiet ((first | (go_at_call 131; exact EM (RG _ _ _ ba (.inr (.inl rfl)))) | (go_at_call 154; exact EM (Asi _ _ _ _ bb bc bd))))
       go_wp2
       go_meet
       case rel =>
        go_light
        refine ⟨?_, (hva.alloc _).drewN _, (hmx.alloc _).drewN _, (hk.alloc _).drewN _⟩
        have e2 : ((Ie i ⟨va, vb, vc, vd, ve⟩ x : Nat) : Int) = (((rot va 5 : Nat) : Int) + (sf2 vb vc vd : Nat) + ve + 3395469782 + x) % 4294967296 := by rw [HT.out]; omega
        rw [e2]
        exact congrArg (Value.int .u32) (by omega)
      case rest =>
       clear c0 c1 c2 c3 c4 f0 f1 f2 f3 f4 hva hmx hk hm0 hm1
       obtain ⟨rfl, hva, hmx, hk⟩ := hcut
       obtain ⟨c0, c1, c2, c3, c4⟩ := hva.five
       have f0 := hva.frozen 0
       have f1 := hva.frozen 1
       have f2 := hva.frozen 2
       have f3 := hva.frozen 3
       have f4 := hva.frozen 4
       generalize hT : Ie i ⟨va, vb, vc, vd, ve⟩ x = T at *
       have HT2 := Lib.hid hT; clear hT
       go_upto_region 15 with (fail)
       go_still_tail 11, (by kernel_rfl)
       still_call (SQ (RG _ _ _ bb (.inr (.inr rfl))))
       repeat still_step
       refine wpStill_nil ?_
       go_wp2
       go_roundw
       case rel =>
        go_light
        have n2 : w2.heap.size ≠ wb.heap.size := by omega
        refine ⟨i + 1, rnd i ⟨va, vb, vc, vd, ve⟩ x, by omega, by go_num, Xq i x ⟨ba, bb, bc, bd, be⟩, ?_, HR, ?_, ?_⟩
        ·have h5 := (((((hva.set 0 (.int .u32 T)).set 1 (.int .u32 va)).set 2 (.int .u32 (rot vb 30 : Nat))).set 3 (.int .u32 vc)).set 4 (.int .u32 vd)).drew
         have e3 : D8 (rnd i ⟨va, vb, vc, vd, ve⟩ x).list = [.int .u32 T, .int .u32 va, .int .u32 (rot vb 30 : Nat), .int .u32 vc, .int .u32 vd] := by rw [← HT2.out]; rfl
         rw [e3]
         exact h5
        ·exact (((((hmx.other _ _ n2).other _ _ n2).other _ _ n2).other _ _ n2).other _ _ n2).drew
        ·exact Below.drew (Below.setCell (Below.setCell (Below.setCell (Below.setCell (Below.setCell hk (p := ⟨wb.heap.size, 0, none⟩) hle _) (p := ⟨wb.heap.size, 1, none⟩) hle _) (p := ⟨wb.heap.size, 2, none⟩) hle _) (p := ⟨wb.heap.size, 3, none⟩) hle _) (p := ⟨wb.heap.size, 4, none⟩) hle _)
       case measure => simp [intOf]; omega
    ·have HK := Lib.hid (show i = 80 by omega)
     rw [HK.out] at hr
     have hva' := hva
     rw [hr.last] at hva'
     clear hva hr
     go_wp2
     go_meet
     case rel => exact ⟨hva', hk⟩
  case rest =>
   clear hv1 hmx0 hk4 HI
   obtain ⟨hva, hk⟩ := hcut
   have hV : (ZP 0 h (wl p 80)).ok := AdC _ _ _ hh
   have hB : blk h p = AkA h (ZP 0 h (wl p 80)) := rfl
   have HB := Lib.hid hB; clear hB
   generalize ZP 0 h (wl p 80) = V at *
   go_wp2
   go_loopw [12, 123] (fun _ i wr => ∃ k : Nat, k ≤ 5 ∧ i = .int .i64 k ∧ Arr wr wb.heap.size 144 (D8 V.list) ∧ Arr wr g 190 (D8 (Ai8 h V k) ++ [vr, vs]) ∧ w.grownBy wr (some g)) (fun _ i _ => 5 - (intOf i).toNat)
   case atStart => exact ⟨0, by omega, rfl, hva, hd.keep hk, ⟨hk.os, hk.tape, hk.output, hk.size, fun j hj _ => hk.block j hj⟩⟩
   case round =>
    clear hva hk
    obtain ⟨k, hk, rfl, hva, hdr, hgr⟩ := hrel
    by_cases hlt : k < 5
    ·have cv : wr.cell? ⟨wb.heap.size, k, none⟩ = some (.int .u32 ((V.list.getD k 0 : Nat) : Int)) := by rw [hva.cell]; exact RF V k hlt
     have ch : wr.cell? ⟨g, k, none⟩ = some (.int .u32 ((h.list.getD k 0 : Nat) : Int)) := by
      rw [hdr.cell, List.getElem?_append_left (by rw [Ji, VF]; exact hlt)]; exact Aba h V k hlt
     have fh := hdr.frozen k
     have b1 := hV.get k
     have b2 := hh.get k
     have hs := Abs h V k hlt
     have HS := Lib.hid hs; clear hs
     generalize V.list.getD k 0 = x at *
     generalize h.list.getD k 0 = y at *
     have hki : (k : Int) < 5 := by omega
     go_upto_region 20 with (fail)
     go_still_tail 13, (by kernel_rfl)
     go_wp2
     go_roundw
     case rel =>
      go_light
      have ne1 : wb.heap.size ≠ g := by omega
      refine ⟨k + 1, by omega, by go_num, (hva.other _ _ ne1).drew, ?_, ?_⟩
      ·have h5 := (hdr.set k (.int .u32 (((y + x) % 4294967296 : Nat) : Int))).drew
       rw [List.set_append_left _ _ (by rw [Ji, VF]; exact hlt), HS.out, show (((y + x) % 4294967296 : Nat) : Int) = ((y : Int) + x) % 4294967296 from by omega] at h5
       exact h5
      ·exact Aed (YN hgr (p := ⟨g, k, none⟩) (.inl rfl) _)
     case measure => simp [intOf]; omega
    ·have HK := Lib.hid (show k = 5 by omega)
     rw [HK.out, Zc] at hdr
     go_wp2
     go_end0
     rw [HB.out]
     exact ⟨rfl, hdr, hgr⟩
end Go.Proofs.YtmlompedpahkjaaDoor.Kit


namespace Go.Proofs.YtmlompedpahkjaaDoor.Kit
open Go.RowKit
set_option linter.unusedVariables false

/-- The slice value v has n elements of type e (size cells each): the cells xs; its block is the call's own (from base on), not frozen, and so is its spare room. -/
def Seg (w : World) (base : Nat) (e : TypeId) (size : Nat) (v : Value) (n : Nat) (xs : List Value) : Prop :=
 xs.length = n * size ∧
 ((v = .slice none 0 0 ∧ n = 0) ∨
 ∃ g off cap cur, v = .slice (some ⟨g, off, none⟩) n cap ∧ base ≤ g ∧ w.heap[g]? = some (.cells cur e (0, 0)) ∧ n ≤ cap ∧ cap ≤ maxLen ∧ off + cap * size ≤ cur.size ∧ (cur.toList.drop off).take (n * size) = xs)

section
variable {w : World} {base : Nat} {e : TypeId} {size : Nat} {v : Value} {n : Nat} {xs : List Value}

theorem Seg.nil (w : World) (base : Nat) (e : TypeId) (size : Nat) : Seg w base e size (.slice none 0 0) 0 [] := ⟨by simp, .inl ⟨rfl, rfl⟩⟩

theorem Seg.lt (h : Seg w base e size v n xs) : ∀ k, v.ownBlock = some k → base ≤ k ∧ k < w.heap.size := by
 intro k hk
 rcases h.2 with ⟨rfl, _⟩ | ⟨g, off, cap, cur, rfl, hb, hg, _⟩
 ·simp [Value.ownBlock] at hk
 ·simp [Value.ownBlock] at hk
  subst hk
  exact ⟨hb, (Array.getElem?_eq_some_iff.1 hg).1⟩

theorem Seg.kept {w' : World} {row : Option Nat} (h : Seg w base e size v n xs) (hg : w.grownBy w' row) (hne : v.ownBlock = none ∨ v.ownBlock ≠ row) : Seg w' base e size v n xs := by
 refine ⟨h.1, ?_⟩
 rcases h.2 with hn | ⟨g, off, cap, cur, rfl, hb, hgg, rest⟩
 ·exact .inl hn
 ·refine .inr ⟨g, off, cap, cur, rfl, hb, ?_, rest⟩
  rw [hg.block g (Array.getElem?_eq_some_iff.1 hgg).1 (by simpa [Value.ownBlock] using hne)]
  exact hgg

theorem Seg.keep {w' : World} (h : Seg w base e size v n xs) (k : Au w w') : Seg w' base e size v n xs := by
 refine ⟨h.1, ?_⟩
 rcases h.2 with hn | ⟨g, off, cap, cur, rfl, hb, hgg, rest⟩
 ·exact .inl hn
 ·refine .inr ⟨g, off, cap, cur, rfl, hb, ?_, rest⟩
  rw [Below.block k g (Array.getElem?_eq_some_iff.1 hgg).1]
  exact hgg

/-- A write into another block. -/
theorem Seg.other {w' : World} (h : Seg w base e size v n xs) {g : Nat} (hb : ∀ k, k < w.heap.size → k ≠ g → w'.heap[k]? = w.heap[k]?) (hne : v.ownBlock ≠ some g) : Seg w' base e size v n xs := by
 refine ⟨h.1, ?_⟩
 rcases h.2 with hn | ⟨k, off, cap, cur, rfl, hbk, hgg, rest⟩
 ·exact .inl hn
 ·refine .inr ⟨k, off, cap, cur, rfl, hbk, ?_, rest⟩
  rw [hb k (Array.getElem?_eq_some_iff.1 hgg).1 (fun e => hne (by rw [e]; rfl))]
  exact hgg

theorem Seg.alloc (h : Seg w base e size v n xs) (o : Obj) : Seg (w.alloc o) base e size v n xs := h.keep ((Au.refl w).alloc o)
theorem Seg.drewN (h : Seg w base e size v n xs) (k : Nat) : Seg (w.drewN k) base e size v n xs := h

theorem Seg.mono {base' : Nat} (h : Seg w base e size v n xs) (hb : base' ≤ base) : Seg w base' e size v n xs := by
 refine ⟨h.1, ?_⟩
 rcases h.2 with hn | ⟨k, off, cap, cur, rfl, hbk, rest⟩
 ·exact .inl hn
 ·exact .inr ⟨k, off, cap, cur, rfl, by omega, rest⟩

/-- A new block, of which the first n elements are told. -/
theorem Seg.made (w : World) (cur : Array Value) (n cap : Nat) (hb : base ≤ w.heap.size) (hn : n ≤ cap) (hm : cap ≤ maxLen) (hs : cap * size ≤ cur.size) :
  Seg (w.alloc (.cells cur e)) base e size (.slice (some ⟨w.heap.size, 0, none⟩) n cap) n (cur.toList.take (n * size)) := by
 have h1 : n * size ≤ cap * size := Nat.mul_le_mul_right _ hn
 exact ⟨by simp; omega, .inr ⟨w.heap.size, 0, cap, cur, rfl, hb, heap_alloc_new w _, hn, hm, by omega, by simp⟩⟩

theorem Seg.cells (h : Seg w base e size v n xs) {g off cap m : Nat} (hv : v = .slice (some ⟨g, off, none⟩) m cap) : ∀ j u, xs[j]? = some u → w.cell? ⟨g, off + j, none⟩ = some u := by
 intro j u hu
 rcases h.2 with ⟨rfl, _⟩ | ⟨g', off', cap', cur, rfl, _, hgg, _, _, hfit, htake⟩
 ·cases hv
 ·simp only [Value.slice.injEq, Option.some.injEq, Addr.mk.injEq, and_true] at hv
  obtain ⟨⟨rfl, rfl⟩, _, _⟩ := hv
  rw [cell_of_row w g' _ cur e (0, 0) hgg]
  rw [← htake, List.getElem?_take] at hu
  split at hu
  ·rw [List.getElem?_drop] at hu; simpa using hu
  ·cases hu

theorem Seg.frozen (h : Seg w base e size v n xs) {g off cap m : Nat} (hv : v = .slice (some ⟨g, off, none⟩) m cap) (j : Nat) : w.frozen? ⟨g, j, none⟩ = false := by
 rcases h.2 with ⟨rfl, _⟩ | ⟨g', off', cap', cur, rfl, _, hgg, _⟩
 ·cases hv
 ·simp only [Value.slice.injEq, Option.some.injEq, Addr.mk.injEq, and_true] at hv
  obtain ⟨⟨rfl, rfl⟩, _, _⟩ := hv
  exact frozen_of_row _ _ _ _ _ hgg

/-- The shape of the value. -/
theorem Seg.shape (h : Seg w base e size v n xs) : (v = .slice none 0 0 ∧ n = 0 ∧ xs = []) ∨ ∃ g off cap, v = .slice (some ⟨g, off, none⟩) n cap ∧ base ≤ g ∧ g < w.heap.size ∧ n ≤ cap ∧ cap ≤ 9223372036854775807 := by
 rcases h.2 with ⟨rfl, rfl⟩ | ⟨g, off, cap, cur, rfl, hb, hgg, hn, hc, _⟩
 ·exact .inl ⟨rfl, rfl, List.eq_nil_of_length_eq_zero (by simpa using h.1)⟩
 ·unfold maxLen at hc
  exact .inr ⟨g, off, cap, rfl, hb, (Array.getElem?_eq_some_iff.1 hgg).1, hn, by omega⟩

/-- s[k:]. -/
theorem Seg.drop (h : Seg w base e size v n xs) {g off cap : Nat} (hv : v = .slice (some ⟨g, off, none⟩) n cap) (k : Nat) (hk : k ≤ n) : Seg w base e size (.slice (some ⟨g, off + k * size, none⟩) (n - k) (cap - k)) (n - k) (xs.drop (k * size)) := by
 have hx := h.1
 rcases h.2 with ⟨rfl, _⟩ | ⟨g', off', cap', cur, rfl, hb, hgg, hnc, hcm, hfit, htake⟩
 ·cases hv
 ·simp only [Value.slice.injEq, Option.some.injEq, Addr.mk.injEq, and_true] at hv
  obtain ⟨⟨rfl, rfl⟩, _, rfl⟩ := hv
  have e1 : cap' * size = (cap' - k) * size + k * size := by rw [← Nat.add_mul]; congr 1; omega
  have e2 : n * size = (n - k) * size + k * size := by rw [← Nat.add_mul]; congr 1; omega
  refine ⟨by rw [List.length_drop]; omega, .inr ⟨g', off' + k * size, cap' - k, cur, rfl, hb, hgg, by omega, by omega, by omega, ?_⟩⟩
  rw [← htake, List.drop_take, List.drop_drop]
  congr 1
  omega

/-- s[:k]. -/
theorem Seg.take (h : Seg w base e size v n xs) {g off cap : Nat} (hv : v = .slice (some ⟨g, off, none⟩) n cap) (k : Nat) (hk : k ≤ n) : Seg w base e size (.slice (some ⟨g, off, none⟩) k cap) k (xs.take (k * size)) := by
 have hx := h.1
 rcases h.2 with ⟨rfl, _⟩ | ⟨g', off', cap', cur, rfl, hb, hgg, hnc, hcm, hfit, htake⟩
 ·cases hv
 ·simp only [Value.slice.injEq, Option.some.injEq, Addr.mk.injEq, and_true] at hv
  obtain ⟨⟨rfl, rfl⟩, _, rfl⟩ := hv
  have e2 : k * size ≤ n * size := Nat.mul_le_mul_right _ hk
  refine ⟨by rw [List.length_take]; omega, .inr ⟨g', off', cap', cur, rfl, hb, hgg, by omega, by omega, by omega, ?_⟩⟩
  rw [← htake, List.take_take, Nat.min_eq_left e2]
end

/-- Cells laid over a block. -/
theorem Kt (g : Nat) (t : TypeId) : ∀ (vs : List Value) (o : Nat) (cs : Array Value) (w : World), w.heap[g]? = some (.cells cs t (0, 0)) → o + vs.length ≤ cs.size →
  ∃ cs' : Array Value, (w.setCells g o vs).heap[g]? = some (.cells cs' t (0, 0)) ∧ cs'.size = cs.size ∧ cs'.toList.take o = cs.toList.take o ∧ (cs'.toList.drop o).take vs.length = vs ∧ cs'.toList.drop (o + vs.length) = cs.toList.drop (o + vs.length) := by
 intro vs
 induction vs with
 | nil => intro o cs w h _; exact ⟨cs, h, rfl, rfl, by simp, rfl⟩
 | cons v r ih =>
  intro o cs w h hfit
  simp only [List.length_cons] at hfit
  obtain ⟨cs', h1, h2, h3, h4, h5⟩ := ih (o + 1) (cs.setIfInBounds o v) (w.setCell ⟨g, o, none⟩ v) (heap_setCell_same _ _ _ _ _ _ h) (by simp; omega)
  simp only [Array.size_setIfInBounds] at h2
  have hl : (cs.setIfInBounds o v).toList = cs.toList.set o v := by simp
  rw [hl] at h3 h5
  have ho : o < cs'.toList.length := by simp; omega
  have hget : cs'.toList[o]? = some v := by
   have e1 : (cs'.toList.take (o + 1))[o]? = cs'.toList[o]? := by rw [List.getElem?_take, if_pos (by omega)]
   rw [← e1, h3, List.getElem?_take, if_pos (by omega), List.getElem?_set]
   simp; omega
  refine ⟨cs', h1, h2, ?_, ?_, ?_⟩
  ·have e2 : (cs'.toList.take (o + 1)).take o = cs'.toList.take o := by rw [List.take_take]; congr 1; omega
   rw [← e2, h3, List.take_take, Nat.min_eq_left (by omega), List.take_set_of_le (by omega)]
  ·rw [List.drop_eq_getElem_cons ho]
   have e3 : cs'.toList[o] = v := by rw [List.getElem?_eq_getElem ho] at hget; exact Option.some.inj hget
   rw [e3, List.length_cons, List.take_succ_cons, h4]
  ·rw [List.length_cons, show o + (r.length + 1) = o + 1 + r.length from by omega, h5, List.drop_set_of_lt (by omega)]

section
variable {P : Program} (w : World)

theorem Qv (base : Nat) (t tx ty e : TypeId) (z : Value) (size bytes : Nat) (ht : P.underlying t = some (.slice e))
  (hinfo : (P.info? e).map (fun i => (i.zero, i.size, i.bytes)) = some (some z, size, bytes)) (hzs : z.cells.size = size)
  (v : Value) (n : Nat) (xs : List Value) (hown : Seg w base e size v n xs) (x : Value) (m : Nat) (news : List Value) (hsrc : Src P size tx x m news w)
  (h63 : n + m ≤ maxLen) (hbytes : (n + m) * bytes ≤ 140737488355328) (hbase : base ≤ w.heap.size) :
  ∃ v' w', (Builtin.append_ #[t, tx] ty #[v, x]).run P w = .ok v' w' ∧ Seg w' base e size v' (n + m) (xs ++ news) ∧ w.grownBy w' v.ownBlock ∧
   (v'.ownBlock = v.ownBlock ∨ v'.ownBlock = some w.heap.size) := by
 obtain ⟨i, hi, hzz⟩ := Option.map_eq_some_iff.1 hinfo
 simp only [Prod.mk.injEq] at hzz
 obtain ⟨hz, rfl, rfl⟩ := hzz
 have hlen : (xs ++ news).length = (n + m) * i.size := by rw [List.length_append, hown.1, hsrc.newsLen, Nat.add_mul]
 have hsmall : ((n + m : Nat) : Int) ≤ 9223372036854775807 := by simp only [maxLen] at h63; omega
 have grow : ∀ (b : Option Addr) (cap : Nat), cap < n + m → (Builtin.firstCells i.size n (.slice b n cap)).run P w.drew = .ok xs.toArray w.drew → v = .slice b n cap →
   ∃ v' w', (Builtin.append_ #[t, tx] ty #[v, x]).run P w = .ok v' w' ∧ Seg w' base e i.size v' (n + m) (xs ++ news) ∧ w.grownBy w' v.ownBlock ∧ (v'.ownBlock = v.ownBlock ∨ v'.ownBlock = some w.heap.size) := by
  rintro b cap hc hold rfl
  have hr := run_append_grow_src (P := P) w t tx ty e i z ht hi hz b n cap xs hold x m news hsrc hc hsmall (growslice_fits hc hbytes)
  refine ⟨_, _, hr, ?_, ⟨rfl, rfl, rfl, by simp, fun k hk _ => Below.heap_alloc w.drew _ k hk⟩, .inr rfl⟩
  ·have hge := grownCap_ge w (n + m) cap e
   have hcm := grownCap_le_maxLen w (n + m) cap e h63
   have hs : grownCap w (n + m) cap e * i.size ≤ ((xs ++ news).toArray ++ Builtin.zeroCells z.cells (grownCap w (n + m) cap e - (n + m))).size := by
    simp only [Array.size_append, List.size_toArray, size_zeroCells, hzs, hlen, ← Nat.add_mul]
    rw [show n + m + (grownCap w (n + m) cap e - (n + m)) = grownCap w (n + m) cap e from by omega]
    exact Nat.le_refl _
   have h1 := Seg.made (base := base) (e := e) (size := i.size) w.drew _ (n + m) _ hbase hge hcm hs
   have h2 : ((xs ++ news).toArray ++ Builtin.zeroCells z.cells (grownCap w (n + m) cap e - (n + m))).toList.take ((n + m) * i.size) = xs ++ news := by
    rw [Array.toList_append, ← hlen]; exact List.take_left
   rw [h2] at h1
   exact h1
 rcases hown.2 with ⟨rfl, rfl⟩ | ⟨g, off, cap, cur, rfl, hbg, hg, hnc, hcm, hcs, htake⟩
 ·have hx : xs = [] := List.eq_nil_of_length_eq_zero (by simpa using hown.1)
  subst hx
  by_cases hm : m = 0
  ·subst hm
   have hn : news = [] := List.eq_nil_of_length_eq_zero (by simpa using hsrc.newsLen)
   subst hn
   have hfc := hsrc.cells
   refine ⟨.slice none 0 0, w, ?_, Seg.nil w base e i.size, ⟨rfl, rfl, rfl, Nat.le_refl _, fun _ _ _ => rfl⟩, .inl rfl⟩
   rcases hsrc.kind with ⟨e', hk⟩ | hk <;> simp [Builtin.append_, run_underlying ht, run_underlying hk, sizeOf, typeInfo, hi, hsrc.len, hfc]
  ·exact grow none 0 (by omega) (run_firstCells_none w.drew i.size 0 0 0) rfl
 ·by_cases hroom : n + m ≤ cap
  ·have hle : (n + m) * i.size ≤ cap * i.size := Nat.mul_le_mul_right _ hroom
   have hnl := hsrc.newsLen
   have hsplit : (n + m) * i.size = n * i.size + m * i.size := Nat.add_mul ..
   have hc : ∀ j, j < news.length → (w.cell? ⟨g, off + n * i.size + j, none⟩).isSome = true := fun j hj => by
    rw [cell_of_row w g _ cur e (0, 0) hg, Array.getElem?_eq_getElem (by omega)]; rfl
   have hf : ∀ j, j < news.length → w.frozen? ⟨g, off + n * i.size + j, none⟩ = false := fun j _ => frozen_of_row _ _ _ _ _ hg
   have hr := run_append_room_src (P := P) w t tx ty e i ht hi g off n cap x m news hsrc hroom hc hf
   obtain ⟨cs', h1, h2, h3, h4, h5⟩ := Kt g e news (off + n * i.size) cur w hg (by omega)
   refine ⟨_, _, hr, ⟨hlen, .inr ⟨g, off, cap, cs', rfl, hbg, h1, hroom, hcm, by omega, ?_⟩⟩, ?_, .inl rfl⟩
   ·have e1 : cs'.toList.drop off = (cs'.toList.take (off + n * i.size)).drop off ++ cs'.toList.drop (off + n * i.size) := by
     rw [List.drop_take, show off + n * i.size - off = n * i.size from by omega]
     have e2 : cs'.toList.drop (off + n * i.size) = (cs'.toList.drop off).drop (n * i.size) := by rw [List.drop_drop]
     rw [e2, List.take_append_drop]
    have e3 : (cur.toList.take (off + n * i.size)).drop off = xs := by
     rw [List.drop_take, show off + n * i.size - off = n * i.size from by omega]; exact htake
    rw [e1, h3, e3, hsplit, List.take_append, hown.1, List.take_of_length_le (by rw [hown.1]; omega), show n * i.size + m * i.size - n * i.size = news.length from by omega, h4]
   ·have hgl := (Array.getElem?_eq_some_iff.1 hg).1
    refine ⟨World.os_setCells .., ?_, World.output_setCells .., ?_, fun k hk hne => World.heap_setCells_other w g _ _ hk (fun e => hne (by rw [e]; rfl))⟩
    ·clear hr h1 hsrc hnl hc hf h4 h5 h3 hlen
     suffices h : ∀ (vs : List Value) (o : Nat) (w : World), (w.setCells g o vs).tape = w.tape from h _ _ _
     intro vs
     induction vs with
     | nil => intro o w; rfl
     | cons v r ih => intro o w; exact (ih _ _).trans rfl
    ·clear hr h1 hsrc hnl hc hf h4 h5 h3 hlen
     suffices h : ∀ (vs : List Value) (o : Nat) (w : World), w.heap.size ≤ (w.setCells g o vs).heap.size from h _ _ _
     intro vs
     induction vs with
     | nil => intro o w; exact Nat.le_refl _
     | cons v r ih => intro o w; exact Nat.le_trans (by simp [World.setCell]) (ih _ _)
  ·refine grow (some ⟨g, off, none⟩) cap (by omega) (run_firstCells_some w.drew i.size n ⟨g, off, none⟩ n cap xs hown.1 ?_) rfl
   intro j u hu
   rw [show (⟨g, off, none⟩ : Addr).add j = ⟨g, off + j, none⟩ from by simp [Addr.add]]
   exact hown.cells rfl j u hu

theorem Cj {ops : Array Oper} {rest : List Oper} {o : Oper} {a : Act} {Q : Exit → Act → World → Prop} (hgd : o.guard = none) (s x : Operand) (t tx : TypeId)
  (ho : o.op = .call { callee := .builtin .append, args := #[s, x], argTypes := #[t, tx] })
  (base : Nat) (e : TypeId) (z : Value) (size bytes : Nat) (ht : P.underlying t = some (.slice e))
  (hinfo : (P.info? e).map (fun i => (i.zero, i.size, i.bytes)) = some (some z, size, bytes)) (hzs : z.cells.size = size)
  (v : Value) (n : Nat) (xs : List Value) (hs : a.eval s = v) (hown : Seg w base e size v n xs)
  (vx : Value) (m : Nat) (news : List Value) (hx : a.eval x = vx) (hsrc : Src P size tx vx m news w)
  (h63 : n + m ≤ maxLen) (hbytes : (n + m) * bytes ≤ 140737488355328) (hbase : base ≤ w.heap.size)
  (h : ∀ v' w', Seg w' base e size v' (n + m) (xs ++ news) → w.grownBy w' v.ownBlock → (v'.ownBlock = v.ownBlock ∨ v'.ownBlock = some w.heap.size) → wpList P ops Q rest (a.put o.dst v') w') : wpList P ops Q (o :: rest) a w :=
 wpList_plain hgd fun K hK => by
  obtain ⟨v', w', hr, h2, h3, h4⟩ := Qv (P := P) w base t tx o.type e z size bytes ht hinfo hzs v n xs hown vx m news hsrc h63 hbytes hbase
  unfold Oper.wp execOp
  simp only [ho, resolve, invoke, builtin, Sem.run_bind, Sem.run_pure, Result.andThen_ok, List.map_toArray, List.map_cons, List.map_nil, hs, hx, hr]
  exact hK _ _ (h v' w' h2 h3 h4)

/-- Bytes that are read, aS a source. -/
theorem Bs.srcOf {w : World} {a : Option Addr} {l : List UInt8} (h : Bs w a l) {tx e' : TypeId} (hk : P.underlying tx = some (.slice e')) (c : Nat) (hn : a = none → c = c) : Src P 1 tx (.slice a l.length c) l.length (bv l) w := by
 cases a with
 | some ad =>
  refine Src.ofSlice w hk ad _ c (bv l) (by simp) (fun j u hu => ?_) (Rz l)
  by_cases hp : 0 < (bv l).length
  ·obtain ⟨ad', e1, h1⟩ := h.src hp
   cases e1; exact h1 j u hu
  ·rw [List.getElem?_eq_none (by omega)] at hu; cases hu
 | none =>
  have hl : l = [] := by
   cases l with
   | nil => rfl
   | cons x l => obtain ⟨b, off, e, _⟩ := h 0 (by simp); cases e
  subst hl
  exact Src.ofNil w hk c
end

end Go.Proofs.YtmlompedpahkjaaDoor.Kit


namespace Go.Proofs.YtmlompedpahkjaaDoor.Kit
open Go.RowKit
set_option linter.unusedVariables false

/-- Of the Bo that w has all but those in S are in w' aS they were; the streams too. -/
structure Fr (S : Nat → Prop) (w w' : World) : Prop where
 os : w'.os = w.os
 tape : w'.tape = w.tape
 output : w'.output = w.output
 size : w.heap.size ≤ w'.heap.size
 block : ∀ k, k < w.heap.size → ¬ S k → w'.heap[k]? = w.heap[k]?

section
variable {S : Nat → Prop} {a b c w w' : World}
theorem Fr.refl (S : Nat → Prop) (w : World) : Fr S w w := ⟨rfl, rfl, rfl, Nat.le_refl _, fun _ _ _ => rfl⟩
theorem Fr.trans (h : Fr S a b) (k : Fr S b c) : Fr S a c :=
 ⟨k.os.trans h.os, k.tape.trans h.tape, k.output.trans h.output, Nat.le_trans h.size k.size, fun i hi hn => (k.block i (Nat.lt_of_lt_of_le hi h.size) hn).trans (h.block i hi hn)⟩
/-- The second step may write what is new since the first one began. -/
theorem Fr.then {T : Nat → Prop} (h : Fr S a b) (k : Fr T b c) (hT : ∀ i, i < a.heap.size → T i → S i) : Fr S a c :=
 ⟨k.os.trans h.os, k.tape.trans h.tape, k.output.trans h.output, Nat.le_trans h.size k.size, fun i hi hn => (k.block i (Nat.lt_of_lt_of_le hi h.size) (fun t => hn (hT i hi t))).trans (h.block i hi hn)⟩
theorem Fr.mono {T : Nat → Prop} (h : Fr S a b) (hT : ∀ i, i < a.heap.size → S i → T i) : Fr T a b := ⟨h.os, h.tape, h.output, h.size, fun i hi hn => h.block i hi (fun s => hn (hT i hi s))⟩
theorem Fr.of_keeps (h : Au a b) (S : Nat → Prop) : Fr S a b := ⟨h.os, h.tape, h.output, h.size, fun i hi _ => h.block i hi⟩
theorem Fr.keeps (h : Fr S a b) (hS : ∀ i, i < a.heap.size → ¬ S i) : Au a b := ⟨h.os, h.tape, h.output, h.size, fun i hi => h.block i hi (hS i hi)⟩
theorem Fr.alloc (h : Fr S a b) (o : Obj) : Fr S a (b.alloc o) := h.trans (Fr.of_keeps ((Au.refl b).alloc o) S)
theorem Fr.drewN (h : Fr S a b) (n : Nat) : Fr S a (b.drewN n) := ⟨h.os, h.tape, h.output, h.size, h.block⟩
theorem Fr.drew (h : Fr S a b) : Fr S a b.drew := ⟨h.os, h.tape, h.output, h.size, h.block⟩
theorem Fr.setCell (h : Fr S a b) {p : Addr} (hp : S p.block ∨ a.heap.size ≤ p.block) (u : Value) : Fr S a (b.setCell p u) :=
 ⟨h.os, h.tape, h.output, by simpa [World.setCell] using h.size, fun i hi hn => (Below.heap_setCell b p u i (by
  rintro rfl
  rcases hp with hp | hp
  ·exact hn hp
  ·omega)).trans (h.block i hi hn)⟩
theorem Fr.grown (h : Fr S a b) {row : Option Nat} (k : b.grownBy c row) (hS : ∀ i, row = some i → i < a.heap.size → S i) : Fr S a c :=
 ⟨k.os.trans h.os, k.tape.trans h.tape, k.output.trans h.output, Nat.le_trans h.size k.size, fun i hi hn => (k.block i (Nat.lt_of_lt_of_le hi h.size) (fun e => hn (hS i e.symm hi))).trans (h.block i hi hn)⟩
theorem Fr.cell (h : Fr S w w') {p : Addr} (hn : ¬ S p.block) {v : Value} (hv : w.cell? p = some v) : w'.cell? p = some v := by
 rw [World.cell?_of_block (w := w) (h.block p.block (World.block_lt_of_cell? w p hv) hn)]; exact hv
theorem Arr.fr {g : Nat} {t : TypeId} {cs : List Value} (h : Arr w g t cs) (k : Fr S w w') (hn : ¬ S g) : Arr w' g t cs := by
 unfold Arr; rw [k.block g h.lt hn]; exact h
theorem Seg.fr {base : Nat} {e : TypeId} {size : Nat} {v : Value} {n : Nat} {xs : List Value} (h : Seg w base e size v n xs) (k : Fr S w w') (hn : ∀ i, v.ownBlock = some i → ¬ S i) : Seg w' base e size v n xs := by
 refine ⟨h.1, ?_⟩
 rcases h.2 with hx | ⟨g, off, cap, cur, rfl, hb, hgg, rest⟩
 ·exact .inl hx
 ·refine .inr ⟨g, off, cap, cur, rfl, hb, ?_, rest⟩
  rw [k.block g (Array.getElem?_eq_some_iff.1 hgg).1 (hn g rfl)]
  exact hgg
theorem Bs.fr {x : Option Addr} {l : List UInt8} (h : Bs w x l) (k : Fr S w w') (hn : 0 < l.length → ∀ p, x = some p → ¬ S p.block) : Bs w' x l := fun j hj => by
 obtain ⟨b, off, rfl, hc⟩ := h j hj
 exact ⟨b, off, rfl, k.cell (p := ⟨b, off + j, none⟩) (hn (by omega) ⟨b, off, none⟩ rfl) hc⟩
theorem Bs.lt {x : Option Addr} {l : List UInt8} (h : Bs w x l) (hl : 0 < l.length) (p : Addr) (hp : x = some p) : p.block < w.heap.size := by
 obtain ⟨b, off, e, hc⟩ := h 0 hl
 rw [hp] at e; cases e
 exact World.block_lt_of_cell? w _ hc

/-- The value of a segment, aS the walk wants it. -/
theorem Seg.form {base : Nat} {e : TypeId} {size : Nat} {v : Value} {n : Nat} {xs : List Value} (h : Seg w base e size v n xs) :
  ∃ x cap, v = .slice x n cap ∧ n ≤ cap ∧ cap ≤ 9223372036854775807 ∧ (0 < cap → ∃ b off, x = some ⟨b, off, none⟩ ∧ base ≤ b ∧ b < w.heap.size) := by
 rcases h.shape with ⟨rfl, rfl, _⟩ | ⟨g, off, cap, rfl, hb, hlt, hn, hc⟩
 ·exact ⟨none, 0, rfl, by omega, by omega, fun h => absurd h (by omega)⟩
 ·exact ⟨_, cap, rfl, hn, hc, fun _ => ⟨g, off, rfl, hb, hlt⟩⟩

/-- A segment that has come to its end. -/
theorem Seg.end0 {base : Nat} {e : TypeId} {size : Nat} {g off n cap : Nat} {xs : List Value} (h : Seg w base e size (.slice (some ⟨g, off, none⟩) n cap) n xs) : Seg w base e size (.slice (some ⟨g, off, none⟩) 0 0) 0 [] := by
 rcases h.2 with ⟨h, _⟩ | ⟨g', off', cap', cur, hv, hb, hgg, hnc, hcm, hfit, htake⟩
 ·cases h
 ·simp only [Value.slice.injEq, Option.some.injEq, Addr.mk.injEq, and_true] at hv
  obtain ⟨⟨rfl, rfl⟩, _, rfl⟩ := hv
  exact ⟨by simp, .inr ⟨g, off, 0, cur, rfl, hb, hgg, Nat.le_refl _, by omega, by omega, by simp⟩⟩

/-- A segment of bytes is read. -/
theorem Seg.bytes {base : Nat} {e : TypeId} {x : Option Addr} {n cap : Nat} {l : List UInt8} (h : Seg w base e 1 (.slice x n cap) n (bv l)) : Bs w x l := fun j hj => by
 rcases h.shape with ⟨hv, _, hx⟩ | ⟨g, off, cap', hv, _⟩
 ·have : (bv l).length = 0 := by rw [hx]; rfl
  rw [DI] at this; omega
 ·cases hv
  exact ⟨g, off, rfl, h.cells rfl j _ (XU l j hj)⟩

theorem Seg.len {base : Nat} {e : TypeId} {v : Value} {n : Nat} {l : List UInt8} (h : Seg w base e 1 v n (bv l)) : l.length = n := by
 have := h.1; rw [DI] at this; omega

/-- Its block is of the element's type: another one than a struct's. -/
theorem Seg.ne_arr {base : Nat} {e t : TypeId} {size : Nat} {v : Value} {n g : Nat} {xs cs : List Value} (h : Seg w base e size v n xs) (hg : Arr w g t cs) (hne : e ≠ t) : v.ownBlock ≠ some g := by
 intro hv
 rcases h.2 with ⟨rfl, _⟩ | ⟨g', off', cap', cur, rfl, _, hgg, _⟩
 ·cases hv
 ·cases hv
  unfold Arr at hg; rw [hgg] at hg
  simp only [Option.some.injEq, Obj.cells.injEq] at hg
  exact hne hg.2.1
end
theorem Arr.there {w : World} {b : Nat} {t : TypeId} {cs : List Value} (h : Arr w b t cs) (n : Nat) (hn : n ≤ cs.length) : w.there b 0 n := fun j hj => by
 rw [Nat.zero_add, h.cell, List.getElem?_eq_getElem (by omega)]; exact ⟨rfl, h.frozen j⟩
/-- A whole block is written. -/
theorem Arr.setAll {w : World} {b : Nat} {t : TypeId} {cs vs : List Value} (h : Arr w b t cs) (hl : vs.length = cs.length) : Arr (w.setCells b 0 vs) b t vs := by
 obtain ⟨cs', h1, h2, h3, h4, h5⟩ := Kt b t vs 0 cs.toArray w h (by simp; omega)
 have e : cs' = vs.toArray := by
  apply Array.ext'
  simp only [List.size_toArray] at h2
  simp only [List.drop_zero] at h4
  rw [← h4, List.take_of_length_le (by simp; omega)]
 rw [e] at h1; exact h1
theorem Au.setCells {a : World} {g : Nat} (hg : a.heap.size ≤ g) : ∀ (vs : List Value) (o : Nat) (w : World), Au a w → Au a (w.setCells g o vs)
 | [], _, _, h => h
 | v :: r, o, w, h => Au.setCells hg r (o + 1) _ (Below.setCell h (p := ⟨g, o, none⟩) hg v)
/-- One new element of several cells, aS append's source. -/
theorem Ah8 {P : Program} {tx e' : TypeId} (hk : P.underlying tx = some (.slice e')) (w : World) (size : Nat) (cs : Array Value) (t : TypeId) (hl : cs.size = size) (h1 : ∀ u ∈ cs.toList, u.oneCell' = true) :
  Src P size tx (.slice (some ⟨w.heap.size, 0, none⟩) 1 1) 1 cs.toList (w.alloc (.cells cs t)) := by
 refine Src.ofSlice _ hk _ 1 1 cs.toList (by simp [hl]) (fun j u hu => ?_) h1
 rw [show (⟨w.heap.size, 0, none⟩ : Addr).add j = ⟨w.heap.size, j, none⟩ from by (unfold Addr.add; split <;> simp_all)]
 rw [cell_of_row _ _ _ cs t (0, 0) (heap_alloc_new w _)]
 simpa using hu
/-- One new cell, aS append's source. -/
theorem XP {P : Program} {tx e' : TypeId} (hk : P.underlying tx = some (.slice e')) (w : World) (x : Value) (t : TypeId) (h1 : x.oneCell' = true) :
  Src P 1 tx (.slice (some ⟨w.heap.size, 0, none⟩) 1 1) 1 [x] (w.alloc (.cells #[x] t)) :=
 Ah8 hk w 1 #[x] t rfl (fun u hu => by simp at hu; rw [hu]; exact h1)
theorem AaK (m : List UInt8) (y : UInt8) {z : Int} (hz : z = (y.toNat : Int)) : bv m ++ [.int .u8 z] = bv (m ++ [y]) := by subst hz; simp [bv]
theorem PK (n : Nat) : ((UInt8.ofNat (n % 256)).toNat : Int) = (n : Int) % 256 := by
 rw [UInt8.toNat_ofNat']; omega
theorem CY {a b : World} (h : a.grownBy b none) : Au a b := ⟨h.os, h.tape, h.output, h.size, fun k hk => h.block k hk (by simp)⟩
theorem An8 {W w1 : World} (h : W.grownBy w1 none) : (∀ b o, b < W.heap.size → w1.cell? ⟨b, o, none⟩ = W.cell? ⟨b, o, none⟩) ∧ (∀ b o, b < W.heap.size → w1.frozen? ⟨b, o, none⟩ = W.frozen? ⟨b, o, none⟩) :=
 ⟨fun b o hb => World.cell?_of_block (h.block b hb (by simp)), fun b o hb => World.frozen?_of_block (h.block b hb (by simp))⟩
/-- 'append(s, make([]T, k)...)' to a full slice of one-cell elements. -/
theorem Qb {P : Program} (w : World) (base : Nat) (t tn ty e : TypeId) (z : Value) (bytes : Nat) (kq kn : IntKind) (ht : P.underlying t = some (.slice e)) (htn : P.underlying tn = some (.int kn))
  (hinfo : (P.info? e).map (fun i => (i.zero, i.size, i.bytes)) = some (some z, 1, bytes)) (hzs : z.cells = #[z])
  (g off n : Nat) (xs : List Value) (hown : Seg w base e 1 (.slice (some ⟨g, off, none⟩) n n) n xs) (k : Nat) (h63 : n + k ≤ maxLen) (hbytes : (n + k) * bytes ≤ 140737488355328) :
  ∃ v' w', (Builtin.append_ #[t, tn] ty #[.slice (some ⟨g, off, none⟩) n n, .int kq k]).run P w = .ok v' w' ∧ Seg w' base e 1 v' (n + k) (xs ++ List.replicate k z) ∧ w.grownBy w' none := by
 obtain ⟨i, hi, hzz⟩ := Option.map_eq_some_iff.1 hinfo
 simp only [Prod.mk.injEq] at hzz
 obtain ⟨hz, hs1, rfl⟩ := hzz
 have hsmall : ((n + k : Nat) : Int) ≤ 9223372036854775807 := by simp only [maxLen] at h63; omega
 by_cases hk : k = 0
 ·subst hk
  refine ⟨.slice (some ⟨g, off, none⟩) n n, w, ?_, by simpa using hown, ⟨rfl, rfl, rfl, Nat.le_refl _, fun _ _ _ => rfl⟩⟩
  have hw : IntKind.i64.wrap (0 : Int) = 0 := by rw [IntKind.wrap_i64]; omega
  simp [Builtin.append_, run_underlying ht, run_underlying htn, sizeOf, typeInfo, hi, asInt, asIntOf, hw, storeCells]
 ·have holds : ∀ j u, xs[j]? = some u → w.drew.cell? ((⟨g, off, none⟩ : Addr).add j) = some u := fun j u hu => by
   rw [show (⟨g, off, none⟩ : Addr).add j = ⟨g, off + j, none⟩ from by simp [Addr.add]]; exact hown.cells rfl j u hu
  have hxl := hown.1
  have hold := run_firstCells_some (P := P) w.drew i.size n ⟨g, off, none⟩ n n xs (by rw [hs1]; exact hxl) holds
  have hkb : k * i.bytes ≤ (n + k) * i.bytes := Nat.mul_le_mul_right _ (by omega)
  have hr := Lib.run_append_grow_zeros (P := P) w t tn ty e i z kq kn ht htn hi hz (some ⟨g, off, none⟩) n n xs hold k (by omega) (by omega) (by omega) hsmall (by omega) (growslice_fits (by omega) hbytes)
  refine ⟨_, _, hr, ?_, ⟨rfl, rfl, rfl, by simp, fun j hj _ => Below.heap_alloc w.drew _ j hj⟩⟩
  have hge := grownCap_ge w (n + k) n e
  have hcm := grownCap_le_maxLen w (n + k) n e h63
  have hbase : base ≤ w.drew.heap.size := by
   rcases hown.2 with ⟨h, _⟩ | ⟨g', off', cap', cur, hv, hb, hgg, _⟩
   ·cases h
   ·exact Nat.le_trans hb (Nat.le_of_lt (Array.getElem?_eq_some_iff.1 hgg).1)
  have h1 := Seg.made (base := base) (e := e) (size := 1) w.drew (xs.toArray ++ Builtin.zeroCells z.cells k ++ Builtin.zeroCells z.cells (grownCap w (n + k) n e - (n + k))) (n + k) _ hbase hge hcm (by simp [size_zeroCells, hzs]; omega)
  have h2 : (xs.toArray ++ Builtin.zeroCells z.cells k ++ Builtin.zeroCells z.cells (grownCap w (n + k) n e - (n + k))).toList.take ((n + k) * 1) = xs ++ List.replicate k z := by
   have hzl : (Builtin.zeroCells z.cells k).toList = List.replicate k z := by
    apply List.ext_getElem?
    intro j
    rcases Nat.lt_or_ge j k with h | h <;> simp [Builtin.zeroCells, hzs, Nat.mod_one, h] <;> omega
   rw [Array.toList_append, Array.toList_append, hzl, Nat.mul_one]
   have hl : (xs ++ List.replicate k z).length = n + k := by simp; omega
   simp only []
   rw [← hl]; exact List.take_left
  rw [h2] at h1
  exact h1

section
variable {P : Program} (w : World)
/-- An append inside a region that draws its order. -/
theorem VL {ops : Array Oper} {o : Oper} {a : Act} {K : Act → World → Prop} {Q : Exit → Act → World → Prop} {E : Prop} (hgd : o.guard = none) (s x : Operand) (t tx : TypeId)
  (ho : o.op = .call { callee := .builtin .append, args := #[s, x], argTypes := #[t, tx] })
  (base : Nat) (e : TypeId) (z : Value) (size bytes : Nat) (ht : P.underlying t = some (.slice e))
  (hinfo : (P.info? e).map (fun i => (i.zero, i.size, i.bytes)) = some (some z, size, bytes)) (hzs : z.cells.size = size)
  (v : Value) (n : Nat) (xs : List Value) (hs : a.eval s = v) (hown : Seg w base e size v n xs)
  (vx : Value) (m : Nat) (news : List Value) (hx : a.eval x = vx) (hsrc : Src P size tx vx m news w)
  (h63 : n + m ≤ maxLen) (hbytes : (n + m) * bytes ≤ 140737488355328) (hbase : base ≤ w.heap.size)
  (h : ∀ v' w', Seg w' base e size v' (n + m) (xs ++ news) → w.grownBy w' v.ownBlock → (v'.ownBlock = v.ownBlock ∨ v'.ownBlock = some w.heap.size) → K (a.put o.dst v') w') :
  if Region.wanted o (yielded ops a.tmps) = true then Oper.wp P o a w K Q else E := by
 have hw : Region.wanted o (yielded ops a.tmps) = true := by simp [Region.wanted, hgd]
 rw [if_pos hw]
 obtain ⟨v', w', hr, h2, h3, h4⟩ := Qv (P := P) w base t tx o.type e z size bytes ht hinfo hzs v n xs hown vx m news hsrc h63 hbytes hbase
 unfold Oper.wp execOp
 simp only [ho, resolve, invoke, builtin, Sem.run_bind, Sem.run_pure, Result.andThen_ok, List.map_toArray, List.map_cons, List.map_nil, hs, hx, hr]
 exact h v' w' h2 h3 h4
end
end Go.Proofs.YtmlompedpahkjaaDoor.Kit


namespace Go.Proofs.YtmlompedpahkjaaDoor.Kit
open Go.RowKit
set_option linter.unusedVariables false

theorem YB {a b : Bool} (h : a = b) : Ending.returned (.bool a) = .returned (.bool b) := by rw [h]

theorem Acn {l m : List UInt8} {k : Nat} (h : l.getD k 0 ≠ m.getD k 0) : (l == m) = false := by
 rw [beq_eq_false_iff_ne]; intro e; exact h (by rw [e])

set_option maxRecDepth 100000 in
set_option maxHeartbeats 400000 in
theorem same (a b : Option Addr) (ca cb : Nat) (l m : List UInt8) (w : World) (hl : l.length ≤ 9223372036854775807) (hm : m.length ≤ 9223372036854775807) (ha : Bs w a l) (hb : Bs w b m) :
  Calls Tryd.prog 12 #[.slice a l.length ca, .slice b m.length cb] w fun e w' => e = .returned (.bool (l == m)) ∧ ∃ n, w' = w.drewN n := by
 by_cases hlm : l.length = m.length
 ·have hne : ((l.length : Int) != (m.length : Int)) = false := by simp [hlm]
  have HLM := Lib.hid hlm; clear hlm
  go_enter Tryd.func12, Tryd.ntmps12
  go_wp2
  go_loopw [4, 5] (fun r i wr => ∃ k n : Nat, k ≤ l.length ∧ i = .int .i64 k ∧ wr = w.drewN n ∧ r = .bool false ∧ Hid (l.take k = m.take k)) (fun _ i _ => l.length - (intOf i).toNat)
  case atStart => exact ⟨0, 0, by omega, rfl, rfl, rfl, rfl⟩
  case round =>
   obtain ⟨k, n, hk, rfl, rfl, rfl, hr⟩ := hrel
   by_cases hlt : k < l.length
   ·obtain ⟨b1, o1, x, rfl, hc1, hx, HX⟩ := ha.at hlt
    obtain ⟨b2, o2, y, rfl, hc2, hy, HY⟩ := hb.at (j := k) (by rw [← HLM.out]; exact hlt)
    have hlt2 : k < m.length := by rw [← HLM.out]; exact hlt
    by_cases hxy : x = y
    ·subst hxy
     go_wp2
     go_quiet (fail)
     go_wp2
     go_roundw
     case rel =>
      refine ⟨k + 1, _, by omega, by go_num, rfl, rfl, ?_⟩
      have h1 := hr.out
      have e1 : l[k] = x := by rw [HX.out]; simp [List.getD, hlt]
      have e2 : m[k] = x := by rw [HY.out]; simp [List.getD, hlt2]
      show l.take (k + 1) = m.take (k + 1)
      rw [List.take_succ_eq_append_getElem hlt, List.take_succ_eq_append_getElem hlt2, h1, e1, e2]
     case measure => simp [intOf]; omega
    ·have hn : ((x.toNat : Int) != (y.toNat : Int)) = true := by
      rw [bne_iff_ne]; intro e; exact hxy (UInt8.toNat_inj.1 (by omega))
     have HN := Lib.hid hxy; clear hxy
     go_wp2
     go_quiet (fail)
     go_wp2
     go_ret
     exact ⟨YB (Acn (k := k) (by rw [← HX.out, ← HY.out]; exact HN.out)).symm, _, World.drewN_drewN ..⟩
   ·go_wp2
    go_ret
    refine ⟨YB ?_, _, rfl⟩
    have h1 := hr.out
    rw [List.take_of_length_le (by omega), List.take_of_length_le (by rw [← HLM.out]; omega)] at h1
    simp [h1]
 ·have hne : ((l.length : Int) != (m.length : Int)) = true := by rw [bne_iff_ne]; omega
  have HLM := Lib.hid hlm; clear hlm
  go_enter Tryd.func12, Tryd.ntmps12
  go_wp2
  go_ret
  refine ⟨YB ?_, 0, rfl⟩
  symm; rw [beq_eq_false_iff_ne]; intro e; exact HLM.out (by rw [e])

theorem Tryd.infoU8 : (Tryd.prog.info? 5).map (fun i => (i.zero, i.size, i.bytes)) = some (some (.int .u8 0), 1, 1) := by kernel_rfl
theorem Tryd.sizeU8 : (Tryd.prog.info? 5).map (·.size) = some 1 := by kernel_rfl

set_option maxRecDepth 100000 in
set_option maxHeartbeats 400000 in
theorem AnR (a : Option Addr) (ca : Nat) (l : List UInt8) (w : World) (hl : l.length ≤ 1000000) (ha : Bs w a l) :
  Calls Tryd.prog 8 #[.slice a l.length ca] w fun e w' => e = .returned (.slice (some ⟨w.heap.size, 0, none⟩) l.length (l.length + 2)) ∧
   w'.heap[w.heap.size]? = some (.cells (bv (l ++ [71, 72])).toArray 5 (0, 0)) ∧ Au w w' := by
 have hmk := run_make_row' (P := Tryd.prog) 23 5 (.int .u8 0) 1 Tryd.underlying23 Tryd.infoU8 rfl .i64 .i64 (l.length + 2) (by omega) (by omega)
 rw [show ((l.length + 2 : Nat) : Int) = (l.length : Int) + 2 from by omega] at hmk
 have hsz := Tryd.sizeU8
 go_enter Tryd.func8, Tryd.ntmps8
 go_wp2_with (with_reducible refine wpList_copy_splice rfl (.tmp 10) (.tmp 11) 23 23 rfl 5 Tryd.underlying23 hsz _ _ _ _ _ _ rfl rfl w.heap.size 0 (madeCells #[.int .u8 0] (l.length + 2)).toList 5 ?c1 (bv l) ?c2 ?c3 ?c4 ?c5 w.heap.size w ?c6 (Nat.le_refl _) ?_)
 case c1 => rw [heap_alloc_new]
 case c2 => rw [DI]; show _ = min _ _; omega
 case c3 => exact fun h => (ha.keep ((Au.refl w).alloc _)).src (by simpa using h)
 case c4 => simp [size_madeCells]
 case c5 => exact Rz l
 case c6 => exact (Au.refl w).alloc _
 intro w1 H1 K1
 have hsp : splice (madeCells #[Value.int .u8 0] (l.length + 2)).toList 0 (bv l) = bv l ++ [Value.int .u8 0, Value.int .u8 0] := by
  rw [toList_madeCells_one, splice]; simp only [List.take_zero, List.nil_append, Nat.zero_add, DI, List.drop_replicate]; rw [show l.length + 2 - l.length = 2 from by omega]; rfl
 have H2 : w1.heap[w.heap.size]? = some (.cells (bv l ++ [Value.int .u8 0, Value.int .u8 0]).toArray 5 (0, 0)) := by rw [← hsp]; exact H1.out
 have c1 : w1.cell? ⟨w.heap.size, l.length, none⟩ = some (.int .u8 0) := by rw [cell_of_row _ _ _ _ _ _ H2]; simp
 have c2 : w1.cell? ⟨w.heap.size, l.length + 1, none⟩ = some (.int .u8 0) := by rw [cell_of_row _ _ _ _ _ _ H2]; simp
 have f1 : w1.frozen? ⟨w.heap.size, l.length, none⟩ = false := frozen_of_row _ _ _ _ _ H2
 have f2 : w1.frozen? ⟨w.heap.size, l.length + 1, none⟩ = false := frozen_of_row _ _ _ _ _ H2
 have HB := Lib.hid H2
 clear H1 H2 hsp hmk
 go_wp2
 go_ret
 refine ⟨rfl, ?_, ?_⟩
 ·rw [heap_setCell_same _ _ _ _ _ _ (heap_setCell_same _ _ _ _ _ _ HB.out)]
  simp [bv]
 ·exact (K1.setCell (Nat.le_refl _) _).setCell (Nat.le_refl _) _
theorem Aow (m : List UInt8) (i : Nat) (y : UInt8) : (bv m).toArray.setIfInBounds i (.int .u8 (y.toNat : Int)) = (bv (m.set i y)).toArray := by
 simp [bv, List.map_set]

set_option maxRecDepth 100000 in
set_option maxHeartbeats 1000000 in
theorem Yn (g : Nat) (b : Option Addr) (cb : Nat) (l : List UInt8) (w : World) (hl : l.length ≤ 1000000) (hg : w.heap[g]? = some (.cells (bv (l ++ [71, 72])).toArray 5 (0, 0))) (hb : Bs w b l) :
  Calls Tryd.prog 10 #[.slice (some ⟨g, 0, none⟩) l.length (l.length + 2), .slice b l.length cb] w fun e w' => e = .returned (.bool true) ∧ w.grownBy w' (some g) := by
 have hr : Bs w (some ⟨g, 0, none⟩) l := Bs.of_block hg (fun j hj => by rw [Nat.zero_add, XU _ _ (by simp; omega)]; simp [List.getD, hj, List.getElem?_append_left hj])
 have c1 : w.cell? ⟨g, l.length, none⟩ = some (.int .u8 71) := by rw [cell_of_row _ _ _ _ _ _ hg]; simp [bv]
 have c2 : w.cell? ⟨g, l.length + 1, none⟩ = some (.int .u8 72) := by rw [cell_of_row _ _ _ _ _ _ hg]; simp [bv]
 have HG := Lib.hid hg; clear hg
 go_enter Tryd.func10, Tryd.ntmps10
 go_wp2_with fail
 (with_reducible refine (same _ _ _ _ _ _ _ (by omega) (by omega) hr hb).mono ?_)
 rintro e w' ⟨rfl, n, rfl⟩
 have hll : (l == l) = true := by simp
 go_wp2
 go_loopw [8] (fun i wr => ∃ (k : Nat) (m : List UInt8), k ≤ l.length + 2 ∧ i = .int .i64 k ∧ m.length = l.length + 2 ∧ wr.heap[g]? = some (.cells (bv m).toArray 5 (0, 0)) ∧ w.grownBy wr (some g)) (fun i _ => l.length + 2 - (intOf i).toNat)
 case atStart => exact ⟨0, l ++ [71, 72], by omega, rfl, by simp, HG.out, ⟨rfl, rfl, rfl, Nat.le_refl _, fun _ _ _ => rfl⟩⟩
 case round =>
  obtain ⟨k, m, hk, rfl, hm, hgr, hgrown⟩ := hrel
  by_cases hlt : k < l.length + 2
  ·have hcell : wr.cell? ⟨g, k, none⟩ = some (.int .u8 ((m.getD k 0).toNat : Int)) := by rw [cell_of_row _ _ _ _ _ _ hgr]; simpa using XU m k (by omega)
   have hfz : wr.frozen? ⟨g, k, none⟩ = false := frozen_of_row _ _ _ _ _ hgr
   obtain ⟨x, hx⟩ : ∃ x, x = m.getD k 0 := ⟨_, rfl⟩
   rw [← hx] at hcell
   have HGR := Lib.hid hgr; clear hgr hx
   have HM := Lib.hid hm; clear hm
   have hbx := Aas x
   go_wp2
   go_roundw
   case rel =>
    refine ⟨k + 1, m.set k (x ^^^ 85), by omega, by go_num, by rw [List.length_set]; exact HM.out, ?_, ?_⟩
    ·rw [heap_setCell_same _ _ _ _ _ _ HGR.out, ← Aow]
     rw [show (85 : Int) = ((85 : Nat) : Int) from rfl, u8_xor_nat _ _ (by omega) (by omega), UInt8.toNat_xor]; rfl
    ·exact ⟨hgrown.os, hgrown.tape, hgrown.output, by simpa [World.setCell] using hgrown.size, fun j hj hne => by rw [heap_setCell_other _ _ _ _ (by simpa using fun e => hne (by rw [e]))]; exact hgrown.block j hj hne⟩
   case measure => simp [intOf]; omega
  ·have HGR := Lib.hid hgr; clear hgr
   have HM := Lib.hid hm; clear hm
   go_wp2
   go_ret
   exact ⟨rfl, hgrown⟩

end Go.Proofs.YtmlompedpahkjaaDoor.Kit


namespace Go.Proofs.YtmlompedpahkjaaDoor.Kit
open Go.RowKit
set_option linter.unusedVariables false

/-- A digest at block g, to which 'all' was added; its rest lies in the slice vr. -/
structure Dig (w : World) (base g : Nat) (vr : Value) (all : List UInt8) : Prop where
 arr : Arr w g 190 (D8 (Bo H0 all).1.list ++ [vr, .int .u64 ((all.length % 18446744073709551616 : Nat) : Int)])
 seg : Seg w base 5 1 vr (Bo H0 all).2.length (bv (Bo H0 all).2)

theorem Dig.fr {w w' : World} {base g : Nat} {vr : Value} {all : List UInt8} {S : Nat → Prop} (h : Dig w base g vr all) (k : Fr S w w') (h1 : ¬ S g) (h2 : ∀ i, vr.ownBlock = some i → ¬ S i) : Dig w' base g vr all :=
 ⟨h.arr.fr k h1, h.seg.fr k h2⟩

/-- What is left to be mixed in. -/
structure Aeu (all : List UInt8) (h : V5) (l : List UInt8) : Prop where
 eq : Bo h l = Bo H0 all
 ok : h.ok


set_option maxRecDepth 100000 in
set_option maxHeartbeats 4000000 in
theorem Amw (w : World) : Calls Tryd.prog 75 #[] w fun e w' => e = .returned (.pointer (some ⟨w.heap.size, 0, none⟩)) ∧ Dig w' 0 w.heap.size (.slice none 0 0) [] ∧ Au w w' := by
 go_enter Tryd.func75, Tryd.ntmps75
 go_wp2
 go_ret
 refine ⟨rfl, ⟨?_, Seg.nil _ _ _ _⟩, (Au.refl w).alloc _⟩
 exact Arr.new _ _ _

set_option maxRecDepth 100000 in
set_option maxHeartbeats 4000000 in
theorem Ajf (g base : Nat) (vr : Value) (all : List UInt8) (a : Option Addr) (cap : Nat) (b : List UInt8) (w : World) (hD : Dig w base g vr all) (hb : Bs w a b) (hag : 0 < b.length → ∀ p, a = some p → p.block ≠ g) (hbl : b.length ≤ 1000000000) (hbase : base ≤ w.heap.size) :
  Calls Tryd.prog 76 #[.pointer (some ⟨g, 0, none⟩), .slice a b.length cap] w fun e w' =>
   e = .returned (.tuple #[]) ∧ ∃ vr', Dig w' base g vr' (all ++ b) ∧ Fr (fun i => i = g ∨ vr.ownBlock = some i) w w' ∧ (vr'.ownBlock = vr.ownBlock ∨ ∃ i, w.heap.size ≤ i ∧ vr'.ownBlock = some i) := by
 obtain ⟨hA, hS⟩ := hD
 have hrl := QB H0 all
 have hok := Wq H0 all AfM
 have hba := XI H0 all b
 generalize Bo H0 all = B0 at *
 obtain ⟨h0, rest⟩ := B0
 simp only at hA hS hrl hok hba
 have hBA : Aeu (all ++ b) h0 (rest ++ b) := ⟨hba.symm, hok⟩
 clear hba hok
 have hne : vr.ownBlock ≠ some g := hS.ne_arr hA (by decide)
 have c6 : w.cell? ⟨g, 6, none⟩ = some (.int .u64 ((all.length % 18446744073709551616 : Nat) : Int)) := hA.cell 6
 have f6 := hA.frozen 6
 obtain ⟨sz, hsz⟩ : ∃ sz : Nat, sz = all.length % 18446744073709551616 := ⟨_, rfl⟩
 rw [← hsz] at c6 hA
 have hszl : sz < 18446744073709551616 := by omega
 have HSZ := Lib.hid hsz; clear hsz
 go_enter Tryd.func76, Tryd.ntmps76
 have hgl : g < w.heap.size := hA.lt
 go_upto_region 0 with (fail)
 go_cut [] (fun w1 => Arr w1 g 190 (D8 h0.list ++ [vr, .int .u64 (((sz + b.length) % 18446744073709551616 : Nat) : Int)]) ∧ Fr (fun i => i = g) w w1)
 case first =>
  go_wp2
  go_meet
  case rel =>
   refine ⟨?_, (Fr.refl (fun i => i = g) w).setCell (p := ⟨g, 6, none⟩) (.inl rfl) _⟩
   have h1 := hA.set 6 (.int .u64 (((sz + b.length) % 18446744073709551616 : Nat) : Int))
   rw [show IntKind.u64.wrap ((sz : Int) + (b.length : Int)) = (((sz + b.length) % 18446744073709551616 : Nat) : Int) from by rw [IntKind.wrap_u64]; omega]
   exact h1
 case rest =>
  obtain ⟨hA1, hF1⟩ := hcut
  have hS1 : Seg wc base 5 1 vr rest.length (bv rest) := hS.fr hF1 (fun i hi e => hne (by rw [hi, e]))
  have hb1 : Bs wc a b := hb.fr hF1 (fun hl p hp e => hag hl p hp e)
  have hsrc : Src Tryd.prog 1 23 (.slice a b.length cap) b.length (bv b) wc := hb1.srcOf Tryd.underlying23 cap (fun _ => rfl)
  have c5 : wc.cell? ⟨g, 5, none⟩ = some vr := hA1.cell 5
  obtain ⟨szb, hszb⟩ : ∃ z : Nat, z = (sz + b.length) % 18446744073709551616 := ⟨_, rfl⟩
  rw [← hszb] at hA1
  have HSB := Lib.hid hszb; clear hszb
  clear c6 f6
  obtain ⟨wa, rfl⟩ : ∃ wa : World, wa = wc := ⟨_, rfl⟩
  have hsza : w.heap.size ≤ wa.heap.size := hF1.size
  go_upto_region 1 with (fail)
  go_cut [] (fun w2 => ∃ vr1, Arr w2 g 190 (D8 h0.list ++ [vr1, .int .u64 (szb : Int)]) ∧ Seg w2 base 5 1 vr1 (rest ++ b).length (bv (rest ++ b)) ∧ Fr (fun i => i = g ∨ vr.ownBlock = some i) w w2 ∧ (vr1.ownBlock = vr.ownBlock ∨ ∃ i, w.heap.size ≤ i ∧ vr1.ownBlock = some i))
  case first =>
   go_wp2_with (at_builtin; go_must (refine Cj _ rfl (.tmp 18) (.tmp 19) 23 23 rfl base 5 (.int .u8 0) 1 1 Tryd.underlying23 Tryd.infoU8 rfl vr _ _ rfl hS1 _ _ _ rfl hsrc ?c1 ?c2 ?c3 ?_))
   case c1 => unfold maxLen; omega
   case c2 => omega
   case c3 => omega
   intro v' w2 hS2 hg2 ho2
   have hA2 : Arr w2 g 190 (D8 h0.list ++ [vr, .int .u64 (szb : Int)]) := hA1.grown hg2 (fun e => hne e.symm)
   have hne2 := hS2.ne_arr hA2 (by decide)
   have c5' : w2.cell? ⟨g, 5, none⟩ = some vr := hA2.cell 5
   have f5' := hA2.frozen 5
   obtain ⟨x1, cap1, rfl, hnc1, hcm1, hx1⟩ := hS2.form
   go_wp2
   go_meet
   case rel =>
    go_light
    refine ⟨_, hA2.set 5 (.slice x1 (rest.length + b.length) cap1), ?_, ?_, ?_⟩
    ·have h3 := hS2.fr (S := fun i => i = g) ((Fr.refl (fun i => i = g) w2).setCell (p := ⟨g, 5, none⟩) (.inl rfl) (.slice x1 (rest.length + b.length) cap1)) (fun i hi e => hne2 (by rw [hi, e]))
     rw [show bv (rest ++ b) = bv rest ++ bv b from by simp [bv], List.length_append]
     exact h3
    ·refine Fr.setCell (Fr.grown (hF1.mono (fun i _ e => .inl e)) hg2 (fun i hi _ => .inr hi)) (p := ⟨g, 5, none⟩) (.inl (.inl rfl)) _
    ·rcases ho2 with h | h
     ·exact .inl h
     ·exact .inr ⟨_, hsza, h⟩
  case rest =>
   clear c5 hsrc hb1 hS1 hA1
   obtain ⟨vr1, hA2, hS2, hF2, ho2⟩ := hcut
   obtain ⟨wd, rfl⟩ : ∃ wd : World, wd = wc := ⟨_, rfl⟩
   go_wp2
   go_loopg [] ((rest ++ b).length) (fun n wr => ∃ h l v, l.length ≤ n ∧ Arr wr g 190 (D8 h.list ++ [v, .int .u64 (szb : Int)]) ∧ Seg wr base 5 1 v l.length (bv l) ∧ Aeu (all ++ b) h l ∧ Fr (fun i => i = g ∨ vr.ownBlock = some i) w wr ∧ v.ownBlock = vr1.ownBlock)
   case atStart => exact ⟨h0, rest ++ b, vr1, Nat.le_refl _, hA2, hS2, hBA, hF2, rfl⟩
   case round =>
    clear hA2 hS2 hBA hF2
    obtain ⟨h, l, v, hln, hA2, hS2, hB, hF2, ho⟩ := hrel
    obtain ⟨x, capx, rfl, hnc, hcm, hx⟩ := hS2.form
    have c5 : wr.cell? ⟨g, 5, none⟩ = some (.slice x l.length capx) := hA2.cell 5
    have f5 := hA2.frozen 5
    have hne2 := hS2.ne_arr hA2 (by decide)
    by_cases hlong : 64 ≤ l.length
    ·obtain ⟨bb, off, rfl, hbb, hbw⟩ := hx (by omega)
     have hbt : Bs wr (some ⟨bb, off, none⟩) (l.take 64) := hS2.bytes.take 64
     go_wp2_with fail
     (with_reducible refine (block _ _ _ _ _ _ _ _ hB.ok hbt (by simp; omega) hA2).mono ?_)
     rintro e w3 ⟨rfl, hA3, hg3⟩
     have hS3 : Seg w3 base 5 1 (.slice (some ⟨bb, off, none⟩) l.length capx) l.length (bv l) := hS2.kept hg3 (.inr hne2)
     have hszr : wr.heap.size ≤ w3.heap.size := hg3.size
     have c5' : w3.cell? ⟨g, 5, none⟩ = some (.slice (some ⟨bb, off, none⟩) l.length capx) := hA3.cell 5
     have f5' := hA3.frozen 5
     have hB2 : Aeu (all ++ b) (blk h (l.take 64)) (l.drop 64) := ⟨by rw [← hB.eq, F5 _ _ hlong], AaD _ _⟩
     have hdl : (l.drop 64).length = l.length - 64 := by simp
     have HDL := Lib.hid hdl; clear hdl
     generalize blk h (l.take 64) = h' at *
     clear c5 f5
     by_cases hcc : capx = 64
     ·have hl64 : l.length = 64 := by omega
      have HL := Lib.hid hl64; clear hl64
      go_wp2
      go_roundg 0
      case measure => have := HL.out; omega
      case rel =>
       go_light
       have hnil : l.drop 64 = [] := List.eq_nil_of_length_eq_zero (by rw [HDL.out, HL.out])
       have e0 : l.length - 64 = 0 := by have := HL.out; omega
       rw [e0]
       refine ⟨h', l.drop 64, .slice (some ⟨bb, off, none⟩) 0 0, by rw [hnil]; exact Nat.le_refl _, hA3.set 5 _, ?_, hB2, ?_, ho⟩
       ·rw [hnil]
        exact hS3.end0.fr ((Fr.refl (fun i => i = g) w3).setCell (p := ⟨g, 5, none⟩) (.inl rfl) _) (fun i hi e => hne2 (by rw [← e]; exact hi))
       ·exact Fr.setCell (hF2.grown hg3 (fun i hi _ => by cases hi; exact .inl rfl)) (p := ⟨g, 5, none⟩) (.inl (.inl rfl)) _
     ·have hcc2 : 64 < capx := by omega
      clear hcc
      go_wp2
      go_roundg (l.length - 64)
      case measure => omega
      case rel =>
       go_light
       refine ⟨h', l.drop 64, .slice (some ⟨bb, off + 64, none⟩) (l.length - 64) (capx - 64), by rw [HDL.out]; omega, hA3.set 5 _, ?_, hB2, ?_, ho⟩
       ·rw [HDL.out, show bv (l.drop 64) = (bv l).drop (64 * 1) from by simp [bv]]
        exact (hS3.drop rfl 64 hlong).fr ((Fr.refl (fun i => i = g) w3).setCell (p := ⟨g, 5, none⟩) (.inl rfl) _) (fun i hi e => hne2 (by rw [← e]; exact hi))
       ·exact Fr.setCell (hF2.grown hg3 (fun i hi _ => by cases hi; exact .inl rfl)) (p := ⟨g, 5, none⟩) (.inl (.inl rfl)) _
    ·go_wp2
     go_end0
     have he := hB.eq
     rw [Dp _ _ (by omega)] at he
     refine ⟨rfl, .slice x l.length capx, ⟨?_, ?_⟩, hF2, ?_⟩
     ·rw [← he]
      have e : (all ++ b).length % 18446744073709551616 = szb := by rw [HSB.out, HSZ.out, List.length_append]; omega
      rw [e]; exact hA2
     ·rw [← he]; exact hS2
     ·rw [ho]; exact ho2
end Go.Proofs.YtmlompedpahkjaaDoor.Kit


namespace Go.Proofs.YtmlompedpahkjaaDoor.Kit
open Go.RowKit
set_option linter.unusedVariables false

set_option maxRecDepth 100000 in
set_option maxHeartbeats 4000000 in
theorem AnG (g base : Nat) (vr : Value) (all : List UInt8) (w : World) (hD : Dig w base g vr all) (hlen : all.length ≤ 100000000000) :
  Calls Tryd.prog 77 #[.pointer (some ⟨g, 0, none⟩)] w fun e w' => e = .returned (.agg (bv (sha all)).toArray) ∧ Au w w' := by
 obtain ⟨hA, hS⟩ := hD
 obtain ⟨x0, cap0, rfl, hn0, hc0, hx0⟩ := hS.form
 have hrl := QB H0 all
 obtain ⟨sz, hsz⟩ : ∃ sz : Nat, sz = all.length % 18446744073709551616 := ⟨_, rfl⟩
 have hszl : sz < 18446744073709551616 := by omega
 rw [← hsz] at hA
 obtain ⟨hh, hhE⟩ : ∃ hh, hh = (Bo H0 all).1 := ⟨_, rfl⟩
 obtain ⟨rr, hrE⟩ : ∃ rr, rr = (Bo H0 all).2 := ⟨_, rfl⟩
 rw [← hhE] at hA
 rw [← hrE] at hS hrl hn0 hA
 have HE := Lib.hid (And.intro hsz (And.intro hhE hrE))
 clear hsz hhE hrE
 have hgl : g < w.heap.size := hA.lt
 have c0 : w.cell? ⟨g, 0, none⟩ = some (.int .u32 hh.a) := hA.cell 0
 have c1 : w.cell? ⟨g, 1, none⟩ = some (.int .u32 hh.b) := hA.cell 1
 have c2 : w.cell? ⟨g, 2, none⟩ = some (.int .u32 hh.c) := hA.cell 2
 have c3 : w.cell? ⟨g, 3, none⟩ = some (.int .u32 hh.d) := hA.cell 3
 have c4 : w.cell? ⟨g, 4, none⟩ = some (.int .u32 hh.e) := hA.cell 4
 have c5 : w.cell? ⟨g, 5, none⟩ = some (.slice x0 rr.length cap0) := hA.cell 5
 have c6 : w.cell? ⟨g, 6, none⟩ = some (.int .u64 (sz : Int)) := hA.cell 6
 go_enter Tryd.func77, Tryd.ntmps77
 go_upto_region 1 with (fail)
 go_cut [3] (fun c wc => ∃ gc vr2, c = .pointer (some ⟨gc, 0, none⟩) ∧ w.heap.size ≤ gc ∧ (∀ i, vr2.ownBlock = some i → w.heap.size ≤ i) ∧ Dig wc w.heap.size gc vr2 all ∧ Au w wc ∧ Arr wc w.heap.size 38 (z8 20))
 case first =>
  have mk : ∀ (W : World) (gc : Nat) (v : Value), Arr W gc 190 (D8 hh.list ++ [v, .int .u64 (sz : Int)]) → Seg W w.heap.size 5 1 v rr.length (bv rr) → Dig W w.heap.size gc v all := by
   intro W gc v h1 h2
   obtain ⟨e1, e2, e3⟩ := HE.out
   exact ⟨by rw [← e2, ← e1]; exact h1, by rw [← e3]; exact h2⟩
  have hgl2 : g < w.heap.size + 1 := by omega
  have hgn1 : ¬ g = w.heap.size + 1 := by omega
  have hgn2 : ¬ w.heap.size + 1 = g := by omega
  have hgl3 : g < w.heap.size + 1 + 1 := by omega
  go_region_held3 (fun w' => w'.cell? ⟨g, 0, none⟩ = some (.int .u32 hh.a) ∧ w'.cell? ⟨g, 1, none⟩ = some (.int .u32 hh.b) ∧ w'.cell? ⟨g, 2, none⟩ = some (.int .u32 hh.c) ∧ w'.cell? ⟨g, 3, none⟩ = some (.int .u32 hh.d) ∧ w'.cell? ⟨g, 4, none⟩ = some (.int .u32 hh.e) ∧ w'.cell? ⟨g, 5, none⟩ = some (.slice x0 rr.length cap0) ∧ w'.cell? ⟨g, 6, none⟩ = some (.int .u64 (sz : Int)))
   (first
    | go_keep)
   ((refine VL _ (by rfl) (.const (.slice none 0 0)) (.tmp 16) 23 23 (by rfl) w.heap.size 5 (.int .u8 0) 1 1 Tryd.underlying23 Tryd.infoU8 rfl (.slice none 0 0) 0 [] (by rfl) (Seg.nil _ _ _ _) (.slice x0 rr.length cap0) rr.length (bv rr) (by rfl) (by exact Bs.srcOf (Bs.keep hS.bytes (by first | exact Au.drew ((Au.refl w).alloc _) | exact Au.drew (((Au.refl w).alloc _).alloc _))) Tryd.underlying23 cap0 (fun _ => rfl)) (by unfold maxLen; omega) (by omega) (by simp <;> omega) ?_; intro v1 w1 hS1 hg1 ho1; obtain ⟨hcw, hfw⟩ := An8 hg1; obtain ⟨x1, cap1, rfl, hn1, hc1, hx1⟩ := hS1.form; have h9 := hg1.size; simp at h9; have hgl1 : g < w1.heap.size := by omega))
  ·go_wp2
   go_meet
   case rel =>
    go_light
    have hk1 : Au w w1 := Au.trans (Au.drew ((Au.refl w).alloc _)) (CY hg1)
    simp only [Nat.zero_add, List.nil_append] at hS1
    refine ⟨_, .slice x1 rr.length cap1, rfl, Below.size hk1, fun i hi => (hS1.lt i hi).1, mk _ _ _ (Arr.new _ _ _) (hS1.alloc _), hk1.alloc _, Arr.alloc (Arr.keep (Arr.drew (Arr.new w _ _)) (CY hg1)) _⟩
  ·go_wp2
   go_meet
   case rel =>
    go_light
    have hk0 : Au w _ := Au.drew (((Au.refl w).alloc (.cells #[.int .u8 0, .int .u8 0, .int .u8 0, .int .u8 0, .int .u8 0, .int .u8 0, .int .u8 0, .int .u8 0, .int .u8 0, .int .u8 0, .int .u8 0, .int .u8 0, .int .u8 0, .int .u8 0, .int .u8 0, .int .u8 0, .int .u8 0, .int .u8 0, .int .u8 0, .int .u8 0] 38)).alloc (.cells #[.int .u32 0, .int .u32 0, .int .u32 0, .int .u32 0, .int .u32 0, .slice none 0 0, .int .u64 0] 190))
    have hk1 : Au w w1 := Au.trans hk0 (CY hg1)
    simp only [Nat.zero_add, List.nil_append] at hS1
    have hA0 : Arr w1 (w.heap.size + 1) 190 [.int .u32 0, .int .u32 0, .int .u32 0, .int .u32 0, .int .u32 0, .slice none 0 0, .int .u64 0] := Arr.keep (Arr.drewN (Arr.newAt _ _ _ _ (by simp)) 1) (CY hg1)
    have hne1 := hS1.ne_arr hA0 (by decide)
    have hI0 : Arr w1 w.heap.size 38 (z8 20) := Arr.keep (Arr.drew (Arr.alloc (Arr.new w _ _) _)) (CY hg1)
    have hin : w.heap.size ≠ w.heap.size + 1 := by omega
    refine ⟨w.heap.size + 1, .slice x1 rr.length cap1, rfl, by omega, fun i hi => (hS1.lt i hi).1, mk _ _ _ (((((((hA0.set 0 _).set 1 _).set 2 _).set 3 _).set 4 _).set 5 _).set 6 _) (hS1.fr (S := fun i => i = w.heap.size + 1) (Fr.setCell (Fr.setCell (Fr.setCell (Fr.setCell (Fr.setCell (Fr.setCell (Fr.setCell (Fr.refl (fun i => i = w.heap.size + 1) w1) (p := ⟨w.heap.size + 1, 0, none⟩) (.inl rfl) _) (p := ⟨w.heap.size + 1, 1, none⟩) (.inl rfl) _) (p := ⟨w.heap.size + 1, 2, none⟩) (.inl rfl) _) (p := ⟨w.heap.size + 1, 3, none⟩) (.inl rfl) _) (p := ⟨w.heap.size + 1, 4, none⟩) (.inl rfl) _) (p := ⟨w.heap.size + 1, 5, none⟩) (.inl rfl) _) (p := ⟨w.heap.size + 1, 6, none⟩) (.inl rfl) _) (fun i hi e => hne1 (by rw [hi, e]))), ?_, (((((((hI0.other _ _ hin).other _ _ hin).other _ _ hin).other _ _ hin).other _ _ hin).other _ _ hin).other _ _ hin)⟩
    have hle : w.heap.size ≤ w.heap.size + 1 := by omega
    exact Below.setCell (Below.setCell (Below.setCell (Below.setCell (Below.setCell (Below.setCell (Below.setCell hk1 (p := ⟨w.heap.size + 1, 0, none⟩) hle _) (p := ⟨w.heap.size + 1, 1, none⟩) hle _) (p := ⟨w.heap.size + 1, 2, none⟩) hle _) (p := ⟨w.heap.size + 1, 3, none⟩) hle _) (p := ⟨w.heap.size + 1, 4, none⟩) hle _) (p := ⟨w.heap.size + 1, 5, none⟩) hle _) (p := ⟨w.heap.size + 1, 6, none⟩) hle _
 case rest =>
  clear hA hS hx0 hc0 hn0 hgl c0 c1 c2 c3 c4 c5 c6
  obtain ⟨gc, vr2, rfl, hgc, hvr2, hD2, hk2, hI2⟩ := hcut
  obtain ⟨wa, rfl⟩ : ∃ wa : World, wa = wc := ⟨_, rfl⟩
  have c6 : wa.cell? ⟨gc, 6, none⟩ = some (.int .u64 (sz : Int)) := by rw [HE.out.1]; exact hD2.arr.cell 6
  have hgcl := hD2.arr.lt
  have hszw : w.heap.size ≤ wa.heap.size := Below.size hk2
  obtain ⟨k, hk⟩ : ∃ k : Nat, k = (119 - sz % 64) % 64 := ⟨_, rfl⟩
  have hk64 : k < 64 := by omega
  have s1 : ((119 : Int) - (sz : Int) % 64) % 64 = (k : Int) := by omega
  have HK := Lib.hid hk; clear hk
  have hseg0 : Seg (wa.alloc (.cells #[.int .u8 128] 5)) wa.heap.size 5 1 (.slice (some ⟨wa.heap.size, 0, none⟩) 1 1) 1 [.int .u8 128] := Seg.made wa #[.int .u8 128] 1 1 (Nat.le_refl _) (Nat.le_refl _) (by unfold maxLen; omega) (Nat.le_refl _)
  have hmkz := Qb (P := Tryd.prog) _ wa.heap.size 23 3 23 5 (.int .u8 0) 1 .i64 .i64 Tryd.underlying23 Tryd.underlying3 Tryd.infoU8 rfl wa.heap.size 0 1 [.int .u8 128] hseg0 k (by unfold maxLen; omega) (by omega)
  obtain ⟨v', w1, hr, hS1, hg1⟩ := hmkz
  rw [← s1] at hr
  have HR := Lib.hid hr; clear hr hseg0 s1
  go_upto_region 3 with (fail)
  go_cut [5] (fun v wr => v = v' ∧ wr = w1)
  case first =>
   go_wp2_with (at_builtin; go_must (refine Lib.wpList_append_run _ rfl (.tmp 26) (.tmp 32) 23 3 rfl _ _ rfl rfl v' w1 HR.out ?_))
   go_wp2
   go_meet
   case rel => exact ⟨rfl, rfl⟩
  case rest =>
   obtain ⟨rfl, rfl⟩ := hcut
   have hkw : Au wa wc := Au.trans ((Au.refl wa).alloc _) (CY hg1)
   have hsp : Seg wc wa.heap.size 5 1 u5 (1 + k) (bv (128 :: List.replicate k 0)) := by
    have e : bv (128 :: List.replicate k 0) = [Value.int .u8 128] ++ List.replicate k (Value.int .u8 0) := by simp [bv]
    rw [e]; exact hS1
   clear hg1 hS1 HR c6
   obtain ⟨nn, hnn⟩ : ∃ nn : Nat, nn = sz * 8 % 18446744073709551616 := ⟨_, rfl⟩
   have hn4 : IntKind.u64.wrap ((sz : Int) * 8) = (nn : Int) := by rw [IntKind.wrap_u64]; omega
   have hnl : nn < 18446744073709551616 := by omega
   have HN := Lib.hid hnn; clear hnn
   rw [hn4]
   clear hn4
   obtain ⟨wb, rfl⟩ : ∃ wb : World, wb = wc := ⟨_, rfl⟩
   go_upto_block 0 with (fail)
   go_cut [5] (fun v wr => ∃ m : List UInt8, m = 128 :: List.replicate k 0 ++ be8 nn ∧ Seg wr wa.heap.size 5 1 v m.length (bv m) ∧ Au wa wr)
   case first =>
    go_wp2
    go_loopg [5, 6, 34] 8 (fun gn v _ iv wr => ∃ (i : Nat) (m : List UInt8), i ≤ 8 ∧ 8 ≤ i + gn ∧ iv = .int .i64 i ∧ Hid (m = 128 :: List.replicate k 0 ++ (be8 nn).take i) ∧ Seg wr wa.heap.size 5 1 v m.length (bv m) ∧ Au wa wr)
    case atStart => exact ⟨0, 128 :: List.replicate k 0, by omega, by omega, rfl, by simp [Hid], by simpa [Nat.add_comm] using hsp, hkw⟩
    case round =>
     clear hsp hkw
     obtain ⟨i, m, hi, hig, rfl, hm, hsp, hkw⟩ := hrel
     by_cases hlt : i < 8
     ·have hmi : (i : Int) < 8 := by omega
      have hml : m.length ≤ 1000 := by rw [hm.out]; simp [EN]; omega
      go_wp2_with (at_builtin; go_must (refine Cj _ rfl (.tmp 37) (.tmp 44) 23 23 rfl wa.heap.size 5 (.int .u8 0) 1 1 Tryd.underlying23 Tryd.infoU8 rfl _ _ _ rfl (hsp.alloc _) _ 1 [_] rfl (XP Tryd.underlying23 _ _ _ rfl) ?c1 ?c2 ?c3 ?_))
      case c1 => unfold maxLen; omega
      case c2 => omega
      case c3 => exact Nat.le_trans (Below.size hkw) (by simp)
      intro v2 w2 hS2 hg2 ho2
      have hkw2 : Au wa w2 := by
       refine Below.grown (hkw.alloc _) hg2 (Nat.le_trans (Below.size hkw) (by simp)) (fun j hj => (hsp.lt j hj).1)
      have e8 := PK (nn / 2 ^ (56 - 8 * i))
      have hb8 := AbG nn i hlt
      generalize hy : UInt8.ofNat (nn / 2 ^ (56 - 8 * i) % 256) = y at *
      have HY := Lib.hid (And.intro e8 hb8)
      clear e8 hb8 hy
      go_wp2
      go_roundg (gk - 1)
      case measure => omega
      case rel =>
       go_light
       refine ⟨i + 1, m ++ [y], by omega, by omega, by go_num, ?_, ?_, hkw2⟩
       ·show m ++ [y] = _
        rw [HY.out.2, ← List.append_assoc, ← hm.out]
       ·rw [AaK m y (by rw [HY.out.1]; rfl)] at hS2
        rw [List.length_append]; exact hS2
     ·go_wp2
      go_meet
      case rel =>
       go_light
       refine ⟨m, ?_, hsp, hkw⟩
       rw [hm.out, List.take_of_length_le (by rw [EN]; omega)]
   case rest =>
    clear hsp hkw
    obtain ⟨m, hm, hsp, hkw⟩ := hcut
    have hpad : m = Tt all.length := by
     rw [hm, Tt, HN.out, HK.out, HE.out.1]
     rw [show all.length % 18446744073709551616 % 64 = all.length % 64 from by omega, show all.length % 18446744073709551616 * 8 % 18446744073709551616 = all.length * 8 % 18446744073709551616 from by omega]
    have HP := Lib.hid hpad
    have hml : m.length ≤ 1000 := by rw [hm]; simp [EN]; omega
    clear hm hpad
    obtain ⟨x5, cap5, rfl, hn5, hc5, hx5⟩ := hsp.form
    have hD3 := hD2.fr (S := fun _ => False) (Fr.of_keeps hkw _) (fun h => h) (fun _ _ h => h)
    have hag : 0 < m.length → ∀ p, x5 = some p → p.block ≠ gc := by
     intro _ p hp e
     have h1 := (hsp.lt p.block (by rw [hp]; rfl)).1
     omega
    obtain ⟨we, rfl⟩ : ∃ we : World, we = wc := ⟨_, rfl⟩
    have hszb : wa.heap.size ≤ we.heap.size := Below.size hkw
    go_wp2_with fail
    (with_reducible refine (Ajf _ _ _ _ _ _ _ _ hD3 hsp.bytes hag (by omega) (by omega)).mono ?_)
    rintro e w4 ⟨rfl, vr4, hD4, hF4, _⟩
    have hk4 : Au w w4 := ((Fr.of_keeps (Au.trans hk2 hkw) (fun _ => False)).then hF4 (fun i hi h => by
     rcases h with h | h
     ·omega
     ·have := hvr2 i h; omega)).keeps (fun _ _ h => h)
    have hI4 : Arr w4 w.heap.size 38 (z8 20) := (hI2.keep hkw).fr hF4 (fun h => by
     rcases h with h | h
     ·exact hI2.ne hD2.arr (by decide) h
     ·exact hD2.seg.ne_arr hI2 (by decide) h)
    rw [HP.out] at hD4
    have hA4 := hD4.arr
    have hV : (Bo H0 (all ++ Tt all.length)).1.ok := Wq _ _ AfM
    have hsha : sha all = CO (Bo H0 (all ++ Tt all.length)).1 := rfl
    have HS := Lib.hid hsha; clear hsha
    generalize (Bo H0 (all ++ Tt all.length)).1 = V at *
    clear hD4 hF4 hD3 hsp hD2 hkw hag hx5
    go_upto_block 2 with (fail)
    have hid0 : Arr (w4.alloc (.cells #[.int .u8 0, .int .u8 0, .int .u8 0, .int .u8 0, .int .u8 0, .int .u8 0, .int .u8 0, .int .u8 0, .int .u8 0, .int .u8 0, .int .u8 0, .int .u8 0, .int .u8 0, .int .u8 0, .int .u8 0, .int .u8 0, .int .u8 0, .int .u8 0, .int .u8 0, .int .u8 0] 38)) w4.heap.size 38 (bv ((CO V).take 0) ++ z8 (20 - 0)) := Arr.new _ _ _
    have hA5 := hA4.alloc (.cells #[.int .u8 0, .int .u8 0, .int .u8 0, .int .u8 0, .int .u8 0, .int .u8 0, .int .u8 0, .int .u8 0, .int .u8 0, .int .u8 0, .int .u8 0, .int .u8 0, .int .u8 0, .int .u8 0, .int .u8 0, .int .u8 0, .int .u8 0, .int .u8 0, .int .u8 0, .int .u8 0] 38)
    have hI5 := hI4.alloc (.cells #[.int .u8 0, .int .u8 0, .int .u8 0, .int .u8 0, .int .u8 0, .int .u8 0, .int .u8 0, .int .u8 0, .int .u8 0, .int .u8 0, .int .u8 0, .int .u8 0, .int .u8 0, .int .u8 0, .int .u8 0, .int .u8 0, .int .u8 0, .int .u8 0, .int .u8 0, .int .u8 0] 38)
    have hk5 := hk4.alloc (.cells #[.int .u8 0, .int .u8 0, .int .u8 0, .int .u8 0, .int .u8 0, .int .u8 0, .int .u8 0, .int .u8 0, .int .u8 0, .int .u8 0, .int .u8 0, .int .u8 0, .int .u8 0, .int .u8 0, .int .u8 0, .int .u8 0, .int .u8 0, .int .u8 0, .int .u8 0, .int .u8 0] 38)
    have l4 := hA4.lt
    have l5 := hI4.lt
    have hk4s : w.heap.size ≤ w4.heap.size := Below.size hk4
    go_cut [] (fun wr => Arr wr w4.heap.size 38 (bv (CO V)) ∧ Arr wr w.heap.size 38 (z8 20) ∧ Au w wr)
    case first =>
     go_wp2
     go_loopg [8, 49] 20 (fun gn _ iv wr => ∃ i : Nat, i ≤ 20 ∧ 20 ≤ i + gn ∧ iv = .int .i64 i ∧ Arr wr w4.heap.size 38 (bv ((CO V).take i) ++ z8 (20 - i)) ∧ Arr wr gc 190 (D8 V.list ++ [vr4, .int .u64 (((all ++ Tt all.length).length % 18446744073709551616 : Nat) : Int)]) ∧ Arr wr w.heap.size 38 (z8 20) ∧ Au w wr)
     case atStart => exact ⟨0, by omega, by omega, rfl, hid0, hA5, hI5, hk5⟩
     case round =>
      clear hid0 hA5 hI5 hk5 hA4 hI4 hk4
      obtain ⟨i, hi, hig, rfl, hid, hA, hI, hk⟩ := hrel
      by_cases hlt : i < 20
      ·have hmi : (i : Int) < 20 := by omega
       have hq4 : (i : Int) / 4 < 5 := by omega
       have ci : wr.cell? ⟨w4.heap.size, i, none⟩ = some (.int .u8 0) := by rw [hid.cell]; exact Abe V i hlt
       have fi := hid.frozen i
       have ch : wr.cell? ⟨gc, i / 4, none⟩ = some (.int .u32 ((V.list.getD (i / 4) 0 : Nat) : Int)) := by
        rw [hA.cell, List.getElem?_append_left (by simp [V5.list]; omega)]; exact RF V _ (by omega)
       have hbv := hV.get (i / 4)
       have e8 := PK (V.list.getD (i / 4) 0 / 2 ^ (24 - 8 * (i % 4)))
       have hb8 := Xf V i hlt
       generalize hy : UInt8.ofNat (V.list.getD (i / 4) 0 / 2 ^ (24 - 8 * (i % 4)) % 256) = y at *
       have HY := Lib.hid (And.intro e8 hb8)
       clear e8 hb8 hy
       generalize V.list.getD (i / 4) 0 = q at *
       go_wp2
       go_roundg (gk - 1)
       case measure => omega
       case rel =>
        go_light
        have n1 : gc ≠ w4.heap.size := by omega
        have n2 : w.heap.size ≠ w4.heap.size := by omega
        refine ⟨i + 1, by omega, by omega, by go_num, ?_, hA.other _ _ n1, hI.other _ _ n2, Below.setCell hk (p := ⟨w4.heap.size, i, none⟩) (by show w.heap.size ≤ w4.heap.size; omega) _⟩
        have h5 := hid.set i (.int .u8 ((q : Int) / 2 ^ (24 - 8 * (i % 4)) % 256))
        rw [Adl V i hlt HY.out.2 (by rw [HY.out.1]; rfl)] at h5
        exact h5
      ·have HI := Lib.hid (show i = 20 by omega)
       rw [HI.out] at hid
       go_wp2
       go_meet
       case rel =>
        go_light
        refine ⟨?_, hI, hk⟩
        have e : bv ((CO V).take 20) ++ z8 (20 - 20) = bv (CO V) := by
         rw [List.take_of_length_le (by rw [BJ]; omega)]; simp [z8]
        rw [← e]; exact hid
    case rest =>
     clear hid0 hA5 hI5 hk5 hA4 hI4 hk4 l4 l5 hk4s
     obtain ⟨hid, hI, hk⟩ := hcut
     have hl : (bv (CO V)).length = (z8 20).length := by rw [DI, BJ]; rfl
     have hsa := hI.setAll hl
     have hks := Au.setCells (Nat.le_refl _) (bv (CO V)) 0 _ hk
     have hth := hI.there 20 (by simp [z8])
     unfold Arr at hid hsa
     have z1 : (Tryd.prog.info? 38).map (·.size) = some (bv (CO V)).toArray.size := by rw [List.size_toArray, DI, BJ]; kernel_rfl
     have z2 : wc.there w.heap.size 0 (bv (CO V)).toArray.size := by rw [show (bv (CO V)).toArray.size = 20 from by simp [BJ]]; exact hth
     have z3 := all_oneCell_toArray (Rz (CO V))
     have Z1 := Lib.hid z1
     clear z1
     clear hth
     go_upto_region 16 with (fail)
     go_wp2_with (first | (with_reducible refine wpList_load_row rfl 38 (.tmp 7) rfl _ rfl 38 (bv (CO V)).toArray (0, 0) _ hid Tryd.underlying38 rfl Z1.out ?_) | (with_reducible refine wpList_store_mid rfl 38 (.tmp 2) (.tmp 66) rfl w.heap.size 0 (bv (CO V)).toArray rfl rfl z2 Z1.out z3 ?_))
     rw [HS.out]
     refine bodyPost_ret (results_cell_row rfl _ _ w.heap.size 38 (bv (CO V)).toArray (0, 0) _ rfl hsa Tryd.underlying38 rfl Z1.out) rfl ⟨rfl, hks⟩
end Go.Proofs.YtmlompedpahkjaaDoor.Kit


namespace Go.Proofs.YtmlompedpahkjaaDoor.Kit
open Go.RowKit
set_option linter.unusedVariables false

theorem Asy (l : List UInt8) (hl : l.length = 20) : (bv l).length = (z8 20).length := by rw [DI, hl]; rfl

set_option maxRecDepth 100000 in
set_option maxHeartbeats 1000000 in
theorem AnS (a : Option Addr) (cap : Nat) (b : List UInt8) (w : World) (hb : Bs w a b) (hbl : b.length ≤ 1000000000) :
  Calls Tryd.prog 36 #[.slice a b.length cap] w fun e w' => e = .returned (.agg (bv (sha b)).toArray) ∧ Au w w' := by
 go_enter Tryd.func36, Tryd.ntmps36
 go_wp2_with fail
 have hI0 : Arr (w.alloc (.cells #[.int .u8 0, .int .u8 0, .int .u8 0, .int .u8 0, .int .u8 0, .int .u8 0, .int .u8 0, .int .u8 0, .int .u8 0, .int .u8 0, .int .u8 0, .int .u8 0, .int .u8 0, .int .u8 0, .int .u8 0, .int .u8 0, .int .u8 0, .int .u8 0, .int .u8 0, .int .u8 0] 38)) w.heap.size 38 (z8 20) := Arr.new _ _ _
 have hk0 := (Au.refl w).alloc (.cells #[.int .u8 0, .int .u8 0, .int .u8 0, .int .u8 0, .int .u8 0, .int .u8 0, .int .u8 0, .int .u8 0, .int .u8 0, .int .u8 0, .int .u8 0, .int .u8 0, .int .u8 0, .int .u8 0, .int .u8 0, .int .u8 0, .int .u8 0, .int .u8 0, .int .u8 0, .int .u8 0] 38)
 (with_reducible refine (Amw _).mono ?_)
 rintro e w1 ⟨rfl, hD, hk1⟩
 have hI1 := hI0.keep hk1
 have hk2 := Au.trans hk0 hk1
 have hsz : w.heap.size ≤ w1.heap.size := Below.size hk2
 rw [World.size_alloc] at hD
 have hag : 0 < b.length → ∀ p, a = some p → p.block ≠ w.heap.size + 1 := by
  intro hl p hp e
  have := hb.lt hl p hp; omega
 clear hI0 hk0 hk1
 go_wp2_with fail
 (with_reducible refine (Ajf _ _ _ _ _ _ _ _ hD (hb.keep hk2) hag hbl (by omega)).mono ?_)
 rintro e w2 ⟨rfl, vr, hD2, hF2, ho⟩
 simp only [List.nil_append] at hD2
 have hI2 : Arr w2 w.heap.size 38 (z8 20) := hI1.fr hF2 (fun h => by
  rcases h with h | h
  ·omega
  ·cases h)
 have hk3 : Au w w2 := ((Fr.of_keeps hk2 (fun _ => False)).then hF2 (fun i hi h => by
  rcases h with h | h
  ·omega
  ·cases h)).keeps (fun _ _ h => h)
 go_wp2_with fail
 (with_reducible refine (AnG _ _ _ _ _ hD2 (by omega)).mono ?_)
 rintro e w3 ⟨rfl, hk4⟩
 have hk := Au.trans hk3 hk4
 have hI := hI2.keep hk4
 clear hk3 hk4 hI2 hD2 hF2 ho hD hI1 hk2
 have hl : (sha b).length = 20 := EH b
 generalize hX : sha b = X at *
 have HX := Lib.hid hX; clear hX
 have hsa := hI.setAll (Asy X hl)
 have hks := Au.setCells (Nat.le_refl _) (bv X) 0 _ hk
 have z1 : (Tryd.prog.info? 38).map (·.size) = some (bv X).toArray.size := by rw [List.size_toArray, DI, hl]; kernel_rfl
 have z2 : w3.there w.heap.size 0 (bv X).toArray.size := by rw [show (bv X).toArray.size = 20 from by simp [hl]]; exact hI.there 20 (by simp [z8])
 have z3 := all_oneCell_toArray (Rz X)
 have Z1 := Lib.hid z1
 clear z1
 unfold Arr at hsa
 go_wp2_with (with_reducible refine wpList_store_mid rfl 38 (.tmp 2) (.tmp 9) rfl w.heap.size 0 (bv X).toArray rfl rfl z2 Z1.out z3 ?_)
 refine bodyPost_ret (results_cell_row rfl _ _ w.heap.size 38 (bv X).toArray (0, 0) _ rfl hsa Tryd.underlying38 rfl Z1.out) rfl ⟨by rw [HX.out], hks⟩
end Go.Proofs.YtmlompedpahkjaaDoor.Kit


namespace Go.Proofs.YtmlompedpahkjaaDoor.Kit
open Go.RowKit
set_option linter.unusedVariables false


def Z80 : Array Value := (TA 80).toArray
theorem Tryd.zero80 (w : World) : (zeroValue 191).run Tryd.prog w = .ok (.agg Z80) w := by kernel_rfl

set_option maxRecDepth 100000 in
set_option maxHeartbeats 4000000 in
theorem Ag0 (h : V5) (a : Option Addr) (cap : Nat) (p : List UInt8) (w : World) (hh : h.ok) (hb : Bs w a p) (hp : p.length = 64) :
  Calls Tryd.prog 78 #[.agg #[.int .u32 h.a, .int .u32 h.b, .int .u32 h.c, .int .u32 h.d, .int .u32 h.e], .slice a 64 cap] w fun e w' =>
   e = .returned (.agg #[.int .u32 (blk h p).a, .int .u32 (blk h p).b, .int .u32 (blk h p).c, .int .u32 (blk h p).d, .int .u32 (blk h p).e]) ∧ Au w w' := by
 have HP := Lib.hid hp
 have hz := Tryd.zero80
 clear hp
 go_enter Tryd.func78, Tryd.ntmps78
 go_upto_block 0 with (fail)
 have h0 : Arr (((w.alloc (.cells #[.int .u32 h.a, .int .u32 h.b, .int .u32 h.c, .int .u32 h.d, .int .u32 h.e] 144)).alloc (.cells #[.int .u32 0, .int .u32 0, .int .u32 0, .int .u32 0, .int .u32 0] 144)).alloc (.cells Z80 191)) w.heap.size 144 (D8 h.list) := ((Arr.new _ _ _).alloc _).alloc _
 have h1 : Arr (((w.alloc (.cells #[.int .u32 h.a, .int .u32 h.b, .int .u32 h.c, .int .u32 h.d, .int .u32 h.e] 144)).alloc (.cells #[.int .u32 0, .int .u32 0, .int .u32 0, .int .u32 0, .int .u32 0] 144)).alloc (.cells Z80 191)) (w.heap.size + 1) 144 (TA 5) := (Arr.newAt _ _ _ _ (by simp)).alloc _
 have h2 : Arr (((w.alloc (.cells #[.int .u32 h.a, .int .u32 h.b, .int .u32 h.c, .int .u32 h.d, .int .u32 h.e] 144)).alloc (.cells #[.int .u32 0, .int .u32 0, .int .u32 0, .int .u32 0, .int .u32 0] 144)).alloc (.cells Z80 191)) (w.heap.size + 1 + 1) 191 (TA 80) := Arr.newAt _ _ _ _ (by simp)
 have hk0 : Au w (((w.alloc (.cells #[.int .u32 h.a, .int .u32 h.b, .int .u32 h.c, .int .u32 h.d, .int .u32 h.e] 144)).alloc (.cells #[.int .u32 0, .int .u32 0, .int .u32 0, .int .u32 0, .int .u32 0] 144)).alloc (.cells Z80 191)) := (((Au.refl w).alloc _).alloc _).alloc _
 go_cut [] (fun wc => Arr wc (w.heap.size + 1 + 1) 191 (D8 (wl p 16) ++ TA (80 - 16)) ∧ Arr wc w.heap.size 144 (D8 h.list) ∧ Arr wc (w.heap.size + 1) 144 (TA 5) ∧ Au w wc)
 case first =>
  go_wp2
  go_loopw [6] (fun i wr => ∃ k : Nat, k ≤ 16 ∧ i = .int .i64 k ∧ Arr wr (w.heap.size + 1 + 1) 191 (D8 (wl p k) ++ TA (80 - k)) ∧ Arr wr w.heap.size 144 (D8 h.list) ∧ Arr wr (w.heap.size + 1) 144 (TA 5) ∧ Au w wr) (fun i _ => 16 - (intOf i).toNat)
  case atStart => exact ⟨0, by omega, rfl, h2, h0, h1, hk0⟩
  case round =>
   clear h0 h1 h2 hk0
   obtain ⟨k, hk, rfl, h2, h0, h1, hk0⟩ := hrel
   by_cases hlt : k < 16
   ·have hc : wr.cell? ⟨w.heap.size + 1 + 1, k, none⟩ = some (.int .u32 0) := by rw [h2.cell]; exact AaL p k (by omega)
    have hf := h2.frozen k
    go_wp2_with fail
    (with_reducible refine (Ag5 _ _ _ _ _ (hb.keep hk0) HP.out (by omega)).mono ?_)
    rintro e w' ⟨rfl, n, rfl⟩
    go_wp2
    go_roundw
    case rel =>
     go_light
     refine ⟨k + 1, by omega, by go_num, ?_, h0.other _ _ (by simp; omega), h1.other _ _ (by simp), Below.setCell (hk0.drewN n) (by simp; omega) _⟩
     have h3 := Arr.set (h2.drewN n) k (.int .u32 ((AfB p (4 * k) : Nat) : Int))
     rw [Aa2 p k _ (by omega) (by unfold XE; rw [if_pos hlt])] at h3
     exact h3
    case measure => simp [intOf]; omega
   ·have HK := Lib.hid (show k = 16 by omega)
    rw [HK.out] at h2
    go_wp2
    go_meet
    case rel => exact ⟨h2, h0, h1, hk0⟩
 case rest =>
  clear h0 h1 h2 hk0
  obtain ⟨h2, h0, h1, hk0⟩ := hcut
  go_upto_block 2 with (fail)
  go_cut [] (fun wc => Arr wc (w.heap.size + 1 + 1) 191 (D8 (wl p 80) ++ TA (80 - 80)) ∧ Arr wc w.heap.size 144 (D8 h.list) ∧ Arr wc (w.heap.size + 1) 144 (TA 5) ∧ Au w wc)
  case first =>
   go_wp2
   go_loopw [7, 8] (fun i _ wr => ∃ k : Nat, 16 ≤ k ∧ k ≤ 80 ∧ i = .int .i64 k ∧ Arr wr (w.heap.size + 1 + 1) 191 (D8 (wl p k) ++ TA (80 - k)) ∧ Arr wr w.heap.size 144 (D8 h.list) ∧ Arr wr (w.heap.size + 1) 144 (TA 5) ∧ Au w wr) (fun i _ _ => 80 - (intOf i).toNat)
   case atStart => exact ⟨16, by omega, by omega, rfl, h2, h0, h1, hk0⟩
   case round =>
    clear h0 h1 h2 hk0
    obtain ⟨k, hk16, hk, rfl, h2, h0, h1, hk0⟩ := hrel
    by_cases hlt : k < 80
    ·have hc : wr.cell? ⟨w.heap.size + 1 + 1, k, none⟩ = some (.int .u32 0) := by rw [h2.cell]; exact AaL p k (by omega)
     have hf := h2.frozen k
     have r3 : wr.cell? ⟨w.heap.size + 1 + 1, k - 3, none⟩ = some (.int .u32 (((wl p k).getD (k - 3) 0 : Nat) : Int)) := by rw [h2.cell]; exact Na p k _ (by omega)
     have r8 : wr.cell? ⟨w.heap.size + 1 + 1, k - 8, none⟩ = some (.int .u32 (((wl p k).getD (k - 8) 0 : Nat) : Int)) := by rw [h2.cell]; exact Na p k _ (by omega)
     have r14 : wr.cell? ⟨w.heap.size + 1 + 1, k - 14, none⟩ = some (.int .u32 (((wl p k).getD (k - 14) 0 : Nat) : Int)) := by rw [h2.cell]; exact Na p k _ (by omega)
     have r16 : wr.cell? ⟨w.heap.size + 1 + 1, k - 16, none⟩ = some (.int .u32 (((wl p k).getD (k - 16) 0 : Nat) : Int)) := by rw [h2.cell]; exact Na p k _ (by omega)
     have hn : XE p (wl p k) k = rot ((((wl p k).getD (k - 3) 0 ^^^ (wl p k).getD (k - 8) 0) ^^^ (wl p k).getD (k - 14) 0) ^^^ (wl p k).getD (k - 16) 0) 1 := by unfold XE; rw [if_neg (by omega)]
     have b3 := Dx p k (k - 3)
     have b8 := Dx p k (k - 8)
     have b14 := Dx p k (k - 14)
     have b16 := Dx p k (k - 16)
     generalize (wl p k).getD (k - 3) 0 = x3 at *
     generalize (wl p k).getD (k - 8) 0 = x8 at *
     generalize (wl p k).getD (k - 14) 0 = x14 at *
     generalize (wl p k).getD (k - 16) 0 = x16 at *
     have HN := Lib.hid hn; clear hn
     go_wp2
     go_quiet (fail)
     go_wp2_with fail
     rw [AbC _ _ _ _ b3 b8 b14 b16]
     (with_reducible refine (turn _ _ _ (Bl (Bl (Bl b3 b8) b14) b16) (.inl rfl)).mono ?_)
     rintro e w' ⟨rfl, n2, rfl⟩
     go_wp2
     go_roundw
     case rel =>
      go_light
      refine ⟨k + 1, by omega, by omega, by go_num, ?_, h0.other _ _ (by simp; omega), h1.other _ _ (by simp), Below.setCell (hk0.drewN _) (by simp; omega) _⟩
      have h3 := Arr.set (h2.drewN (nq + n2)) k (.int .u32 (((rot (((x3 ^^^ x8) ^^^ x14) ^^^ x16) 1 : Nat) : Int)))
      rw [Aa2 p k _ (by omega) HN.out.symm] at h3
      exact h3
     case measure => simp [intOf]; omega
    ·have HK := Lib.hid (show k = 80 by omega)
     rw [HK.out] at h2
     go_wp2
     go_meet
     case rel => exact ⟨h2, h0, h1, hk0⟩
  case rest =>
   clear h0 h1 h2 hk0
   obtain ⟨h2, h0, h1, hk0⟩ := hcut
   obtain ⟨c0, c1, c2, c3, c4⟩ := h0.five
   go_upto_block 4 with (fail)
   have hv0 : Arr (wc.alloc (.cells #[.int .u32 h.a, .int .u32 h.b, .int .u32 h.c, .int .u32 h.d, .int .u32 h.e] 144)) wc.heap.size 144 (D8 h.list) := Arr.new _ _ _
   have l0 := h0.lt
   have l1 := h1.lt
   have l2 := h2.lt
   obtain ⟨wo, rfl⟩ : ∃ wo : World, wo = wc := ⟨_, rfl⟩
   clear c0 c1 c2 c3 c4
   go_cut [] (fun wc => Arr wc wo.heap.size 144 (D8 (ZP 0 h (wl p 80)).list) ∧ Arr wc w.heap.size 144 (D8 h.list) ∧ Arr wc (w.heap.size + 1) 144 (TA 5) ∧ Au w wc)
   case first =>
    go_wp2
    go_loopw [10, 11, 12, 13] (fun i _ _ _ wr => ∃ (i' : Nat) (v : V5), i' ≤ 80 ∧ i = .int .i64 i' ∧ v.ok ∧ Arr wr wo.heap.size 144 (D8 v.list) ∧ OM p h i' v ∧ Arr wr (w.heap.size + 1 + 1) 191 (D8 (wl p 80) ++ TA (80 - 80)) ∧ Arr wr w.heap.size 144 (D8 h.list) ∧ Arr wr (w.heap.size + 1) 144 (TA 5) ∧ Au w wr) (fun i _ _ _ _ => 80 - (intOf i).toNat)
    case atStart => exact ⟨0, h, by omega, rfl, hh, hv0, OM.zero p h, h2.alloc _, h0.alloc _, h1.alloc _, hk0.alloc _⟩
    case round =>
     clear h0 h1 h2 hk0 hv0
     obtain ⟨i, v, hi, rfl, hv, hva, hr, h2, h0, h1, hk0⟩ := hrel
     by_cases hlt : i < 80
     ·obtain ⟨c0, c1, c2, c3, c4⟩ := hva.five
      have f0 := hva.frozen 0
      have f1 := hva.frozen 1
      have f2 := hva.frozen 2
      have f3 := hva.frozen 3
      have f4 := hva.frozen 4
      have cw : wr.cell? ⟨w.heap.size + 1 + 1, i, none⟩ = some (.int .u32 (((wl p 80).getD i 0 : Nat) : Int)) := by rw [h2.cell]; exact An3 p i hlt
      have bw := Dx p 80 i
      have HR := hr.succ hlt; clear hr
      generalize (wl p 80).getD i 0 = x at *
      obtain ⟨va, vb, vc, vd, ve⟩ := v
      obtain ⟨ba, bb, bc, bd, be⟩ := hv
      simp only at ba bb bc bd be c0 c1 c2 c3 c4
      have bf : sff i vb vc vd < 4294967296 := AnJ i bb bc bd
      go_upto_block 6 with (fail)
      go_cut [11, 12] (fun f k wc => f = .int .u32 (sff i vb vc vd : Nat) ∧ k = .int .u32 (skk i : Nat) ∧ wc = wr)
      case first =>
       rcases (show i < 20 ∨ (20 ≤ i ∧ i < 40) ∨ (40 ≤ i ∧ i < 60) ∨ 60 ≤ i from by omega) with hq | ⟨hq, hq2⟩ | ⟨hq, hq2⟩ | hq
       ·go_wp2
        go_meet
        case rel => exact ⟨by rw [ArM hq, Afq _ _ _ bb bc bd], by rw [Ars hq]; rfl, rfl⟩
       ·go_wp2
        go_meet
        case rel => exact ⟨by rw [ArE hq hq2, X6 _ _ _ bb bc bd], by rw [Art hq hq2]; rfl, rfl⟩
       ·go_wp2
        go_meet
        case rel => exact ⟨by rw [Arl hq hq2, Afb _ _ _ bb bc bd], by rw [Arn hq hq2]; rfl, rfl⟩
       ·go_wp2
        go_meet
        case rel => exact ⟨by rw [Arv hq, X6 _ _ _ bb bc bd], by rw [ArG hq]; rfl, rfl⟩
      case rest =>
       obtain ⟨rfl, rfl, rfl⟩ := hcut
       have hrt : Ie i ⟨va, vb, vc, vd, ve⟩ x = ((((rot va 5 + sff i vb vc vd) % 4294967296 + ve) % 4294967296 + skk i) % 4294967296 + x) % 4294967296 := rfl
       have HT := Lib.hid hrt; clear hrt
       have br := AdH 5 ba
       have bk : skk i < 4294967296 := by unfold skk; split <;> (try split) <;> (try split) <;> omega
       generalize sff i vb vc vd = F at *
       generalize skk i = KK at *
       go_wp2
       go_quiet ((go_at_call 107; exact Calls.quiet_of (turn _ _ _ ba (.inr (.inl rfl)))))
       go_wp2_with fail
       (with_reducible refine (turn _ _ _ bb (.inr (.inr rfl))).mono ?_)
       rintro e w' ⟨rfl, n2, rfl⟩
       go_wp2
       go_roundw
       case rel =>
        go_light
        have n0 : w.heap.size ≠ wo.heap.size := by omega
        have n1 : w.heap.size + 1 ≠ wo.heap.size := by omega
        have n2' : w.heap.size + 1 + 1 ≠ wo.heap.size := by omega
        refine ⟨i + 1, rnd i ⟨va, vb, vc, vd, ve⟩ x, by omega, by go_num, Xq i x ⟨ba, bb, bc, bd, be⟩, ?_, HR, ?_, ?_, ?_, ?_⟩
        ·have h5 := (((((hva.drewN nq).set 4 (.int .u32 vd)).set 3 (.int .u32 vc)).drewN n2).set 2 (.int .u32 (rot vb 30 : Nat))).set 1 (.int .u32 va) |>.set 0 (.int .u32 (Ie i ⟨va, vb, vc, vd, ve⟩ x : Nat))
         have e2 : ((Ie i ⟨va, vb, vc, vd, ve⟩ x : Nat) : Int) = (((rot va 5 : Nat) : Int) + F + ve + KK + x) % 4294967296 := by rw [HT.out]; omega
         rw [← e2]
         exact h5
        ·exact ((((((h2.drewN nq).other _ _ n2').other _ _ n2').drewN n2).other _ _ n2').other _ _ n2').other _ _ n2'
        ·exact ((((((h0.drewN nq).other _ _ n0).other _ _ n0).drewN n2).other _ _ n0).other _ _ n0).other _ _ n0
        ·exact ((((((h1.drewN nq).other _ _ n1).other _ _ n1).drewN n2).other _ _ n1).other _ _ n1).other _ _ n1
        ·have hle : w.heap.size ≤ wo.heap.size := by omega
         exact Below.setCell (Below.setCell (Below.setCell (Below.drewN' n2 (Below.setCell (Below.setCell (hk0.drewN nq) (p := ⟨wo.heap.size, 4, none⟩) hle _) (p := ⟨wo.heap.size, 3, none⟩) hle _)) (p := ⟨wo.heap.size, 2, none⟩) hle _) (p := ⟨wo.heap.size, 1, none⟩) hle _) (p := ⟨wo.heap.size, 0, none⟩) hle _
       case measure => simp [intOf]; omega
     ·have HK := Lib.hid (show i = 80 by omega)
      rw [HK.out] at hr
      have hva' := hva
      rw [hr.last] at hva'
      clear hva hr
      go_wp2
      go_meet
      case rel => exact ⟨hva', h0, h1, hk0⟩
   case rest =>
    clear h0 h1 h2 hk0 hv0
    obtain ⟨hva, h0, h1, hk0⟩ := hcut
    have hV : (ZP 0 h (wl p 80)).ok := AdC _ _ _ hh
    have hB : blk h p = AkA h (ZP 0 h (wl p 80)) := rfl
    have HB := Lib.hid hB; clear hB
    generalize ZP 0 h (wl p 80) = V at *
    go_wp2
    go_loopw [14] (fun i wr => ∃ k : Nat, k ≤ 5 ∧ i = .int .i64 k ∧ Arr wr wo.heap.size 144 (D8 V.list) ∧ Arr wr w.heap.size 144 (D8 (Ai8 h V k)) ∧ Arr wr (w.heap.size + 1) 144 (TA 5) ∧ Au w wr) (fun i _ => 5 - (intOf i).toNat)
    case atStart => exact ⟨0, by omega, rfl, hva, h0, h1, hk0⟩
    case round =>
     clear hva h0 h1 hk0
     obtain ⟨k, hk, rfl, hva, h0, h1, hk0⟩ := hrel
     by_cases hlt : k < 5
     ·have cv : wr.cell? ⟨wo.heap.size, k, none⟩ = some (.int .u32 ((V.list.getD k 0 : Nat) : Int)) := by rw [hva.cell]; exact RF V k hlt
      have ch : wr.cell? ⟨w.heap.size, k, none⟩ = some (.int .u32 ((h.list.getD k 0 : Nat) : Int)) := by rw [h0.cell]; exact Aba h V k hlt
      have fh := h0.frozen k
      have b1 := hV.get k
      have b2 := hh.get k
      have hs := Abs h V k hlt
      have HS := Lib.hid hs; clear hs
      generalize V.list.getD k 0 = x at *
      generalize h.list.getD k 0 = y at *
      have hki : (k : Int) < 5 := by omega
      go_wp2
      go_still_tail 9, (by kernel_rfl)
      go_wp2
      go_roundw
      case rel =>
       go_light
       refine ⟨k + 1, by omega, by go_num, hva.other _ _ (by simp; omega), ?_, h1.other _ _ (by simp), Below.drew (Below.setCell hk0 (Nat.le_refl _) _)⟩
       have h5 := h0.set k (.int .u32 (((y + x) % 4294967296 : Nat) : Int))
       rw [HS.out, show (((y + x) % 4294967296 : Nat) : Int) = ((y : Int) + x) % 4294967296 from by omega] at h5
       exact h5
      case measure => simp [intOf]; omega
     ·have HK := Lib.hid (show k = 5 by omega)
      rw [HK.out, Zc] at h0
      obtain ⟨c0, c1, c2, c3, c4⟩ := h0.five
      obtain ⟨d0, d1, d2, d3, d4⟩ := h1.five
      have f0 := h1.frozen 0
      have f1 := h1.frozen 1
      have f2 := h1.frozen 2
      have f3 := h1.frozen 3
      have f4 := h1.frozen 4
      generalize AkA h V = R at *
      go_wp2
      rw [HB.out]
      have hle : w.heap.size ≤ w.heap.size + 1 := by omega
      refine bodyPost_ret (v := .agg #[.int .u32 R.a, .int .u32 R.b, .int .u32 R.c, .int .u32 R.d, .int .u32 R.e]) (by simp [results, Tryd.results78, go_sem, d0, d1, d2, d3, d4]) rfl ⟨rfl, ?_⟩
      exact Below.setCell (Below.setCell (Below.setCell (Below.setCell (Below.setCell hk0 (p := ⟨w.heap.size + 1, 0, none⟩) hle _) (p := ⟨w.heap.size + 1, 1, none⟩) hle _) (p := ⟨w.heap.size + 1, 2, none⟩) hle _) (p := ⟨w.heap.size + 1, 3, none⟩) hle _) (p := ⟨w.heap.size + 1, 4, none⟩) hle _
end Go.Proofs.YtmlompedpahkjaaDoor.Kit


namespace Go.Proofs.YtmlompedpahkjaaDoor.Kit
open Go.RowKit
set_option linter.unusedVariables false

theorem Ah1 (l : List UInt8) (n : Nat) : (bv (l ++ [128])) = bv l ++ [.int .u8 128] := by simp [bv]

set_option maxRecDepth 100000 in
set_option maxHeartbeats 4000000 in
theorem AnB (a : Option Addr) (cap : Nat) (l : List UInt8) (w : World) (hb : Bs w a l) (hbl : l.length ≤ 1000000000) :
  Calls Tryd.prog 39 #[.slice a l.length cap] w fun e w' => e = .returned (.agg (bv (sha l)).toArray) ∧ Au w w' := by
 go_enter Tryd.func39, Tryd.ntmps39
 go_upto_region 2 with (fail)
 have hI0 : Arr (w.alloc (.cells #[.int .u8 0, .int .u8 0, .int .u8 0, .int .u8 0, .int .u8 0, .int .u8 0, .int .u8 0, .int .u8 0, .int .u8 0, .int .u8 0, .int .u8 0, .int .u8 0, .int .u8 0, .int .u8 0, .int .u8 0, .int .u8 0, .int .u8 0, .int .u8 0, .int .u8 0, .int .u8 0] 37)) w.heap.size 37 (z8 20) := Arr.new _ _ _
 have hk0 := (Au.refl w).alloc (.cells #[.int .u8 0, .int .u8 0, .int .u8 0, .int .u8 0, .int .u8 0, .int .u8 0, .int .u8 0, .int .u8 0, .int .u8 0, .int .u8 0, .int .u8 0, .int .u8 0, .int .u8 0, .int .u8 0, .int .u8 0, .int .u8 0, .int .u8 0, .int .u8 0, .int .u8 0, .int .u8 0] 37)
 have hsrc : Src Tryd.prog 1 23 (.slice a l.length cap) l.length (bv l) _ := (hb.keep hk0).srcOf Tryd.underlying23 cap (fun _ => rfl)
 go_cut [3] (fun v wc => Seg wc w.heap.size 5 1 v l.length (bv l) ∧ Arr wc w.heap.size 37 (z8 20) ∧ Au w wc)
 case first =>
  go_wp2_with (at_builtin; go_must (refine Cj _ rfl (.tmp 11) (.tmp 12) 23 23 rfl w.heap.size 5 (.int .u8 0) 1 1 Tryd.underlying23 Tryd.infoU8 rfl _ 0 [] rfl (Seg.nil _ _ _ _) _ _ _ rfl hsrc ?c1 ?c2 ?c3 ?_))
  case c1 => unfold maxLen; omega
  case c2 => omega
  case c3 => exact Below.size hk0
  intro v1 w1 hS1 hg1 ho1
  try simp only [Nat.zero_add, List.nil_append] at hS1
  have hI1 := hI0.keep (CY hg1)
  have hk1 := Au.trans hk0 (CY hg1)
  clear hI0 hk0 hsrc
  go_wp2
  go_meet
  case rel => exact ⟨hS1, hI1, hk1⟩
 case rest =>
  clear hI0 hk0 hsrc
  obtain ⟨hS, hI, hk⟩ := hcut
  obtain ⟨wa, rfl⟩ : ∃ wa : World, wa = wc := ⟨_, rfl⟩
  go_upto_region 3 with (fail)
  go_cut [3] (fun v wc => Seg wc w.heap.size 5 1 v (l ++ [128]).length (bv (l ++ [128])) ∧ Arr wc w.heap.size 37 (z8 20) ∧ Au w wc)
  case first =>
   have hne := hS.ne_arr hI (by decide)
   go_wp2_with (at_builtin; go_must (refine Cj _ rfl (.tmp 14) (.tmp 15) 23 23 rfl w.heap.size 5 (.int .u8 0) 1 1 Tryd.underlying23 Tryd.infoU8 rfl _ _ _ rfl (hS.alloc _) _ 1 [_] rfl (XP Tryd.underlying23 _ _ _ rfl) ?c1 ?c2 ?c3 ?_))
   case c1 => unfold maxLen; omega
   case c2 => omega
   case c3 => exact Nat.le_trans (Below.size hk) (by simp)
   intro v1 w1 hS1 hg1 ho1
   have hI1 := (hI.alloc (.cells #[.int .u8 128] 5)).grown hg1 (fun e => hne e.symm)
   have hk1 : Au w w1 := Below.grown (hk.alloc _) hg1 (Nat.le_trans (Below.size hk) (by simp)) (fun j hj => (hS.lt j hj).1)
   go_wp2
   go_meet
   case rel => exact ⟨by rw [Ah1 l 0, List.length_append]; exact hS1, hI1, hk1⟩
  case rest =>
   clear hS hI hk
   obtain ⟨hS, hI, hk⟩ := hcut
   obtain ⟨wb, rfl⟩ : ∃ wb : World, wb = wc := ⟨_, rfl⟩
   obtain ⟨z, hz⟩ : ∃ z : Nat, z = (119 - l.length % 64) % 64 := ⟨_, rfl⟩
   have HZ := Lib.hid hz
   have hz64 : z < 64 := by omega
   go_upto_block 0 with (fail)
   go_cut [3] (fun v wc => Seg wc w.heap.size 5 1 v (l ++ 128 :: List.replicate z 0).length (bv (l ++ 128 :: List.replicate z 0)) ∧ Arr wc w.heap.size 37 (z8 20) ∧ Au w wc)
   case first =>
    go_wp2
    go_loopg [3] z (fun gn v wr => ∃ (j : Nat) (m : List UInt8), j + gn = z ∧ Hid (m = l ++ 128 :: List.replicate j 0) ∧ Seg wr w.heap.size 5 1 v m.length (bv m) ∧ Arr wr w.heap.size 37 (z8 20) ∧ Au w wr)
    case atStart => exact ⟨0, l ++ [128], by omega, rfl, hS, hI, hk⟩
    case round =>
     clear hS hI hk
     obtain ⟨j, m, hj, hm, hS, hI, hk⟩ := hrel
     have hml : m.length = l.length + 1 + j := by rw [hm.out]; simp; omega
     obtain ⟨x, cap1, rfl, hn1, hc1, hx1⟩ := hS.form
     by_cases hlt : j < z
     ·have ht := Af3 hz hlt hml
      have hml2 : m.length ≤ 1000000100 := by omega
      have HM := Lib.hid hml; clear hml
      have hne := hS.ne_arr hI (by decide)
      clear hz
      go_wp2_with (at_builtin; go_must (refine Cj _ rfl (.tmp 21) (.tmp 22) 23 23 rfl w.heap.size 5 (.int .u8 0) 1 1 Tryd.underlying23 Tryd.infoU8 rfl _ _ _ rfl (hS.alloc _) _ 1 [_] rfl (XP Tryd.underlying23 _ _ _ rfl) ?c1 ?c2 ?c3 ?_))
      case c1 => unfold maxLen; omega
      case c2 => omega
      case c3 => exact Nat.le_trans (Below.size hk) (by simp)
      intro v1 w1 hS1 hg1 ho1
      have hI1 := (hI.alloc (.cells #[.int .u8 0] 5)).grown hg1 (fun e => hne e.symm)
      have hk1 : Au w w1 := Below.grown (hk.alloc _) hg1 (Nat.le_trans (Below.size hk) (by simp)) (fun j hj => (hS.lt j hj).1)
      go_wp2
      go_roundg (gk - 1)
      case measure => omega
      case rel =>
       go_light
       refine ⟨j + 1, m ++ [0], by omega, ?_, ?_, hI1, hk1⟩
       ·show m ++ [0] = _
        rw [hm.out]; simp [List.replicate_succ']
       ·rw [List.length_append, ← AaK m 0 (z := 0) rfl]; exact hS1
     ·have hjz : j = z := by omega
      have ht := Ahk hz hjz hml
      have HM := Lib.hid (And.intro hml hjz); clear hml hjz hz
      go_wp2
      go_meet
      case rel =>
       go_light
       have e := hm.out
       rw [HM.out.2] at e
       rw [← e]; exact ⟨hS, hI, hk⟩
   case rest =>
    clear hS hI hk
    obtain ⟨hS, hI, hk⟩ := hcut
    obtain ⟨wb, rfl⟩ : ∃ wb : World, wb = wc := ⟨_, rfl⟩
    obtain ⟨nn, hnn⟩ : ∃ nn : Nat, nn = l.length * 8 % 18446744073709551616 := ⟨_, rfl⟩
    have hnl : nn < 18446744073709551616 := by omega
    have hn8 : nn = l.length * 8 := by omega
    obtain ⟨P, hP⟩ : ∃ P, P = l ++ Tt l.length := ⟨_, rfl⟩
    have hPe : P = (l ++ 128 :: List.replicate z 0) ++ be8 nn := by rw [hP, Tt, ← hz, ← hnn]; simp
    generalize hQ : l ++ 128 :: List.replicate z 0 = Q0 at *
    have hQl : Q0.length ≤ 1000000100 := by rw [← hQ]; simp; omega
    have HP := Lib.hid (And.intro hP hPe)
    have hPl : P.length ≤ 1000000200 := by rw [hP, List.length_append]; have := AhA l.length; omega
    have hPq : ∃ q, P.length = 64 * q := by rw [hP]; exact Ai5 l
    have HN := Lib.hid (And.intro hnn (And.intro hz hQ))
    clear hP hPe hnn hz hQ
    have hn4 : IntKind.u64.wrap ((l.length : Int) * 8) = (nn : Int) := by rw [IntKind.wrap_u64]; omega
    have hn4' : (l.length : Int) * 8 = (nn : Int) := by omega
    go_upto_region 7 with (fail)
    have HN4 := Lib.hid (And.intro hn4 (And.intro hn4' hn8)); clear hn4 hn4' hn8
    go_upto_block 2 with (fail)
    rw [HN4.out.2.1]
    go_cut [3] (fun v wc => Seg wc w.heap.size 5 1 v P.length (bv P) ∧ Arr wc w.heap.size 37 (z8 20) ∧ Au w wc)
    case first =>
     go_wp2
     go_loopg [3, 5] 8 (fun gn v iv wr => ∃ (m : List UInt8) (j : Nat), j ≤ 8 ∧ j ≤ gn ∧ (iv = .int .i64 ((j : Int) - 1)) ∧ Hid (m = Q0 ++ (be8 nn).take (8 - j)) ∧ Seg wr w.heap.size 5 1 v m.length (bv m) ∧ Arr wr w.heap.size 37 (z8 20) ∧ Au w wr)
     case atStart => exact ⟨Q0, 8, by omega, by omega, rfl, by simp [Hid], hS, hI, hk⟩
     case round =>
      clear hS hI hk
      obtain ⟨m, j, hj8, hjg, rfl, hm, hS, hI, hk⟩ := hrel
      have hml : m.length ≤ 1000000150 := by rw [hm.out]; simp [EN]; omega
      cases j with
      | succ q =>
       rw [show ((q + 1 : Nat) : Int) - 1 = (q : Int) from by omega]
       have hne := hS.ne_arr hI (by decide)
       have e8 := PK (nn / 2 ^ (8 * q))
       have hb8 := Ahf nn q (by omega)
       generalize hy : UInt8.ofNat (nn / 2 ^ (8 * q) % 256) = y at *
       have HY := Lib.hid (And.intro e8 hb8)
       clear e8 hb8 hy
       go_wp2_with (at_builtin; go_must (refine Cj _ rfl (.tmp 32) (.tmp 38) 23 23 rfl w.heap.size 5 (.int .u8 0) 1 1 Tryd.underlying23 Tryd.infoU8 rfl _ _ _ rfl (hS.alloc _) _ 1 [_] rfl (XP Tryd.underlying23 _ _ _ rfl) ?c1 ?c2 ?c3 ?_))
       case c1 => unfold maxLen; omega
       case c2 => omega
       case c3 => exact Nat.le_trans (Below.size hk) (by simp)
       intro v1 w1 hS1 hg1 ho1
       have hI1 := (hI.alloc (.cells #[.int .u8 ((nn : Int) / 2 ^ (8 * q) % 256)] 5)).grown hg1 (fun e => hne e.symm)
       have hk1 : Au w w1 := Below.grown (hk.alloc _) hg1 (Nat.le_trans (Below.size hk) (by simp)) (fun j hj => (hS.lt j hj).1)
       go_wp2
       go_roundg (gk - 1)
       case measure => omega
       case rel =>
        go_light
        refine ⟨m ++ [y], q, by omega, by omega, rfl, ?_, ?_, hI1, hk1⟩
        ·show m ++ [y] = _
         have e := hm.out
         rw [show 8 - (q + 1) = 7 - q from by omega] at e
         rw [HY.out.2, ← List.append_assoc, ← e]
        ·rw [List.length_append]
         have h6 := hS1
         rw [AaK m y (by rw [HY.out.1]; rfl)] at h6
         exact h6
      | zero =>
       rw [show ((0 : Nat) : Int) - 1 = -1 from rfl]
       go_wp2
       go_meet
       case rel =>
        go_light
        have e := hm.out
        rw [show 8 - 0 = 8 from rfl, List.take_of_length_le (by rw [EN]; omega), ← HP.out.2] at e
        rw [← e]; exact ⟨hS, hI, hk⟩
    case rest =>
     clear hS hI hk HN4
     obtain ⟨hS, hI, hk⟩ := hcut
     obtain ⟨x3, cap3, rfl, hn3, hc3, hx3⟩ := hS.form
     obtain ⟨wd, rfl⟩ : ∃ wd : World, wd = wc := ⟨_, rfl⟩
     go_upto_block 4 with (fail)
     have hh0 : Arr (wd.alloc (.cells #[.int .u32 1732584193, .int .u32 4023233417, .int .u32 2562383102, .int .u32 271733878, .int .u32 3285377520] 144)) wd.heap.size 144 (D8 H0.list) := Arr.new _ _ _
     have hkd : Au wd (wd.alloc (.cells #[.int .u32 1732584193, .int .u32 4023233417, .int .u32 2562383102, .int .u32 271733878, .int .u32 3285377520] 144)) := (Au.refl wd).alloc _
     have hwd : w.heap.size ≤ wd.heap.size := Below.size hk
     go_cut [] (fun wc => Arr wc wd.heap.size 144 (D8 (Bo H0 P).1.list) ∧ Au wd wc)
     case first =>
      go_wp2
      go_loopg [7] (P.length) (fun gn iv wr => ∃ (q : Nat) (h : V5), P.length ≤ 64 * q + gn ∧ 64 * q ≤ P.length ∧ iv = .int .i64 ((64 * q : Nat) : Int) ∧ Arr wr wd.heap.size 144 (D8 h.list) ∧ Aeu P h (P.drop (64 * q)) ∧ Au wd wr)
      case atStart => exact ⟨0, H0, by omega, by omega, rfl, hh0, ⟨rfl, AfM⟩, hkd⟩
      case round =>
       clear hh0 hkd
       obtain ⟨q, h, hg, hq, rfl, hh, hB, hkd⟩ := hrel
       obtain ⟨atq, hat⟩ : ∃ n : Nat, n = 64 * q := ⟨_, rfl⟩
       rw [← hat]
       rw [← hat] at hq hg hB
       obtain ⟨QQ, hQQ⟩ := hPq
       have hlast : atq < P.length → atq + 64 ≤ P.length := by intro h; omega
       have hfin : ¬ atq < P.length → atq = P.length := by intro h; omega
       have HA := Lib.hid (And.intro hat hQQ)
       clear hat hQQ
       obtain ⟨c0, c1, c2, c3, c4⟩ := hh.five
       have f0 := hh.frozen 0
       have f1 := hh.frozen 1
       have f2 := hh.frozen 2
       have f3 := hh.frozen 3
       have f4 := hh.frozen 4
       by_cases hlt : atq < P.length
       ·have h64 := hlast hlt
        clear hlast hfin
        obtain ⟨bb, off, rfl, hbb, hbw⟩ := hx3 (by omega)
        have hbP : Bs wr (some ⟨bb, off, none⟩) P := hS.bytes.keep hkd
        have hbt := (hbP.drop atq).take 64
        have s1 : IntKind.i64.wrap ((atq : Int) + 64) = (atq : Int) + 64 := IntWalk.i64_in _ (by omega)
        have t1 : ((atq : Int) + 64).toNat = atq + 64 := by omega
        have g1 : (atq : Int) + 64 ≤ (P.length : Int) := by omega
        have g2 : (0 : Int) ≤ (atq : Int) + 64 := by omega
        have g3 : (atq : Int) + 64 ≤ (cap3 : Int) := by omega
        have g4 : ¬ cap3 = atq := by omega
        go_upto_region 15 with (fail)
        go_still_tail 6, (by kernel_rfl)
        have hB2 : Aeu P (blk h ((P.drop atq).take 64)) (P.drop (atq + 64)) := ⟨by rw [← hB.eq, F5 _ (P.drop atq) (by rw [List.length_drop]; omega), List.drop_drop], AaD _ _⟩
        have hlt64 : ((P.drop atq).take 64).length = 64 := by rw [List.length_take, List.length_drop]; omega
        have HL := Lib.hid hlt64; clear hlt64
        generalize hHH : blk h ((P.drop atq).take 64) = H2 at *
        have HH := Lib.hid hHH; clear hHH
        go_wp2_with fail
        (with_reducible refine (Ag0 h _ _ ((P.drop atq).take 64) _ hB.ok (hbt.keep (Au.refl wr).drew) HL.out).mono ?_)
        rw [HH.out]
        rintro e w5 ⟨rfl, hk5⟩
        have hh5 : Arr w5 wd.heap.size 144 (D8 h.list) := Arr.keep hh.drew hk5
        have hkd5 : Au wd w5 := Au.trans hkd.drew hk5
        clear c0 c1 c2 c3 c4 f0 f1 f2 f3 f4
        obtain ⟨c0, c1, c2, c3, c4⟩ := hh5.five
        have f0 := hh5.frozen 0
        have f1 := hh5.frozen 1
        have f2 := hh5.frozen 2
        have f3 := hh5.frozen 3
        have f4 := hh5.frozen 4
        go_wp2
        go_roundg (P.length - (atq + 64))
        case measure => omega
        case rel =>
         go_light
         refine ⟨q + 1, H2, ?_, ?_, ?_, ?_, ?_, ?_⟩
         ·have := HA.out.1; omega
         ·have := HA.out.1; omega
         ·have e : 64 * (q + 1) = atq + 64 := by have := HA.out.1; omega
          rw [e]; go_num
         ·exact ((((hh5.set 0 _).set 1 _).set 2 _).set 3 _).set 4 _
         ·have e : 64 * (q + 1) = atq + 64 := by have := HA.out.1; omega
          rw [e]; exact hB2
         ·exact Below.setCell (Below.setCell (Below.setCell (Below.setCell (Below.setCell hkd5 (p := ⟨wd.heap.size, 0, none⟩) (Nat.le_refl _) _) (p := ⟨wd.heap.size, 1, none⟩) (Nat.le_refl _) _) (p := ⟨wd.heap.size, 2, none⟩) (Nat.le_refl _) _) (p := ⟨wd.heap.size, 3, none⟩) (Nat.le_refl _) _) (p := ⟨wd.heap.size, 4, none⟩) (Nat.le_refl _) _
       ·have he := hfin hlt
        have hE := hB.eq
        rw [List.drop_eq_nil_of_le (by omega), Dp _ _ (by simp)] at hE
        have HE := Lib.hid hE
        clear hlast hfin hE he
        go_wp2
        go_meet
        case rel =>
         go_light
         rw [← HE.out]; exact ⟨hh, hkd⟩
     case rest =>
      clear hh0 hkd
      obtain ⟨hh, hkd⟩ := hcut
      have hI2 := hI.keep hkd
      have hk2 := Au.trans hk hkd
      have hV : (Bo H0 P).1.ok := Wq _ _ AfM
      have hsha : sha l = CO (Bo H0 P).1 := by rw [HP.out.1]; rfl
      have HS := Lib.hid hsha; clear hsha
      generalize (Bo H0 P).1 = V at *
      clear hI hk hS hkd hx3 hPq
      obtain ⟨we, rfl⟩ : ∃ we : World, we = wc := ⟨_, rfl⟩
      go_upto_block 6 with (fail)
      have ho0 : Arr (we.alloc (.cells #[.int .u8 0, .int .u8 0, .int .u8 0, .int .u8 0, .int .u8 0, .int .u8 0, .int .u8 0, .int .u8 0, .int .u8 0, .int .u8 0, .int .u8 0, .int .u8 0, .int .u8 0, .int .u8 0, .int .u8 0, .int .u8 0, .int .u8 0, .int .u8 0, .int .u8 0, .int .u8 0] 37)) we.heap.size 37 (bv ((CO V).take (4 * 0)) ++ z8 (20 - 4 * 0)) := Arr.new _ _ _
      have hh1 := hh.alloc (.cells #[.int .u8 0, .int .u8 0, .int .u8 0, .int .u8 0, .int .u8 0, .int .u8 0, .int .u8 0, .int .u8 0, .int .u8 0, .int .u8 0, .int .u8 0, .int .u8 0, .int .u8 0, .int .u8 0, .int .u8 0, .int .u8 0, .int .u8 0, .int .u8 0, .int .u8 0, .int .u8 0] 37)
      have hI1 := hI2.alloc (.cells #[.int .u8 0, .int .u8 0, .int .u8 0, .int .u8 0, .int .u8 0, .int .u8 0, .int .u8 0, .int .u8 0, .int .u8 0, .int .u8 0, .int .u8 0, .int .u8 0, .int .u8 0, .int .u8 0, .int .u8 0, .int .u8 0, .int .u8 0, .int .u8 0, .int .u8 0, .int .u8 0] 37)
      have hk1 := hk2.alloc (.cells #[.int .u8 0, .int .u8 0, .int .u8 0, .int .u8 0, .int .u8 0, .int .u8 0, .int .u8 0, .int .u8 0, .int .u8 0, .int .u8 0, .int .u8 0, .int .u8 0, .int .u8 0, .int .u8 0, .int .u8 0, .int .u8 0, .int .u8 0, .int .u8 0, .int .u8 0, .int .u8 0] 37)
      have l4 := hh.lt
      have l5 := hI2.lt
      go_cut [] (fun wr => Arr wr we.heap.size 37 (bv (CO V)) ∧ Arr wr w.heap.size 37 (z8 20) ∧ Au w wr)
      case first =>
       go_wp2
       go_loopg [9, 10] 5 (fun gn iv _ wr => ∃ i : Nat, i ≤ 5 ∧ 5 ≤ i + gn ∧ iv = .int .i64 i ∧ Arr wr we.heap.size 37 (bv ((CO V).take (4 * i)) ++ z8 (20 - 4 * i)) ∧ Arr wr wd.heap.size 144 (D8 V.list) ∧ Arr wr w.heap.size 37 (z8 20) ∧ Au w wr)
       case atStart => exact ⟨0, by omega, by omega, rfl, ho0, hh1, hI1, hk1⟩
       case round =>
        clear ho0 hh1 hI1 hk1 hh hI2 hk2
        obtain ⟨i, hi, hig, rfl, ho, hh, hI, hk⟩ := hrel
        by_cases hlt : i < 5
        ·have hmi : (i : Int) < 5 := by omega
         obtain ⟨gi, rfl⟩ : ∃ gi : Nat, gi = gk := ⟨_, rfl⟩
         go_wp2
         go_loopg [10] 4 (fun gn kv wr => ∃ k : Nat, k ≤ 4 ∧ 4 ≤ k + gn ∧ kv = .int .i64 k ∧ Arr wr we.heap.size 37 (bv ((CO V).take (4 * i + k)) ++ z8 (20 - (4 * i + k))) ∧ Arr wr wd.heap.size 144 (D8 V.list) ∧ Arr wr w.heap.size 37 (z8 20) ∧ Au w wr)
         case atStart => exact ⟨0, by omega, by omega, rfl, ho, hh, hI, hk⟩
         case round =>
          clear ho hh hI hk
          obtain ⟨k, hk4, hkg, rfl, ho, hh, hI, hk⟩ := hrel
          by_cases hlk : k < 4
          ·have hmk : (k : Int) < 4 := by omega
           have ci : wr.cell? ⟨we.heap.size, 4 * i + k, none⟩ = some (.int .u8 0) := by rw [ho.cell]; exact Abe V _ (by omega)
           have fi := ho.frozen (4 * i + k)
           have ch : wr.cell? ⟨wd.heap.size, i, none⟩ = some (.int .u32 ((V.list.getD i 0 : Nat) : Int)) := by rw [hh.cell]; exact RF V _ hlt
           have hbv := hV.get i
           have e8 := PK (V.list.getD i 0 / 2 ^ (24 - 8 * k))
           have hb8 := Acb V i k hlt hlk
           generalize hy : UInt8.ofNat (V.list.getD i 0 / 2 ^ (24 - 8 * k) % 256) = y at *
           have HY := Lib.hid (And.intro e8 hb8)
           clear e8 hb8 hy
           generalize V.list.getD i 0 = q at *
           go_wp2
           go_roundg (gk - 1)
           case measure => omega
           case rel =>
            go_light
            have n1 : wd.heap.size ≠ we.heap.size := by omega
            have n2 : w.heap.size ≠ we.heap.size := by omega
            refine ⟨k + 1, by omega, by omega, by go_num, ?_, hh.other _ _ n1, hI.other _ _ n2, Below.setCell hk (p := ⟨we.heap.size, 4 * i + k, none⟩) (by show w.heap.size ≤ we.heap.size; omega) _⟩
            have h5 := ho.set (4 * i + k) (.int .u8 ((q : Int) / 2 ^ (24 - 8 * k) % 256))
            rw [Adl V (4 * i + k) (by omega) HY.out.2 (by rw [HY.out.1]; rfl)] at h5
            exact h5
          ·have hk4e : k = 4 := by omega
           have HK := Lib.hid hk4e; clear hk4e
           go_wp2
           go_roundg (gi - 1)
           case measure => omega
           case rel =>
            go_light
            refine ⟨i + 1, by omega, by omega, by go_num, ?_, hh, hI, hk⟩
            have h5 := ho
            rw [HK.out, show 4 * i + 4 = 4 * (i + 1) from by omega] at h5
            exact h5
        ·have HI := Lib.hid (show i = 5 by omega)
         rw [HI.out] at ho
         go_wp2
         go_meet
         case rel =>
          go_light
          refine ⟨?_, hI, hk⟩
          have e : bv ((CO V).take (4 * 5)) ++ z8 (20 - 4 * 5) = bv (CO V) := by
           rw [List.take_of_length_le (by rw [BJ]; omega)]; simp [z8]
          rw [← e]; exact ho
      case rest =>
       clear ho0 hh1 hI1 hk1 hh hI2 hk2 l4 l5
       obtain ⟨hid, hI, hk⟩ := hcut
       have hl : (bv (CO V)).length = (z8 20).length := by rw [DI, BJ]; rfl
       have hsa := hI.setAll hl
       have hks := Au.setCells (Nat.le_refl _) (bv (CO V)) 0 _ hk
       have hth := hI.there 20 (by simp [z8])
       unfold Arr at hid hsa
       have z1 : (Tryd.prog.info? 37).map (·.size) = some (bv (CO V)).toArray.size := by rw [List.size_toArray, DI, BJ]; kernel_rfl
       have z2 : wc.there w.heap.size 0 (bv (CO V)).toArray.size := by rw [show (bv (CO V)).toArray.size = 20 from by simp [BJ]]; exact hth
       have z3 := all_oneCell_toArray (Rz (CO V))
       have Z1 := Lib.hid z1
       clear z1
       clear hth
       go_upto_region 24 with (fail)
       go_wp2_with (first | (with_reducible refine wpList_load_row rfl 37 (.tmp 8) rfl _ rfl 37 (bv (CO V)).toArray (0, 0) _ hid Tryd.underlying37 rfl Z1.out ?_) | (with_reducible refine wpList_store_mid rfl 37 (.tmp 2) (.tmp 75) rfl w.heap.size 0 (bv (CO V)).toArray rfl rfl z2 Z1.out z3 ?_))
       refine bodyPost_ret (results_cell_row rfl _ _ w.heap.size 37 (bv (CO V)).toArray (0, 0) _ rfl hsa Tryd.underlying37 rfl Z1.out) rfl ⟨by rw [HS.out], hks⟩
end Go.Proofs.YtmlompedpahkjaaDoor.Kit


namespace Go.Proofs.YtmlompedpahkjaaDoor
open Go.RowKit Kit
variable [BA]
set_option linter.unusedSectionVars false
set_option linter.unusedVariables false

/-- Bytes in, bytes out, and nothing that was there is changed. -/
theorem D5.of_bytes {P : Program} {f : FuncId} {l out : List UInt8} {n : Nat} (hn : out.length = n)
  (h : ∀ (a : Option Addr) (cap : Nat) (w : World), Bs w a l → Calls P f #[.slice a l.length cap] w fun e w' => e = .returned (.agg (bv out).toArray) ∧ Au w w') :
  D5 P f [slB l] (fun x => x = .arr n 1 (out.map by8)) := by
 intro β F w vs hF hv
 obtain ⟨v, us, rfl, h1, hv⟩ := Bg.cons.1 hv
 rw [Bg.nil] at hv; subst hv
 have fin : ∀ e w', (e = Ending.returned (.agg (bv out).toArray) ∧ Au w w') → ∃ v x F', e = .returned v ∧ x = .arr n 1 (out.map by8) ∧ Rep ⟨β, [], F'⟩ w' x v ∧ NT F w F' w' := by
  rintro e w' ⟨rfl, hk⟩
  refine ⟨_, _, F, rfl, rfl, Rep.of_cells (us := bv out) ?_, ⟨hk.os, hk.tape, hk.output, hk.size, fun b hb => hk.block b hb, fun _ h => h, fun _ _ h => h, fun b hb => Nat.lt_of_lt_of_le (hF.1 b hb) hk.size⟩⟩
  rw [Ak]
  exact ⟨by simpa using hn, fun y hy => by obtain ⟨b, _, rfl⟩ := List.mem_map.1 hy; rfl, DN out⟩
 have hr0 : Rep ⟨β, [], F⟩ w (slB l) v := Or.inl h1
 have hr := hr0.sl
 obtain ⟨hw, hr⟩ := hr
 rcases hr with ⟨he, ad, cap, rfl, _⟩ | ⟨b, off, cap, us, rfl, h3, h4, h5, h6, h7⟩
 ·have hl : l = [] := by simpa using he
  subst hl
  exact (h ad cap w (Bs.nil w ad)).mono fun e w' h => fin e w' h
 ·have hb := Ee (fun y hy => by obtain ⟨b, _, rfl⟩ := List.mem_map.1 hy; exact U5 b) h6
  rw [J5] at hb
  have hbs : Bs w (some ⟨b, off, none⟩) l := fun j hj => ⟨b, off, rfl, h7 j _ (by rw [hb, List.getElem?_map, List.getElem?_eq_getElem hj, List.getD_eq_getElem?_getD, List.getElem?_eq_getElem hj]; rfl)⟩
  have := h (some ⟨b, off, none⟩) cap w hbs
  rw [show (l.map by8).length = l.length from by simp]
  exact this.mono fun e w' h => fin e w' h
theorem Ar6 (b : List UInt8) (hb : b.length ≤ 1000000000) : D5 Tryd.prog 36 [slB b] (fun x => x = .arr 20 1 ((sha b).map by8)) :=
 D5.of_bytes (EH b) fun a cap w h => AnS a cap b w h hb
theorem Ap7 (b : List UInt8) (hb : b.length ≤ 1000000000) : D5 Tryd.prog 39 [slB b] (fun x => x = .arr 20 1 ((sha b).map by8)) :=
 D5.of_bytes (EH b) fun a cap w h => AnB a cap b w h hb
end Go.Proofs.YtmlompedpahkjaaDoor


namespace Go.Proofs.YtmlompedpahkjaaDoor
open Go.RowKit
variable [BA]
set_option linter.unusedSectionVars false
set_option linter.unusedVariables false
set_option linter.unusedSimpArgs false

theorem Aax (a b : List UInt8) : D5 Tryd.prog 80 [slB a, slB b] (fun x => x = tb (decide (a = b))) := by
 refine Ap.toPureV (WO (by simp) ?_)
 simp -dsimp (disch := first | assumption | omega | (simp only [Ac]; done) | (simp only [Ac]; omega)) only [↓Ah, Ae, Ai, Ag, eq_self, forall_const, Nat.reduceLT, Nat.reduceEqDiff, Nat.reduceSub, Nat.reduceMul, Nat.reduceMod, Nat.reduceDiv, Nat.reducePow, UInt8.reduceToNat, Int.reduceEq, Int.reduceLT, Int.reduceLE, ↓reduceIte, Nat.reduceAdd, Int.reduceToNat, reduceCtorEq, Nat.reduceLeDiff, ↓XQ]
theorem AjM {l : List Pl} (hlen : l.length ≤ 100000) {H : List Ob} {K : TV → List Ob → Prop} (h0 : l = [] → K (.val (.slice none 0 0)) H) (h1 : K (.os 22 H.length 1 [] 0 l.length l.length) (H ++ [.obj 1 (.arr l.length 22 (l.map plT))])) :
  Ap Tryd.prog 33 [.sl 22 (l.map plT)] H K := by
 refine Eg (by simp) ?_
 by_cases hn : l = []
 ·subst hn
  simp -dsimp (disch := first | assumption | omega | (simp only [Ac]; done) | (simp only [Ac]; omega)) only [↓Ah, Ae, Ai, Ag, eq_self, forall_const, Nat.reduceLT, Nat.reduceEqDiff, Nat.reduceSub, Nat.reduceMul, Nat.reduceMod, Nat.reduceDiv, Nat.reducePow, UInt8.reduceToNat, Int.reduceEq, Int.reduceLT, Int.reduceLE, ↓reduceIte, Nat.reduceAdd, Int.reduceToNat, reduceCtorEq, Nat.reduceLeDiff, ↓Ba]
  refine AaB ?_ ?_
  ·simp -dsimp (disch := first | assumption | omega | (simp only [Ac]; done) | (simp only [Ac]; omega)) only [↓Ah, Ae, Ai, Ag, eq_self, forall_const, Nat.reduceLT, Nat.reduceEqDiff, Nat.reduceSub, Nat.reduceMul, Nat.reduceMod, Nat.reduceDiv, Nat.reducePow, UInt8.reduceToNat, Int.reduceEq, Int.reduceLT, Int.reduceLE, ↓reduceIte, Nat.reduceAdd, Int.reduceToNat, reduceCtorEq, Nat.reduceLeDiff, ↓Ba]
   exact h0 rfl
  ·simp -dsimp (disch := first | assumption | omega | (simp only [Ac]; done) | (simp only [Ac]; omega)) only [↓Ah, Ae, Ai, Ag, eq_self, forall_const, Nat.reduceLT, Nat.reduceEqDiff, Nat.reduceSub, Nat.reduceMul, Nat.reduceMod, Nat.reduceDiv, Nat.reducePow, UInt8.reduceToNat, Int.reduceEq, Int.reduceLT, Int.reduceLE, ↓reduceIte, Nat.reduceAdd, Int.reduceToNat, reduceCtorEq, Nat.reduceLeDiff, ↓Ba]
   simpa using h1
 ·have hn0 : l.length ≠ 0 := fun e => hn (List.length_eq_zero_iff.1 e)
  simp -dsimp (disch := first | assumption | omega | (simp only [Ac]; done) | (simp only [Ac]; omega)) only [↓Ah, Ae, Ai, Ag, eq_self, forall_const, Nat.reduceLT, Nat.reduceEqDiff, Nat.reduceSub, Nat.reduceMul, Nat.reduceMod, Nat.reduceDiv, Nat.reducePow, UInt8.reduceToNat, Int.reduceEq, Int.reduceLT, Int.reduceLE, ↓reduceIte, Nat.reduceAdd, Int.reduceToNat, reduceCtorEq, Nat.reduceLeDiff, ↓Ba]
  simpa using h1
theorem Aqz {id ver N cp : Nat} {d : List Pl} {H : List Ob} {K : TV → List Ob → Prop} (h20 : ∀ p ∈ d, p.id.length = 20) (hid : H[id]? = some (.obj ver (.arr N 22 (d.map plT)))) (hb : d.length ≤ 100000)
  (hK : ∀ s : List Pl, s.Perm d → s.Pairwise (fun x y => ¬ ltB y.id x.id) → K (.tup []) (H.set id (.obj ver (.arr N 22 (s.map plT))))) : Ap Tryd.prog 34 [.os 22 id ver [] 0 d.length cp] H K := by
 refine UC (by simp) ?_
 simp -dsimp (disch := first | assumption | omega | (simp only [Ac]; done) | (simp only [Ac]; omega)) only [↓Ah, Ae, Ai, Ag, eq_self, forall_const, Nat.reduceLT, Nat.reduceEqDiff, Nat.reduceSub, Nat.reduceMul, Nat.reduceMod, Nat.reduceDiv, Nat.reducePow, UInt8.reduceToNat, Int.reduceEq, Int.reduceLT, Int.reduceLE, ↓reduceIte, Nat.reduceAdd, Int.reduceToNat, reduceCtorEq, Nat.reduceLeDiff, ↓MI]
 refine OY (Am5 h20 hid hb fun s h1 h2 => ?_)
 simp -dsimp (disch := first | assumption | omega | (simp only [Ac]; done) | (simp only [Ac]; omega)) only [↓Ah, Ae, Ai, Ag, eq_self, forall_const, Nat.reduceLT, Nat.reduceEqDiff, Nat.reduceSub, Nat.reduceMul, Nat.reduceMod, Nat.reduceDiv, Nat.reducePow, UInt8.reduceToNat, Int.reduceEq, Int.reduceLT, Int.reduceLE, ↓reduceIte, Nat.reduceAdd, Int.reduceToNat, reduceCtorEq, Nat.reduceLeDiff, ↓MI]
 exact hK s h1 h2
end Go.Proofs.YtmlompedpahkjaaDoor


namespace Go.Proofs.YtmlompedpahkjaaDoor
open Go.RowKit Kit
variable [BA]
set_option linter.unusedSectionVars false
set_option linter.unusedVariables false
set_option linter.unusedSimpArgs false

theorem Akn {L sum : List UInt8} (hL : L.length ≤ 1000000) (hs : sum.length = 20) {si id v cp : Nat} {er : Env} {H : List Ob} (hne : si ≠ id) (h1 : H[si]? = some (.obj 0 (.arr 20 1 (sum.map by8)))) (h2 : H[id]? = some (.obj v (.arr L.length 1 (L.map by8)))) {K : TV → List Ob → Prop}
  (hK : ∀ H' v' cp', H'[id]? = some (.obj v' (.arr (L ++ sum ++ sha (L ++ sum)).length 1 ((L ++ sum ++ sha (L ++ sum)).map by8))) → K (.tup [.os 1 id v' [] 0 (L ++ sum ++ sha (L ++ sum)).length cp', .val .nilIface]) H') :
  vwp Tryd.prog ED (NU Bz K) ((3, .op si 0 []) :: (9, .os 1 id v [] 0 L.length cp) :: er) H := by
 have hid : id < H.length := (List.getElem?_eq_some_iff.1 h2).1
 have htk : (L.map by8).take L.length = L.map by8 := by rw [List.take_of_length_le]; simp
 have hst : (sum.map by8).take 20 = sum.map by8 := by rw [List.take_of_length_le]; simp [hs]
 simp -dsimp (disch := first | assumption | omega | (simp only [Ac]; done) | (simp only [Ac]; omega)) only [↓Ah, Ae, Ai, Ag, eq_self, forall_const, Nat.reduceLT, Nat.reduceEqDiff, Nat.reduceSub, Nat.reduceMul, Nat.reduceMod, Nat.reduceDiv, Nat.reducePow, UInt8.reduceToNat, Int.reduceEq, Int.reduceLT, Int.reduceLE, ↓reduceIte, Nat.reduceAdd, Int.reduceToNat, reduceCtorEq, Nat.reduceLeDiff, ↓O6, h1, h2, htk, hst, hs]
 have hm : L.map by8 ++ sum.map by8 = (L ++ sum).map by8 := by simp
 have hl2 : L.length + 20 = (L ++ sum).length := by simp [hs]
 rw [hm, hl2]
 have h3 : (H.set id (.obj (v + 1) (.arr (L ++ sum).length 1 ((L ++ sum).map by8))))[id]? = some (.obj (v + 1) (.arr (L ++ sum).length 1 ((L ++ sum).map by8))) := List.getElem?_set_self hid
 have hLs : (L ++ sum).length ≤ 1000100 := by simp [hs]; omega
 generalize H.set id (.obj (v + 1) (.arr (L ++ sum).length 1 ((L ++ sum).map by8))) = H1 at *
 generalize L ++ sum = M at *
 have htm : (M.map by8).take M.length = M.map by8 := by rw [List.take_of_length_le]; simp
 have hid1 : id < H1.length := (List.getElem?_eq_some_iff.1 h3).1
 refine (Ar6 M (by omega)).lends (args' := [slB M]) (by simp -dsimp (disch := first | assumption | omega | (simp only [Ac]; done) | (simp only [Ac]; omega)) only [↓Ah, Ae, Ai, Ag, eq_self, forall_const, Nat.reduceLT, Nat.reduceEqDiff, Nat.reduceSub, Nat.reduceMul, Nat.reduceMod, Nat.reduceDiv, Nat.reducePow, UInt8.reduceToNat, Int.reduceEq, Int.reduceLT, Int.reduceLE, ↓reduceIte, Nat.reduceAdd, Int.reduceToNat, reduceCtorEq, Nat.reduceLeDiff, h3, htm]) fun r hr => ?_
 subst hr
 refine ⟨by rw [W9, SK], ?_⟩
 have hsl := EH M
 generalize sha M = q at *
 have hqt : (q.map by8).take 20 = q.map by8 := by rw [List.take_of_length_le]; simp [hsl]
 have hmq : M.map by8 ++ q.map by8 = (M ++ q).map by8 := by simp
 have hlq : M.length + 20 = (M ++ q).length := by simp [hsl]
 simp -dsimp (disch := first | assumption | omega | (simp only [Ac]; done) | (simp only [Ac]; omega)) only [↓Ah, Ae, Ai, Ag, eq_self, forall_const, Nat.reduceLT, Nat.reduceEqDiff, Nat.reduceSub, Nat.reduceMul, Nat.reduceMod, Nat.reduceDiv, Nat.reducePow, UInt8.reduceToNat, Int.reduceEq, Int.reduceLT, Int.reduceLE, ↓reduceIte, Nat.reduceAdd, Int.reduceToNat, reduceCtorEq, Nat.reduceLeDiff, ↓DT, h3, htm, hqt, hsl]
 rw [hmq, hlq]
 exact hK _ _ _ (by rw [List.getElem?_append_left (by simpa using hid1), List.getElem?_set_self hid1])
/-- What a loop over places keeps: the row that grows, the sum, the places. -/
structure WrH (H : List Ob) (si li : Nat) (lv : Nat) (s : List Pl) (sum : List UInt8) (id v : Nat) (L : List UInt8) : Prop where
 ne : si ≠ id ∧ li ≠ id
 sm : H[si]? = some (.obj 0 (.arr 20 1 (sum.map by8)))
 pl : H[li]? = some (.obj lv (.arr s.length 22 (s.map plT)))
 rw' : H[id]? = some (.obj v (.arr L.length 1 (L.map by8)))
theorem WrH.grew {H H' : List Ob} {si li lv : Nat} {s : List Pl} {sum : List UInt8} {id v v' : Nat} {L L' : List UInt8} (h : WrH H si li lv s sum id v L) (k : AlR H H' id (.obj v' (.arr L'.length 1 (L'.map by8)))) : WrH H' si li lv s sum id v' L' :=
 ⟨h.ne, by rw [k.low si (List.getElem?_eq_some_iff.1 h.sm).1 h.ne.1]; exact h.sm, by rw [k.low li (List.getElem?_eq_some_iff.1 h.pl).1 h.ne.2]; exact h.pl, k.at'⟩
theorem WrH.app {H T : List Ob} {si li lv : Nat} {s : List Pl} {sum : List UInt8} {id v : Nat} {L : List UInt8} (h : WrH H si li lv s sum id v L) : WrH (H ++ T) si li lv s sum id v L :=
 ⟨h.ne, by rw [List.getElem?_append_left (List.getElem?_eq_some_iff.1 h.sm).1]; exact h.sm, by rw [List.getElem?_append_left (List.getElem?_eq_some_iff.1 h.pl).1]; exact h.pl, by rw [List.getElem?_append_left (List.getElem?_eq_some_iff.1 h.rw').1]; exact h.rw'⟩
/-- The offsets, and what follows. -/
theorem Ah6 {s : List Pl} (hsl : s.length ≤ 5000) (hso : ∀ p ∈ s, 0 ≤ p.off ∧ p.off < 2147483648) {L sum : List UInt8} (hL : L.length ≤ 500000) (hs : sum.length = 20) {si li lv id v cp n0 : Nat} {er : Env} {H : List Ob} (h : WrH H si li lv s sum id v L) {K : TV → List Ob → Prop}
  (hK : ∀ X H' v' cp', X = L ++ s.flatMap (fun p => be4 p.off.toNat) ++ sum → H'[id]? = some (.obj v' (.arr (X ++ sha X).length 1 ((X ++ sha X).map by8))) → K (.tup [.os 1 id v' [] 0 (X ++ sha X).length cp', .val .nilIface]) H') :
  vwp Tryd.prog Ej (NU Bz K) ((0, .os 22 li lv [] 0 s.length n0) :: (3, .op si 0 []) :: (9, .os 1 id v [] 0 L.length cp) :: er) H := by
 simp -dsimp (disch := first | assumption | omega | (simp only [Ac]; done) | (simp only [Ac]; omega)) only [↓Ah, Ae, Ai, Ag, eq_self, forall_const, Nat.reduceLT, Nat.reduceEqDiff, Nat.reduceSub, Nat.reduceMul, Nat.reduceMod, Nat.reduceDiv, Nat.reducePow, UInt8.reduceToNat, Int.reduceEq, Int.reduceLT, Int.reduceLE, ↓reduceIte, Nat.reduceAdd, Int.reduceToNat, reduceCtorEq, Nat.reduceLeDiff, ↓PE, ↓OH]
 refine Dq (fun m e H' => ∃ (i v' cp' : Nat) (M : List UInt8), m = s.length - i ∧ i ≤ s.length ∧ M = L ++ (s.take i).flatMap (fun p => be4 p.off.toNat) ∧ M.length = L.length + 4 * i ∧ WrH H' si li lv s sum id v' M ∧ H.length ≤ H'.length ∧
  e = [(3, .op si 0 []), (9, .os 1 id v' [] 0 M.length cp'), (103, .os 22 li lv [] 0 s.length n0), (104, i64 (s.length : Int)), (105, i64 (i : Int))]) s.length ?_ ?_
 ·exact ⟨0, v, cp, L, by simp, by omega, by simp, by simp, h, Nat.le_refl _, by simp [forget, get]⟩
 ·rintro m e H1 ⟨i, v', cp', M, rfl, hi, hM, hMl, hW, hHl, rfl⟩
  have hpl := hW.pl
  by_cases c : i < s.length
  ·have hg : s[i]? = some s[i] := List.getElem?_eq_getElem c
   have hsucc := List.take_succ_eq_append_getElem c
   have hpm : s[i] ∈ s := List.getElem_mem c
   generalize s[i] = p at *
   obtain ⟨ho1, ho2⟩ := hso p hpm
   obtain ⟨o, ho⟩ : ∃ o : Nat, p.off = (o : Int) := ⟨p.off.toNat, by omega⟩
   simp -dsimp (disch := first | assumption | omega | (simp only [Ac]; done) | (simp only [Ac]; omega)) only [↓Ah, Ae, Ai, Ag, eq_self, forall_const, Nat.reduceLT, Nat.reduceEqDiff, Nat.reduceSub, Nat.reduceMul, Nat.reduceMod, Nat.reduceDiv, Nat.reducePow, UInt8.reduceToNat, Int.reduceEq, Int.reduceLT, Int.reduceLE, ↓reduceIte, Nat.reduceAdd, Int.reduceToNat, reduceCtorEq, Nat.reduceLeDiff, ↓GI, hpl, hg, BB]
   have hw : IntKind.u32.wrap p.off = (o : Int) := by rw [ho]; exact Vz (by omega)
   rw [hw]
   have hW2 := hW.app (T := [Ob.obj 0 (TV.agg [TV.arr 20 1 (List.map by8 p.id), TV.val (Value.int IntKind.i64 p.off), TV.val (Value.int IntKind.u32 ↑p.crc)])])
   refine OY (Ao0 (l := M) (by omega) (by omega) hW2.rw' fun H2 v2 hG => ?_)
   have hml : M.length + 4 = (M ++ be4 o).length := by simp
   have hlen2 := hG.len
   rw [hml] at hG ⊢
   have hW3 := hW2.grew hG
   simp -dsimp (disch := first | assumption | omega | (simp only [Ac]; done) | (simp only [Ac]; omega)) only [↓Ah, Ae, Ai, Ag, eq_self, forall_const, Nat.reduceLT, Nat.reduceEqDiff, Nat.reduceSub, Nat.reduceMul, Nat.reduceMod, Nat.reduceDiv, Nat.reducePow, UInt8.reduceToNat, Int.reduceEq, Int.reduceLT, Int.reduceLE, ↓reduceIte, Nat.reduceAdd, Int.reduceToNat, reduceCtorEq, Nat.reduceLeDiff]
   refine A8 (s.length - (i + 1)) (by omega) (by simp at hlen2; omega) ⟨i + 1, v2, (M ++ be4 o).length, M ++ be4 o, rfl, by omega, ?_, by simp; omega, hW3, by simp at hlen2; omega, by simp [forget, get]⟩
   rw [hsucc, List.flatMap_append, hM, List.append_assoc]
   simp [ho]
  ·have hi2 : i = s.length := by omega
   subst hi2
   rw [List.take_length] at hM
   simp -dsimp (disch := first | assumption | omega | (simp only [Ac]; done) | (simp only [Ac]; omega)) only [↓Ah, Ae, Ai, Ag, eq_self, forall_const, Nat.reduceLT, Nat.reduceEqDiff, Nat.reduceSub, Nat.reduceMul, Nat.reduceMod, Nat.reduceDiv, Nat.reducePow, UInt8.reduceToNat, Int.reduceEq, Int.reduceLT, Int.reduceLE, ↓reduceIte, Nat.reduceAdd, Int.reduceToNat, reduceCtorEq, Nat.reduceLeDiff, ↓GI]
   exact Akn (L := M) (by omega) hs hW.ne.1 hW.sm hW.rw' fun H2 v2 c2 h2 => hK (M ++ sum) H2 v2 c2 (by rw [hM]) h2
/-- The CRCs, and what follows. -/
theorem Aio {s : List Pl} (hsl : s.length ≤ 5000) (hso : ∀ p ∈ s, 0 ≤ p.off ∧ p.off < 2147483648) {L sum : List UInt8} (hsc : ∀ p ∈ s, p.crc < 4294967296) (hL : L.length ≤ 400000) (hs : sum.length = 20) {si li lv id v cp n0 : Nat} {er : Env} {H : List Ob} (h : WrH H si li lv s sum id v L) {K : TV → List Ob → Prop}
  (hK : ∀ X H' v' cp', X = L ++ s.flatMap (fun p => be4 p.crc) ++ s.flatMap (fun p => be4 p.off.toNat) ++ sum → H'[id]? = some (.obj v' (.arr (X ++ sha X).length 1 ((X ++ sha X).map by8))) → K (.tup [.os 1 id v' [] 0 (X ++ sha X).length cp', .val .nilIface]) H') :
  vwp Tryd.prog Et (NU Bz K) ((0, .os 22 li lv [] 0 s.length n0) :: (3, .op si 0 []) :: (9, .os 1 id v [] 0 L.length cp) :: er) H := by
 simp -dsimp (disch := first | assumption | omega | (simp only [Ac]; done) | (simp only [Ac]; omega)) only [↓Ah, Ae, Ai, Ag, eq_self, forall_const, Nat.reduceLT, Nat.reduceEqDiff, Nat.reduceSub, Nat.reduceMul, Nat.reduceMod, Nat.reduceDiv, Nat.reducePow, UInt8.reduceToNat, Int.reduceEq, Int.reduceLT, Int.reduceLE, ↓reduceIte, Nat.reduceAdd, Int.reduceToNat, reduceCtorEq, Nat.reduceLeDiff, ↓OQ]
 refine Dq (fun m e H' => ∃ (i v' cp' : Nat) (M : List UInt8), m = s.length - i ∧ i ≤ s.length ∧ M = L ++ (s.take i).flatMap (fun p => be4 p.crc) ∧ M.length = L.length + 4 * i ∧ WrH H' si li lv s sum id v' M ∧ H.length ≤ H'.length ∧
  e = [(0, .os 22 li lv [] 0 s.length n0), (3, .op si 0 []), (9, .os 1 id v' [] 0 M.length cp'), (92, .os 22 li lv [] 0 s.length n0), (93, i64 (s.length : Int)), (94, i64 (i : Int))]) s.length ?_ ?_
 ·exact ⟨0, v, cp, L, by simp, by omega, by simp, by simp, h, Nat.le_refl _, by simp [forget, get]⟩
 ·rintro m e H1 ⟨i, v', cp', M, rfl, hi, hM, hMl, hW, hHl, rfl⟩
  have hpl := hW.pl
  by_cases c : i < s.length
  ·have hg : s[i]? = some s[i] := List.getElem?_eq_getElem c
   have hsucc := List.take_succ_eq_append_getElem c
   have hpm : s[i] ∈ s := List.getElem_mem c
   generalize s[i] = p at *
   have hc := hsc p hpm
   simp -dsimp (disch := first | assumption | omega | (simp only [Ac]; done) | (simp only [Ac]; omega)) only [↓Ah, Ae, Ai, Ag, eq_self, forall_const, Nat.reduceLT, Nat.reduceEqDiff, Nat.reduceSub, Nat.reduceMul, Nat.reduceMod, Nat.reduceDiv, Nat.reducePow, UInt8.reduceToNat, Int.reduceEq, Int.reduceLT, Int.reduceLE, ↓reduceIte, Nat.reduceAdd, Int.reduceToNat, reduceCtorEq, Nat.reduceLeDiff, ↓Hg, hpl, hg, BB]
   have hW2 := hW.app (T := [Ob.obj 0 (TV.agg [TV.arr 20 1 (List.map by8 p.id), TV.val (Value.int IntKind.i64 p.off), TV.val (Value.int IntKind.u32 ↑p.crc)])])
   refine OY (Ao0 (l := M) (by omega) (by omega) hW2.rw' fun H2 v2 hG => ?_)
   have hml : M.length + 4 = (M ++ be4 p.crc).length := by simp
   have hlen2 := hG.len
   rw [hml] at hG ⊢
   have hW3 := hW2.grew hG
   simp -dsimp (disch := first | assumption | omega | (simp only [Ac]; done) | (simp only [Ac]; omega)) only [↓Ah, Ae, Ai, Ag, eq_self, forall_const, Nat.reduceLT, Nat.reduceEqDiff, Nat.reduceSub, Nat.reduceMul, Nat.reduceMod, Nat.reduceDiv, Nat.reducePow, UInt8.reduceToNat, Int.reduceEq, Int.reduceLT, Int.reduceLE, ↓reduceIte, Nat.reduceAdd, Int.reduceToNat, reduceCtorEq, Nat.reduceLeDiff]
   refine A8 (s.length - (i + 1)) (by omega) (by simp at hlen2; omega) ⟨i + 1, v2, (M ++ be4 p.crc).length, M ++ be4 p.crc, rfl, by omega, ?_, by simp; omega, hW3, by simp at hlen2; omega, by simp [forget, get]⟩
   rw [hsucc, List.flatMap_append, hM, List.append_assoc]
   simp
  ·have hi2 : i = s.length := by omega
   subst hi2
   rw [List.take_length] at hM
   simp -dsimp (disch := first | assumption | omega | (simp only [Ac]; done) | (simp only [Ac]; omega)) only [↓Ah, Ae, Ai, Ag, eq_self, forall_const, Nat.reduceLT, Nat.reduceEqDiff, Nat.reduceSub, Nat.reduceMul, Nat.reduceMod, Nat.reduceDiv, Nat.reducePow, UInt8.reduceToNat, Int.reduceEq, Int.reduceLT, Int.reduceLE, ↓reduceIte, Nat.reduceAdd, Int.reduceToNat, reduceCtorEq, Nat.reduceLeDiff, ↓Hg]
   exact Ah6 hsl hso (L := M) (by omega) hs hW fun X H2 v2 c2 hX h2 => hK X H2 v2 c2 (by rw [hX, hM]) h2
end Go.Proofs.YtmlompedpahkjaaDoor


namespace Go.Proofs.YtmlompedpahkjaaDoor
open Go.RowKit Kit
variable [BA]
set_option linter.unusedSectionVars false
set_option linter.unusedVariables false
set_option linter.unusedSimpArgs false

theorem Abf {l : List UInt8} (hl : l.length = 20) {a b : TV} : Dh [(0, 0)] 1 0 20 (.agg [.arr 20 1 (l.map by8), a, b]) = some (l.map by8) := by
 have e : Jp [(0, 0)] (.agg [.arr 20 1 (l.map by8), a, b]) = some (.arr 20 1 (l.map by8)) := by
  simp [Jp, BD]
 unfold Dh
 rw [e]
 simp only
 rw [if_pos ⟨trivial, by simp [hl]⟩, List.drop_zero, List.take_of_length_le (by simp [hl])]
theorem Als {s : List Pl} (hsl : s.length ≤ 5000) (hso : ∀ p ∈ s, 0 ≤ p.off ∧ p.off < 2147483648) (hsc : ∀ p ∈ s, p.crc < 4294967296) (h20 : ∀ p ∈ s, p.id.length = 20) {L sum : List UInt8} (hL : L.length ≤ 100000) (hs : sum.length = 20) {si li lv id v cp n0 : Nat} {er : Env} {H : List Ob} (h : WrH H si li lv s sum id v L) {K : TV → List Ob → Prop}
  (hK : ∀ X H' v' cp', X = L ++ s.flatMap (fun p => p.id) ++ s.flatMap (fun p => be4 p.crc) ++ s.flatMap (fun p => be4 p.off.toNat) ++ sum → H'[id]? = some (.obj v' (.arr (X ++ sha X).length 1 ((X ++ sha X).map by8))) → K (.tup [.os 1 id v' [] 0 (X ++ sha X).length cp', .val .nilIface]) H') :
  vwp Tryd.prog Ew (NU Bz K) ((0, .os 22 li lv [] 0 s.length n0) :: (3, .op si 0 []) :: (9, .os 1 id v [] 0 L.length cp) :: er) H := by
 simp -dsimp (disch := first | assumption | omega | (simp only [Ac]; done) | (simp only [Ac]; omega)) only [↓Ah, Ae, Ai, Ag, eq_self, forall_const, Nat.reduceLT, Nat.reduceEqDiff, Nat.reduceSub, Nat.reduceMul, Nat.reduceMod, Nat.reduceDiv, Nat.reducePow, UInt8.reduceToNat, Int.reduceEq, Int.reduceLT, Int.reduceLE, ↓reduceIte, Nat.reduceAdd, Int.reduceToNat, reduceCtorEq, Nat.reduceLeDiff, ↓OC]
 refine Dq (fun m e H' => ∃ (i v' cp' : Nat) (M : List UInt8), m = s.length - i ∧ i ≤ s.length ∧ M = L ++ (s.take i).flatMap (fun p => p.id) ∧ M.length = L.length + 20 * i ∧ WrH H' si li lv s sum id v' M ∧ H.length ≤ H'.length ∧
  e = [(0, .os 22 li lv [] 0 s.length n0), (3, .op si 0 []), (9, .os 1 id v' [] 0 M.length cp'), (81, .os 22 li lv [] 0 s.length n0), (82, i64 (s.length : Int)), (83, i64 (i : Int))]) s.length ?_ ?_
 ·exact ⟨0, v, cp, L, by simp, by omega, by simp, by simp, h, Nat.le_refl _, by simp [forget, get]⟩
 ·rintro m e H1 ⟨i, v', cp', M, rfl, hi, hM, hMl, hW, hHl, rfl⟩
  have hpl := hW.pl
  by_cases c : i < s.length
  ·have hg : s[i]? = some s[i] := List.getElem?_eq_getElem c
   have hsucc := List.take_succ_eq_append_getElem c
   have hpm : s[i] ∈ s := List.getElem_mem c
   generalize s[i] = p at *
   have hp20 := h20 p hpm
   have hrw := hW.rw'
   have hid := (List.getElem?_eq_some_iff.1 hrw).1
   have htk : (M.map by8).take M.length = M.map by8 := by rw [List.take_of_length_le]; simp
   have hit : (p.id.map by8).take 20 = p.id.map by8 := by rw [List.take_of_length_le]; simp [hp20]
   simp -dsimp (disch := first | assumption | omega | (simp only [Ac]; done) | (simp only [Ac]; omega)) only [↓Ah, Ae, Ai, Ag, eq_self, forall_const, Nat.reduceLT, Nat.reduceEqDiff, Nat.reduceSub, Nat.reduceMul, Nat.reduceMod, Nat.reduceDiv, Nat.reducePow, UInt8.reduceToNat, Int.reduceEq, Int.reduceLT, Int.reduceLE, ↓reduceIte, Nat.reduceAdd, Int.reduceToNat, reduceCtorEq, Nat.reduceLeDiff, ↓Ht, hpl, hg, BB, hrw, htk, hit, hp20]
   rw [Abf hp20]
   have hmid : M.map by8 ++ p.id.map by8 = (M ++ p.id).map by8 := by simp
   have hml : M.length + 20 = (M ++ p.id).length := by simp [hp20]
   simp -dsimp (disch := first | assumption | omega | (simp only [Ac]; done) | (simp only [Ac]; omega)) only [↓Ah, Ae, Ai, Ag, eq_self, forall_const, Nat.reduceLT, Nat.reduceEqDiff, Nat.reduceSub, Nat.reduceMul, Nat.reduceMod, Nat.reduceDiv, Nat.reducePow, UInt8.reduceToNat, Int.reduceEq, Int.reduceLT, Int.reduceLE, ↓reduceIte, Nat.reduceAdd, Int.reduceToNat, reduceCtorEq, Nat.reduceLeDiff, hrw, htk, hp20]
   rw [hmid, hml]
   have hG : AlR H1 (H1.set id (Ob.obj (v' + 1) (TV.arr (M ++ p.id).length 1 ((M ++ p.id).map by8)))) id (.obj (v' + 1) (.arr (M ++ p.id).length 1 ((M ++ p.id).map by8))) :=
    ⟨List.getElem?_set_self hid, fun j hj hne => List.getElem?_set_ne (Ne.symm hne), by simp⟩
   have hW3 := hW.grew hG
   refine A8 (s.length - (i + 1)) (by omega) (by simp; omega) ⟨i + 1, v' + 1, (M ++ p.id).length, M ++ p.id, rfl, by omega, ?_, by rw [← hml]; omega, hW3.app, by simp; omega, by simp [forget, get]⟩
   rw [hsucc, List.flatMap_append, hM, List.append_assoc]
   simp
  ·have hi2 : i = s.length := by omega
   subst hi2
   rw [List.take_length] at hM
   simp -dsimp (disch := first | assumption | omega | (simp only [Ac]; done) | (simp only [Ac]; omega)) only [↓Ah, Ae, Ai, Ag, eq_self, forall_const, Nat.reduceLT, Nat.reduceEqDiff, Nat.reduceSub, Nat.reduceMul, Nat.reduceMod, Nat.reduceDiv, Nat.reducePow, UInt8.reduceToNat, Int.reduceEq, Int.reduceLT, Int.reduceLE, ↓reduceIte, Nat.reduceAdd, Int.reduceToNat, reduceCtorEq, Nat.reduceLeDiff, ↓Ht]
   exact Aio hsl hso hsc (L := M) (by omega) hs hW fun X H2 v2 c2 hX h2 => hK X H2 v2 c2 (by rw [hX, hM]) h2
/-- What is written ahead of the number f. -/
def Aaa (s : List Pl) : Nat → Nat
 | 0 => 0
 | f + 1 => RI s f
theorem AdR (s : List Pl) (f : Nat) : Aaa s f + Fv s f = RI s f := by
 cases f with
 | zero => rw [Aew, Aaa]; omega
 | succ f => rw [AcT, Aaa]
/-- The 256 sums, and what follows. -/
theorem AjY {s : List Pl} (hsl : s.length ≤ 5000) (hso : ∀ p ∈ s, 0 ≤ p.off ∧ p.off < 2147483648) (hsc : ∀ p ∈ s, p.crc < 4294967296) (h20 : ∀ p ∈ s, p.id.length = 20) {L sum : List UInt8} (hL : L.length ≤ 1000) (hs : sum.length = 20) {si li lv id v cp n0 fi : Nat} {H : List Ob} (h : WrH H si li lv s sum id v L) (hfi : H[fi]? = some (.obj 0 (.arr 256 1 ((List.range 256).map fun f => .val (.int .u32 (Fv s f : Int)))))) {K : TV → List Ob → Prop}
  (hK : ∀ X H' v' cp', X = L ++ AcM s ++ s.flatMap (fun p => p.id) ++ s.flatMap (fun p => be4 p.crc) ++ s.flatMap (fun p => be4 p.off.toNat) ++ sum → H'[id]? = some (.obj v' (.arr (X ++ sha X).length 1 ((X ++ sha X).map by8))) → K (.tup [.os 1 id v' [] 0 (X ++ sha X).length cp', .val .nilIface]) H') :
  vwp Tryd.prog Eh (NU Bz K) [(0, .os 22 li lv [] 0 s.length n0), (3, .op si 0 []), (6, .op fi 0 []), (9, .os 1 id v [] 0 L.length cp)] H := by
 obtain ⟨fan, hfan⟩ : ∃ fan : List TV, fan = (List.range 256).map fun f => .val (.int .u32 (Fv s f : Int)) := ⟨_, rfl⟩
 have hfg : ∀ i, i < 256 → fan[i]? = some (.val (.int .u32 (Fv s i : Int))) := fun i hi => by rw [hfan, List.getElem?_map, List.getElem?_range hi]; rfl
 rw [← hfan] at hfi
 simp -dsimp (disch := first | assumption | omega | (simp only [Ac]; done) | (simp only [Ac]; omega)) only [↓Ah, Ae, Ai, Ag, eq_self, forall_const, Nat.reduceLT, Nat.reduceEqDiff, Nat.reduceSub, Nat.reduceMul, Nat.reduceMod, Nat.reduceDiv, Nat.reducePow, UInt8.reduceToNat, Int.reduceEq, Int.reduceLT, Int.reduceLE, ↓reduceIte, Nat.reduceAdd, Int.reduceToNat, reduceCtorEq, Nat.reduceLeDiff, ↓Oj, ↓O7, ↓PS, hfi]
 clear hfi
 have hadd : ∀ (t : TypeId) (a b : Nat), a + b < 4294967296 → EF t .add (.int .u32 (a : Int)) (.int .u32 (b : Int)) = some (.int .u32 ((a + b : Nat) : Int)) := fun t a b hab => by
  show some (Value.int .u32 (IntKind.u32.wrap ((a : Int) + (b : Int)))) = _
  rw [show (a : Int) + (b : Int) = ((a + b : Nat) : Int) from by omega, Vz hab]
 refine Dq (fun m e H' => ∃ (i v' cp' : Nat) (M : List UInt8), m = 256 - i ∧ i ≤ 256 ∧ M = L ++ (List.range i).flatMap (fun f => be4 (RI s f)) ∧ M.length = L.length + 4 * i ∧ WrH H' si li lv s sum id v' M ∧ H.length ≤ H'.length ∧
  e = [(0, .os 22 li lv [] 0 s.length n0), (3, .op si 0 []), (9, .os 1 id v' [] 0 M.length cp'), (10, .val (.int .u32 (Aaa s i : Int))), (70, .arr 256 1 fan), (71, i64 (i : Int))]) 256 ?_ ?_
 ·exact ⟨0, v, cp, L, by simp, by omega, by simp, by simp, h, Nat.le_refl _, by simp [forget, get, Aaa]⟩
 ·rintro m e H1 ⟨i, v', cp', M, rfl, hi, hM, hMl, hW, hHl, rfl⟩
  by_cases c : i < 256
  ·have hg := hfg i c
   have hsum := AdR s i
   have hle := AaU s i
   have ha := hadd 40 (Aaa s i) (Fv s i) (by omega)
   rw [hsum] at ha
   simp -dsimp (disch := first | assumption | omega | (simp only [Ac]; done) | (simp only [Ac]; omega)) only [↓Ah, Ae, Ai, Ag, eq_self, forall_const, Nat.reduceLT, Nat.reduceEqDiff, Nat.reduceSub, Nat.reduceMul, Nat.reduceMod, Nat.reduceDiv, Nat.reducePow, UInt8.reduceToNat, Int.reduceEq, Int.reduceLT, Int.reduceLE, ↓reduceIte, Nat.reduceAdd, Int.reduceToNat, reduceCtorEq, Nat.reduceLeDiff, ↓G8, hg, ha]
   refine OY (Ao0 (l := M) (n := RI s i) (by omega) (by omega) hW.rw' fun H2 v2 hG => ?_)
   have hml : M.length + 4 = (M ++ be4 (RI s i)).length := by simp
   have hlen2 := hG.len
   rw [hml] at hG ⊢
   have hW3 := hW.grew hG
   simp -dsimp (disch := first | assumption | omega | (simp only [Ac]; done) | (simp only [Ac]; omega)) only [↓Ah, Ae, Ai, Ag, eq_self, forall_const, Nat.reduceLT, Nat.reduceEqDiff, Nat.reduceSub, Nat.reduceMul, Nat.reduceMod, Nat.reduceDiv, Nat.reducePow, UInt8.reduceToNat, Int.reduceEq, Int.reduceLT, Int.reduceLE, ↓reduceIte, Nat.reduceAdd, Int.reduceToNat, reduceCtorEq, Nat.reduceLeDiff]
   refine A8 (256 - (i + 1)) (by omega) (by omega) ⟨i + 1, v2, (M ++ be4 (RI s i)).length, M ++ be4 (RI s i), rfl, by omega, ?_, by simp; omega, hW3, by omega, by simp [forget, get, Aaa]⟩
   rw [List.range_succ, List.flatMap_append, hM, List.append_assoc]
   simp
  ·have hi2 : i = 256 := by omega
   subst hi2
   simp -dsimp (disch := first | assumption | omega | (simp only [Ac]; done) | (simp only [Ac]; omega)) only [↓Ah, Ae, Ai, Ag, eq_self, forall_const, Nat.reduceLT, Nat.reduceEqDiff, Nat.reduceSub, Nat.reduceMul, Nat.reduceMod, Nat.reduceDiv, Nat.reducePow, UInt8.reduceToNat, Int.reduceEq, Int.reduceLT, Int.reduceLE, ↓reduceIte, Nat.reduceAdd, Int.reduceToNat, reduceCtorEq, Nat.reduceLeDiff, ↓G8]
   exact Als hsl hso hsc h20 (L := M) (by omega) hs hW fun X H2 v2 c2 hX h2 => hK X H2 v2 c2 (by rw [hX, hM]; rfl) h2
end Go.Proofs.YtmlompedpahkjaaDoor


namespace Go.Proofs.YtmlompedpahkjaaDoor
open Go.RowKit Kit
variable [BA]
set_option linter.unusedSectionVars false
set_option linter.unusedVariables false
set_option linter.unusedSimpArgs false

theorem AeF : (([255, 116, 79, 99] : List UInt8).map by8) = [.val (.int .u8 ((255 : Nat) : Int)), .val (.int .u8 ((116 : Nat) : Int)), .val (.int .u8 ((79 : Nat) : Int)), .val (.int .u8 ((99 : Nat) : Int))] := Aa rfl
theorem ZC {s : List Pl} {sum X L0 : List UInt8} (hX : X = L0 ++ be4 2 ++ AcM s ++ s.flatMap (fun p => p.id) ++ s.flatMap (fun p => be4 p.crc) ++ s.flatMap (fun p => be4 p.off.toNat) ++ sum) (h0 : L0 = [255, 116, 79, 99]) : X = FT s sum := by
 subst h0
 rw [hX, FT]
theorem AgC {s : List Pl} (hsl : s.length ≤ 5000) (hso : ∀ p ∈ s, 0 ≤ p.off ∧ p.off < 2147483648) (hsc : ∀ p ∈ s, p.crc < 4294967296) (h20 : ∀ p ∈ s, p.id.length = 20) {sum : List UInt8} (hs : sum.length = 20) {si li lv n0 fi : Nat} {er : Env} {H : List Ob}
  (h1 : H[si]? = some (.obj 0 (.arr 20 1 (sum.map by8)))) (h2 : H[li]? = some (.obj lv (.arr s.length 22 (s.map plT)))) (hfi : H[fi]? = some (.obj 0 (.arr 256 1 ((List.range 256).map fun f => .val (.int .u32 (Fv s f : Int)))))) {K : TV → List Ob → Prop}
  (hK : ∀ H' id v' cp', H'[id]? = some (.obj v' (.arr (FT s sum ++ sha (FT s sum)).length 1 ((FT s sum ++ sha (FT s sum)).map by8))) → K (.tup [.os 1 id v' [] 0 (FT s sum ++ sha (FT s sum)).length cp', .val .nilIface]) H') :
  vwp Tryd.prog Ep (NU Bz K) ((0, .os 22 li lv [] 0 s.length n0) :: (3, .op si 0 []) :: (6, .op fi 0 []) :: er) H := by
 have l1 := (List.getElem?_eq_some_iff.1 h1).1
 have l2 := (List.getElem?_eq_some_iff.1 h2).1
 have l3 := (List.getElem?_eq_some_iff.1 hfi).1
 simp -dsimp (disch := first | assumption | omega | (simp only [Ac]; done) | (simp only [Ac]; omega)) only [↓Ah, Ae, Ai, Ag, eq_self, forall_const, Nat.reduceLT, Nat.reduceEqDiff, Nat.reduceSub, Nat.reduceMul, Nat.reduceMod, Nat.reduceDiv, Nat.reducePow, UInt8.reduceToNat, Int.reduceEq, Int.reduceLT, Int.reduceLE, ↓reduceIte, Nat.reduceAdd, Int.reduceToNat, reduceCtorEq, Nat.reduceLeDiff, ↓Oy, U9]
 rw [← AeF]
 have ho : (H ++ [Ob.obj 0 (TV.arr 4 1 (([255, 116, 79, 99] : List UInt8).map by8))])[H.length]? = some (.obj 0 (.arr 4 1 (([255, 116, 79, 99] : List UInt8).map by8))) := by rw [List.getElem?_append_right (Nat.le_refl _)]; simp
 generalize hfm : (List.range 256).map (fun f => TV.val (.int .u32 (Fv s f : Int))) = fan at hfi
 obtain ⟨L0, hL0⟩ : ∃ L0 : List UInt8, L0 = [255, 116, 79, 99] := ⟨_, rfl⟩
 have hl0 : L0.length = 4 := by rw [hL0]; rfl
 rw [← hL0] at ho ⊢
 rw [← hl0] at ho ⊢
 refine OY (Ao0 (l := L0) (n := 2) (by omega) (by omega) ho fun H2 v2 hG => ?_)
 have hlen := hG.len
 have low : ∀ i, i < H.length → H2[i]? = H[i]? := fun i hi => by rw [hG.low i (by simp; omega) (by omega), List.getElem?_append_left hi]
 have hml : L0.length + 4 = (L0 ++ be4 2).length := by simp
 rw [hml] at hG ⊢
 simp -dsimp (disch := first | assumption | omega | (simp only [Ac]; done) | (simp only [Ac]; omega)) only [↓Ah, Ae, Ai, Ag, eq_self, forall_const, Nat.reduceLT, Nat.reduceEqDiff, Nat.reduceSub, Nat.reduceMul, Nat.reduceMod, Nat.reduceDiv, Nat.reducePow, UInt8.reduceToNat, Int.reduceEq, Int.reduceLT, Int.reduceLE, ↓reduceIte, Nat.reduceAdd, Int.reduceToNat, reduceCtorEq, Nat.reduceLeDiff]
 have hf2 : H2[fi]? = some (.obj 0 (.arr 256 1 ((List.range 256).map fun f => .val (.int .u32 (Fv s f : Int))))) := by rw [low fi l3, hfm]; exact hfi
 have hW : WrH H2 si li lv s sum H.length v2 (L0 ++ be4 2) := ⟨⟨by omega, by omega⟩, by rw [low si l1]; exact h1, by rw [low li l2]; exact h2, hG.at'⟩
 clear hfi hfm h1 h2 hG low ho
 have hLL : (L0 ++ be4 2).length ≤ 1000 := by rw [← hml]; omega
 have hKK : ∀ X H' v' cp', X = (L0 ++ be4 2) ++ AcM s ++ s.flatMap (fun p => p.id) ++ s.flatMap (fun p => be4 p.crc) ++ s.flatMap (fun p => be4 p.off.toNat) ++ sum → H'[H.length]? = some (.obj v' (.arr (X ++ sha X).length 1 ((X ++ sha X).map by8))) → K (.tup [.os 1 H.length v' [] 0 (X ++ sha X).length cp', .val .nilIface]) H' := fun X H3 v3 c3 hX h3 => by
  have e5 : X = FT s sum := ZC hX hL0
  rw [e5] at h3 ⊢
  exact hK H3 _ v3 c3 h3
 rw [← List.length_append]
 exact AjY hsl hso hsc h20 hLL hs hW hf2 hKK
end Go.Proofs.YtmlompedpahkjaaDoor


namespace Go.Proofs.YtmlompedpahkjaaDoor
open Go.RowKit Kit
variable [BA]
set_option linter.unusedSectionVars false
set_option linter.unusedVariables false
set_option linter.unusedSimpArgs false

/-- What was counted of some. -/
def Ai2 (t : List Pl) : List TV := (List.range 256).map fun f => .val (.int .u32 (Fv t f : Int))
theorem Alz (t : List Pl) (x : UInt8) : (Ai2 t)[x.toNat]? = some (.val (.int .u32 (Fv t x.toNat : Int))) := by
 have := x.toNat_lt
 unfold Ai2; rw [List.getElem?_map, List.getElem?_range (by omega)]; rfl
theorem Aem (t : List Pl) (p : Pl) (x : UInt8) (h : x = p.id.getD 0 0) : (Ai2 t).set x.toNat (.val (.int .u32 ((Fv t x.toNat + 1 : Nat) : Int))) = Ai2 (t ++ [p]) := by
 apply List.ext_getElem?
 intro j
 rw [List.getElem?_set]
 unfold Ai2
 rw [List.getElem?_map, List.getElem?_map]
 by_cases hj : j < 256
 ·rw [List.getElem?_range hj]
  simp only [Option.map_some, AbN]
  by_cases e : x.toNat = j
  ·subst e; rw [if_pos rfl, if_pos (by simpa using hj), h]; simp
  ·rw [if_neg e, ← h, if_neg e]; simp
 ·rw [List.getElem?_eq_none (by simp; omega)]
  have := x.toNat_lt
  rw [if_neg (by omega)]; rfl
set_option maxRecDepth 100000 in
theorem Afg {s : List Pl} (hsl : s.length ≤ 5000) (hsc : ∀ p ∈ s, p.crc < 4294967296) (h20 : ∀ p ∈ s, p.id.length = 20) (hso : s.Pairwise fun x y => ¬ ltB y.id x.id) {sum : List UInt8} (hs : sum.length = 20) {si li lv n0 : Nat} {er : Env} {H : List Ob}
  (h1 : H[si]? = some (.obj 0 (.arr 20 1 (sum.map by8)))) (h2 : H[li]? = some (.obj lv (.arr s.length 22 (s.map plT)))) {K : TV → List Ob → Prop}
  (hno : ¬ Fit s → ∀ H', K (.tup [.val (.slice none 0 0), .ifc 32 (i64 ((42 : Nat) : Int))]) H')
  (hK : Fit s → ∀ H' id v' cp', H'[id]? = some (.obj v' (.arr (FT s sum ++ sha (FT s sum)).length 1 ((FT s sum ++ sha (FT s sum)).map by8))) → K (.tup [.os 1 id v' [] 0 (FT s sum ++ sha (FT s sum)).length cp', .val .nilIface]) H') :
  vwp Tryd.prog Dv (NU Bz K) ((0, .os 22 li lv [] 0 s.length n0) :: (3, .op si 0 []) :: er) H := by
 simp -dsimp (disch := first | assumption | omega | (simp only [Ac]; done) | (simp only [Ac]; omega)) only [↓Ah, Ae, Ai, Ag, eq_self, forall_const, Nat.reduceLT, Nat.reduceEqDiff, Nat.reduceSub, Nat.reduceMul, Nat.reduceMod, Nat.reduceDiv, Nat.reducePow, UInt8.reduceToNat, Int.reduceEq, Int.reduceLT, Int.reduceLE, ↓reduceIte, Nat.reduceAdd, Int.reduceToNat, reduceCtorEq, Nat.reduceLeDiff, ↓O0, ↓Px, ↓Qh]
 have l1 := (List.getElem?_eq_some_iff.1 h1).1
 have l2 := (List.getElem?_eq_some_iff.1 h2).1
 have z1 : ∀ o : Ob, ∀ k, k < H.length → (H ++ [o])[k]? = H[k]? := fun o k hk => List.getElem?_append_left hk
 have z2 : ∀ o : Ob, (H ++ [o])[H.length]? = some o := fun o => by rw [List.getElem?_append_right (Nat.le_refl _), Nat.sub_self]; rfl
 have z3 : ∀ o : Ob, (H ++ [o]).length = H.length + 1 := fun o => by simp
 obtain ⟨o0, ho0⟩ : ∃ o0 : Ob, o0 = .obj 0 (.arr 256 1 ((List.range 256).map fun f => .val (.int .u32 (Fv (s.take 0) f : Int)))) := ⟨_, rfl⟩
 change vwp _ _ _ _ (H ++ [Ob.obj 0 (.arr 256 1 ((List.range 256).map fun f => .val (.int .u32 (Fv (s.take 0) f : Int))))])
 rw [← ho0]
 refine Dq (fun m e H' => ∃ i : Nat, m = s.length - i ∧ i ≤ s.length ∧ (∀ p ∈ s.take i, 0 ≤ p.off ∧ p.off < 2147483648) ∧ (∀ (j : Nat) x y, j + 1 < i → s[j]? = some x → s[j + 1]? = some y → x.id ≠ y.id) ∧
  (∀ k, k < H.length → H'[k]? = H[k]?) ∧ H.length + 1 ≤ H'.length ∧ H'[H.length]? = some (.obj 0 (.arr 256 1 ((List.range 256).map fun f => .val (.int .u32 (Fv (s.take i) f : Int))))) ∧
  e = [(0, .os 22 li lv [] 0 s.length n0), (3, .op si 0 []), (6, .op H.length 0 []), (28, .os 22 li lv [] 0 s.length n0), (29, i64 (s.length : Int)), (30, i64 (i : Int))]) s.length ?_ ?_
 ·refine ⟨0, by simp, by omega, by simp, fun j x y h => by omega, z1 o0, by simp, by rw [z2, ho0], by simp [forget, get]⟩
 ·rintro m e H1 ⟨i, rfl, hi, hoff, hne, hlow, hlen, hfan, rfl⟩
  have hpl : H1[li]? = some (.obj lv (.arr s.length 22 (s.map plT))) := by rw [hlow li l2]; exact h2
  by_cases c : i < s.length
  ·have hg : s[i]? = some s[i] := List.getElem?_eq_getElem c
   have hsucc := List.take_succ_eq_append_getElem c
   have hpm : s[i] ∈ s := List.getElem_mem c
   generalize s[i] = p at *
   simp -dsimp (disch := first | assumption | omega | (simp only [Ac]; done) | (simp only [Ac]; omega)) only [↓Ah, Ae, Ai, Ag, eq_self, forall_const, Nat.reduceLT, Nat.reduceEqDiff, Nat.reduceSub, Nat.reduceMul, Nat.reduceMod, Nat.reduceDiv, Nat.reducePow, UInt8.reduceToNat, Int.reduceEq, Int.reduceLT, Int.reduceLE, ↓reduceIte, Nat.reduceAdd, Int.reduceToNat, reduceCtorEq, Nat.reduceLeDiff, ↓Hw, ↓Hf, ↓Qg, hpl, hg, BB]
   have hbad : (∃ q ∈ s, ¬ (0 ≤ q.off ∧ q.off < 2147483648)) → ¬ Fit s := fun ⟨q, hq, hn⟩ hf => hn (hf.off q hq)
   by_cases b1 : p.off < 0
   ·simp -dsimp (disch := first | assumption | omega | (simp only [Ac]; done) | (simp only [Ac]; omega)) only [↓Ah, Ae, Ai, Ag, eq_self, forall_const, Nat.reduceLT, Nat.reduceEqDiff, Nat.reduceSub, Nat.reduceMul, Nat.reduceMod, Nat.reduceDiv, Nat.reducePow, UInt8.reduceToNat, Int.reduceEq, Int.reduceLT, Int.reduceLE, ↓reduceIte, Nat.reduceAdd, Int.reduceToNat, reduceCtorEq, Nat.reduceLeDiff, ↓BX, ↓DT, hpl, hg, BB, b1]
    exact hno (hbad ⟨p, hpm, by omega⟩) _
   by_cases b2 : p.off ≥ 2147483648
   ·simp -dsimp (disch := first | assumption | omega | (simp only [Ac]; done) | (simp only [Ac]; omega)) only [↓Ah, Ae, Ai, Ag, eq_self, forall_const, Nat.reduceLT, Nat.reduceEqDiff, Nat.reduceSub, Nat.reduceMul, Nat.reduceMod, Nat.reduceDiv, Nat.reducePow, UInt8.reduceToNat, Int.reduceEq, Int.reduceLT, Int.reduceLE, ↓reduceIte, Nat.reduceAdd, Int.reduceToNat, reduceCtorEq, Nat.reduceLeDiff, ↓BX, ↓DT, hpl, hg, BB, b1, b2]
    exact hno (hbad ⟨p, hpm, by omega⟩) _
   obtain ⟨p0, hp0⟩ : ∃ p0, p0 = p.id.getD 0 0 := ⟨_, rfl⟩
   have hp0g : p.id[0]? = some p0 := by
    have := h20 p hpm
    rw [hp0, List.getD_eq_getElem?_getD, List.getElem?_eq_getElem (by omega)]; rfl
   have hp256 := p0.toNat_lt
   have hft := Alz (s.take i) p0
   have hfs := Aem (s.take i) p p0 hp0
   have hcl := AfJ (s.take i) p0.toNat
   have htl : (s.take i).length ≤ s.length := by simp; omega
   have hadd : ∀ (t : TypeId), EF t .add (.int .u32 (Fv (s.take i) p0.toNat : Int)) (.int .u32 ((1 : Nat) : Int)) = some (.int .u32 ((Fv (s.take i) p0.toNat + 1 : Nat) : Int)) := fun t => by
    show some (Value.int .u32 (IntKind.u32.wrap ((Fv (s.take i) p0.toNat : Int) + ((1 : Nat) : Int)))) = _
    rw [show (Fv (s.take i) p0.toNat : Int) + ((1 : Nat) : Int) = ((Fv (s.take i) p0.toNat + 1 : Nat) : Int) from by omega, Vz (by omega)]
   change H1[H.length]? = some (.obj 0 (.arr 256 1 (Ai2 (s.take i)))) at hfan
   rw [← hsucc] at hfs
   generalize Fv (s.take i) p0.toNat = cc at *
   generalize Ai2 (s.take i) = fan at *
   have hoff' : ∀ q ∈ s.take (i + 1), 0 ≤ q.off ∧ q.off < 2147483648 := fun q hq => by
    rw [hsucc] at hq
    rcases List.mem_append.1 hq with hq | hq
    ·exact hoff q hq
    ·rw [List.mem_singleton.1 hq]; omega
   have hlow' : ∀ (o : Ob) (T : List Ob) k, k < H.length → (H1.set H.length o ++ T)[k]? = H[k]? := fun o T k hk => by
    rw [List.getElem?_append_left (by simp; omega), List.getElem?_set_ne (by omega)]; exact hlow k hk
   have hat' : ∀ (T : List Ob), (H1.set H.length (.obj 0 (.arr 256 1 (fan.set p0.toNat (.val (.int .u32 ((cc + 1 : Nat) : Int)))))) ++ T)[H.length]? = some (.obj 0 (.arr 256 1 (Ai2 (s.take (i + 1))))) := fun T => by
    rw [List.getElem?_append_left (by simp; omega), List.getElem?_set_self (by omega), hfs]
   by_cases b3 : i = 0
   ·subst b3
    simp -dsimp (disch := first | assumption | omega | (simp only [Ac]; done) | (simp only [Ac]; omega)) only [↓Ah, Ae, Ai, Ag, eq_self, forall_const, Nat.reduceLT, Nat.reduceEqDiff, Nat.reduceSub, Nat.reduceMul, Nat.reduceMod, Nat.reduceDiv, Nat.reducePow, UInt8.reduceToNat, Int.reduceEq, Int.reduceLT, Int.reduceLE, ↓reduceIte, Nat.reduceAdd, Int.reduceToNat, reduceCtorEq, Nat.reduceLeDiff, ↓BX, hpl, hg, BB, b1, b2, hp0g, hfan, hp256, hft, hadd]
    exact A8 (s.length - 1) (by omega) (by simp; omega) ⟨1, rfl, by omega, hoff', fun j x y h => by omega, hlow' _ _, by simp; omega, hat' _, by simp [forget, get]⟩
   ·obtain ⟨q, hq⟩ : ∃ q, s[i - 1]? = some q := ⟨_, List.getElem?_eq_getElem (by omega)⟩
    by_cases b4 : q.id = p.id
    ·have hb4 : (q.id == p.id) = true := by simp [b4]
     simp -dsimp (disch := first | assumption | omega | (simp only [Ac]; done) | (simp only [Ac]; omega)) only [↓Ah, Ae, Ai, Ag, eq_self, forall_const, Nat.reduceLT, Nat.reduceEqDiff, Nat.reduceSub, Nat.reduceMul, Nat.reduceMod, Nat.reduceDiv, Nat.reducePow, UInt8.reduceToNat, Int.reduceEq, Int.reduceLT, Int.reduceLE, ↓reduceIte, Nat.reduceAdd, Int.reduceToNat, reduceCtorEq, Nat.reduceLeDiff, ↓BX, ↓DT, hpl, hg, BB, b1, b2, hq, hb4]
     refine hno (fun hf => ?_) _
     have hnd := hf.ids
     have e1 : (s.map (·.id))[i - 1]? = some q.id := by rw [List.getElem?_map, hq]; rfl
     have e2 : (s.map (·.id))[i]? = some q.id := by rw [List.getElem?_map, hg, b4]; rfl
     obtain ⟨w1, w2⟩ := List.getElem?_eq_some_iff.1 e1
     obtain ⟨w3, w4⟩ := List.getElem?_eq_some_iff.1 e2
     have := (List.getElem_inj hnd (h₀ := w1) (h₁ := w3)).1 (w2.trans w4.symm)
     omega
    ·have hb4 : (q.id == p.id) = false := by simp [b4]
     simp -dsimp (disch := first | assumption | omega | (simp only [Ac]; done) | (simp only [Ac]; omega)) only [↓Ah, Ae, Ai, Ag, eq_self, forall_const, Nat.reduceLT, Nat.reduceEqDiff, Nat.reduceSub, Nat.reduceMul, Nat.reduceMod, Nat.reduceDiv, Nat.reducePow, UInt8.reduceToNat, Int.reduceEq, Int.reduceLT, Int.reduceLE, ↓reduceIte, Nat.reduceAdd, Int.reduceToNat, reduceCtorEq, Nat.reduceLeDiff, ↓BX, hpl, hg, BB, b1, b2, hp0g, hfan, hp256, hft, hadd, hq, hb4]
     refine A8 (s.length - (i + 1)) (by omega) (by simp; omega) ⟨i + 1, rfl, by omega, hoff', fun j x y h hx hy => ?_, hlow' _ _, by simp; omega, hat' _, by simp [forget, get]⟩
     by_cases hj : j + 1 < i
     ·exact hne j x y hj hx hy
     ·have hj2 : j = i - 1 := by omega
      subst hj2
      rw [hq] at hx; cases hx
      rw [show i - 1 + 1 = i by omega, hg] at hy; cases hy
      exact b4
  ·have hi2 : i = s.length := by omega
   subst hi2
   rw [List.take_length] at hoff hfan
   have hf : Fit s := ⟨hoff, Apk hso fun j x y hx hy => hne j x y (List.getElem?_eq_some_iff.1 hy).1 hx hy⟩
   simp -dsimp (disch := first | assumption | omega | (simp only [Ac]; done) | (simp only [Ac]; omega)) only [↓Ah, Ae, Ai, Ag, eq_self, forall_const, Nat.reduceLT, Nat.reduceEqDiff, Nat.reduceSub, Nat.reduceMul, Nat.reduceMod, Nat.reduceDiv, Nat.reducePow, UInt8.reduceToNat, Int.reduceEq, Int.reduceLT, Int.reduceLE, ↓reduceIte, Nat.reduceAdd, Int.reduceToNat, reduceCtorEq, Nat.reduceLeDiff, ↓Hw, ↓Hf]
   exact AgC hsl hoff hsc h20 hs (by rw [hlow si l1]; exact h1) hpl hfan fun H' id v' cp' h => hK hf H' id v' cp' h
end Go.Proofs.YtmlompedpahkjaaDoor


namespace Go.Proofs.YtmlompedpahkjaaDoor
open Go.RowKit
variable [BA]
set_option linter.unusedSectionVars false
set_option linter.unusedVariables false
set_option linter.unusedSimpArgs false

theorem AjH {t : TypeId} {a b : List UInt8} : EF t .lss (.string (str a)) (.string (str b)) = some (.bool (decide (ltB a b))) := by
 unfold EF
 rw [binOp_string_lss]
 simp only [Lib.toList_data, str, AjW]
 rfl
theorem U4 {α : Type} {z a : α} : (List.replicate 1 z).set 0 a = [a] := by simp [List.replicate]
theorem AdU {α : Type} {l : List α} {i : Nat} {x : α} (h : l[i]? = some x) : i < l.length := (List.getElem?_eq_some_iff.1 h).1
theorem Acj {N at' : Nat} {cs : List TV} {y : List UInt8} {a b : TV} (hg : cs[at']? = some (.agg [.arr 20 1 (y.map by8), a, b])) (h20 : y.length = 20) : Dh [(at', at' * 22), (0, 0)] 1 0 20 (.arr N 22 cs) = some (y.map by8) := by
 unfold Dh
 rw [Abl]
 simp [hg, h20, Jp, BD]
 exact List.take_of_length_le (by simp [h20])
theorem Us {l out : List Pl} {i at' k v cp : Nat} {x : Pl} {H : List Ob} {Q : VEx → Env → List Ob → Prop} (hg : l[i]? = some x) (hol : out.length ≤ 10000) (hil : i ≤ 10000) (hat : at' ≤ out.length) (hk : H[k]? = some (.obj v (.arr out.length 22 (out.map plT)))) (hcp : out.length ≤ cp)
  (hQ : ∀ k' v' H', H'[k']? = some (.obj v' (.arr (out.take at' ++ [x] ++ out.drop at').length 22 ((out.take at' ++ [x] ++ out.drop at').map plT))) → H.length ≤ H'.length → Q .nor [(0, .sl 22 (l.map plT)), (3, .os 22 k' v' [] 0 (out.take at' ++ [x] ++ out.drop at').length (out.take at' ++ [x] ++ out.drop at').length), (4, i64 (i : Int))] H') :
  vwp Tryd.prog GZ Q [(0, .sl 22 (l.map plT)), (3, .os 22 k v [] 0 out.length cp), (4, i64 (i : Int)), (5, i64 (at' : Int))] H := by
 have hkl := AdU hk
 have htl : ((out.map plT).take at').length = at' := by simp [hat]
 have hdl : ((out.map plT).drop at').length = out.length - at' := by simp
 have hxt := BB x
 have hq1 : List.take at' (List.take at' out) = List.take at' out := by rw [List.take_take, Nat.min_self]
 have hq2 : (List.take at' out).length = at' := by simp [hat]
 have hq3 : ∀ y : TV, List.take (at' + 1) ((List.take at' out).map plT ++ [y]) = (List.take at' out).map plT ++ [y] := fun y => List.take_of_length_le (by simp [hat])
 have hq4 : (out.drop at').length = out.length - at' := by simp
 simp -dsimp (disch := first | assumption | omega | (simp only [Ac]; done) | (simp only [Ac]; omega)) only [↓Ah, Ae, Ai, Ag, eq_self, forall_const, Nat.reduceLT, Nat.reduceEqDiff, Nat.reduceSub, Nat.reduceMul, Nat.reduceMod, Nat.reduceDiv, Nat.reducePow, UInt8.reduceToNat, Int.reduceEq, Int.reduceLT, Int.reduceLE, ↓reduceIte, Nat.reduceAdd, Int.reduceToNat, reduceCtorEq, Nat.reduceLeDiff, ↓Td, ↓Tq, ↓Tj, hg, hk, htl, hdl, hxt, U4, hq1, hq2, hq3, hq4]
 have hlen' : (out.take at' ++ [x] ++ out.drop at').length = at' + 1 + (out.length - at') := by
  rw [List.length_append, List.length_append, hq2, hq4, List.length_singleton]
 rw [← hxt]
 have := hQ H.length 3 (H ++ [Ob.obj 3 (.arr (at' + 1 + (out.length - at')) 22 (List.map plT (List.take at' out) ++ [plT x] ++ List.map plT (List.drop at' out)))] ++ [Ob.obj 0 (TV.arr 1 22 [plT x])])
  (by rw [List.append_assoc, Aja rfl, hlen']; simp) (by simp)
 rw [hlen'] at this
 exact this
theorem Aej (l : List Pl) (hlen : l.length ≤ 5000) (h20 : ∀ x ∈ l, x.id.length = 20) (hn : (l.map (·.id)).Nodup) : D5 Tryd.prog 37 [.sl 22 (l.map plT)] (fun r => ∃ s, r = .sl 22 (s.map plT) ∧ SP s ∧ s.Perm l) := by
 refine Ap.toPureV (Wy (by simp) ?_)
 simp -dsimp (disch := first | assumption | omega | (simp only [Ac]; done) | (simp only [Ac]; omega)) only [↓Ah, Ae, Ai, Ag, eq_self, forall_const, Nat.reduceLT, Nat.reduceEqDiff, Nat.reduceSub, Nat.reduceMul, Nat.reduceMod, Nat.reduceDiv, Nat.reducePow, UInt8.reduceToNat, Int.reduceEq, Int.reduceLT, Int.reduceLE, ↓reduceIte, Nat.reduceAdd, Int.reduceToNat, reduceCtorEq, Nat.reduceLeDiff, ↓VP, ↓QV, ↓QW, ↓Tm]
 refine Dq (fun q e H => ∃ (i k v cp : Nat) (out : List Pl), q = l.length - i ∧ i ≤ l.length ∧ SP out ∧ out.Perm (l.take i) ∧ e = [(0, .sl 22 (l.map plT)), (3, .os 22 k v [] 0 out.length cp), (4, i64 (i : Int))] ∧ (H[k]? = some (.obj v (.arr out.length 22 (out.map plT))) ∧ out.length ≤ cp)) l.length ?_ ?_
 ·exact ⟨0, 0, 0, 0, [], by simp, by simp, List.Pairwise.nil, by simp, by simp [forget, get], rfl, by simp⟩
 ·rintro q e H ⟨i, k, v, cp, out, rfl, hi, hsd, hmem, rfl, hk, hcp⟩
  have hkl := AdU hk
  have hol : out.length = i := by rw [hmem.length_eq]; simp [hi]
  by_cases h : i < l.length
  ·have hg : l[i]? = some l[i] := List.getElem?_eq_getElem h
   have hsucc := List.take_succ_eq_append_getElem h
   have hnot : l[i].id ∉ out.map (·.id) := fun hm => by
    rw [(hmem.map _).mem_iff] at hm
    have h2 : ((l.take (i + 1)).map (·.id)).Nodup := hn.sublist ((List.take_sublist _ _).map _)
    rw [hsucc, List.map_append, List.nodup_append] at h2
    exact h2.2.2 _ hm _ (by simp) rfl
   have hx20 : l[i].id.take 20 = l[i].id := List.take_of_length_le (by rw [h20 _ (List.getElem_mem h)]; omega)
   generalize l[i] = x at *
   simp -dsimp (disch := first | assumption | omega | (simp only [Ac]; done) | (simp only [Ac]; omega)) only [↓Ah, Ae, Ai, Ag, eq_self, forall_const, Nat.reduceLT, Nat.reduceEqDiff, Nat.reduceSub, Nat.reduceMul, Nat.reduceMod, Nat.reduceDiv, Nat.reducePow, UInt8.reduceToNat, Int.reduceEq, Int.reduceLT, Int.reduceLE, ↓reduceIte, Nat.reduceAdd, Int.reduceToNat, reduceCtorEq, Nat.reduceLeDiff, ↓Ko, ↓RQ, ↓RN, hg]
   refine Dq (fun q e H' => ∃ at' : Nat, q = out.length - at' ∧ at' ≤ out.length ∧ (∀ (j : Nat) y, j < at' → out[j]? = some y → ltB y.id x.id) ∧ e = [(0, .sl 22 (l.map plT)), (3, .os 22 k v [] 0 out.length cp), (4, i64 (i : Int)), (5, i64 (at' : Int))] ∧ H' = H) out.length ?_ ?_
   ·exact ⟨0, by simp, by simp, by simp, by simp [forget, get], rfl⟩
   ·rintro q e H' ⟨at', rfl, hat, hlt, rfl, rfl⟩
    by_cases ha : at' < out.length
    ·have hga : out[at']? = some out[at'] := List.getElem?_eq_getElem ha
     generalize out[at'] = y at *
     have hgt : (out.map plT)[at']? = some (plT y) := by rw [List.getElem?_map, hga]; rfl
     rw [BB] at hgt
     have h20y : y.id.length = 20 := h20 y (List.mem_of_mem_take (hmem.mem_iff.1 (List.mem_of_getElem? hga)))
     simp -dsimp (disch := first | assumption | omega | (simp only [Ac]; done) | (simp only [Ac]; omega)) only [↓Ah, Ae, Ai, Ag, eq_self, forall_const, Nat.reduceLT, Nat.reduceEqDiff, Nat.reduceSub, Nat.reduceMul, Nat.reduceMod, Nat.reduceDiv, Nat.reducePow, UInt8.reduceToNat, Int.reduceEq, Int.reduceLT, Int.reduceLE, ↓reduceIte, Nat.reduceAdd, Int.reduceToNat, reduceCtorEq, Nat.reduceLeDiff, ↓EZ, hg, hk, hgt, BB, Acj hgt (h20y), AjH, hx20]
     refine Ae6 (fun hl1 => ?_) (fun hl1 => ?_)
     ·simp -dsimp (disch := first | assumption | omega | (simp only [Ac]; done) | (simp only [Ac]; omega)) only [↓Ah, Ae, Ai, Ag, eq_self, forall_const, Nat.reduceLT, Nat.reduceEqDiff, Nat.reduceSub, Nat.reduceMul, Nat.reduceMod, Nat.reduceDiv, Nat.reducePow, UInt8.reduceToNat, Int.reduceEq, Int.reduceLT, Int.reduceLE, ↓reduceIte, Nat.reduceAdd, Int.reduceToNat, reduceCtorEq, Nat.reduceLeDiff, ↓EZ, hg, hk]
      refine A8 (out.length - (at' + 1)) (by omega) (Nat.le_refl _) ⟨at' + 1, rfl, by omega, fun j z hj hz => ?_, by simp [forget, get], rfl⟩
      rcases Nat.lt_succ_iff_lt_or_eq.1 hj with hj | rfl
      ·exact hlt j z hj hz
      ·rw [hga] at hz; cases hz; exact hl1
     ·simp -dsimp (disch := first | assumption | omega | (simp only [Ac]; done) | (simp only [Ac]; omega)) only [↓Ah, Ae, Ai, Ag, eq_self, forall_const, Nat.reduceLT, Nat.reduceEqDiff, Nat.reduceSub, Nat.reduceMul, Nat.reduceMod, Nat.reduceDiv, Nat.reducePow, UInt8.reduceToNat, Int.reduceEq, Int.reduceLT, Int.reduceLE, ↓reduceIte, Nat.reduceAdd, Int.reduceToNat, reduceCtorEq, Nat.reduceLeDiff]
      refine Us hg (by omega) (by omega) hat hk hcp fun k' v' H2 hk2 hl2 => ?_
      have i1 := hsd.insert hat hlt (fun z hz => by rw [hga] at hz; cases hz; exact hl1) hnot
      have i2 := VJ (k := at') (x := x) hmem
      rw [← hsucc] at i2
      simp only [List.append_assoc, List.singleton_append] at hk2 ⊢
      generalize out.take at' ++ x :: out.drop at' = out' at *
      simp -dsimp (disch := first | assumption | omega | (simp only [Ac]; done) | (simp only [Ac]; omega)) only [↓Ah, Ae, Ai, Ag, eq_self, forall_const, Nat.reduceLT, Nat.reduceEqDiff, Nat.reduceSub, Nat.reduceMul, Nat.reduceMod, Nat.reduceDiv, Nat.reducePow, UInt8.reduceToNat, Int.reduceEq, Int.reduceLT, Int.reduceLE, ↓reduceIte, Nat.reduceAdd, Int.reduceToNat, reduceCtorEq, Nat.reduceLeDiff, ↓J8]
      exact A8 (l.length - (i + 1)) (by omega) (by omega) ⟨i + 1, k', v', _, out', rfl, by omega, i1, i2, by simp [forget, get], hk2, Nat.le_refl _⟩
    ·have hat2 : at' = out.length := by omega
     subst hat2
     simp -dsimp (disch := first | assumption | omega | (simp only [Ac]; done) | (simp only [Ac]; omega)) only [↓Ah, Ae, Ai, Ag, eq_self, forall_const, Nat.reduceLT, Nat.reduceEqDiff, Nat.reduceSub, Nat.reduceMul, Nat.reduceMod, Nat.reduceDiv, Nat.reducePow, UInt8.reduceToNat, Int.reduceEq, Int.reduceLT, Int.reduceLE, ↓reduceIte, Nat.reduceAdd, Int.reduceToNat, reduceCtorEq, Nat.reduceLeDiff, ↓EZ, hg, hk]
     refine Us hg (by omega) (by omega) hat hk hcp fun k' v' H2 hk2 hl2 => ?_
     have i1 := hsd.insert hat hlt (fun z hz => by rw [List.getElem?_eq_none (Nat.le_refl _)] at hz; cases hz) hnot
     have i2 := VJ (k := out.length) (x := x) hmem
     rw [← hsucc] at i2
     simp only [List.append_assoc, List.singleton_append] at hk2 ⊢
     generalize out.take out.length ++ x :: out.drop out.length = out' at *
     simp -dsimp (disch := first | assumption | omega | (simp only [Ac]; done) | (simp only [Ac]; omega)) only [↓Ah, Ae, Ai, Ag, eq_self, forall_const, Nat.reduceLT, Nat.reduceEqDiff, Nat.reduceSub, Nat.reduceMul, Nat.reduceMod, Nat.reduceDiv, Nat.reducePow, UInt8.reduceToNat, Int.reduceEq, Int.reduceLT, Int.reduceLE, ↓reduceIte, Nat.reduceAdd, Int.reduceToNat, reduceCtorEq, Nat.reduceLeDiff, ↓J8]
     exact A8 (l.length - (i + 1)) (by omega) (by omega) ⟨i + 1, k', v', _, out', rfl, by omega, i1, i2, by simp [forget, get], hk2, Nat.le_refl _⟩
  ·have hi2 : i = l.length := by omega
   subst hi2
   rw [List.take_length] at hmem
   simp -dsimp (disch := first | assumption | omega | (simp only [Ac]; done) | (simp only [Ac]; omega)) only [↓Ah, Ae, Ai, Ag, eq_self, forall_const, Nat.reduceLT, Nat.reduceEqDiff, Nat.reduceSub, Nat.reduceMul, Nat.reduceMod, Nat.reduceDiv, Nat.reducePow, UInt8.reduceToNat, Int.reduceEq, Int.reduceLT, Int.reduceLE, ↓reduceIte, Nat.reduceAdd, Int.reduceToNat, reduceCtorEq, Nat.reduceLeDiff, ↓Ko, ↓Rt, ↓Vp, hk]
   exact ⟨out, rfl, hsd, hmem⟩
end Go.Proofs.YtmlompedpahkjaaDoor


namespace Go.Proofs.YtmlompedpahkjaaDoor
open Go.RowKit Kit
variable [BA]
set_option linter.unusedSectionVars false
set_option linter.unusedVariables false
set_option linter.unusedSimpArgs false

/-- What a loop of the document's keeps. -/
structure WrR (H : List Ob) (si : Nat) (sum : List UInt8) (id v : Nat) (L : List UInt8) : Prop where
 ne : si ≠ id
 sm : H[si]? = some (.obj 0 (.arr 20 1 (sum.map by8)))
 rw' : H[id]? = some (.obj v (.arr L.length 1 (L.map by8)))
theorem WrR.grew {H H' : List Ob} {si : Nat} {sum : List UInt8} {id v v' : Nat} {L L' : List UInt8} (h : WrR H si sum id v L) (k : AlR H H' id (.obj v' (.arr L'.length 1 (L'.map by8)))) : WrR H' si sum id v' L' :=
 ⟨h.ne, by rw [k.low si (List.getElem?_eq_some_iff.1 h.sm).1 h.ne]; exact h.sm, k.at'⟩
theorem Af4 {L sum : List UInt8} (hL : L.length ≤ 1000000) (hs : sum.length = 20) {si id v cp : Nat} {s : TV} {er : Env} {H : List Ob} (h : WrR H si sum id v L) {K : TV → List Ob → Prop}
  (hK : ∀ H' v' cp', H'[id]? = some (.obj v' (.arr (L ++ sum ++ sha (L ++ sum)).length 1 ((L ++ sum ++ sha (L ++ sum)).map by8))) → K (.tup [.os 1 id v' [] 0 (L ++ sum ++ sha (L ++ sum)).length cp', i64 ((0 : Nat) : Int)]) H') :
  vwp Tryd.prog EC (NU BN K) ((3, .op si 0 []) :: (8, s) :: (9, .os 1 id v [] 0 L.length cp) :: er) H := by
 obtain ⟨hne, h1, h2⟩ := h
 have hid : id < H.length := (List.getElem?_eq_some_iff.1 h2).1
 have htk : (L.map by8).take L.length = L.map by8 := by rw [List.take_of_length_le]; simp
 have hst : (sum.map by8).take 20 = sum.map by8 := by rw [List.take_of_length_le]; simp [hs]
 simp -dsimp (disch := first | assumption | omega | (simp only [Ac]; done) | (simp only [Ac]; omega)) only [↓Ah, Ae, Ai, Ag, eq_self, forall_const, Nat.reduceLT, Nat.reduceEqDiff, Nat.reduceSub, Nat.reduceMul, Nat.reduceMod, Nat.reduceDiv, Nat.reducePow, UInt8.reduceToNat, Int.reduceEq, Int.reduceLT, Int.reduceLE, ↓reduceIte, Nat.reduceAdd, Int.reduceToNat, reduceCtorEq, Nat.reduceLeDiff, ↓O3, h1, h2, htk, hst, hs]
 have hm : L.map by8 ++ sum.map by8 = (L ++ sum).map by8 := by simp
 have hl2 : L.length + 20 = (L ++ sum).length := by simp [hs]
 rw [hm, hl2]
 have h3 : (H.set id (.obj (v + 1) (.arr (L ++ sum).length 1 ((L ++ sum).map by8))))[id]? = some (.obj (v + 1) (.arr (L ++ sum).length 1 ((L ++ sum).map by8))) := List.getElem?_set_self hid
 have hLs : (L ++ sum).length ≤ 1000100 := by simp [hs]; omega
 generalize H.set id (.obj (v + 1) (.arr (L ++ sum).length 1 ((L ++ sum).map by8))) = H1 at *
 generalize L ++ sum = M at *
 have htm : (M.map by8).take M.length = M.map by8 := by rw [List.take_of_length_le]; simp
 have hid1 : id < H1.length := (List.getElem?_eq_some_iff.1 h3).1
 refine (Ap7 M (by omega)).lends (args' := [slB M]) (by simp -dsimp (disch := first | assumption | omega | (simp only [Ac]; done) | (simp only [Ac]; omega)) only [↓Ah, Ae, Ai, Ag, eq_self, forall_const, Nat.reduceLT, Nat.reduceEqDiff, Nat.reduceSub, Nat.reduceMul, Nat.reduceMod, Nat.reduceDiv, Nat.reducePow, UInt8.reduceToNat, Int.reduceEq, Int.reduceLT, Int.reduceLE, ↓reduceIte, Nat.reduceAdd, Int.reduceToNat, reduceCtorEq, Nat.reduceLeDiff, h3, htm]) fun r hr => ?_
 subst hr
 refine ⟨by rw [W9, SK], ?_⟩
 have hsl := EH M
 generalize sha M = q at *
 have hqt : (q.map by8).take 20 = q.map by8 := by rw [List.take_of_length_le]; simp [hsl]
 have hmq : M.map by8 ++ q.map by8 = (M ++ q).map by8 := by simp
 have hlq : M.length + 20 = (M ++ q).length := by simp [hsl]
 simp -dsimp (disch := first | assumption | omega | (simp only [Ac]; done) | (simp only [Ac]; omega)) only [↓Ah, Ae, Ai, Ag, eq_self, forall_const, Nat.reduceLT, Nat.reduceEqDiff, Nat.reduceSub, Nat.reduceMul, Nat.reduceMod, Nat.reduceDiv, Nat.reducePow, UInt8.reduceToNat, Int.reduceEq, Int.reduceLT, Int.reduceLE, ↓reduceIte, Nat.reduceAdd, Int.reduceToNat, reduceCtorEq, Nat.reduceLeDiff, ↓Dl, h3, htm, hqt, hsl]
 rw [hmq, hlq]
 exact hK _ _ _ (by rw [List.getElem?_append_left (by simpa using hid1), List.getElem?_set_self hid1])
theorem Afk {s : List Pl} (hsl : s.length ≤ 5000) (hso : ∀ p ∈ s, 0 ≤ p.off ∧ p.off < 2147483648) {L sum : List UInt8} (hL : L.length ≤ 500000) (hs : sum.length = 20) {si id v cp : Nat} {er : Env} {H : List Ob} (h : WrR H si sum id v L) {K : TV → List Ob → Prop}
  (hK : ∀ X H' v' cp', X = L ++ s.flatMap (fun p => be4 p.off.toNat) ++ sum → H'[id]? = some (.obj v' (.arr (X ++ sha X).length 1 ((X ++ sha X).map by8))) → K (.tup [.os 1 id v' [] 0 (X ++ sha X).length cp', i64 ((0 : Nat) : Int)]) H') :
  vwp Tryd.prog Em (NU BN K) ((3, .op si 0 []) :: (8, .sl 22 (s.map plT)) :: (9, .os 1 id v [] 0 L.length cp) :: er) H := by
 simp -dsimp (disch := first | assumption | omega | (simp only [Ac]; done) | (simp only [Ac]; omega)) only [↓Ah, Ae, Ai, Ag, eq_self, forall_const, Nat.reduceLT, Nat.reduceEqDiff, Nat.reduceSub, Nat.reduceMul, Nat.reduceMod, Nat.reduceDiv, Nat.reducePow, UInt8.reduceToNat, Int.reduceEq, Int.reduceLT, Int.reduceLE, ↓reduceIte, Nat.reduceAdd, Int.reduceToNat, reduceCtorEq, Nat.reduceLeDiff, ↓OO, ↓OG]
 refine Dq (fun m e H' => ∃ (i v' cp' : Nat) (M : List UInt8), m = s.length - i ∧ i ≤ s.length ∧ M = L ++ (s.take i).flatMap (fun p => be4 p.off.toNat) ∧ M.length = L.length + 4 * i ∧ WrR H' si sum id v' M ∧ H.length ≤ H'.length ∧
  e = [(3, .op si 0 []), (8, .sl 22 (s.map plT)), (9, .os 1 id v' [] 0 M.length cp'), (15, i64 (i : Int))]) s.length ?_ ?_
 ·exact ⟨0, v, cp, L, by simp, by omega, by simp, by simp, h, Nat.le_refl _, by simp [forget, get]⟩
 ·rintro m e H1 ⟨i, v', cp', M, rfl, hi, hM, hMl, hW, hHl, rfl⟩
  by_cases c : i < s.length
  ·have hg : s[i]? = some s[i] := List.getElem?_eq_getElem c
   have hsucc := List.take_succ_eq_append_getElem c
   have hpm : s[i] ∈ s := List.getElem_mem c
   generalize s[i] = p at *
   obtain ⟨ho1, ho2⟩ := hso p hpm
   obtain ⟨o, ho⟩ : ∃ o : Nat, p.off = (o : Int) := ⟨p.off.toNat, by omega⟩
   simp -dsimp (disch := first | assumption | omega | (simp only [Ac]; done) | (simp only [Ac]; omega)) only [↓Ah, Ae, Ai, Ag, eq_self, forall_const, Nat.reduceLT, Nat.reduceEqDiff, Nat.reduceSub, Nat.reduceMul, Nat.reduceMod, Nat.reduceDiv, Nat.reducePow, UInt8.reduceToNat, Int.reduceEq, Int.reduceLT, Int.reduceLE, ↓reduceIte, Nat.reduceAdd, Int.reduceToNat, reduceCtorEq, Nat.reduceLeDiff, ↓GH, hg, BB]
   have hw : IntKind.u32.wrap p.off = (o : Int) := by rw [ho]; exact Vz (by omega)
   rw [hw]
   refine OY (AhV (l := M) (by omega) (by omega) hW.rw' fun H2 v2 hG => ?_)
   have hml : M.length + 4 = (M ++ be4 o).length := by simp
   have hlen2 := hG.len
   rw [hml] at hG ⊢
   have hW3 := hW.grew hG
   simp -dsimp (disch := first | assumption | omega | (simp only [Ac]; done) | (simp only [Ac]; omega)) only [↓Ah, Ae, Ai, Ag, eq_self, forall_const, Nat.reduceLT, Nat.reduceEqDiff, Nat.reduceSub, Nat.reduceMul, Nat.reduceMod, Nat.reduceDiv, Nat.reducePow, UInt8.reduceToNat, Int.reduceEq, Int.reduceLT, Int.reduceLE, ↓reduceIte, Nat.reduceAdd, Int.reduceToNat, reduceCtorEq, Nat.reduceLeDiff]
   refine A8 (s.length - (i + 1)) (by omega) (by omega) ⟨i + 1, v2, (M ++ be4 o).length, M ++ be4 o, rfl, by omega, ?_, by simp; omega, hW3, by omega, by simp [forget, get]⟩
   rw [hsucc, List.flatMap_append, hM, List.append_assoc]
   simp [ho]
  ·have hi2 : i = s.length := by omega
   subst hi2
   rw [List.take_length] at hM
   simp -dsimp (disch := first | assumption | omega | (simp only [Ac]; done) | (simp only [Ac]; omega)) only [↓Ah, Ae, Ai, Ag, eq_self, forall_const, Nat.reduceLT, Nat.reduceEqDiff, Nat.reduceSub, Nat.reduceMul, Nat.reduceMod, Nat.reduceDiv, Nat.reducePow, UInt8.reduceToNat, Int.reduceEq, Int.reduceLT, Int.reduceLE, ↓reduceIte, Nat.reduceAdd, Int.reduceToNat, reduceCtorEq, Nat.reduceLeDiff, ↓GH]
   exact Af4 (L := M) (by omega) hs hW fun H2 v2 c2 h2 => hK (M ++ sum) H2 v2 c2 (by rw [hM]) h2
theorem AdQ {s : List Pl} (hsl : s.length ≤ 5000) (hso : ∀ p ∈ s, 0 ≤ p.off ∧ p.off < 2147483648) {L sum : List UInt8} (hsc : ∀ p ∈ s, p.crc < 4294967296) (hL : L.length ≤ 400000) (hs : sum.length = 20) {si id v cp : Nat} {er : Env} {H : List Ob} (h : WrR H si sum id v L) {K : TV → List Ob → Prop}
  (hK : ∀ X H' v' cp', X = L ++ s.flatMap (fun p => be4 p.crc) ++ s.flatMap (fun p => be4 p.off.toNat) ++ sum → H'[id]? = some (.obj v' (.arr (X ++ sha X).length 1 ((X ++ sha X).map by8))) → K (.tup [.os 1 id v' [] 0 (X ++ sha X).length cp', i64 ((0 : Nat) : Int)]) H') :
  vwp Tryd.prog Ez (NU BN K) ((3, .op si 0 []) :: (8, .sl 22 (s.map plT)) :: (9, .os 1 id v [] 0 L.length cp) :: er) H := by
 simp -dsimp (disch := first | assumption | omega | (simp only [Ac]; done) | (simp only [Ac]; omega)) only [↓Ah, Ae, Ai, Ag, eq_self, forall_const, Nat.reduceLT, Nat.reduceEqDiff, Nat.reduceSub, Nat.reduceMul, Nat.reduceMod, Nat.reduceDiv, Nat.reducePow, UInt8.reduceToNat, Int.reduceEq, Int.reduceLT, Int.reduceLE, ↓reduceIte, Nat.reduceAdd, Int.reduceToNat, reduceCtorEq, Nat.reduceLeDiff, ↓OV, ↓Py]
 refine Dq (fun m e H' => ∃ (i v' cp' : Nat) (M : List UInt8), m = s.length - i ∧ i ≤ s.length ∧ M = L ++ (s.take i).flatMap (fun p => be4 p.crc) ∧ M.length = L.length + 4 * i ∧ WrR H' si sum id v' M ∧ H.length ≤ H'.length ∧
  e = [(3, .op si 0 []), (8, .sl 22 (s.map plT)), (9, .os 1 id v' [] 0 M.length cp'), (14, i64 (i : Int))]) s.length ?_ ?_
 ·exact ⟨0, v, cp, L, by simp, by omega, by simp, by simp, h, Nat.le_refl _, by simp [forget, get]⟩
 ·rintro m e H1 ⟨i, v', cp', M, rfl, hi, hM, hMl, hW, hHl, rfl⟩
  by_cases c : i < s.length
  ·have hg : s[i]? = some s[i] := List.getElem?_eq_getElem c
   have hsucc := List.take_succ_eq_append_getElem c
   have hpm : s[i] ∈ s := List.getElem_mem c
   generalize s[i] = p at *
   have hc := hsc p hpm
   simp -dsimp (disch := first | assumption | omega | (simp only [Ac]; done) | (simp only [Ac]; omega)) only [↓Ah, Ae, Ai, Ag, eq_self, forall_const, Nat.reduceLT, Nat.reduceEqDiff, Nat.reduceSub, Nat.reduceMul, Nat.reduceMod, Nat.reduceDiv, Nat.reducePow, UInt8.reduceToNat, Int.reduceEq, Int.reduceLT, Int.reduceLE, ↓reduceIte, Nat.reduceAdd, Int.reduceToNat, reduceCtorEq, Nat.reduceLeDiff, ↓Gm, hg, BB]
   refine OY (AhV (l := M) (by omega) (by omega) hW.rw' fun H2 v2 hG => ?_)
   have hml : M.length + 4 = (M ++ be4 p.crc).length := by simp
   have hlen2 := hG.len
   rw [hml] at hG ⊢
   have hW3 := hW.grew hG
   simp -dsimp (disch := first | assumption | omega | (simp only [Ac]; done) | (simp only [Ac]; omega)) only [↓Ah, Ae, Ai, Ag, eq_self, forall_const, Nat.reduceLT, Nat.reduceEqDiff, Nat.reduceSub, Nat.reduceMul, Nat.reduceMod, Nat.reduceDiv, Nat.reducePow, UInt8.reduceToNat, Int.reduceEq, Int.reduceLT, Int.reduceLE, ↓reduceIte, Nat.reduceAdd, Int.reduceToNat, reduceCtorEq, Nat.reduceLeDiff]
   refine A8 (s.length - (i + 1)) (by omega) (by omega) ⟨i + 1, v2, (M ++ be4 p.crc).length, M ++ be4 p.crc, rfl, by omega, ?_, by simp; omega, hW3, by omega, by simp [forget, get]⟩
   rw [hsucc, List.flatMap_append, hM, List.append_assoc]
   simp
  ·have hi2 : i = s.length := by omega
   subst hi2
   rw [List.take_length] at hM
   simp -dsimp (disch := first | assumption | omega | (simp only [Ac]; done) | (simp only [Ac]; omega)) only [↓Ah, Ae, Ai, Ag, eq_self, forall_const, Nat.reduceLT, Nat.reduceEqDiff, Nat.reduceSub, Nat.reduceMul, Nat.reduceMod, Nat.reduceDiv, Nat.reducePow, UInt8.reduceToNat, Int.reduceEq, Int.reduceLT, Int.reduceLE, ↓reduceIte, Nat.reduceAdd, Int.reduceToNat, reduceCtorEq, Nat.reduceLeDiff, ↓Gm]
   exact Afk hsl hso (L := M) (by omega) hs hW fun X H2 v2 c2 hX h2 => hK X H2 v2 c2 (by rw [hX, hM]) h2
theorem Ahl {s : List Pl} (hsl : s.length ≤ 5000) (hso : ∀ p ∈ s, 0 ≤ p.off ∧ p.off < 2147483648) (hsc : ∀ p ∈ s, p.crc < 4294967296) (h20 : ∀ p ∈ s, p.id.length = 20) {L sum : List UInt8} (hL : L.length ≤ 100000) (hs : sum.length = 20) {si id v cp : Nat} {er : Env} {H : List Ob} (h : WrR H si sum id v L) {K : TV → List Ob → Prop}
  (hK : ∀ X H' v' cp', X = L ++ s.flatMap (fun p => p.id) ++ s.flatMap (fun p => be4 p.crc) ++ s.flatMap (fun p => be4 p.off.toNat) ++ sum → H'[id]? = some (.obj v' (.arr (X ++ sha X).length 1 ((X ++ sha X).map by8))) → K (.tup [.os 1 id v' [] 0 (X ++ sha X).length cp', i64 ((0 : Nat) : Int)]) H') :
  vwp Tryd.prog Ei (NU BN K) ((3, .op si 0 []) :: (8, .sl 22 (s.map plT)) :: (9, .os 1 id v [] 0 L.length cp) :: er) H := by
 simp -dsimp (disch := first | assumption | omega | (simp only [Ac]; done) | (simp only [Ac]; omega)) only [↓Ah, Ae, Ai, Ag, eq_self, forall_const, Nat.reduceLT, Nat.reduceEqDiff, Nat.reduceSub, Nat.reduceMul, Nat.reduceMod, Nat.reduceDiv, Nat.reducePow, UInt8.reduceToNat, Int.reduceEq, Int.reduceLT, Int.reduceLE, ↓reduceIte, Nat.reduceAdd, Int.reduceToNat, reduceCtorEq, Nat.reduceLeDiff, ↓Pq, ↓O4]
 refine Dq (fun m e H' => ∃ (i v' cp' : Nat) (M : List UInt8), m = s.length - i ∧ i ≤ s.length ∧ M = L ++ (s.take i).flatMap (fun p => p.id) ∧ M.length = L.length + 20 * i ∧ WrR H' si sum id v' M ∧ H.length ≤ H'.length ∧
  e = [(3, .op si 0 []), (8, .sl 22 (s.map plT)), (9, .os 1 id v' [] 0 M.length cp'), (13, i64 (i : Int))]) s.length ?_ ?_
 ·exact ⟨0, v, cp, L, by simp, by omega, by simp, by simp, h, Nat.le_refl _, by simp [forget, get]⟩
 ·rintro m e H1 ⟨i, v', cp', M, rfl, hi, hM, hMl, hW, hHl, rfl⟩
  by_cases c : i < s.length
  ·have hg : s[i]? = some s[i] := List.getElem?_eq_getElem c
   have hsucc := List.take_succ_eq_append_getElem c
   have hpm : s[i] ∈ s := List.getElem_mem c
   generalize s[i] = p at *
   have hp20 := h20 p hpm
   have hrw := hW.rw'
   have hid := (List.getElem?_eq_some_iff.1 hrw).1
   have htk : (M.map by8).take M.length = M.map by8 := by rw [List.take_of_length_le]; simp
   have hit : (p.id.map by8).take 20 = p.id.map by8 := by rw [List.take_of_length_le]; simp [hp20]
   simp -dsimp (disch := first | assumption | omega | (simp only [Ac]; done) | (simp only [Ac]; omega)) only [↓Ah, Ae, Ai, Ag, eq_self, forall_const, Nat.reduceLT, Nat.reduceEqDiff, Nat.reduceSub, Nat.reduceMul, Nat.reduceMod, Nat.reduceDiv, Nat.reducePow, UInt8.reduceToNat, Int.reduceEq, Int.reduceLT, Int.reduceLE, ↓reduceIte, Nat.reduceAdd, Int.reduceToNat, reduceCtorEq, Nat.reduceLeDiff, ↓Gu, hg, BB, hrw, htk, hit, hp20]
   have hmid : M.map by8 ++ p.id.map by8 = (M ++ p.id).map by8 := by simp
   have hml : M.length + 20 = (M ++ p.id).length := by simp [hp20]
   rw [hmid, hml]
   have hG : AlR H1 (H1.set id (Ob.obj (v' + 1) (TV.arr (M ++ p.id).length 1 ((M ++ p.id).map by8)))) id (.obj (v' + 1) (.arr (M ++ p.id).length 1 ((M ++ p.id).map by8))) :=
    ⟨List.getElem?_set_self hid, fun j hj hne => List.getElem?_set_ne (Ne.symm hne), by simp⟩
   have hW3 := hW.grew hG
   refine A8 (s.length - (i + 1)) (by omega) (by simp; omega) ⟨i + 1, v' + 1, (M ++ p.id).length, M ++ p.id, rfl, by omega, ?_, by rw [← hml]; omega, hW3, by simp; omega, by simp [forget, get]⟩
   rw [hsucc, List.flatMap_append, hM, List.append_assoc]
   simp
  ·have hi2 : i = s.length := by omega
   subst hi2
   rw [List.take_length] at hM
   simp -dsimp (disch := first | assumption | omega | (simp only [Ac]; done) | (simp only [Ac]; omega)) only [↓Ah, Ae, Ai, Ag, eq_self, forall_const, Nat.reduceLT, Nat.reduceEqDiff, Nat.reduceSub, Nat.reduceMul, Nat.reduceMod, Nat.reduceDiv, Nat.reducePow, UInt8.reduceToNat, Int.reduceEq, Int.reduceLT, Int.reduceLE, ↓reduceIte, Nat.reduceAdd, Int.reduceToNat, reduceCtorEq, Nat.reduceLeDiff, ↓Gu]
   exact AdQ hsl hso hsc (L := M) (by omega) hs hW fun X H2 v2 c2 hX h2 => hK X H2 v2 c2 (by rw [hX, hM]) h2
end Go.Proofs.YtmlompedpahkjaaDoor


namespace Go.Proofs.YtmlompedpahkjaaDoor
open Go.RowKit Kit
variable [BA]
set_option linter.unusedSectionVars false
set_option linter.unusedVariables false
set_option linter.unusedSimpArgs false

theorem AdE {s : List Pl} {k f : Nat} {p : Pl} (h : s[k]? = some p) : RI (s.take (k + 1)) f = RI (s.take k) f + if (p.id.getD 0 0).toNat ≤ f then 1 else 0 := by
 obtain ⟨hk, rfl⟩ := List.getElem?_eq_some_iff.1 h
 rw [List.take_succ_eq_append_getElem hk, AeZ]
theorem AiM {s : List Pl} (hsl : s.length ≤ 5000) (hso : ∀ p ∈ s, 0 ≤ p.off ∧ p.off < 2147483648) (hsc : ∀ p ∈ s, p.crc < 4294967296) (h20 : ∀ p ∈ s, p.id.length = 20) {L sum : List UInt8} (hL : L.length ≤ 1000) (hs : sum.length = 20) {si id v cp : Nat} {er : Env} {H : List Ob} (h : WrR H si sum id v L) {K : TV → List Ob → Prop}
  (hK : ∀ X H' v' cp', X = L ++ AcM s ++ s.flatMap (fun p => p.id) ++ s.flatMap (fun p => be4 p.crc) ++ s.flatMap (fun p => be4 p.off.toNat) ++ sum → H'[id]? = some (.obj v' (.arr (X ++ sha X).length 1 ((X ++ sha X).map by8))) → K (.tup [.os 1 id v' [] 0 (X ++ sha X).length cp', i64 ((0 : Nat) : Int)]) H') :
  vwp Tryd.prog EE (NU BN K) ((3, .op si 0 []) :: (8, .sl 22 (s.map plT)) :: (9, .os 1 id v [] 0 L.length cp) :: er) H := by
 simp -dsimp (disch := first | assumption | omega | (simp only [Ac]; done) | (simp only [Ac]; omega)) only [↓Ah, Ae, Ai, Ag, eq_self, forall_const, Nat.reduceLT, Nat.reduceEqDiff, Nat.reduceSub, Nat.reduceMul, Nat.reduceMod, Nat.reduceDiv, Nat.reducePow, UInt8.reduceToNat, Int.reduceEq, Int.reduceLT, Int.reduceLE, ↓reduceIte, Nat.reduceAdd, Int.reduceToNat, reduceCtorEq, Nat.reduceLeDiff, ↓PG, ↓O9]
 refine Dq (fun m e H' => ∃ (i v' cp' : Nat) (M : List UInt8), m = 256 - i ∧ i ≤ 256 ∧ M = L ++ (List.range i).flatMap (fun f => be4 (RI s f)) ∧ M.length = L.length + 4 * i ∧ WrR H' si sum id v' M ∧ H.length ≤ H'.length ∧
  e = [(3, .op si 0 []), (8, .sl 22 (s.map plT)), (9, .os 1 id v' [] 0 M.length cp'), (10, i64 (i : Int))]) 256 ?_ ?_
 ·exact ⟨0, v, cp, L, by simp, by omega, by simp, by simp, h, Nat.le_refl _, by simp [forget, get]⟩
 ·rintro m e H1 ⟨i, v', cp', M, rfl, hi, hM, hMl, hW, hHl, rfl⟩
  by_cases c : i < 256
  ·simp -dsimp (disch := first | assumption | omega | (simp only [Ac]; done) | (simp only [Ac]; omega)) only [↓Ah, Ae, Ai, Ag, eq_self, forall_const, Nat.reduceLT, Nat.reduceEqDiff, Nat.reduceSub, Nat.reduceMul, Nat.reduceMod, Nat.reduceDiv, Nat.reducePow, UInt8.reduceToNat, Int.reduceEq, Int.reduceLT, Int.reduceLE, ↓reduceIte, Nat.reduceAdd, Int.reduceToNat, reduceCtorEq, Nat.reduceLeDiff, ↓Gs, ↓Po, ↓OB, ↓OI]
   refine Dq (fun m e H' => ∃ k : Nat, m = s.length - k ∧ k ≤ s.length ∧ H' = H1 ∧
    e = [(3, .op si 0 []), (8, .sl 22 (s.map plT)), (9, .os 1 id v' [] 0 M.length cp'), (10, i64 (i : Int)), (11, i64 (RI (s.take k) i : Int)), (12, i64 (k : Int))]) s.length ?_ ?_
   ·exact ⟨0, by simp, by omega, rfl, by simp [forget, get, RI]⟩
   ·rintro m e H2 ⟨k, rfl, hk, rfl, rfl⟩
    by_cases c2 : k < s.length
    ·have hg : s[k]? = some s[k] := List.getElem?_eq_getElem c2
     have hpm : s[k] ∈ s := List.getElem_mem c2
     have hup := AdE (f := i) hg
     have hul : RI (s.take k) i ≤ k := Nat.le_trans (AaU _ _) (by simp; omega)
     generalize s[k] = p at *
     have hp20 := h20 p hpm
     obtain ⟨p0, hp0⟩ : ∃ p0, p0 = p.id.getD 0 0 := ⟨_, rfl⟩
     have hp0g : p.id[0]? = some p0 := by
      rw [hp0, List.getD_eq_getElem?_getD, List.getElem?_eq_getElem (by omega)]; rfl
     rw [← hp0] at hup
     have hp256 := p0.toNat_lt
     by_cases c3 : p0.toNat ≤ i
     ·rw [if_pos c3] at hup
      simp -dsimp (disch := first | assumption | omega | (simp only [Ac]; done) | (simp only [Ac]; omega)) only [↓Ah, Ae, Ai, Ag, eq_self, forall_const, Nat.reduceLT, Nat.reduceEqDiff, Nat.reduceSub, Nat.reduceMul, Nat.reduceMod, Nat.reduceDiv, Nat.reducePow, UInt8.reduceToNat, Int.reduceEq, Int.reduceLT, Int.reduceLE, ↓reduceIte, Nat.reduceAdd, Int.reduceToNat, reduceCtorEq, Nat.reduceLeDiff, ↓DR, ↓Hr, hg, BB, hp0g, Afw, c3]
      exact A8 (s.length - (k + 1)) (by omega) (by omega) ⟨k + 1, rfl, by omega, rfl, by simp [forget, get, hup]⟩
     ·rw [if_neg c3] at hup
      simp -dsimp (disch := first | assumption | omega | (simp only [Ac]; done) | (simp only [Ac]; omega)) only [↓Ah, Ae, Ai, Ag, eq_self, forall_const, Nat.reduceLT, Nat.reduceEqDiff, Nat.reduceSub, Nat.reduceMul, Nat.reduceMod, Nat.reduceDiv, Nat.reducePow, UInt8.reduceToNat, Int.reduceEq, Int.reduceLT, Int.reduceLE, ↓reduceIte, Nat.reduceAdd, Int.reduceToNat, reduceCtorEq, Nat.reduceLeDiff, ↓DR, ↓Hr, hg, BB, hp0g, Afw, c3]
      exact A8 (s.length - (k + 1)) (by omega) (by omega) ⟨k + 1, rfl, by omega, rfl, by simp [forget, get, hup]⟩
    ·have hi2 : k = s.length := by omega
     subst hi2
     rw [List.take_length]
     have hle := AaU s i
     simp -dsimp (disch := first | assumption | omega | (simp only [Ac]; done) | (simp only [Ac]; omega)) only [↓Ah, Ae, Ai, Ag, eq_self, forall_const, Nat.reduceLT, Nat.reduceEqDiff, Nat.reduceSub, Nat.reduceMul, Nat.reduceMod, Nat.reduceDiv, Nat.reducePow, UInt8.reduceToNat, Int.reduceEq, Int.reduceLT, Int.reduceLE, ↓reduceIte, Nat.reduceAdd, Int.reduceToNat, reduceCtorEq, Nat.reduceLeDiff, ↓DR, ↓O8]
     have hw : IntKind.u32.wrap (RI s i : Int) = (RI s i : Int) := Vz (by omega)
     rw [hw]
     refine OY (AhV (l := M) (n := RI s i) (by omega) (by omega) hW.rw' fun H2 v2 hG => ?_)
     have hml : M.length + 4 = (M ++ be4 (RI s i)).length := by simp
     have hlen2 := hG.len
     rw [hml] at hG ⊢
     have hW3 := hW.grew hG
     simp -dsimp (disch := first | assumption | omega | (simp only [Ac]; done) | (simp only [Ac]; omega)) only [↓Ah, Ae, Ai, Ag, eq_self, forall_const, Nat.reduceLT, Nat.reduceEqDiff, Nat.reduceSub, Nat.reduceMul, Nat.reduceMod, Nat.reduceDiv, Nat.reducePow, UInt8.reduceToNat, Int.reduceEq, Int.reduceLT, Int.reduceLE, ↓reduceIte, Nat.reduceAdd, Int.reduceToNat, reduceCtorEq, Nat.reduceLeDiff, ↓Oq]
     refine A8 (256 - (i + 1)) (by omega) (by omega) ⟨i + 1, v2, (M ++ be4 (RI s i)).length, M ++ be4 (RI s i), rfl, by omega, ?_, by simp; omega, hW3, by omega, by simp [forget, get]⟩
     rw [List.range_succ, List.flatMap_append, hM, List.append_assoc]
     simp
  ·have hi2 : i = 256 := by omega
   subst hi2
   simp -dsimp (disch := first | assumption | omega | (simp only [Ac]; done) | (simp only [Ac]; omega)) only [↓Ah, Ae, Ai, Ag, eq_self, forall_const, Nat.reduceLT, Nat.reduceEqDiff, Nat.reduceSub, Nat.reduceMul, Nat.reduceMod, Nat.reduceDiv, Nat.reducePow, UInt8.reduceToNat, Int.reduceEq, Int.reduceLT, Int.reduceLE, ↓reduceIte, Nat.reduceAdd, Int.reduceToNat, reduceCtorEq, Nat.reduceLeDiff, ↓Gs]
   exact Ahl hsl hso hsc h20 (L := M) (by omega) hs hW fun X H2 v2 c2 hX h2 => hK X H2 v2 c2 (by rw [hX, hM]; rfl) h2
theorem Afc {s : List Pl} (hsl : s.length ≤ 5000) (hso : ∀ p ∈ s, 0 ≤ p.off ∧ p.off < 2147483648) (hsc : ∀ p ∈ s, p.crc < 4294967296) (h20 : ∀ p ∈ s, p.id.length = 20) {sum : List UInt8} (hs : sum.length = 20) {si : Nat} {er : Env} {H : List Ob}
  (h1 : H[si]? = some (.obj 0 (.arr 20 1 (sum.map by8)))) {K : TV → List Ob → Prop}
  (hK : ∀ H' id v' cp', H'[id]? = some (.obj v' (.arr (FT s sum ++ sha (FT s sum)).length 1 ((FT s sum ++ sha (FT s sum)).map by8))) → K (.tup [.os 1 id v' [] 0 (FT s sum ++ sha (FT s sum)).length cp', i64 ((0 : Nat) : Int)]) H') :
  vwp Tryd.prog Es (NU BN K) ((3, .op si 0 []) :: (8, .sl 22 (s.map plT)) :: er) H := by
 have l1 := (List.getElem?_eq_some_iff.1 h1).1
 simp -dsimp (disch := first | assumption | omega | (simp only [Ac]; done) | (simp only [Ac]; omega)) only [↓Ah, Ae, Ai, Ag, eq_self, forall_const, Nat.reduceLT, Nat.reduceEqDiff, Nat.reduceSub, Nat.reduceMul, Nat.reduceMod, Nat.reduceDiv, Nat.reducePow, UInt8.reduceToNat, Int.reduceEq, Int.reduceLT, Int.reduceLE, ↓reduceIte, Nat.reduceAdd, Int.reduceToNat, reduceCtorEq, Nat.reduceLeDiff, ↓Pg, ↓NY, U9]
 rw [← AeF]
 have ho : (H ++ [Ob.obj 0 (TV.arr 4 1 (([255, 116, 79, 99] : List UInt8).map by8))])[H.length]? = some (.obj 0 (.arr 4 1 (([255, 116, 79, 99] : List UInt8).map by8))) := by rw [List.getElem?_append_right (Nat.le_refl _)]; simp
 obtain ⟨L0, hL0⟩ : ∃ L0 : List UInt8, L0 = [255, 116, 79, 99] := ⟨_, rfl⟩
 have hl0 : L0.length = 4 := by rw [hL0]; rfl
 rw [← hL0] at ho ⊢
 rw [← hl0] at ho ⊢
 refine OY (AhV (l := L0) (n := 2) (by omega) (by omega) ho fun H2 v2 hG => ?_)
 have hlen := hG.len
 have low : ∀ i, i < H.length → H2[i]? = H[i]? := fun i hi => by rw [hG.low i (by simp; omega) (by omega), List.getElem?_append_left hi]
 have hml : L0.length + 4 = (L0 ++ be4 2).length := by simp
 rw [hml] at hG ⊢
 simp -dsimp (disch := first | assumption | omega | (simp only [Ac]; done) | (simp only [Ac]; omega)) only [↓Ah, Ae, Ai, Ag, eq_self, forall_const, Nat.reduceLT, Nat.reduceEqDiff, Nat.reduceSub, Nat.reduceMul, Nat.reduceMod, Nat.reduceDiv, Nat.reducePow, UInt8.reduceToNat, Int.reduceEq, Int.reduceLT, Int.reduceLE, ↓reduceIte, Nat.reduceAdd, Int.reduceToNat, reduceCtorEq, Nat.reduceLeDiff]
 have hW : WrR H2 si sum H.length v2 (L0 ++ be4 2) := ⟨by omega, by rw [low si l1]; exact h1, hG.at'⟩
 clear h1 hG low ho
 have hLL : (L0 ++ be4 2).length ≤ 1000 := by rw [← hml]; omega
 have hKK : ∀ X H' v' cp', X = (L0 ++ be4 2) ++ AcM s ++ s.flatMap (fun p => p.id) ++ s.flatMap (fun p => be4 p.crc) ++ s.flatMap (fun p => be4 p.off.toNat) ++ sum → H'[H.length]? = some (.obj v' (.arr (X ++ sha X).length 1 ((X ++ sha X).map by8))) → K (.tup [.os 1 H.length v' [] 0 (X ++ sha X).length cp', i64 ((0 : Nat) : Int)]) H' := fun X H3 v3 c3 hX h3 => by
  have e5 : X = FT s sum := ZC hX hL0
  rw [e5] at h3 ⊢
  exact hK H3 _ v3 c3 h3
 rw [← List.length_append]
 exact AiM hsl hso hsc h20 hLL hs hW hKK
/-- What is answered: by the bytes, or by none. -/
def Aai (f : List UInt8 → TV) (n : TV) (l : List Pl) (sum : List UInt8) (r : TV) : Prop := (∀ b, wrF sha l sum = some b → r = f b) ∧ (wrF sha l sum = none → r = n)
theorem Aai.no {f : List UInt8 → TV} {n : TV} {l : List Pl} {sum : List UInt8} (hf : ¬ Fit l) : Aai f n l sum n := by
 have : wrF sha l sum = none := by unfold wrF; rw [if_neg hf]
 unfold Aai
 rw [this]
 exact ⟨fun b h => (by cases h), fun _ => rfl⟩
theorem Aai.yes {f : List UInt8 → TV} {n : TV} {l s : List Pl} {sum : List UInt8} (hf : Fit l) (h1 : SP s) (h2 : s.Perm l) : Aai f n l sum (f (FT s sum ++ sha (FT s sum))) := by
 have : wrF sha l sum = some (FT s sum ++ sha (FT s sum)) := (Wr.is ⟨fun _ => ⟨s, h1, h2, rfl⟩, fun c => absurd hf c⟩).symm
 unfold Aai
 rw [this]
 exact ⟨fun b h => (by cases h; rfl), fun h => (by cases h)⟩
set_option maxRecDepth 100000 in
theorem Ad0 (l : List Pl) (hl : l.length ≤ 5000) (h20 : ∀ p ∈ l, p.id.length = 20) (hc : ∀ p ∈ l, p.crc < 4294967296) (sum : List UInt8) (hs : sum.length = 20) : J4 Tryd.prog 17 [.sl 22 (l.map plT), .arr 20 1 (sum.map by8)] (Aai (fun b => .tup [slB b, i64 ((0 : Nat) : Int)]) (.tup [.val (.slice none 0 0), i64 ((42 : Nat) : Int)]) l sum) := by
 refine Ap.toFreshV (UM (by simp) ?_)
 simp -dsimp (disch := first | assumption | omega | (simp only [Ac]; done) | (simp only [Ac]; omega)) only [↓Ah, Ae, Ai, Ag, eq_self, forall_const, Nat.reduceLT, Nat.reduceEqDiff, Nat.reduceSub, Nat.reduceMul, Nat.reduceMod, Nat.reduceDiv, Nat.reducePow, UInt8.reduceToNat, Int.reduceEq, Int.reduceLT, Int.reduceLE, ↓reduceIte, Nat.reduceAdd, Int.reduceToNat, reduceCtorEq, Nat.reduceLeDiff, ↓TM, ↓Ov, ↓Ot, ↓PY]
 refine Dq (fun m e H => ∃ i : Nat, m = l.length - i ∧ i ≤ l.length ∧ (∀ p ∈ l.take i, 0 ≤ p.off ∧ p.off < 2147483648) ∧ ((l.take i).map (·.id)).Nodup ∧
  H = [.obj 0 (.arr 20 1 (sum.map by8))] ∧ e = [(0, .sl 22 (l.map plT)), (3, .op 0 0 []), (6, i64 (i : Int))]) l.length ?_ ?_
 ·exact ⟨0, by simp, by omega, by simp, by simp, rfl, by simp [forget, get]⟩
 ·rintro m e H ⟨i, rfl, hi, hoff, hnd, rfl, rfl⟩
  by_cases c : i < l.length
  ·have hg : l[i]? = some l[i] := List.getElem?_eq_getElem c
   have hsucc := List.take_succ_eq_append_getElem c
   have hpm : l[i] ∈ l := List.getElem_mem c
   generalize l[i] = p at *
   have hbad : (∃ q ∈ l, ¬ (0 ≤ q.off ∧ q.off < 2147483648)) → ¬ Fit l := fun ⟨q, hq, hn⟩ hf => hn (hf.off q hq)
   simp -dsimp (disch := first | assumption | omega | (simp only [Ac]; done) | (simp only [Ac]; omega)) only [↓Ah, Ae, Ai, Ag, eq_self, forall_const, Nat.reduceLT, Nat.reduceEqDiff, Nat.reduceSub, Nat.reduceMul, Nat.reduceMod, Nat.reduceDiv, Nat.reducePow, UInt8.reduceToNat, Int.reduceEq, Int.reduceLT, Int.reduceLE, ↓reduceIte, Nat.reduceAdd, Int.reduceToNat, reduceCtorEq, Nat.reduceLeDiff, ↓Hq, ↓Qj, hg, BB]
   by_cases b1 : p.off < 0
   ·simp -dsimp (disch := first | assumption | omega | (simp only [Ac]; done) | (simp only [Ac]; omega)) only [↓Ah, Ae, Ai, Ag, eq_self, forall_const, Nat.reduceLT, Nat.reduceEqDiff, Nat.reduceSub, Nat.reduceMul, Nat.reduceMod, Nat.reduceDiv, Nat.reducePow, UInt8.reduceToNat, Int.reduceEq, Int.reduceLT, Int.reduceLE, ↓reduceIte, Nat.reduceAdd, Int.reduceToNat, reduceCtorEq, Nat.reduceLeDiff, ↓Dl, hg, BB, b1]
    exact Aai.no (hbad ⟨p, hpm, by omega⟩)
   by_cases b2 : p.off ≥ 2147483648
   ·simp -dsimp (disch := first | assumption | omega | (simp only [Ac]; done) | (simp only [Ac]; omega)) only [↓Ah, Ae, Ai, Ag, eq_self, forall_const, Nat.reduceLT, Nat.reduceEqDiff, Nat.reduceSub, Nat.reduceMul, Nat.reduceMod, Nat.reduceDiv, Nat.reducePow, UInt8.reduceToNat, Int.reduceEq, Int.reduceLT, Int.reduceLE, ↓reduceIte, Nat.reduceAdd, Int.reduceToNat, reduceCtorEq, Nat.reduceLeDiff, ↓Dl, hg, BB, b1, b2]
    exact Aai.no (hbad ⟨p, hpm, by omega⟩)
   simp -dsimp (disch := first | assumption | omega | (simp only [Ac]; done) | (simp only [Ac]; omega)) only [↓Ah, Ae, Ai, Ag, eq_self, forall_const, Nat.reduceLT, Nat.reduceEqDiff, Nat.reduceSub, Nat.reduceMul, Nat.reduceMod, Nat.reduceDiv, Nat.reducePow, UInt8.reduceToNat, Int.reduceEq, Int.reduceLT, Int.reduceLE, ↓reduceIte, Nat.reduceAdd, Int.reduceToNat, reduceCtorEq, Nat.reduceLeDiff, ↓Dl, hg, BB, b1, b2, ↓PT, ↓P8]
   refine Dq (fun m e H => ∃ k : Nat, m = i - k ∧ k ≤ i ∧ (∀ q ∈ l.take k, q.id ≠ p.id) ∧
    H = [.obj 0 (.arr 20 1 (sum.map by8))] ∧ e = [(0, .sl 22 (l.map plT)), (3, .op 0 0 []), (6, i64 (i : Int)), (7, i64 (k : Int))]) i ?_ ?_
   ·exact ⟨0, by simp, by omega, by simp, rfl, by simp [forget, get]⟩
   ·rintro m e H ⟨k, rfl, hk, hne, rfl, rfl⟩
    by_cases c2 : k < i
    ·have hgk : l[k]? = some l[k] := List.getElem?_eq_getElem (by omega)
     have hsk := List.take_succ_eq_append_getElem (l := l) (i := k) (by omega)
     generalize l[k] = q at *
     by_cases b4 : q.id = p.id
     ·have hb4 : (q.id == p.id) = true := by simp [b4]
      simp -dsimp (disch := first | assumption | omega | (simp only [Ac]; done) | (simp only [Ac]; omega)) only [↓Ah, Ae, Ai, Ag, eq_self, forall_const, Nat.reduceLT, Nat.reduceEqDiff, Nat.reduceSub, Nat.reduceMul, Nat.reduceMod, Nat.reduceDiv, Nat.reducePow, UInt8.reduceToNat, Int.reduceEq, Int.reduceLT, Int.reduceLE, ↓reduceIte, Nat.reduceAdd, Int.reduceToNat, reduceCtorEq, Nat.reduceLeDiff, ↓D9, ↓Hm, ↓Dl, hg, hgk, BB, hb4]
      refine Aai.no (fun hf => ?_)
      have e1 : (l.map (·.id))[k]? = some q.id := by rw [List.getElem?_map, hgk]; rfl
      have e2 : (l.map (·.id))[i]? = some q.id := by rw [List.getElem?_map, hg, b4]; rfl
      obtain ⟨w1, w2⟩ := List.getElem?_eq_some_iff.1 e1
      obtain ⟨w3, w4⟩ := List.getElem?_eq_some_iff.1 e2
      have := (List.getElem_inj hf.ids (h₀ := w1) (h₁ := w3)).1 (w2.trans w4.symm)
      omega
     ·have hb4 : (q.id == p.id) = false := by simp [b4]
      simp -dsimp (disch := first | assumption | omega | (simp only [Ac]; done) | (simp only [Ac]; omega)) only [↓Ah, Ae, Ai, Ag, eq_self, forall_const, Nat.reduceLT, Nat.reduceEqDiff, Nat.reduceSub, Nat.reduceMul, Nat.reduceMod, Nat.reduceDiv, Nat.reducePow, UInt8.reduceToNat, Int.reduceEq, Int.reduceLT, Int.reduceLE, ↓reduceIte, Nat.reduceAdd, Int.reduceToNat, reduceCtorEq, Nat.reduceLeDiff, ↓D9, ↓Hm, hg, hgk, BB, hb4]
      refine A8 (i - (k + 1)) (by omega) (by simp) ⟨k + 1, rfl, by omega, fun z hz => ?_, rfl, by simp [forget, get]⟩
      rw [hsk] at hz
      rcases List.mem_append.1 hz with hz | hz
      ·exact hne z hz
      ·rw [List.mem_singleton.1 hz]; exact b4
    ·have hk2 : k = i := by omega
     subst hk2
     simp -dsimp (disch := first | assumption | omega | (simp only [Ac]; done) | (simp only [Ac]; omega)) only [↓Ah, Ae, Ai, Ag, eq_self, forall_const, Nat.reduceLT, Nat.reduceEqDiff, Nat.reduceSub, Nat.reduceMul, Nat.reduceMod, Nat.reduceDiv, Nat.reducePow, UInt8.reduceToNat, Int.reduceEq, Int.reduceLT, Int.reduceLE, ↓reduceIte, Nat.reduceAdd, Int.reduceToNat, reduceCtorEq, Nat.reduceLeDiff, ↓D9, ↓P6]
     refine A8 (l.length - (k + 1)) (by omega) (by simp) ⟨k + 1, rfl, by omega, fun z hz => ?_, ?_, rfl, by simp [forget, get]⟩
     ·rw [hsucc] at hz
      rcases List.mem_append.1 hz with hz | hz
      ·exact hoff z hz
      ·rw [List.mem_singleton.1 hz]; omega
     ·rw [hsucc, List.map_append, List.nodup_append]
      refine ⟨hnd, by simp, fun a ha b hb => ?_⟩
      obtain ⟨z, hz, rfl⟩ := List.mem_map.1 ha
      simp at hb; subst hb
      exact hne z hz
  ·have hi2 : i = l.length := by omega
   subst hi2
   rw [List.take_length] at hoff hnd
   have hf : Fit l := ⟨hoff, hnd⟩
   simp -dsimp (disch := first | assumption | omega | (simp only [Ac]; done) | (simp only [Ac]; omega)) only [↓Ah, Ae, Ai, Ag, eq_self, forall_const, Nat.reduceLT, Nat.reduceEqDiff, Nat.reduceSub, Nat.reduceMul, Nat.reduceMod, Nat.reduceDiv, Nat.reducePow, UInt8.reduceToNat, Int.reduceEq, Int.reduceLT, Int.reduceLE, ↓reduceIte, Nat.reduceAdd, Int.reduceToNat, reduceCtorEq, Nat.reduceLeDiff, ↓Hq, ↓Pm]
   refine (Aej l hl h20 hnd).calls rfl ?_
   rintro _ ⟨s, rfl, hsp, hpm⟩
   simp -dsimp (disch := first | assumption | omega | (simp only [Ac]; done) | (simp only [Ac]; omega)) only [↓Ah, Ae, Ai, Ag, eq_self, forall_const, Nat.reduceLT, Nat.reduceEqDiff, Nat.reduceSub, Nat.reduceMul, Nat.reduceMod, Nat.reduceDiv, Nat.reducePow, UInt8.reduceToNat, Int.reduceEq, Int.reduceLT, Int.reduceLE, ↓reduceIte, Nat.reduceAdd, Int.reduceToNat, reduceCtorEq, Nat.reduceLeDiff]
   have hm : ∀ p, p ∈ s → p ∈ l := fun p hp => hpm.mem_iff.1 hp
   refine Afc (s := s) (by rw [hpm.length_eq]; exact hl) (fun p hp => hoff p (hm p hp)) (fun p hp => hc p (hm p hp)) (fun p hp => h20 p (hm p hp)) hs rfl fun H' id v' cp' h => ?_
   have htk : ∀ X : List UInt8, (X.map by8).take X.length = X.map by8 := fun X => by rw [List.take_of_length_le]; simp
   have := Aai.yes (f := fun b => .tup [slB b, i64 ((0 : Nat) : Int)]) (n := .tup [.val (.slice none 0 0), i64 ((42 : Nat) : Int)]) (sum := sum) hf hsp hpm
   generalize FT s sum ++ sha (FT s sum) = X at *
   simp -dsimp (disch := first | assumption | omega | (simp only [Ac]; done) | (simp only [Ac]; omega)) only [↓Ah, Ae, Ai, Ag, eq_self, forall_const, Nat.reduceLT, Nat.reduceEqDiff, Nat.reduceSub, Nat.reduceMul, Nat.reduceMod, Nat.reduceDiv, Nat.reducePow, UInt8.reduceToNat, Int.reduceEq, Int.reduceLT, Int.reduceLE, ↓reduceIte, Nat.reduceAdd, Int.reduceToNat, reduceCtorEq, Nat.reduceLeDiff, h, htk]
   exact this
end Go.Proofs.YtmlompedpahkjaaDoor

