/- DigestSums: for every slice of bytes the program's SHA-1 is the document's. No condition. -/
import Derived.Test.YtknphdcjopaaoaaRows
import Derived.WalkKit
import Derived.ProofKit
import Derived.OpenShut
import Derived.ShutString
import Derived.ChangeOld
import Derived.Below
import Derived.Deep.DeepCutAuto
import Derived.Deep.Light
import Derived.Deep.CutBlock
import Derived.Deep.MidRow
import Derived.Stop.BytesEq
import Derived.Deep.LoopGhost
import Derived.Deep.DeepMust
import Derived.Test.YtknphdcjopaaoaaOpen
import Derived.Test.YtknphdcjopaaoaaHelp
import Derived.Test.YtknphdcjopaaoaaShaTop
import Derived.Test.YtknphdcjopaaoaaShaRef
namespace Go.Proofs.Ytknphdcjopaaoaa.digestSums
open Go.ChangeShapes Go.WideShapes Go.ChangeAt Go.RowKit
open Go.ChangeMaps (open_string shut_string)
set_option linter.unusedVariables false

theorem own : ownKnob Try.prog.godebug = none := by kernel_rfl
theorem laidOut : laidOutB Try.prog = true := by kernel_rfl

def IsRow (k : IntKind) (w : World) (a : Option Addr) (len cap : Nat) (zs : List Int) : Prop :=
  (a = none ∧ len = 0 ∧ cap = 0 ∧ zs = []) ∨
  ∃ x, a = some x ∧ len ≤ cap ∧ cap ≤ maxLen ∧ zs.length = cap ∧ (∀ i, i < zs.length → w.cell? (x.add i) = some (.int k (zs.getD i 0))) ∧ ∀ n ∈ zs, (Lit.int k n).wf = true


abbrev zr20 : Array Value := #[.int .u8 0, .int .u8 0, .int .u8 0, .int .u8 0, .int .u8 0, .int .u8 0, .int .u8 0, .int .u8 0, .int .u8 0, .int .u8 0, .int .u8 0, .int .u8 0, .int .u8 0, .int .u8 0, .int .u8 0, .int .u8 0, .int .u8 0, .int .u8 0, .int .u8 0, .int .u8 0]

set_option maxRecDepth 100000 in
set_option maxHeartbeats 2000000 in
theorem walk (a0 : Option Addr) (len0 cap0 : Nat) (z0 : List Int) (w : World) (w0 : IsRow .u8 w a0 len0 cap0 z0) :
    Calls Try.prog 6 #[.slice a0 len0 cap0] w fun e w' => e = .returned (.bool true) ∧ Below w.heap.size w w' := by
  obtain ⟨l, rfl, hb, hlc, hcm⟩ := bytesOf w0
  clear w0
  by_cases hbig : 300000 < l.length
  · go_enter Try.func6, Try.ntmps6
    go_wp2_with fail
    go_ret
    exact ⟨rfl, Below.refl _ _⟩
  · have hX : (sha l).length = 20 := sha_length l
    have z3 := all_oneCell_toArray (bv_cell1 (sha l))
    have z1 : (Try.prog.info? 34).map (·.size) = some (bv (sha l)).toArray.size := by rw [show (bv (sha l)).toArray.size = 20 from by simp]; kernel_rfl
    have z1' : (Try.prog.info? 33).map (·.size) = some (bv (sha l)).toArray.size := by rw [show (bv (sha l)).toArray.size = 20 from by simp]; kernel_rfl
    have hsz : ∀ w, (sizeOf 5).run Try.prog w = .ok 1 w := fun w => by kernel_rfl
    have heq := fun W => run_eql_bytes (P := Try.prog) W 34 5 20 Try.underlying34 Try.underlying5 hsz (sha l) (sha l) hX hX
    have Z1 := Lib.hid (And.intro z1 z1')
    clear z1 z1' hsz
    generalize hXX : sha l = X at *
    have HX := Lib.hid hXX; clear hXX
    go_enter Try.func6, Try.ntmps6
    go_wp2_with fail
    (with_reducible refine (roomy _ _ _ _ (by omega) hb).mono ?_)
    rintro e w1 ⟨rfl, hg, hk⟩
    have hr : Bs w1 (some ⟨w.heap.size, 0, none⟩) l := Bs.of_block hg (fun j hj => by rw [Nat.zero_add, bv_get? _ _ (by simp; omega)]; simp [List.getD, hj, List.getElem?_append_left hj])
    have hgA : Arr w1 w.heap.size 5 (bv (l ++ [71, 72])) := hg
    clear hg
    have hkw : Keeps w w1 := hk
    go_upto_region 4 with (fail)
    go_cut [4] (fun p wc => ∃ s4, p = .pointer (some ⟨s4, 0, none⟩) ∧ w.heap.size < s4 ∧ Arr wc s4 34 (bv X) ∧ Keeps w1 wc)
    case first =>
      go_wp2_with fail
      (with_reducible refine (shaSum _ _ _ _ hr (by omega)).mono ?_)
      rw [HX.out]
      rintro e w2 ⟨rfl, hk2⟩
      have hA0 : Arr (w2.alloc (.cells zr20 34)) w2.heap.size 34 (z8 20) := Arr.new _ _ _
      have hA1 := hA0.setAll (bvid X hX)
      have z2 : (w2.alloc (.cells zr20 34)).there w2.heap.size 0 (bv X).toArray.size := by rw [show (bv X).toArray.size = 20 from by simp [hX]]; exact hA0.there 20 (by simp [z8])
      have hks := Keeps.setCells (a := w1) (Below.size hk2) (bv X) 0 _ (hk2.alloc (.cells zr20 34))
      go_wp2_with (with_reducible refine wpList_store_mid rfl 34 (.tmp 4) (.tmp 13) rfl w2.heap.size 0 (bv X).toArray rfl rfl z2 Z1.out.1 z3 ?_)
      go_meet
      case rel => exact ⟨w2.heap.size, rfl, Nat.lt_of_lt_of_le hgA.lt (Below.size hk2), hA1, hks⟩
    case rest =>
      obtain ⟨s4, rfl, hs4, hA4, hk2⟩ := hcut
      obtain ⟨w2, rfl⟩ : ∃ w2 : World, w2 = wc := ⟨_, rfl⟩
      have hg2 : w2.heap[w.heap.size]? = some (.cells (bv (l ++ [71, 72])).toArray 5 (0, 0)) := hgA.keep hk2
      go_wp2_with fail
      (with_reducible refine (still _ _ _ _ _ (by omega) hg2 (hb.keep (Keeps.trans hkw hk2))).mono ?_)
      rintro e w3 ⟨rfl, hgr⟩
      have hk3 : Keeps w w3 := Keeps.only (Keeps.trans hkw hk2) hgr (Nat.le_refl _)
      have hA43 : Arr w3 s4 34 (bv X) := hA4.grown hgr (by intro e; cases e; omega)
      clear hA4 hk2 hgA hr hk
      go_upto_region 6 with (fail)
      go_cut [6] (fun p wc => ∃ s6, p = .pointer (some ⟨s6, 0, none⟩) ∧ Arr wc s6 33 (bv X) ∧ Arr wc s4 34 (bv X) ∧ Keeps w wc)
      case first =>
        go_wp2_with fail
        (with_reducible refine (refSum _ _ _ _ (hb.keep hk3) (by omega)).mono ?_)
        rw [HX.out]
        rintro e w4 ⟨rfl, hk4⟩
        have hA0 : Arr (w4.alloc (.cells zr20 33)) w4.heap.size 33 (z8 20) := Arr.new _ _ _
        have hA1 := hA0.setAll (bvid X hX)
        have z2 : (w4.alloc (.cells zr20 33)).there w4.heap.size 0 (bv X).toArray.size := by rw [show (bv X).toArray.size = 20 from by simp [hX]]; exact hA0.there 20 (by simp [z8])
        have hk5 := Keeps.trans hk3 hk4
        have hks := Keeps.setCells (a := w) (Below.size hk5) (bv X) 0 _ (hk5.alloc (.cells zr20 33))
        have hks3 := Keeps.setCells (a := w3) (Below.size hk4) (bv X) 0 _ (hk4.alloc (.cells zr20 33))
        go_wp2_with (with_reducible refine wpList_store_mid rfl 33 (.tmp 6) (.tmp 18) rfl w4.heap.size 0 (bv X).toArray rfl rfl z2 Z1.out.2 z3 ?_)
        go_meet
        case rel => exact ⟨w4.heap.size, rfl, hA1, hA43.keep hks3, hks⟩
      case rest =>
        clear hA43 hk3 hgr hkw
        obtain ⟨s6, rfl, hA6, hA4, hk⟩ := hcut
        unfold Arr at hA6 hA4
        have hXt : (X == X) = true := by simp
        have heq2 : ∀ W : World, (binOp .eql 34 (.agg (bv X).toArray) (.agg (bv X).toArray)).run Try.prog W = .ok (.bool true) W := fun W => by
          have h9 := heq W; rw [hXt] at h9; exact h9
        clear heq
        go_wp2_with (first | (with_reducible refine wpList_load_rowW 34 (.tmp 4) rfl _ rfl 34 (bv X).toArray (0, 0) _ hA4 Try.underlying34 rfl Z1.out.1 rfl ?_) | (with_reducible refine wpList_load_rowW 33 (.tmp 6) rfl _ rfl 33 (bv X).toArray (0, 0) _ hA6 Try.underlying33 rfl Z1.out.2 rfl ?_))
        go_ret
        exact ⟨rfl, hk⟩

set_option maxRecDepth 100000 in
theorem lifted (os : Os) (started : os.Started) (H : Type) (enc : TypeId × Value → H) :
    ReturnsInHanded {} Try.checked os 6 .any (Rows.digestSumsSpec.pre6 enc Try.prog Try.f6 Rows.digestSumsRow.domain false) (Rows.digestSumsSpec.post enc Try.prog Try.f6 false true false false) := by
  refine returnsInHanded_of_change (C := Try.checked) own started (by kernel_rfl) Try.func6
    (ChangeSpec.witness6 (enc := enc) (C := Try.checked) false ⟨#[], #[.slice none 0 0], []⟩ 8 (by kernel_rfl) (by kernel_rfl) (by kernel_rfl) (by kernel_rfl)) ?_
  intro W base args ds gs before hval0 hW hcnd _
  have hval : ∀ (j : Nat) t v, Try.f6.params[j]? = some t → args[j]? = some v → Value.okWide Try.prog W .any base t v := hval0
  have hW' := hW
  obtain ⟨p, q, hA0, hV, rfl, hfz, hnd⟩ := hW
  have hA : DataW.TrodAll enc Try.prog W 0 (fun _ => true) true Try.f6.params.toList args.toList ds p := hA0
  rw [Try.params6] at hA hval
  obtain ⟨v0, vs0, d0, ds0, p0, q0, hargs, rfl, rfl, h0, r0⟩ := trodAll_cons hA
  obtain ⟨rfl, rfl, rfl⟩ := trodAll_nil r0
  obtain rfl : args = #[v0] := by cases args; simp_all
  obtain ⟨rfl, rfl⟩ := trodVars_none hV
  obtain ⟨a0, len0, cap0, rfl⟩ := okWide_slice Try.underlying22 (hval 0 22 v0 rfl rfl)
  have k0 := h0
  have lt0 : ∀ x ∈ p0, x.block < W.heap.size := by obtain ⟨m, hm⟩ := k0; exact DataW.trod_lt m _ _ _ hm
  obtain ⟨z0, w0⟩ : ∃ zs, IsRow .u8 W a0 len0 cap0 zs := by
    obtain ⟨fuel, hf⟩ := h0
    rcases open_ints Try.underlying22 Try.underlying5 (by kernel_rfl) hf with ⟨hcs, _⟩ | ⟨x, l, c, zs, hcs, _, hl, hm, hz, _, hcell, hwz⟩
    · simp [Value.cells] at hcs
      obtain ⟨rfl, rfl, rfl⟩ := hcs
      exact ⟨[], .inl ⟨rfl, rfl, rfl, rfl⟩⟩
    · simp [Value.cells] at hcs
      obtain ⟨rfl, rfl, rfl⟩ := hcs
      exact ⟨zs, .inr ⟨_, rfl, hl, hm, by simpa using hz, hcell, hwz⟩⟩
  clear hA0 hval0
  refine (walk a0 len0 cap0 z0 W w0).mono fun e W' ⟨he, bel⟩ => ?_
  subst he
  exact ⟨_, rfl, _, _, _, [], _, [], hW', trodAll_mk1 (shut_bool Try.underlying4 _), (trodAll_cons_mk (Below.trod laidOut (by kernel_rfl) (of_decide_eq_true (by kernel_rfl)) k0 bel lt0) trodAll_mk0), rfl, bel.frame _, fun h => by cases h⟩

theorem over : Rows.digestSumsRow.holds Try.pinned (OpenSpec.ofChange Rows.digestSumsSpec) :=
  OpenClaim.holds_of_wide 6 Try.f6 rfl rfl rfl rfl rfl rfl rfl ⟨rfl, rfl, rfl, rfl, rfl⟩ rfl rfl rfl rfl rfl (by kernel_rfl) Try.func6 (by kernel_rfl)
    (of_decide_eq_true (by kernel_rfl)) (by unfold Func.isWrapper; first | (rw [if_pos (by decide +kernel)]; kernel_rfl) | (rw [if_neg (by decide +kernel)]; exact ⟨rfl, rfl⟩))
    (fun os started H enc _ => lifted os started H enc)

theorem proved : Rows.DigestSumsSaid := over
#print axioms proved
end Go.Proofs.Ytknphdcjopaaoaa.digestSums
