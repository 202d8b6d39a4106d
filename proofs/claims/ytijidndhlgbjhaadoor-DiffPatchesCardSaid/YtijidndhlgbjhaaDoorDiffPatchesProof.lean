/- DiffPatches: whatever the input, the statement is true. No condition. -/
import Derived.SevenTiedAt
import Derived.Test.YtijidndhlgbjhaaDoorCards
import Derived.Test.YtijidndhlgbjhaaDoorTie
import Derived.Test.YtijidndhlgbjhaaDoorRows
import Derived.Test.YtijidndhlgbjhaaDoorProg
import Derived.WalkKit
import Derived.ProofKit
import Derived.OpenShut
import Derived.ShutString
import Derived.ChangeOld
import Derived.Below
import Derived.SizedLaws
import Derived.ChangeVars
import Derived.LaidLaws
import Derived.LaidHandle
import Derived.Stop.Joined
import Derived.ClosedOfChecked
import Derived.Test.YtijidndhlgbjhaaDoorLaid
import Derived.Test.YtijidndhlgbjhaaDoorFrame
import Derived.Test.YtijidndhlgbjhaaDoorVpLaw
namespace Go.Proofs.YtijidndhlgbjhaaDoor.diffPatches
open Go.ChangeShapes Go.WideShapes Go.ChangeAt Go.RowKit
set_option linter.unusedVariables false

theorem own : ownKnob Tryd.prog.godebug = none := by kernel_rfl
instance gi : Globs := ⟨[(9, gv_math_bits_deBruijn32tab), (10, gv_math_bits_deBruijn64tab), (8, gv_internal_strconv_uint64pow10), (0, gv_gitlike_diff_signs)], by kernel_rfl⟩
instance : K_math_bits_deBruijn32tab := ⟨by kernel_rfl⟩
instance : K_math_bits_deBruijn64tab := ⟨by kernel_rfl⟩
instance : K_internal_strconv_uint64pow10 := ⟨by kernel_rfl⟩
instance : K_gitlike_diff_signs := ⟨by kernel_rfl⟩
def ds_math_bits_deBruijn32tab : List (DataW Unit) := [.lit (.int .u8 0), .lit (.int .u8 1), .lit (.int .u8 28), .lit (.int .u8 2), .lit (.int .u8 29), .lit (.int .u8 14), .lit (.int .u8 24), .lit (.int .u8 3), .lit (.int .u8 30), .lit (.int .u8 22), .lit (.int .u8 20), .lit (.int .u8 15), .lit (.int .u8 25), .lit (.int .u8 17), .lit (.int .u8 4), .lit (.int .u8 8), .lit (.int .u8 31), .lit (.int .u8 27), .lit (.int .u8 13), .lit (.int .u8 23), .lit (.int .u8 21), .lit (.int .u8 19), .lit (.int .u8 16), .lit (.int .u8 7), .lit (.int .u8 26), .lit (.int .u8 12), .lit (.int .u8 18), .lit (.int .u8 6), .lit (.int .u8 11), .lit (.int .u8 5), .lit (.int .u8 10), .lit (.int .u8 9)]
theorem at_math_bits_deBruijn32tab {W : World} (h : laidMet Tryd.prog [("math/bits.deBruijn32tab", Rows.laid_math_bits_deBruijn32tab), ("math/bits.deBruijn64tab", Rows.laid_math_bits_deBruijn64tab), ("internal/strconv.uint64pow10", Rows.laid_internal_strconv_uint64pow10), ("gitlike/diff.signs", Rows.laid_gitlike_diff_signs)] W) : ∃ t fr, W.heap[9]? = some (.cells gv_math_bits_deBruijn32tab.cells.toArray t fr) :=
  arr_laid (t := (Tryd.prog.globals[9]?).elim 0 (·.type)) (e := match Tryd.prog.underlying ((Tryd.prog.globals[9]?).elim 0 (·.type)) with | some (.array _ e) => e | _ => 0) (n := gv_math_bits_deBruijn32tab.cells.length) h (List.mem_of_getElem? (i := 0) (show [("math/bits.deBruijn32tab", Rows.laid_math_bits_deBruijn32tab), ("math/bits.deBruijn64tab", Rows.laid_math_bits_deBruijn64tab), ("internal/strconv.uint64pow10", Rows.laid_internal_strconv_uint64pow10), ("gitlike/diff.signs", Rows.laid_gitlike_diff_signs)][0]? = some ("math/bits.deBruijn32tab", DataW.agg ds_math_bits_deBruijn32tab) by kernel_rfl)) (by kernel_rfl) (by kernel_rfl) (by kernel_rfl) (by kernel_rfl) (by kernel_rfl) (by kernel_rfl) (by kernel_rfl)
def ds_math_bits_deBruijn64tab : List (DataW Unit) := [.lit (.int .u8 0), .lit (.int .u8 1), .lit (.int .u8 56), .lit (.int .u8 2), .lit (.int .u8 57), .lit (.int .u8 49), .lit (.int .u8 28), .lit (.int .u8 3), .lit (.int .u8 61), .lit (.int .u8 58), .lit (.int .u8 42), .lit (.int .u8 50), .lit (.int .u8 38), .lit (.int .u8 29), .lit (.int .u8 17), .lit (.int .u8 4), .lit (.int .u8 62), .lit (.int .u8 47), .lit (.int .u8 59), .lit (.int .u8 36), .lit (.int .u8 45), .lit (.int .u8 43), .lit (.int .u8 51), .lit (.int .u8 22), .lit (.int .u8 53), .lit (.int .u8 39), .lit (.int .u8 33), .lit (.int .u8 30), .lit (.int .u8 24), .lit (.int .u8 18), .lit (.int .u8 12), .lit (.int .u8 5), .lit (.int .u8 63), .lit (.int .u8 55), .lit (.int .u8 48), .lit (.int .u8 27), .lit (.int .u8 60), .lit (.int .u8 41), .lit (.int .u8 37), .lit (.int .u8 16), .lit (.int .u8 46), .lit (.int .u8 35), .lit (.int .u8 44), .lit (.int .u8 21), .lit (.int .u8 52), .lit (.int .u8 32), .lit (.int .u8 23), .lit (.int .u8 11), .lit (.int .u8 54), .lit (.int .u8 26), .lit (.int .u8 40), .lit (.int .u8 15), .lit (.int .u8 34), .lit (.int .u8 20), .lit (.int .u8 31), .lit (.int .u8 10), .lit (.int .u8 25), .lit (.int .u8 14), .lit (.int .u8 19), .lit (.int .u8 9), .lit (.int .u8 13), .lit (.int .u8 8), .lit (.int .u8 7), .lit (.int .u8 6)]
theorem at_math_bits_deBruijn64tab {W : World} (h : laidMet Tryd.prog [("math/bits.deBruijn32tab", Rows.laid_math_bits_deBruijn32tab), ("math/bits.deBruijn64tab", Rows.laid_math_bits_deBruijn64tab), ("internal/strconv.uint64pow10", Rows.laid_internal_strconv_uint64pow10), ("gitlike/diff.signs", Rows.laid_gitlike_diff_signs)] W) : ∃ t fr, W.heap[10]? = some (.cells gv_math_bits_deBruijn64tab.cells.toArray t fr) :=
  arr_laid (t := (Tryd.prog.globals[10]?).elim 0 (·.type)) (e := match Tryd.prog.underlying ((Tryd.prog.globals[10]?).elim 0 (·.type)) with | some (.array _ e) => e | _ => 0) (n := gv_math_bits_deBruijn64tab.cells.length) h (List.mem_of_getElem? (i := 1) (show [("math/bits.deBruijn32tab", Rows.laid_math_bits_deBruijn32tab), ("math/bits.deBruijn64tab", Rows.laid_math_bits_deBruijn64tab), ("internal/strconv.uint64pow10", Rows.laid_internal_strconv_uint64pow10), ("gitlike/diff.signs", Rows.laid_gitlike_diff_signs)][1]? = some ("math/bits.deBruijn64tab", DataW.agg ds_math_bits_deBruijn64tab) by kernel_rfl)) (by kernel_rfl) (by kernel_rfl) (by kernel_rfl) (by kernel_rfl) (by kernel_rfl) (by kernel_rfl) (by kernel_rfl)
def ds_internal_strconv_uint64pow10 : List (DataW Unit) := [.lit (.int .u64 1), .lit (.int .u64 10), .lit (.int .u64 100), .lit (.int .u64 1000), .lit (.int .u64 10000), .lit (.int .u64 100000), .lit (.int .u64 1000000), .lit (.int .u64 10000000), .lit (.int .u64 100000000), .lit (.int .u64 1000000000), .lit (.int .u64 10000000000), .lit (.int .u64 100000000000), .lit (.int .u64 1000000000000), .lit (.int .u64 10000000000000), .lit (.int .u64 100000000000000), .lit (.int .u64 1000000000000000), .lit (.int .u64 10000000000000000), .lit (.int .u64 100000000000000000), .lit (.int .u64 1000000000000000000), .lit (.int .u64 10000000000000000000)]
theorem at_internal_strconv_uint64pow10 {W : World} (h : laidMet Tryd.prog [("math/bits.deBruijn32tab", Rows.laid_math_bits_deBruijn32tab), ("math/bits.deBruijn64tab", Rows.laid_math_bits_deBruijn64tab), ("internal/strconv.uint64pow10", Rows.laid_internal_strconv_uint64pow10), ("gitlike/diff.signs", Rows.laid_gitlike_diff_signs)] W) : ∃ t fr, W.heap[8]? = some (.cells gv_internal_strconv_uint64pow10.cells.toArray t fr) :=
  arr_laid (t := (Tryd.prog.globals[8]?).elim 0 (·.type)) (e := match Tryd.prog.underlying ((Tryd.prog.globals[8]?).elim 0 (·.type)) with | some (.array _ e) => e | _ => 0) (n := gv_internal_strconv_uint64pow10.cells.length) h (List.mem_of_getElem? (i := 2) (show [("math/bits.deBruijn32tab", Rows.laid_math_bits_deBruijn32tab), ("math/bits.deBruijn64tab", Rows.laid_math_bits_deBruijn64tab), ("internal/strconv.uint64pow10", Rows.laid_internal_strconv_uint64pow10), ("gitlike/diff.signs", Rows.laid_gitlike_diff_signs)][2]? = some ("internal/strconv.uint64pow10", DataW.agg ds_internal_strconv_uint64pow10) by kernel_rfl)) (by kernel_rfl) (by kernel_rfl) (by kernel_rfl) (by kernel_rfl) (by kernel_rfl) (by kernel_rfl) (by kernel_rfl)
def ds_gitlike_diff_signs : List (DataW Unit) := [.lit (.string [32]), .lit (.string [45]), .lit (.string [43])]
theorem at_gitlike_diff_signs {W : World} (h : laidMet Tryd.prog [("math/bits.deBruijn32tab", Rows.laid_math_bits_deBruijn32tab), ("math/bits.deBruijn64tab", Rows.laid_math_bits_deBruijn64tab), ("internal/strconv.uint64pow10", Rows.laid_internal_strconv_uint64pow10), ("gitlike/diff.signs", Rows.laid_gitlike_diff_signs)] W) : ∃ t fr, W.heap[0]? = some (.cells gv_gitlike_diff_signs.cells.toArray t fr) :=
  arr_laid (t := (Tryd.prog.globals[0]?).elim 0 (·.type)) (e := match Tryd.prog.underlying ((Tryd.prog.globals[0]?).elim 0 (·.type)) with | some (.array _ e) => e | _ => 0) (n := gv_gitlike_diff_signs.cells.length) h (List.mem_of_getElem? (i := 3) (show [("math/bits.deBruijn32tab", Rows.laid_math_bits_deBruijn32tab), ("math/bits.deBruijn64tab", Rows.laid_math_bits_deBruijn64tab), ("internal/strconv.uint64pow10", Rows.laid_internal_strconv_uint64pow10), ("gitlike/diff.signs", Rows.laid_gitlike_diff_signs)][3]? = some ("gitlike/diff.signs", DataW.agg ds_gitlike_diff_signs) by kernel_rfl)) (by kernel_rfl) (by kernel_rfl) (by kernel_rfl) (by kernel_rfl) (by kernel_rfl) (by kernel_rfl) (by kernel_rfl)
theorem glob_of_laid {W : World} (h : laidMetH Tryd.prog Rows.diffPatchesRow.laid W) : GlobOk (fun b => b < W.heap.size) W := by
  intro g x hx
  have hm := globOf_mem hx
  have h' : laidMet Tryd.prog [("math/bits.deBruijn32tab", Rows.laid_math_bits_deBruijn32tab), ("math/bits.deBruijn64tab", Rows.laid_math_bits_deBruijn64tab), ("internal/strconv.uint64pow10", Rows.laid_internal_strconv_uint64pow10), ("gitlike/diff.signs", Rows.laid_gitlike_diff_signs)] W := h
  have hm' : (g, x) ∈ ([(9, gv_math_bits_deBruijn32tab), (10, gv_math_bits_deBruijn64tab), (8, gv_internal_strconv_uint64pow10), (0, gv_gitlike_diff_signs)] : List (Nat × GV)) := hm
  simp only [List.mem_cons, List.mem_nil_iff, or_false, Prod.mk.injEq] at hm'
  have key : ∃ t fr, W.heap[g]? = some (.cells x.cells.toArray t fr) := by
    rcases hm' with ⟨rfl, rfl⟩ | ⟨rfl, rfl⟩ | ⟨rfl, rfl⟩ | ⟨rfl, rfl⟩
    · exact at_math_bits_deBruijn32tab h'
    · exact at_math_bits_deBruijn64tab h'
    · exact at_internal_strconv_uint64pow10 h'
    · exact at_gitlike_diff_signs h'
  obtain ⟨t, fr, hk⟩ := key
  exact ⟨(Array.getElem?_eq_some_iff.1 hk).1, t, fr, hk⟩
noncomputable def laidWorld (os : Os) : World :=
  let w0 := World.holding Tryd.prog os ⟨#[], #[.slice none 0 0, .slice none 0 0, .int .i64 0], []⟩
  let w1 := { w0 with heap := w0.heap.modify 9 fun
      | .cells _ t frozen => .cells gv_math_bits_deBruijn32tab.cells.toArray t frozen
      | o => o }
  let w2 := { w1 with heap := w1.heap.modify 10 fun
      | .cells _ t frozen => .cells gv_math_bits_deBruijn64tab.cells.toArray t frozen
      | o => o }
  let w3 := { w2 with heap := w2.heap.modify 8 fun
      | .cells _ t frozen => .cells gv_internal_strconv_uint64pow10.cells.toArray t frozen
      | o => o }
  let w4 := { w3 with heap := w3.heap.modify 0 fun
      | .cells _ t frozen => .cells gv_gitlike_diff_signs.cells.toArray t frozen
      | o => o }
  w4
theorem laidWorld_met (os : Os) (args : Array Value) : laidMetH Tryd.prog Rows.diffPatchesRow.laid ((laidWorld os).forCall (fun _ _ => 0) ⟨#[], args, []⟩).memory :=
  laidMetH_of_parts (laidMet_of_run' 8 (by kernel_rfl) (by kernel_rfl)) (by kernel_rfl)

theorem three : laidOutB Tryd.prog = true ∧ mapsRowed Tryd.prog = true :=
  have H := ClosedOfChecked.allSpec_of Tryd.checked.wellFormed (by kernel_rfl : Tryd.checked.prog.types = Tryd.checked.src.types)
  ⟨ClosedOfChecked.laidOutB_of H (by kernel_rfl), ClosedOfChecked.mapsRowed_of H⟩
theorem and_t {a b : Bool} (h : a = true) (k : b = true) : (a && b) = true := by rw [h, k]; rfl
theorem fact0 : (Rows.diffPatchesRow.wf (OpenSpec.ofChange Rows.diffPatchesSpec)) = true := by kernel_rfl
theorem fact1 : (laidOutB Tryd.prog) = true := three.1
theorem fact2 : (mapsRowed Tryd.prog) = true := three.2
theorem fact3 : (Tryd.f5.params.all (Tryd.prog.readableRec ·)) = true := by kernel_rfl
theorem fact4 : (namedTie Tryd.prog Rows.diffPatchesRow.named Rows.diffPatchesSpec.vars) = true := by kernel_rfl
theorem fact5 : ((Rows.diffPatchesRow.stops == [])) = true := by kernel_rfl
theorem fact6 : ((Tryd.prog.stops == [])) = true := by kernel_rfl
theorem fact7 : ((Rows.diffPatchesRow.knobs == [])) = true := by kernel_rfl
theorem fact8 : ((Tryd.prog.stopKnobs == [])) = true := by kernel_rfl
theorem fact9 : ((Rows.diffPatchesRow.inPlace == Tryd.prog.inPlace 5)) = true := by kernel_rfl
theorem fact10 : ((Rows.diffPatchesRow.unfollowed == Tryd.prog.unfollowed 5)) = true := by kernel_rfl
theorem fact11 : ((Rows.diffPatchesRow.recurses == Tryd.prog.recurses 5)) = true := by kernel_rfl
theorem fact12 : ((Rows.diffPatchesRow.named == Tryd.prog.varsNamed 5)) = true := by kernel_rfl
theorem fact13 : ((Rows.diffPatchesRow.maps == (Tryd.f5.params.toList ++ Rows.diffPatchesSpec.plain.varTypes Tryd.prog).any (Tryd.prog.mapsRec ·))) = true := by kernel_rfl
theorem fact14 : ((Rows.diffPatchesRow.ifaces == (Tryd.f5.params.toList ++ Rows.diffPatchesSpec.plain.varTypes Tryd.prog).any (Tryd.prog.ifacesRec ·))) = true := by kernel_rfl
theorem fact15 : ((Rows.diffPatchesRow.mapsOut == Tryd.prog.mapsAmong Tryd.f5.resultTypes.toList)) = true := by kernel_rfl
theorem fact16 : ((Rows.diffPatchesRow.loops == (Tryd.f5.params.toList ++ Rows.diffPatchesSpec.plain.varTypes Tryd.prog).any (Tryd.prog.loopsFrom ·))) = true := by kernel_rfl
theorem fact17 : ((Rows.diffPatchesRow.wideKeys == (Tryd.f5.params.toList ++ Rows.diffPatchesSpec.plain.varTypes Tryd.prog ++ Tryd.f5.resultTypes.toList).any (Tryd.prog.wideKeysFrom ·))) = true := by kernel_rfl
theorem fact18 : (Rows.diffPatchesSpec.vars.all (Tryd.prog.varReadable ·)) = true := by kernel_rfl
theorem fact19 : (Tryd.f5.resultTypes.all (fun t => Tryd.prog.readableRec t && decide (t < Tryd.prog.types.size))) = true := by kernel_rfl
theorem fact20 : ((Rows.diffPatchesRow.ifacesOut == Tryd.f5.resultTypes.toList.any (Tryd.prog.ifacesRec ·))) = true := by kernel_rfl
theorem fact21 : ((Rows.diffPatchesRow.loopsOut == Tryd.f5.resultTypes.toList.any (Tryd.prog.loopsFrom ·))) = true := by kernel_rfl
theorem fact22 : ((Rows.diffPatchesRow.plainKeys == Tryd.prog.plainKeys)) = true := by kernel_rfl
theorem fact23 : (Rows.diffPatchesRow.shortTexts.isNone) = true := by kernel_rfl
theorem fact24 : (Tryd.prog.stopsHeard) = true := by kernel_rfl
theorem fact25 : (Tryd.prog.mayEnter) = true := by kernel_rfl
theorem fact26 : ((Rows.diffPatchesRow.lifted == Tryd.prog.liftsFinal)) = true := by kernel_rfl
theorem fact27 : ((Tryd.prog.make == some Rows.diffPatchesRow.make)) = true := by kernel_rfl
theorem fact28 : ((Rows.diffPatchesRow.kinds == (if Rows.diffPatchesRow.domain.isEmpty then [] else Tryd.f5.params.toList.map fun t => match Tryd.prog.underlying t with | some (.int k) => some k | _ => none))) = true := by kernel_rfl
theorem fact29 : ((Rows.diffPatchesRow.pinned == Rows.diffPatchesRow.pinnedBy)) = true := by kernel_rfl
theorem fact30 : ((Rows.diffPatchesRow.veiled == (Tryd.f5.params.toList ++ Rows.diffPatchesSpec.plain.varTypes Tryd.prog ++ Tryd.f5.resultTypes.toList).any (Tryd.prog.veiledRec ·))) = true := by kernel_rfl
theorem fact31 : (Rows.diffPatchesRow.veiledFits Tryd.prog Tryd.f5.params.toList (Tryd.f5.params.toList ++ Rows.diffPatchesSpec.plain.varTypes Tryd.prog ++ Tryd.f5.resultTypes.toList)) = true := by kernel_rfl
set_option maxRecDepth 100000 in
theorem factsAll : ((Rows.diffPatchesRow.wf (OpenSpec.ofChange Rows.diffPatchesSpec)) && (laidOutB Tryd.prog) && (mapsRowed Tryd.prog) && (Tryd.f5.params.all (Tryd.prog.readableRec ·)) && (namedTie Tryd.prog Rows.diffPatchesRow.named Rows.diffPatchesSpec.vars) && ((Rows.diffPatchesRow.stops == [])) && ((Tryd.prog.stops == [])) && ((Rows.diffPatchesRow.knobs == [])) && ((Tryd.prog.stopKnobs == [])) && ((Rows.diffPatchesRow.inPlace == Tryd.prog.inPlace 5)) && ((Rows.diffPatchesRow.unfollowed == Tryd.prog.unfollowed 5)) && ((Rows.diffPatchesRow.recurses == Tryd.prog.recurses 5)) && ((Rows.diffPatchesRow.named == Tryd.prog.varsNamed 5)) && ((Rows.diffPatchesRow.maps == (Tryd.f5.params.toList ++ Rows.diffPatchesSpec.plain.varTypes Tryd.prog).any (Tryd.prog.mapsRec ·))) && ((Rows.diffPatchesRow.ifaces == (Tryd.f5.params.toList ++ Rows.diffPatchesSpec.plain.varTypes Tryd.prog).any (Tryd.prog.ifacesRec ·))) && ((Rows.diffPatchesRow.mapsOut == Tryd.prog.mapsAmong Tryd.f5.resultTypes.toList)) && ((Rows.diffPatchesRow.loops == (Tryd.f5.params.toList ++ Rows.diffPatchesSpec.plain.varTypes Tryd.prog).any (Tryd.prog.loopsFrom ·))) && ((Rows.diffPatchesRow.wideKeys == (Tryd.f5.params.toList ++ Rows.diffPatchesSpec.plain.varTypes Tryd.prog ++ Tryd.f5.resultTypes.toList).any (Tryd.prog.wideKeysFrom ·))) && (Rows.diffPatchesSpec.vars.all (Tryd.prog.varReadable ·)) && (Tryd.f5.resultTypes.all (fun t => Tryd.prog.readableRec t && decide (t < Tryd.prog.types.size))) && ((Rows.diffPatchesRow.ifacesOut == Tryd.f5.resultTypes.toList.any (Tryd.prog.ifacesRec ·))) && ((Rows.diffPatchesRow.loopsOut == Tryd.f5.resultTypes.toList.any (Tryd.prog.loopsFrom ·))) && ((Rows.diffPatchesRow.plainKeys == Tryd.prog.plainKeys)) && (Rows.diffPatchesRow.shortTexts.isNone) && (Tryd.prog.stopsHeard) && (Tryd.prog.mayEnter) && ((Rows.diffPatchesRow.lifted == Tryd.prog.liftsFinal)) && ((Tryd.prog.make == some Rows.diffPatchesRow.make)) && ((Rows.diffPatchesRow.kinds == (if Rows.diffPatchesRow.domain.isEmpty then [] else Tryd.f5.params.toList.map fun t => match Tryd.prog.underlying t with | some (.int k) => some k | _ => none))) && ((Rows.diffPatchesRow.pinned == Rows.diffPatchesRow.pinnedBy)) && ((Rows.diffPatchesRow.veiled == (Tryd.f5.params.toList ++ Rows.diffPatchesSpec.plain.varTypes Tryd.prog ++ Tryd.f5.resultTypes.toList).any (Tryd.prog.veiledRec ·))) && (Rows.diffPatchesRow.veiledFits Tryd.prog Tryd.f5.params.toList (Tryd.f5.params.toList ++ Rows.diffPatchesSpec.plain.varTypes Tryd.prog ++ Tryd.f5.resultTypes.toList))) = true := (and_t (and_t (and_t (and_t (and_t (and_t (and_t (and_t (and_t (and_t (and_t (and_t (and_t (and_t (and_t (and_t (and_t (and_t (and_t (and_t (and_t (and_t (and_t (and_t (and_t (and_t (and_t (and_t (and_t (and_t (and_t fact0 fact1) fact2) fact3) fact4) fact5) fact6) fact7) fact8) fact9) fact10) fact11) fact12) fact13) fact14) fact15) fact16) fact17) fact18) fact19) fact20) fact21) fact22) fact23) fact24) fact25) fact26) fact27) fact28) fact29) fact30) fact31)
set_option maxRecDepth 100000 in
theorem closedFacts : joinedFacts Tryd.prog 5 Tryd.f5 Rows.diffPatchesSpec Rows.diffPatchesRow = true := factsAll
set_option maxRecDepth 100000 in
theorem lifted (os : Os) (started : os.Started) (H : Type) (enc : TypeId × Value → H) :
    ReturnsInHanded {} Tryd.checked os 5 .any (fun w args => (Rows.diffPatchesSpec.pre enc Tryd.prog Tryd.f5 [] false w args ∧ laidMetH Tryd.prog Rows.diffPatchesRow.laid w) ∧ sizedMet enc Tryd.prog Tryd.f5 (OpenSpec.ofChange Rows.diffPatchesSpec) false w args) (Rows.diffPatchesSpec.post enc Tryd.prog Tryd.f5 false true false false) := by
  refine returnsInHanded_of_change_and (C := Tryd.checked) (X := fun w _ => laidMetH Tryd.prog Rows.diffPatchesRow.laid w) (fun _ _ _ hh h => h.of_heap hh) own started (by kernel_rfl) Tryd.func5
    (ChangeSpec.witness_at (enc := enc) (C := Tryd.checked) (os := os) (X := fun w _ => laidMetH Tryd.prog Rows.diffPatchesRow.laid w) false (laidWorld os) #[.slice none 0 0, .slice none 0 0, .int .i64 0] 8 rfl (by kernel_rfl) (by kernel_rfl) (by kernel_rfl) (by kernel_rfl) (by kernel_rfl) (laidWorld_met os _)) ?_
  intro W base args ds gs before hval0 hW hcnd hsz0 hL _
  have hsz : (DataW.weightsEach Tryd.prog (Tryd.f5.params.toList ++ Rows.diffPatchesSpec.plain.varTypes Tryd.prog) (ds ++ gs)).all (· ≤ reachBytes) = true := hsz0
  have hval : ∀ (j : Nat) t v, Tryd.f5.params[j]? = some t → args[j]? = some v → Value.okWide Tryd.prog W .any base t v := hval0
  have hW' := hW
  obtain ⟨p, q, hA0, hV, rfl, hfz, hnd⟩ := hW
  have hA : DataW.TrodAll enc Tryd.prog W 0 (fun _ => true) true Tryd.f5.params.toList args.toList ds p := hA0
  obtain ⟨rfl, rfl⟩ := trodVars_none hV
  have hsz2 : (DataW.weightsEach Tryd.prog Tryd.f5.params.toList ds).all (· ≤ reachBytes) = true := by
    have e : Tryd.f5.params.toList ++ Rows.diffPatchesSpec.plain.varTypes Tryd.prog = Tryd.f5.params.toList := by simp [ChangeSpec.plain, Rows.diffPatchesSpec]; rfl
    rw [e, List.append_nil] at hsz; exact hsz
  have hA' := hA
  have hps : (Tryd.f5.params.toList.all fun t => Tryd.prog.readableRec t && decide (t < Tryd.prog.types.size)) = true := by kernel_rfl
  have hv2 : ∀ (j : Nat) t v, Tryd.f5.params.toList[j]? = some t → args.toList[j]? = some v → ∃ base, Value.okWide Tryd.prog W .any base t v := fun j t v h1 h2 => ⟨base, hval j t v (by rw [← Array.getElem?_toList]; exact h1) (by rw [← Array.getElem?_toList]; exact h2)⟩
  rw [Tryd.params5] at hA hsz2 hv2
  obtain ⟨dsE, hdsE⟩ : ∃ x, x = ds := ⟨_, rfl⟩
  refine (framed (f := 5) (coversAll_cons (covers_bytes Tryd.underlying23 Tryd.underlying5 (by kernel_rfl) (by kernel_rfl)) (formed_slice Tryd.underlying23) (fun _ => rfl) (coversAll_cons (covers_bytes Tryd.underlying23 Tryd.underlying5 (by kernel_rfl) (by kernel_rfl)) (formed_slice Tryd.underlying23) (fun _ => rfl) (coversAll_cons (covers_i64 Tryd.underlying3) (formed_int Tryd.underlying3) (fun _ => rfl) coversAll_nil))) (fun a h => lawPatches a.1 a.2.1 a.2.2.1 h.1 h.2.1 h.2.2.1.1 h.2.2.1.2) hA hv2 hsz2 (glob_of_laid hL)).mono fun e W' ⟨he, bel⟩ => ?_
  subst he
  have hB := trodAll_below three.1 bel hps hA'
  have hAo := hA
  obtain ⟨v0, vs0, d0, ds0, p0, q0, ha0, hd0, hp0, h0, r0⟩ := trodAll_cons hAo
  obtain ⟨v1, vs1, d1, ds1, p1, q1, ha1, hd1, hp1, h1, r1⟩ := trodAll_cons r0
  obtain ⟨v2, vs2, d2, ds2, p2, q2, ha2, hd2, hp2, h2, r2⟩ := trodAll_cons r1
  obtain ⟨hz1, hz2, hz3⟩ := trodAll_nil r2
  have hd : ds = [d0, d1, d2] := by rw [hd0, hd1, hd2, hz2]
  subst hd
  exact ⟨_, rfl, _, _, _, [], _, [], hW', trodAll_mk1 (shut_bool Tryd.underlying4 _), hB, rfl, bel.frame _, fun h => by cases h⟩

theorem over : Rows.diffPatchesRow.holds Tryd.pinned (OpenSpec.ofChange Rows.diffPatchesSpec) :=
  OpenClaim.holds_of_wide 5 Tryd.f5 rfl rfl rfl rfl rfl rfl rfl ⟨rfl, rfl, rfl, rfl, rfl⟩ rfl rfl rfl rfl rfl (by kernel_rfl) Tryd.func5 closedFacts
    (of_decide_eq_true (by kernel_rfl)) (by unfold Func.isWrapper; first | (rw [if_pos (by decide +kernel)]; kernel_rfl) | (rw [if_neg (by decide +kernel)]; exact ⟨rfl, rfl⟩))
    (fun os started H enc _ => lifted os started H enc)
theorem stands : (Tryd.f5.params.toList.all fun t => !Tryd.prog.wantsStandIn t) = true := by kernel_rfl
theorem proved : Rows.DiffPatchesCardSaid :=
  Claim7.holds_tied_plain_at .later [] [.data, .data, .data, .widerDeep] true (true, "5defad6e9229b018b8cffc6a957cd5b0e93684f90a6a4b65029a4b7506ac245b") true
    over (fun _ h => by cases h) (by kernel_rfl) (fun _ h => by cases h) diffPatches_row_tie rfl ⟨rfl, rfl⟩ (by kernel_rfl) rfl
    (fun f fn hf hfn => by
      obtain rfl : f = 5 := (Option.some.inj ((show Tryd.prog.funcNamed "gitlike/gitlikelaw10.DiffPatches" = some 5 by kernel_rfl).symm.trans hf)).symm
      obtain rfl : fn = Tryd.f5 := (Option.some.inj (Tryd.func5.symm.trans hfn)).symm
      exact ⟨by kernel_rfl, fun j t ht => by
        rw [← Array.getElem?_toList] at ht
        have := List.all_eq_true.1 stands t (List.mem_of_getElem? ht)
        exact (show Tryd.prog.wantsStandIn t = false by simpa using this)⟩)
    (by kernel_rfl)
#print axioms proved
end Go.Proofs.YtijidndhlgbjhaaDoor.diffPatches
