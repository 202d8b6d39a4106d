import Derived.SevenTiedAt
import Derived.Test.YtfgljddikcghhaaDoorCards
import Derived.Test.YtfgljddikcghhaaDoorTie
import Derived.Test.YtfgljddikcghhaaDoorRows
import Derived.Test.YtfgljddikcghhaaDoorProg
import Derived.WalkKit
import Derived.ProofKit
import Derived.OpenShut
import Derived.ShutString
import Derived.ChangeOld
import Derived.Below
import Derived.SizedLaws
import Derived.ChangeVars
import Derived.LaidLaws
import Derived.LaidHandle
import Derived.Stop.Joined
import Derived.ClosedOfChecked
import Derived.Test.YtfgljddikcghhaaDoorLaid
import Derived.Test.YtfgljddikcghhaaDoorFrame
import Derived.Test.YtfgljddikcghhaaDoorVzLaw
namespace Go.Proofs.YtfgljddikcghhaaDoor.deflateReads
open Go.ChangeShapes Go.WideShapes Go.ChangeAt Go.RowKit
set_option linter.unusedVariables false

theorem own : ownKnob Tryd.prog.godebug = none := by kernel_rfl
instance gi : Globs := ⟨[(0, gv_errors_errorType), (1, gv_gitlike_deflate_order)], by kernel_rfl⟩
instance : K_errors_errorType := ⟨by kernel_rfl⟩
instance : K_gitlike_deflate_order := ⟨by kernel_rfl⟩
theorem et : Tryd.prog.globalNamed "errors.errorType" = some 0 := by kernel_rfl
theorem rt : (Tryd.prog.cutTypes.find? (·.1 == "internal/reflectlite.rtype")).map (·.2) = some 101 := by kernel_rfl
theorem oneRow : ((List.range Tryd.prog.types.size).filter fun t => Tryd.prog.rowNamed t [101, 114, 114, 111, 114]) = [25] := by kernel_rfl
theorem handle_of_laid {W : World} (h : handlesMet Tryd.prog [("errors.errorType", Rows.laid_errors_errorType)] W) : ∃ t fr, W.heap[0]? = some (.cells gv_errors_errorType.cells.toArray t fr) := by
 obtain ⟨name, u, ty, e1, e2, e3, e4, e5⟩ := h _ (List.mem_singleton.2 rfl)
 have en : name = [101, 114, 114, 111, 114] := (Option.some.inj e1).symm
 subst en
 obtain rfl := Option.some.inj (rt.symm.trans e2)
 have hm : ty ∈ (List.range Tryd.prog.types.size).filter fun t => Tryd.prog.rowNamed t [101, 114, 114, 111, 114] := List.mem_filter.2 ⟨List.mem_range.2 e3, e4⟩
 rw [oneRow] at hm
 obtain rfl := List.mem_singleton.1 hm
 have hh : typeHandle Tryd.prog 25 = .pointer (some ⟨2, 25, none⟩) := by kernel_rfl
 rw [hh] at e5
 exact var_row et e5
def ds_gitlike_deflate_order : List (DataW Unit) := [.lit (.int .i64 16), .lit (.int .i64 17), .lit (.int .i64 18), .lit (.int .i64 0), .lit (.int .i64 8), .lit (.int .i64 7), .lit (.int .i64 9), .lit (.int .i64 6), .lit (.int .i64 10), .lit (.int .i64 5), .lit (.int .i64 11), .lit (.int .i64 4), .lit (.int .i64 12), .lit (.int .i64 3), .lit (.int .i64 13), .lit (.int .i64 2), .lit (.int .i64 14), .lit (.int .i64 1), .lit (.int .i64 15)]
theorem at_gitlike_deflate_order {W : World} (h : laidMet Tryd.prog [("gitlike/deflate.order", Rows.laid_gitlike_deflate_order)] W) : ∃ t fr, W.heap[1]? = some (.cells gv_gitlike_deflate_order.cells.toArray t fr) :=
 arr_laid (t := (Tryd.prog.globals[1]?).elim 0 (·.type)) (e := match Tryd.prog.underlying ((Tryd.prog.globals[1]?).elim 0 (·.type)) with | some (.array _ e) => e | _ => 0) (n := gv_gitlike_deflate_order.cells.length) h (List.mem_of_getElem? (i := 0) (show [("gitlike/deflate.order", Rows.laid_gitlike_deflate_order)][0]? = some ("gitlike/deflate.order", DataW.agg ds_gitlike_deflate_order) by kernel_rfl)) (by kernel_rfl) (by kernel_rfl) (by kernel_rfl) (by kernel_rfl) (by kernel_rfl) (by kernel_rfl) (by kernel_rfl)
theorem glob_of_laid {W : World} (h : laidMetH Tryd.prog Rows.deflateReadsRow.laid W) : GlobOk (fun b => b < W.heap.size) W := by
 intro g x hx
 have hm := globOf_mem hx
 have h' : laidMet Tryd.prog [("gitlike/deflate.order", Rows.laid_gitlike_deflate_order)] W ∧ handlesMet Tryd.prog [("errors.errorType", Rows.laid_errors_errorType)] W := h
 have hm' : (g, x) ∈ ([(0, gv_errors_errorType), (1, gv_gitlike_deflate_order)] : List (Nat × GV)) := hm
 simp only [List.mem_cons, List.mem_nil_iff, or_false, Prod.mk.injEq] at hm'
 have key : ∃ t fr, W.heap[g]? = some (.cells x.cells.toArray t fr) := by
  rcases hm' with ⟨rfl, rfl⟩ | ⟨rfl, rfl⟩
  ·exact handle_of_laid h'.2
  ·exact at_gitlike_deflate_order h'.1
 obtain ⟨t, fr, hk⟩ := key
 exact ⟨(Array.getElem?_eq_some_iff.1 hk).1, t, fr, hk⟩
noncomputable def laidWorld (os : Os) : World :=
 let w0 := World.holding Tryd.prog os ⟨#[], #[.slice none 0 0, .int .i64 0], []⟩
 let w1 := { w0 with heap := w0.heap.modify 0 fun
   | .cells _ t frozen => .cells gv_errors_errorType.cells.toArray t frozen
   | o => o }
 let w2 := { w1 with heap := w1.heap.modify 1 fun
   | .cells _ t frozen => .cells gv_gitlike_deflate_order.cells.toArray t frozen
   | o => o }
 w2
theorem laidWorld_met (os : Os) (args : Array Value) : laidMetH Tryd.prog Rows.deflateReadsRow.laid ((laidWorld os).forCall (fun _ _ => 0) ⟨#[], args, []⟩).memory :=
 laidMetH_of_parts (laidMet_of_run' 8 (by kernel_rfl) (by kernel_rfl)) (by kernel_rfl)

theorem and_t {a b : Bool} (h : a = true) (k : b = true) : (a && b) = true := by rw [h, k]; rfl
theorem three : laidOutB Tryd.prog = true ∧ mapsRowed Tryd.prog = true :=
 have H := ClosedOfChecked.allSpec_of Tryd.checked.wellFormed (by kernel_rfl : Tryd.checked.prog.types = Tryd.checked.src.types)
 ⟨ClosedOfChecked.laidOutB_of H (by kernel_rfl), ClosedOfChecked.mapsRowed_of H⟩
theorem fact0 : (Rows.deflateReadsRow.wf (OpenSpec.ofChange Rows.deflateReadsSpec)) = true := by kernel_rfl
theorem fact1 : (laidOutB Tryd.prog) = true := three.1
theorem fact2 : (mapsRowed Tryd.prog) = true := three.2
theorem fact3 : (Tryd.f3.params.all (Tryd.prog.readableRec ·)) = true := by kernel_rfl
theorem fact4 : (namedTie Tryd.prog Rows.deflateReadsRow.named Rows.deflateReadsSpec.vars) = true := by kernel_rfl
theorem fact5 : ((Rows.deflateReadsRow.stops == [])) = true := by kernel_rfl
theorem fact6 : ((Tryd.prog.stops == [])) = true := by kernel_rfl
theorem fact7 : ((Rows.deflateReadsRow.knobs == [])) = true := by kernel_rfl
theorem fact8 : ((Tryd.prog.stopKnobs == [])) = true := by kernel_rfl
theorem fact9 : ((Rows.deflateReadsRow.inPlace == Tryd.prog.inPlace 3)) = true := by kernel_rfl
theorem fact10 : ((Rows.deflateReadsRow.unfollowed == Tryd.prog.unfollowed 3)) = true := by kernel_rfl
theorem fact11 : ((Rows.deflateReadsRow.recurses == Tryd.prog.recurses 3)) = true := by kernel_rfl
theorem fact12 : ((Rows.deflateReadsRow.named == Tryd.prog.varsNamed 3)) = true := by kernel_rfl
theorem fact13 : ((Rows.deflateReadsRow.maps == (Tryd.f3.params.toList ++ Rows.deflateReadsSpec.plain.varTypes Tryd.prog).any (Tryd.prog.mapsRec ·))) = true := by kernel_rfl
theorem fact14 : ((Rows.deflateReadsRow.ifaces == (Tryd.f3.params.toList ++ Rows.deflateReadsSpec.plain.varTypes Tryd.prog).any (Tryd.prog.ifacesRec ·))) = true := by kernel_rfl
theorem fact15 : ((Rows.deflateReadsRow.mapsOut == Tryd.prog.mapsAmong Tryd.f3.resultTypes.toList)) = true := by kernel_rfl
theorem fact16 : ((Rows.deflateReadsRow.loops == (Tryd.f3.params.toList ++ Rows.deflateReadsSpec.plain.varTypes Tryd.prog).any (Tryd.prog.loopsFrom ·))) = true := by kernel_rfl
theorem fact17 : ((Rows.deflateReadsRow.wideKeys == (Tryd.f3.params.toList ++ Rows.deflateReadsSpec.plain.varTypes Tryd.prog ++ Tryd.f3.resultTypes.toList).any (Tryd.prog.wideKeysFrom ·))) = true := by kernel_rfl
theorem fact18 : (Rows.deflateReadsSpec.vars.all (Tryd.prog.varReadable ·)) = true := by kernel_rfl
theorem fact19 : (Tryd.f3.resultTypes.all (fun t => Tryd.prog.readableRec t && decide (t < Tryd.prog.types.size))) = true := by kernel_rfl
theorem fact20 : ((Rows.deflateReadsRow.ifacesOut == Tryd.f3.resultTypes.toList.any (Tryd.prog.ifacesRec ·))) = true := by kernel_rfl
theorem fact21 : ((Rows.deflateReadsRow.loopsOut == Tryd.f3.resultTypes.toList.any (Tryd.prog.loopsFrom ·))) = true := by kernel_rfl
theorem fact22 : ((Rows.deflateReadsRow.plainKeys == Tryd.prog.plainKeys)) = true := by kernel_rfl
theorem fact23 : (Rows.deflateReadsRow.shortTexts.isNone) = true := by kernel_rfl
theorem fact24 : (Tryd.prog.stopsHeard) = true := by kernel_rfl
theorem fact25 : (Tryd.prog.mayEnter) = true := by kernel_rfl
theorem fact26 : ((Rows.deflateReadsRow.lifted == Tryd.prog.liftsFinal)) = true := by kernel_rfl
theorem fact27 : ((Tryd.prog.make == some Rows.deflateReadsRow.make)) = true := by kernel_rfl
theorem fact28 : ((Rows.deflateReadsRow.kinds == (if Rows.deflateReadsRow.domain.isEmpty then [] else Tryd.f3.params.toList.map fun t => match Tryd.prog.underlying t with | some (.int k) => some k | _ => none))) = true := by kernel_rfl
theorem fact29 : ((Rows.deflateReadsRow.pinned == Rows.deflateReadsRow.pinnedBy)) = true := by kernel_rfl
theorem fact30 : ((Rows.deflateReadsRow.veiled == (Tryd.f3.params.toList ++ Rows.deflateReadsSpec.plain.varTypes Tryd.prog ++ Tryd.f3.resultTypes.toList).any (Tryd.prog.veiledRec ·))) = true := by kernel_rfl
theorem fact31 : (Rows.deflateReadsRow.veiledFits Tryd.prog Tryd.f3.params.toList (Tryd.f3.params.toList ++ Rows.deflateReadsSpec.plain.varTypes Tryd.prog ++ Tryd.f3.resultTypes.toList)) = true := by kernel_rfl
set_option maxRecDepth 100000 in
theorem factsAll : ((Rows.deflateReadsRow.wf (OpenSpec.ofChange Rows.deflateReadsSpec)) && (laidOutB Tryd.prog) && (mapsRowed Tryd.prog) && (Tryd.f3.params.all (Tryd.prog.readableRec ·)) && (namedTie Tryd.prog Rows.deflateReadsRow.named Rows.deflateReadsSpec.vars) && ((Rows.deflateReadsRow.stops == [])) && ((Tryd.prog.stops == [])) && ((Rows.deflateReadsRow.knobs == [])) && ((Tryd.prog.stopKnobs == [])) && ((Rows.deflateReadsRow.inPlace == Tryd.prog.inPlace 3)) && ((Rows.deflateReadsRow.unfollowed == Tryd.prog.unfollowed 3)) && ((Rows.deflateReadsRow.recurses == Tryd.prog.recurses 3)) && ((Rows.deflateReadsRow.named == Tryd.prog.varsNamed 3)) && ((Rows.deflateReadsRow.maps == (Tryd.f3.params.toList ++ Rows.deflateReadsSpec.plain.varTypes Tryd.prog).any (Tryd.prog.mapsRec ·))) && ((Rows.deflateReadsRow.ifaces == (Tryd.f3.params.toList ++ Rows.deflateReadsSpec.plain.varTypes Tryd.prog).any (Tryd.prog.ifacesRec ·))) && ((Rows.deflateReadsRow.mapsOut == Tryd.prog.mapsAmong Tryd.f3.resultTypes.toList)) && ((Rows.deflateReadsRow.loops == (Tryd.f3.params.toList ++ Rows.deflateReadsSpec.plain.varTypes Tryd.prog).any (Tryd.prog.loopsFrom ·))) && ((Rows.deflateReadsRow.wideKeys == (Tryd.f3.params.toList ++ Rows.deflateReadsSpec.plain.varTypes Tryd.prog ++ Tryd.f3.resultTypes.toList).any (Tryd.prog.wideKeysFrom ·))) && (Rows.deflateReadsSpec.vars.all (Tryd.prog.varReadable ·)) && (Tryd.f3.resultTypes.all (fun t => Tryd.prog.readableRec t && decide (t < Tryd.prog.types.size))) && ((Rows.deflateReadsRow.ifacesOut == Tryd.f3.resultTypes.toList.any (Tryd.prog.ifacesRec ·))) && ((Rows.deflateReadsRow.loopsOut == Tryd.f3.resultTypes.toList.any (Tryd.prog.loopsFrom ·))) && ((Rows.deflateReadsRow.plainKeys == Tryd.prog.plainKeys)) && (Rows.deflateReadsRow.shortTexts.isNone) && (Tryd.prog.stopsHeard) && (Tryd.prog.mayEnter) && ((Rows.deflateReadsRow.lifted == Tryd.prog.liftsFinal)) && ((Tryd.prog.make == some Rows.deflateReadsRow.make)) && ((Rows.deflateReadsRow.kinds == (if Rows.deflateReadsRow.domain.isEmpty then [] else Tryd.f3.params.toList.map fun t => match Tryd.prog.underlying t with | some (.int k) => some k | _ => none))) && ((Rows.deflateReadsRow.pinned == Rows.deflateReadsRow.pinnedBy)) && ((Rows.deflateReadsRow.veiled == (Tryd.f3.params.toList ++ Rows.deflateReadsSpec.plain.varTypes Tryd.prog ++ Tryd.f3.resultTypes.toList).any (Tryd.prog.veiledRec ·))) && (Rows.deflateReadsRow.veiledFits Tryd.prog Tryd.f3.params.toList (Tryd.f3.params.toList ++ Rows.deflateReadsSpec.plain.varTypes Tryd.prog ++ Tryd.f3.resultTypes.toList))) = true := (and_t (and_t (and_t (and_t (and_t (and_t (and_t (and_t (and_t (and_t (and_t (and_t (and_t (and_t (and_t (and_t (and_t (and_t (and_t (and_t (and_t (and_t (and_t (and_t (and_t (and_t (and_t (and_t (and_t (and_t (and_t fact0 fact1) fact2) fact3) fact4) fact5) fact6) fact7) fact8) fact9) fact10) fact11) fact12) fact13) fact14) fact15) fact16) fact17) fact18) fact19) fact20) fact21) fact22) fact23) fact24) fact25) fact26) fact27) fact28) fact29) fact30) fact31)
set_option maxRecDepth 100000 in
theorem closedFacts : joinedFacts Tryd.prog 3 Tryd.f3 Rows.deflateReadsSpec Rows.deflateReadsRow = true := factsAll
set_option maxRecDepth 100000 in
theorem lifted (os : Os) (started : os.Started) (H : Type) (enc : TypeId × Value → H) :
  ReturnsInHanded {} Tryd.checked os 3 .any (fun w args => (Rows.deflateReadsSpec.pre enc Tryd.prog Tryd.f3 [] false w args ∧ laidMetH Tryd.prog Rows.deflateReadsRow.laid w) ∧ sizedMet enc Tryd.prog Tryd.f3 (OpenSpec.ofChange Rows.deflateReadsSpec) false w args) (Rows.deflateReadsSpec.post enc Tryd.prog Tryd.f3 false true false false) := by
 refine returnsInHanded_of_change_and (C := Tryd.checked) (X := fun w _ => laidMetH Tryd.prog Rows.deflateReadsRow.laid w) (fun _ _ _ hh h => h.of_heap hh) own started (by kernel_rfl) Tryd.func3
  (ChangeSpec.witness_at (enc := enc) (C := Tryd.checked) (os := os) (X := fun w _ => laidMetH Tryd.prog Rows.deflateReadsRow.laid w) false (laidWorld os) #[.slice none 0 0, .int .i64 0] 8 rfl (by kernel_rfl) (by kernel_rfl) (by kernel_rfl) (by kernel_rfl) (by kernel_rfl) (laidWorld_met os _)) ?_
 intro W base args ds gs before hval0 hW hcnd hsz0 hL _
 have hsz : (DataW.weightsEach Tryd.prog (Tryd.f3.params.toList ++ Rows.deflateReadsSpec.plain.varTypes Tryd.prog) (ds ++ gs)).all (· ≤ reachBytes) = true := hsz0
 have hval : ∀ (j : Nat) t v, Tryd.f3.params[j]? = some t → args[j]? = some v → Value.okWide Tryd.prog W .any base t v := hval0
 have hW' := hW
 obtain ⟨p, q, hA0, hV, rfl, hfz, hnd⟩ := hW
 have hA : DataW.TrodAll enc Tryd.prog W 0 (fun _ => true) true Tryd.f3.params.toList args.toList ds p := hA0
 obtain ⟨rfl, rfl⟩ := trodVars_none hV
 have hsz2 : (DataW.weightsEach Tryd.prog Tryd.f3.params.toList ds).all (· ≤ reachBytes) = true := by
  have e : Tryd.f3.params.toList ++ Rows.deflateReadsSpec.plain.varTypes Tryd.prog = Tryd.f3.params.toList := by simp [ChangeSpec.plain, Rows.deflateReadsSpec]; rfl
  rw [e, List.append_nil] at hsz; exact hsz
 have hA' := hA
 have hps : (Tryd.f3.params.toList.all fun t => Tryd.prog.readableRec t && decide (t < Tryd.prog.types.size)) = true := by kernel_rfl
 have hv2 : ∀ (j : Nat) t v, Tryd.f3.params.toList[j]? = some t → args.toList[j]? = some v → ∃ base, Value.okWide Tryd.prog W .any base t v := fun j t v h1 h2 => ⟨base, hval j t v (by rw [← Array.getElem?_toList]; exact h1) (by rw [← Array.getElem?_toList]; exact h2)⟩
 rw [Tryd.params3] at hA hsz2 hv2
 obtain ⟨dsE, hdsE⟩ : ∃ x, x = ds := ⟨_, rfl⟩
 refine (framed (f := 3) (coversAll_cons (covers_bytes Tryd.underlying22 Tryd.underlying5 (by kernel_rfl) (by kernel_rfl)) (formed_slice Tryd.underlying22) (fun _ => rfl) (coversAll_cons (covers_i64 Tryd.underlying3) (formed_int Tryd.underlying3) (fun _ => rfl) coversAll_nil)) (fun a h => lawReads a.1 a.2.1 h.1 ⟨h.2.1.1, h.2.1.2⟩) hA hv2 hsz2 (glob_of_laid hL)).mono fun e W' ⟨he, bel⟩ => ?_
 subst he
 have hB := trodAll_below three.1 bel hps hA'
 have hAo := hA
 obtain ⟨v0, vs0, d0, ds0, p0, q0, ha0, hd0, hp0, h0, r0⟩ := trodAll_cons hAo
 obtain ⟨v1, vs1, d1, ds1, p1, q1, ha1, hd1, hp1, h1, r1⟩ := trodAll_cons r0
 obtain ⟨hz1, hz2, hz3⟩ := trodAll_nil r1
 have hd : ds = [d0, d1] := by rw [hd0, hd1, hz2]
 subst hd
 exact ⟨_, rfl, _, _, _, [], _, [], hW', trodAll_mk1 (shut_bool Tryd.underlying4 _), hB, rfl, bel.frame _, fun h => by cases h⟩

theorem over : Rows.deflateReadsRow.holds Tryd.pinned (OpenSpec.ofChange Rows.deflateReadsSpec) :=
 OpenClaim.holds_of_wide 3 Tryd.f3 rfl rfl rfl rfl rfl rfl rfl ⟨rfl, rfl, rfl, rfl, rfl⟩ rfl rfl rfl rfl rfl (by kernel_rfl) Tryd.func3 closedFacts
  (of_decide_eq_true (by kernel_rfl)) (by unfold Func.isWrapper; first | (rw [if_pos (by decide +kernel)]; kernel_rfl) | (rw [if_neg (by decide +kernel)]; exact ⟨rfl, rfl⟩))
  (fun os started H enc _ => lifted os started H enc)
theorem stands : (Tryd.f3.params.toList.all fun t => !Tryd.prog.wantsStandIn t) = true := by kernel_rfl
theorem proved : Rows.DeflateReadsCardSaid :=
 Claim7.holds_tied_plain_at .later [] [.handle, .widerDeep] true (true, "1538c98658cea24f2967e112a5bbd3d13f9cefa50f0a9e06ce3629c5f031b726") true
  over (fun _ h => by cases h) (by kernel_rfl) (fun _ h => by cases h) deflateReads_row_tie rfl ⟨rfl, rfl⟩ (by kernel_rfl) rfl
  (fun f fn hf hfn => by
   obtain rfl : f = 3 := (Option.some.inj ((show Tryd.prog.funcNamed "gitlike/gitlikelaw1.DeflateReads" = some 3 by kernel_rfl).symm.trans hf)).symm
   obtain rfl : fn = Tryd.f3 := (Option.some.inj (Tryd.func3.symm.trans hfn)).symm
   exact ⟨by kernel_rfl, fun j t ht => by
    rw [← Array.getElem?_toList] at ht
    have := List.all_eq_true.1 stands t (List.mem_of_getElem? ht)
    exact (show Tryd.prog.wantsStandIn t = false by simpa using this)⟩)
  (by kernel_rfl)
#print axioms proved
end Go.Proofs.YtfgljddikcghhaaDoor.deflateReads

