/- DeflateShortCard: the law, proved out of contracts of the functions that it reaches (texts merged; names shortened by a program). No condition is laid on it. -/
import Derived.Test.YtfgljddikcghhaaDoorQF
import Derived.SevenTiedAt
import Derived.Test.YtfgljddikcghhaaDoorCards
import Derived.Test.YtfgljddikcghhaaDoorTie
import Derived.Test.YtfgljddikcghhaaDoorRows
import Derived.Test.YtfgljddikcghhaaDoorProg
import Derived.WalkKit
import Derived.ProofKit
import Derived.OpenShut
import Derived.ShutString
import Derived.ChangeOld
import Derived.Below
import Derived.SizedLaws
import Derived.ChangeVars
import Derived.LaidLaws
import Derived.LaidHandle
import Derived.Stop.Joined
import Derived.ClosedOfChecked
import Derived.Test.YtfgljddikcghhaaDoorQD
namespace Go.Proofs.YtfgljddikcghhaaDoor.deflateShort
open Go.ChangeShapes Go.WideShapes Go.ChangeAt Go.RowKit
set_option linter.unusedVariables false

theorem own : ownKnob Tryd.prog.godebug = none := by kernel_rfl
instance gi : AyP := ⟨[(0, AzI), (1, Ay0)], by kernel_rfl⟩
instance : AzQ := ⟨by kernel_rfl⟩
instance : AyY := ⟨by kernel_rfl⟩
theorem et : Tryd.prog.globalNamed "errors.errorType" = some 0 := by kernel_rfl
theorem rt : (Tryd.prog.cutTypes.find? (·.1 == "internal/reflectlite.rtype")).map (·.2) = some 101 := by kernel_rfl
theorem A8r : ((List.range Tryd.prog.types.size).filter fun t => Tryd.prog.rowNamed t [101, 114, 114, 111, 114]) = [25] := by kernel_rfl
theorem ARF {W : World} (h : handlesMet Tryd.prog [("errors.errorType", Rows.laid_errors_errorType)] W) : ∃ t fr, W.heap[0]? = some (.cells AzI.cells.toArray t fr) := by
 obtain ⟨name, u, ty, e1, e2, e3, e4, e5⟩ := h _ (List.mem_singleton.2 rfl)
 have en : name = [101, 114, 114, 111, 114] := (Option.some.inj e1).symm
 subst en
 obtain rfl := Option.some.inj (rt.symm.trans e2)
 have hm : ty ∈ (List.range Tryd.prog.types.size).filter fun t => Tryd.prog.rowNamed t [101, 114, 114, 111, 114] := List.mem_filter.2 ⟨List.mem_range.2 e3, e4⟩
 rw [A8r] at hm
 obtain rfl := List.mem_singleton.1 hm
 have hh : typeHandle Tryd.prog 25 = .pointer (some ⟨2, 25, none⟩) := by kernel_rfl
 rw [hh] at e5
 exact A0l et e5
def AI1 : List (DataW Unit) := [.lit (.int .i64 16), .lit (.int .i64 17), .lit (.int .i64 18), .lit (.int .i64 0), .lit (.int .i64 8), .lit (.int .i64 7), .lit (.int .i64 9), .lit (.int .i64 6), .lit (.int .i64 10), .lit (.int .i64 5), .lit (.int .i64 11), .lit (.int .i64 4), .lit (.int .i64 12), .lit (.int .i64 3), .lit (.int .i64 13), .lit (.int .i64 2), .lit (.int .i64 14), .lit (.int .i64 1), .lit (.int .i64 15)]
theorem AIE {W : World} (h : laidMet Tryd.prog [("gitlike/deflate.order", Rows.laid_gitlike_deflate_order)] W) : ∃ t fr, W.heap[1]? = some (.cells Ay0.cells.toArray t fr) :=
 A2i (t := (Tryd.prog.globals[1]?).elim 0 (·.type)) (e := match Tryd.prog.underlying ((Tryd.prog.globals[1]?).elim 0 (·.type)) with | some (.array _ e) => e | _ => 0) (n := Ay0.cells.length) h (List.mem_of_getElem? (i := 0) (show [("gitlike/deflate.order", Rows.laid_gitlike_deflate_order)][0]? = some ("gitlike/deflate.order", DataW.agg AI1) by kernel_rfl)) (by kernel_rfl) (by kernel_rfl) (by kernel_rfl) (by kernel_rfl) (by kernel_rfl) (by kernel_rfl) (by kernel_rfl)
theorem ATM {W : World} (h : laidMetH Tryd.prog Rows.deflateShortRow.laid W) : AId (fun b => b < W.heap.size) W := by
 intro g x hx
 have hm := AXE hx
 have h' : laidMet Tryd.prog [("gitlike/deflate.order", Rows.laid_gitlike_deflate_order)] W ∧ handlesMet Tryd.prog [("errors.errorType", Rows.laid_errors_errorType)] W := h
 have hm' : (g, x) ∈ ([(0, AzI), (1, Ay0)] : List (Nat × GV)) := hm
 simp only [List.mem_cons, List.mem_nil_iff, or_false, Prod.mk.injEq] at hm'
 have key : ∃ t fr, W.heap[g]? = some (.cells x.cells.toArray t fr) := by
  rcases hm' with ⟨rfl, rfl⟩ | ⟨rfl, rfl⟩
  ·exact ARF h'.2
  ·exact AIE h'.1
 obtain ⟨t, fr, hk⟩ := key
 exact ⟨(Array.getElem?_eq_some_iff.1 hk).1, t, fr, hk⟩
noncomputable def ATt (os : Os) : World :=
 let w0 := World.holding Tryd.prog os ⟨#[], #[.slice none 0 0, .int .i64 0], []⟩
 let w1 := { w0 with heap := w0.heap.modify 0 fun
   | .cells _ t frozen => .cells AzI.cells.toArray t frozen
   | o => o }
 let w2 := { w1 with heap := w1.heap.modify 1 fun
   | .cells _ t frozen => .cells Ay0.cells.toArray t frozen
   | o => o }
 w2
theorem ASD (os : Os) (args : Array Value) : laidMetH Tryd.prog Rows.deflateShortRow.laid ((ATt os).forCall (fun _ _ => 0) ⟨#[], args, []⟩).memory :=
 laidMetH_of_parts (laidMet_of_run' 8 (by kernel_rfl) (by kernel_rfl)) (by kernel_rfl)

theorem A2m : laidOutB Tryd.prog = true ∧ mapsRowed Tryd.prog = true :=
 have H := ClosedOfChecked.allSpec_of Tryd.checked.wellFormed (by kernel_rfl : Tryd.checked.prog.types = Tryd.checked.src.types)
 ⟨ClosedOfChecked.laidOutB_of H (by kernel_rfl), ClosedOfChecked.mapsRowed_of H⟩
theorem ACp {a b : Bool} (h : a = true) (k : b = true) : (a && b) = true := by rw [h, k]; rfl
theorem A93 : (Rows.deflateShortRow.wf (OpenSpec.ofChange Rows.deflateShortSpec)) = true := by kernel_rfl
theorem BaF : (laidOutB Tryd.prog) = true := A2m.1
theorem BaN : (mapsRowed Tryd.prog) = true := A2m.2
theorem Bag : (Tryd.f5.params.all (Tryd.prog.readableRec ·)) = true := by kernel_rfl
theorem Bak : (namedTie Tryd.prog Rows.deflateShortRow.named Rows.deflateShortSpec.vars) = true := by kernel_rfl
theorem BbM : ((Rows.deflateShortRow.stops == [])) = true := by kernel_rfl
theorem Baa : ((Tryd.prog.stops == [])) = true := by kernel_rfl
theorem Bbk : ((Rows.deflateShortRow.knobs == [])) = true := by kernel_rfl
theorem Bay : ((Tryd.prog.stopKnobs == [])) = true := by kernel_rfl
theorem BbU : ((Rows.deflateShortRow.inPlace == Tryd.prog.inPlace 5)) = true := by kernel_rfl
theorem A7B : ((Rows.deflateShortRow.unfollowed == Tryd.prog.unfollowed 5)) = true := by kernel_rfl
theorem A9u : ((Rows.deflateShortRow.recurses == Tryd.prog.recurses 5)) = true := by kernel_rfl
theorem A7E : ((Rows.deflateShortRow.named == Tryd.prog.varsNamed 5)) = true := by kernel_rfl
theorem A9g : ((Rows.deflateShortRow.maps == (Tryd.f5.params.toList ++ Rows.deflateShortSpec.plain.varTypes Tryd.prog).any (Tryd.prog.mapsRec ·))) = true := by kernel_rfl
theorem A8f : ((Rows.deflateShortRow.ifaces == (Tryd.f5.params.toList ++ Rows.deflateShortSpec.plain.varTypes Tryd.prog).any (Tryd.prog.ifacesRec ·))) = true := by kernel_rfl
theorem A9r : ((Rows.deflateShortRow.mapsOut == Tryd.prog.mapsAmong Tryd.f5.resultTypes.toList)) = true := by kernel_rfl
theorem A88 : ((Rows.deflateShortRow.loops == (Tryd.f5.params.toList ++ Rows.deflateShortSpec.plain.varTypes Tryd.prog).any (Tryd.prog.loopsFrom ·))) = true := by kernel_rfl
theorem A8O : ((Rows.deflateShortRow.wideKeys == (Tryd.f5.params.toList ++ Rows.deflateShortSpec.plain.varTypes Tryd.prog ++ Tryd.f5.resultTypes.toList).any (Tryd.prog.wideKeysFrom ·))) = true := by kernel_rfl
theorem A8w : (Rows.deflateShortSpec.vars.all (Tryd.prog.varReadable ·)) = true := by kernel_rfl
theorem A71 : (Tryd.f5.resultTypes.all (fun t => Tryd.prog.readableRec t && decide (t < Tryd.prog.types.size))) = true := by kernel_rfl
theorem A7w : ((Rows.deflateShortRow.ifacesOut == Tryd.f5.resultTypes.toList.any (Tryd.prog.ifacesRec ·))) = true := by kernel_rfl
theorem A7I : ((Rows.deflateShortRow.loopsOut == Tryd.f5.resultTypes.toList.any (Tryd.prog.loopsFrom ·))) = true := by kernel_rfl
theorem A8Z : ((Rows.deflateShortRow.plainKeys == Tryd.prog.plainKeys)) = true := by kernel_rfl
theorem A8T : (Rows.deflateShortRow.shortTexts.isNone) = true := by kernel_rfl
theorem A8p : (Tryd.prog.stopsHeard) = true := by kernel_rfl
theorem A8u : (Tryd.prog.mayEnter) = true := by kernel_rfl
theorem A8W : ((Rows.deflateShortRow.lifted == Tryd.prog.liftsFinal)) = true := by kernel_rfl
theorem A69 : ((Tryd.prog.make == some Rows.deflateShortRow.make)) = true := by kernel_rfl
theorem A74 : ((Rows.deflateShortRow.kinds == (if Rows.deflateShortRow.domain.isEmpty then [] else Tryd.f5.params.toList.map fun t => match Tryd.prog.underlying t with | some (.int k) => some k | _ => none))) = true := by kernel_rfl
theorem A8G : ((Rows.deflateShortRow.pinned == Rows.deflateShortRow.pinnedBy)) = true := by kernel_rfl
theorem A7J : ((Rows.deflateShortRow.veiled == (Tryd.f5.params.toList ++ Rows.deflateShortSpec.plain.varTypes Tryd.prog ++ Tryd.f5.resultTypes.toList).any (Tryd.prog.veiledRec ·))) = true := by kernel_rfl
theorem A7q : (Rows.deflateShortRow.veiledFits Tryd.prog Tryd.f5.params.toList (Tryd.f5.params.toList ++ Rows.deflateShortSpec.plain.varTypes Tryd.prog ++ Tryd.f5.resultTypes.toList)) = true := by kernel_rfl
set_option maxRecDepth 100000 in
theorem A3y : ((Rows.deflateShortRow.wf (OpenSpec.ofChange Rows.deflateShortSpec)) && (laidOutB Tryd.prog) && (mapsRowed Tryd.prog) && (Tryd.f5.params.all (Tryd.prog.readableRec ·)) && (namedTie Tryd.prog Rows.deflateShortRow.named Rows.deflateShortSpec.vars) && ((Rows.deflateShortRow.stops == [])) && ((Tryd.prog.stops == [])) && ((Rows.deflateShortRow.knobs == [])) && ((Tryd.prog.stopKnobs == [])) && ((Rows.deflateShortRow.inPlace == Tryd.prog.inPlace 5)) && ((Rows.deflateShortRow.unfollowed == Tryd.prog.unfollowed 5)) && ((Rows.deflateShortRow.recurses == Tryd.prog.recurses 5)) && ((Rows.deflateShortRow.named == Tryd.prog.varsNamed 5)) && ((Rows.deflateShortRow.maps == (Tryd.f5.params.toList ++ Rows.deflateShortSpec.plain.varTypes Tryd.prog).any (Tryd.prog.mapsRec ·))) && ((Rows.deflateShortRow.ifaces == (Tryd.f5.params.toList ++ Rows.deflateShortSpec.plain.varTypes Tryd.prog).any (Tryd.prog.ifacesRec ·))) && ((Rows.deflateShortRow.mapsOut == Tryd.prog.mapsAmong Tryd.f5.resultTypes.toList)) && ((Rows.deflateShortRow.loops == (Tryd.f5.params.toList ++ Rows.deflateShortSpec.plain.varTypes Tryd.prog).any (Tryd.prog.loopsFrom ·))) && ((Rows.deflateShortRow.wideKeys == (Tryd.f5.params.toList ++ Rows.deflateShortSpec.plain.varTypes Tryd.prog ++ Tryd.f5.resultTypes.toList).any (Tryd.prog.wideKeysFrom ·))) && (Rows.deflateShortSpec.vars.all (Tryd.prog.varReadable ·)) && (Tryd.f5.resultTypes.all (fun t => Tryd.prog.readableRec t && decide (t < Tryd.prog.types.size))) && ((Rows.deflateShortRow.ifacesOut == Tryd.f5.resultTypes.toList.any (Tryd.prog.ifacesRec ·))) && ((Rows.deflateShortRow.loopsOut == Tryd.f5.resultTypes.toList.any (Tryd.prog.loopsFrom ·))) && ((Rows.deflateShortRow.plainKeys == Tryd.prog.plainKeys)) && (Rows.deflateShortRow.shortTexts.isNone) && (Tryd.prog.stopsHeard) && (Tryd.prog.mayEnter) && ((Rows.deflateShortRow.lifted == Tryd.prog.liftsFinal)) && ((Tryd.prog.make == some Rows.deflateShortRow.make)) && ((Rows.deflateShortRow.kinds == (if Rows.deflateShortRow.domain.isEmpty then [] else Tryd.f5.params.toList.map fun t => match Tryd.prog.underlying t with | some (.int k) => some k | _ => none))) && ((Rows.deflateShortRow.pinned == Rows.deflateShortRow.pinnedBy)) && ((Rows.deflateShortRow.veiled == (Tryd.f5.params.toList ++ Rows.deflateShortSpec.plain.varTypes Tryd.prog ++ Tryd.f5.resultTypes.toList).any (Tryd.prog.veiledRec ·))) && (Rows.deflateShortRow.veiledFits Tryd.prog Tryd.f5.params.toList (Tryd.f5.params.toList ++ Rows.deflateShortSpec.plain.varTypes Tryd.prog ++ Tryd.f5.resultTypes.toList))) = true := (ACp (ACp (ACp (ACp (ACp (ACp (ACp (ACp (ACp (ACp (ACp (ACp (ACp (ACp (ACp (ACp (ACp (ACp (ACp (ACp (ACp (ACp (ACp (ACp (ACp (ACp (ACp (ACp (ACp (ACp (ACp A93 BaF) BaN) Bag) Bak) BbM) Baa) Bbk) Bay) BbU) A7B) A9u) A7E) A9g) A8f) A9r) A88) A8O) A8w) A71) A7w) A7I) A8Z) A8T) A8p) A8u) A8W) A69) A74) A8G) A7J) A7q)
set_option maxRecDepth 100000 in
theorem AU7 : joinedFacts Tryd.prog 5 Tryd.f5 Rows.deflateShortSpec Rows.deflateShortRow = true := A3y
set_option maxRecDepth 100000 in
theorem lifted (os : Os) (started : os.Started) (H : Type) (enc : TypeId × Value → H) :
  ReturnsInHanded {} Tryd.checked os 5 .any (fun w args => (Rows.deflateShortSpec.pre enc Tryd.prog Tryd.f5 [] false w args ∧ laidMetH Tryd.prog Rows.deflateShortRow.laid w) ∧ sizedMet enc Tryd.prog Tryd.f5 (OpenSpec.ofChange Rows.deflateShortSpec) false w args) (Rows.deflateShortSpec.post enc Tryd.prog Tryd.f5 false true false false) := by
 refine returnsInHanded_of_change_and (C := Tryd.checked) (X := fun w _ => laidMetH Tryd.prog Rows.deflateShortRow.laid w) (fun _ _ _ hh h => h.of_heap hh) own started (by kernel_rfl) Tryd.func5
  (ChangeSpec.witness_at (enc := enc) (C := Tryd.checked) (os := os) (X := fun w _ => laidMetH Tryd.prog Rows.deflateShortRow.laid w) false (ATt os) #[.slice none 0 0, .int .i64 0] 8 rfl (by kernel_rfl) (by kernel_rfl) (by kernel_rfl) (by kernel_rfl) (by kernel_rfl) (ASD os _)) ?_
 intro W base args ds gs before hval0 hW hcnd hsz0 hL _
 have hsz : (DataW.weightsEach Tryd.prog (Tryd.f5.params.toList ++ Rows.deflateShortSpec.plain.varTypes Tryd.prog) (ds ++ gs)).all (· ≤ reachBytes) = true := hsz0
 have hval : ∀ (j : Nat) t v, Tryd.f5.params[j]? = some t → args[j]? = some v → Value.okWide Tryd.prog W .any base t v := hval0
 have hW' := hW
 obtain ⟨p, q, hA0, hV, rfl, hfz, hnd⟩ := hW
 have hA : DataW.TrodAll enc Tryd.prog W 0 (fun _ => true) true Tryd.f5.params.toList args.toList ds p := hA0
 obtain ⟨rfl, rfl⟩ := trodVars_none hV
 have hsz2 : (DataW.weightsEach Tryd.prog Tryd.f5.params.toList ds).all (· ≤ reachBytes) = true := by
  have e : Tryd.f5.params.toList ++ Rows.deflateShortSpec.plain.varTypes Tryd.prog = Tryd.f5.params.toList := by simp [ChangeSpec.plain, Rows.deflateShortSpec]; rfl
  rw [e, List.append_nil] at hsz; exact hsz
 have hA' := hA
 have hps : (Tryd.f5.params.toList.all fun t => Tryd.prog.readableRec t && decide (t < Tryd.prog.types.size)) = true := by kernel_rfl
 have hv2 : ∀ (j : Nat) t v, Tryd.f5.params.toList[j]? = some t → args.toList[j]? = some v → ∃ base, Value.okWide Tryd.prog W .any base t v := fun j t v h1 h2 => ⟨base, hval j t v (by rw [← Array.getElem?_toList]; exact h1) (by rw [← Array.getElem?_toList]; exact h2)⟩
 rw [Tryd.params5] at hA hsz2 hv2
 obtain ⟨dsE, hdsE⟩ : ∃ x, x = ds := ⟨_, rfl⟩
 refine (A7g (f := 5) (ANL (AUe Tryd.underlying22 Tryd.underlying5 (by kernel_rfl) (by kernel_rfl)) (AT3 Tryd.underlying22) (fun _ => rfl) (ANL (AXL Tryd.underlying3) (AWO Tryd.underlying3) (fun _ => rfl) ASs)) (fun a h => A3P a.1 a.2.1 h.1 ⟨h.2.1.1, h.2.1.2⟩) hA hv2 hsz2 (ATM hL)).mono fun e W' ⟨he, bel⟩ => ?_
 subst he
 have hB := AOM A2m.1 bel hps hA'
 have hAo := hA
 obtain ⟨v0, vs0, d0, ds0, p0, q0, ha0, hd0, hp0, h0, r0⟩ := trodAll_cons hAo
 obtain ⟨v1, vs1, d1, ds1, p1, q1, ha1, hd1, hp1, h1, r1⟩ := trodAll_cons r0
 obtain ⟨hz1, hz2, hz3⟩ := trodAll_nil r1
 have hd : ds = [d0, d1] := by rw [hd0, hd1, hz2]
 subst hd
 exact ⟨_, rfl, _, _, _, [], _, [], hW', trodAll_mk1 (shut_bool Tryd.underlying4 _), hB, rfl, bel.frame _, fun h => by cases h⟩

theorem over : Rows.deflateShortRow.holds Tryd.pinned (OpenSpec.ofChange Rows.deflateShortSpec) :=
 OpenClaim.holds_of_wide 5 Tryd.f5 rfl rfl rfl rfl rfl rfl rfl ⟨rfl, rfl, rfl, rfl, rfl⟩ rfl rfl rfl rfl rfl (by kernel_rfl) Tryd.func5 AU7
  (of_decide_eq_true (by kernel_rfl)) (by unfold Func.isWrapper; first | (rw [if_pos (by decide +kernel)]; kernel_rfl) | (rw [if_neg (by decide +kernel)]; exact ⟨rfl, rfl⟩))
  (fun os started H enc _ => lifted os started H enc)
theorem stands : (Tryd.f5.params.toList.all fun t => !Tryd.prog.wantsStandIn t) = true := by kernel_rfl
theorem proved : Rows.DeflateShortCardSaid :=
 Claim7.holds_tied_plain_at .later [] [.handle, .widerDeep] true (true, "1538c98658cea24f2967e112a5bbd3d13f9cefa50f0a9e06ce3629c5f031b726") true
  over (fun _ h => by cases h) (by kernel_rfl) (fun _ h => by cases h) deflateShort_row_tie rfl ⟨rfl, rfl⟩ (by kernel_rfl) rfl
  (fun f fn hf hfn => by
   obtain rfl : f = 5 := (Option.some.inj ((show Tryd.prog.funcNamed "gitlike/gitlikelaw1.DeflateShort" = some 5 by kernel_rfl).symm.trans hf)).symm
   obtain rfl : fn = Tryd.f5 := (Option.some.inj (Tryd.func5.symm.trans hfn)).symm
   exact ⟨by kernel_rfl, fun j t ht => by
    rw [← Array.getElem?_toList] at ht
    have := List.all_eq_true.1 stands t (List.mem_of_getElem? ht)
    exact (show Tryd.prog.wantsStandIn t = false by simpa using this)⟩)
  (by kernel_rfl)
#print axioms proved
end Go.Proofs.YtfgljddikcghhaaDoor.deflateShort

