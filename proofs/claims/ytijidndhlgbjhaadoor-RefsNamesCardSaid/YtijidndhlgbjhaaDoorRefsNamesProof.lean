/- RefsNames: whatever the input, the statement is true. No condition. -/
import Derived.SevenTiedAt
import Derived.Test.YtijidndhlgbjhaaDoorCards
import Derived.Test.YtijidndhlgbjhaaDoorTie
import Derived.Test.YtijidndhlgbjhaaDoorRows
import Derived.Test.YtijidndhlgbjhaaDoorProg
import Derived.WalkKit
import Derived.ProofKit
import Derived.OpenShut
import Derived.ShutString
import Derived.ChangeOld
import Derived.Below
import Derived.SizedLaws
import Derived.ChangeVars
import Derived.LaidLaws
import Derived.LaidHandle
import Derived.Stop.Joined
import Derived.ClosedOfChecked
import Derived.Test.YtijidndhlgbjhaaDoorShaped
import Derived.Test.YtijidndhlgbjhaaDoorLaid
import Derived.Test.YtijidndhlgbjhaaDoorFrame
import Derived.Test.YtijidndhlgbjhaaDoorVrLaw
namespace Go.Proofs.YtijidndhlgbjhaaDoor.refsNames
open Go.ChangeShapes Go.WideShapes Go.ChangeAt Go.RowKit
set_option linter.unusedVariables false

theorem own : ownKnob Tryd.prog.godebug = none := by kernel_rfl
mutual
def flatD : DataW Unit → List Value
  | .lit (.int k n) => [.int k n]
  | .lit (.string l) => [.string ⟨l.toArray⟩]
  | .agg l => flatL l
  | _ => []
def flatL : List (DataW Unit) → List Value
  | [] => []
  | d :: l => flatD d ++ flatL l
end
abbrev giM (m : Int) : Globs := ⟨[(3, .one (.int .i64 m))], rfl⟩
theorem glob_of_laid {W : World} (h : W.ShapedOpen Tryd.prog) : ∃ m, @GlobOk (giM m) (fun b => b < W.heap.size) W := by
  obtain ⟨m, tt, fr, hh⟩ := row_of_shaped (k := .i64) (zero := #[.int .i64 0]) (g := 3) (t := 3) h (of_decide_eq_true (by kernel_rfl)) (by kernel_rfl) rfl (by kernel_rfl) (by kernel_rfl) Tryd.underlying3
  refine ⟨m, ?_⟩
  letI := giM m
  intro g x hx
  have hm := globOf_mem hx
  have hm' : (g, x) ∈ ([(3, .one (.int .i64 m))] : List (Nat × GV)) := hm
  simp only [List.mem_singleton, Prod.mk.injEq] at hm'
  obtain ⟨rfl, rfl⟩ := hm'
  exact ⟨(Array.getElem?_eq_some_iff.1 hh).1, tt, fr, hh⟩
noncomputable def laidWorld (os : Os) : World :=
  let w0 := World.holding Tryd.prog os ⟨#[], #[.string ⟨#[]⟩], []⟩
  let w1 := { w0 with heap := w0.heap.modify 5 fun
      | .cells _ t frozen => .cells (flatD Rows.laid_unicode_utf8_acceptRanges).toArray t frozen
      | o => o }
  let w2 := { w1 with heap := w1.heap.modify 4 fun
      | .cells _ t frozen => .cells (flatD Rows.laid_unicode_utf8_first).toArray t frozen
      | o => o }
  w2
theorem laidWorld_met (os : Os) (args : Array Value) : laidMetH Tryd.prog Rows.refsNamesRow.laid ((laidWorld os).forCall (fun _ _ => 0) ⟨#[], args, []⟩).memory :=
  laidMetH_of_parts (laidMet_of_run' 8 (by kernel_rfl) (by kernel_rfl)) (by kernel_rfl)

theorem three : laidOutB Tryd.prog = true ∧ mapsRowed Tryd.prog = true :=
  have H := ClosedOfChecked.allSpec_of Tryd.checked.wellFormed (by kernel_rfl : Tryd.checked.prog.types = Tryd.checked.src.types)
  ⟨ClosedOfChecked.laidOutB_of H (by kernel_rfl), ClosedOfChecked.mapsRowed_of H⟩
theorem and_t {a b : Bool} (h : a = true) (k : b = true) : (a && b) = true := by rw [h, k]; rfl
theorem fact0 : (Rows.refsNamesRow.wf (OpenSpec.ofChange Rows.refsNamesSpec)) = true := by kernel_rfl
theorem fact1 : (laidOutB Tryd.prog) = true := three.1
theorem fact2 : (mapsRowed Tryd.prog) = true := three.2
theorem fact3 : (Tryd.f3.params.all (Tryd.prog.readableRec ·)) = true := by kernel_rfl
theorem fact4 : (namedTie Tryd.prog Rows.refsNamesRow.named Rows.refsNamesSpec.vars) = true := by kernel_rfl
theorem fact5 : ((Rows.refsNamesRow.stops == [])) = true := by kernel_rfl
theorem fact6 : ((Tryd.prog.stops == [])) = true := by kernel_rfl
theorem fact7 : ((Rows.refsNamesRow.knobs == [])) = true := by kernel_rfl
theorem fact8 : ((Tryd.prog.stopKnobs == [])) = true := by kernel_rfl
theorem fact9 : ((Rows.refsNamesRow.inPlace == Tryd.prog.inPlace 3)) = true := by kernel_rfl
theorem fact10 : ((Rows.refsNamesRow.unfollowed == Tryd.prog.unfollowed 3)) = true := by kernel_rfl
theorem fact11 : ((Rows.refsNamesRow.recurses == Tryd.prog.recurses 3)) = true := by kernel_rfl
theorem fact12 : ((Rows.refsNamesRow.named == Tryd.prog.varsNamed 3)) = true := by kernel_rfl
theorem fact13 : ((Rows.refsNamesRow.maps == (Tryd.f3.params.toList ++ Rows.refsNamesSpec.plain.varTypes Tryd.prog).any (Tryd.prog.mapsRec ·))) = true := by kernel_rfl
theorem fact14 : ((Rows.refsNamesRow.ifaces == (Tryd.f3.params.toList ++ Rows.refsNamesSpec.plain.varTypes Tryd.prog).any (Tryd.prog.ifacesRec ·))) = true := by kernel_rfl
theorem fact15 : ((Rows.refsNamesRow.mapsOut == Tryd.prog.mapsAmong Tryd.f3.resultTypes.toList)) = true := by kernel_rfl
theorem fact16 : ((Rows.refsNamesRow.loops == (Tryd.f3.params.toList ++ Rows.refsNamesSpec.plain.varTypes Tryd.prog).any (Tryd.prog.loopsFrom ·))) = true := by kernel_rfl
theorem fact17 : ((Rows.refsNamesRow.wideKeys == (Tryd.f3.params.toList ++ Rows.refsNamesSpec.plain.varTypes Tryd.prog ++ Tryd.f3.resultTypes.toList).any (Tryd.prog.wideKeysFrom ·))) = true := by kernel_rfl
theorem fact18 : (Rows.refsNamesSpec.vars.all (Tryd.prog.varReadable ·)) = true := by kernel_rfl
theorem fact19 : (Tryd.f3.resultTypes.all (fun t => Tryd.prog.readableRec t && decide (t < Tryd.prog.types.size))) = true := by kernel_rfl
theorem fact20 : ((Rows.refsNamesRow.ifacesOut == Tryd.f3.resultTypes.toList.any (Tryd.prog.ifacesRec ·))) = true := by kernel_rfl
theorem fact21 : ((Rows.refsNamesRow.loopsOut == Tryd.f3.resultTypes.toList.any (Tryd.prog.loopsFrom ·))) = true := by kernel_rfl
theorem fact22 : ((Rows.refsNamesRow.plainKeys == Tryd.prog.plainKeys)) = true := by kernel_rfl
theorem fact23 : (Rows.refsNamesRow.shortTexts.isNone) = true := by kernel_rfl
theorem fact24 : (Tryd.prog.stopsHeard) = true := by kernel_rfl
theorem fact25 : (Tryd.prog.mayEnter) = true := by kernel_rfl
theorem fact26 : ((Rows.refsNamesRow.lifted == Tryd.prog.liftsFinal)) = true := by kernel_rfl
theorem fact27 : ((Tryd.prog.make == some Rows.refsNamesRow.make)) = true := by kernel_rfl
theorem fact28 : ((Rows.refsNamesRow.kinds == (if Rows.refsNamesRow.domain.isEmpty then [] else Tryd.f3.params.toList.map fun t => match Tryd.prog.underlying t with | some (.int k) => some k | _ => none))) = true := by kernel_rfl
theorem fact29 : ((Rows.refsNamesRow.pinned == Rows.refsNamesRow.pinnedBy)) = true := by kernel_rfl
theorem fact30 : ((Rows.refsNamesRow.veiled == (Tryd.f3.params.toList ++ Rows.refsNamesSpec.plain.varTypes Tryd.prog ++ Tryd.f3.resultTypes.toList).any (Tryd.prog.veiledRec ·))) = true := by kernel_rfl
theorem fact31 : (Rows.refsNamesRow.veiledFits Tryd.prog Tryd.f3.params.toList (Tryd.f3.params.toList ++ Rows.refsNamesSpec.plain.varTypes Tryd.prog ++ Tryd.f3.resultTypes.toList)) = true := by kernel_rfl
set_option maxRecDepth 100000 in
theorem factsAll : ((Rows.refsNamesRow.wf (OpenSpec.ofChange Rows.refsNamesSpec)) && (laidOutB Tryd.prog) && (mapsRowed Tryd.prog) && (Tryd.f3.params.all (Tryd.prog.readableRec ·)) && (namedTie Tryd.prog Rows.refsNamesRow.named Rows.refsNamesSpec.vars) && ((Rows.refsNamesRow.stops == [])) && ((Tryd.prog.stops == [])) && ((Rows.refsNamesRow.knobs == [])) && ((Tryd.prog.stopKnobs == [])) && ((Rows.refsNamesRow.inPlace == Tryd.prog.inPlace 3)) && ((Rows.refsNamesRow.unfollowed == Tryd.prog.unfollowed 3)) && ((Rows.refsNamesRow.recurses == Tryd.prog.recurses 3)) && ((Rows.refsNamesRow.named == Tryd.prog.varsNamed 3)) && ((Rows.refsNamesRow.maps == (Tryd.f3.params.toList ++ Rows.refsNamesSpec.plain.varTypes Tryd.prog).any (Tryd.prog.mapsRec ·))) && ((Rows.refsNamesRow.ifaces == (Tryd.f3.params.toList ++ Rows.refsNamesSpec.plain.varTypes Tryd.prog).any (Tryd.prog.ifacesRec ·))) && ((Rows.refsNamesRow.mapsOut == Tryd.prog.mapsAmong Tryd.f3.resultTypes.toList)) && ((Rows.refsNamesRow.loops == (Tryd.f3.params.toList ++ Rows.refsNamesSpec.plain.varTypes Tryd.prog).any (Tryd.prog.loopsFrom ·))) && ((Rows.refsNamesRow.wideKeys == (Tryd.f3.params.toList ++ Rows.refsNamesSpec.plain.varTypes Tryd.prog ++ Tryd.f3.resultTypes.toList).any (Tryd.prog.wideKeysFrom ·))) && (Rows.refsNamesSpec.vars.all (Tryd.prog.varReadable ·)) && (Tryd.f3.resultTypes.all (fun t => Tryd.prog.readableRec t && decide (t < Tryd.prog.types.size))) && ((Rows.refsNamesRow.ifacesOut == Tryd.f3.resultTypes.toList.any (Tryd.prog.ifacesRec ·))) && ((Rows.refsNamesRow.loopsOut == Tryd.f3.resultTypes.toList.any (Tryd.prog.loopsFrom ·))) && ((Rows.refsNamesRow.plainKeys == Tryd.prog.plainKeys)) && (Rows.refsNamesRow.shortTexts.isNone) && (Tryd.prog.stopsHeard) && (Tryd.prog.mayEnter) && ((Rows.refsNamesRow.lifted == Tryd.prog.liftsFinal)) && ((Tryd.prog.make == some Rows.refsNamesRow.make)) && ((Rows.refsNamesRow.kinds == (if Rows.refsNamesRow.domain.isEmpty then [] else Tryd.f3.params.toList.map fun t => match Tryd.prog.underlying t with | some (.int k) => some k | _ => none))) && ((Rows.refsNamesRow.pinned == Rows.refsNamesRow.pinnedBy)) && ((Rows.refsNamesRow.veiled == (Tryd.f3.params.toList ++ Rows.refsNamesSpec.plain.varTypes Tryd.prog ++ Tryd.f3.resultTypes.toList).any (Tryd.prog.veiledRec ·))) && (Rows.refsNamesRow.veiledFits Tryd.prog Tryd.f3.params.toList (Tryd.f3.params.toList ++ Rows.refsNamesSpec.plain.varTypes Tryd.prog ++ Tryd.f3.resultTypes.toList))) = true := (and_t (and_t (and_t (and_t (and_t (and_t (and_t (and_t (and_t (and_t (and_t (and_t (and_t (and_t (and_t (and_t (and_t (and_t (and_t (and_t (and_t (and_t (and_t (and_t (and_t (and_t (and_t (and_t (and_t (and_t (and_t fact0 fact1) fact2) fact3) fact4) fact5) fact6) fact7) fact8) fact9) fact10) fact11) fact12) fact13) fact14) fact15) fact16) fact17) fact18) fact19) fact20) fact21) fact22) fact23) fact24) fact25) fact26) fact27) fact28) fact29) fact30) fact31)
set_option maxRecDepth 100000 in
theorem closedFacts : joinedFacts Tryd.prog 3 Tryd.f3 Rows.refsNamesSpec Rows.refsNamesRow = true := factsAll
set_option maxRecDepth 100000 in
theorem lifted (os : Os) (started : os.Started) (H : Type) (enc : TypeId × Value → H) :
    ReturnsInHanded {} Tryd.checked os 3 .any (fun w args => (Rows.refsNamesSpec.pre enc Tryd.prog Tryd.f3 [] false w args ∧ laidMetH Tryd.prog Rows.refsNamesRow.laid w) ∧ sizedMet enc Tryd.prog Tryd.f3 (OpenSpec.ofChange Rows.refsNamesSpec) false w args) (Rows.refsNamesSpec.post enc Tryd.prog Tryd.f3 false true false false) := by
  refine handed_and_shaped (C := Tryd.checked) (X := fun w _ => laidMetH Tryd.prog Rows.refsNamesRow.laid w) (fun _ _ _ hh h => h.of_heap hh) own started (by kernel_rfl) Tryd.func3
    (ChangeSpec.witness_at (enc := enc) (C := Tryd.checked) (os := os) (X := fun w _ => laidMetH Tryd.prog Rows.refsNamesRow.laid w) false (laidWorld os) #[.string ⟨#[]⟩] 8 rfl (by kernel_rfl) (by kernel_rfl) (by kernel_rfl) (by kernel_rfl) (by kernel_rfl) (laidWorld_met os _)) ?_
  intro W base args ds gs before hval0 hW hcnd hsz0 hL hsh _
  obtain ⟨m, hG⟩ := glob_of_laid hsh
  letI : Globs := giM m
  haveI : K_MaxLen := ⟨m, rfl⟩
  have hsz : (DataW.weightsEach Tryd.prog (Tryd.f3.params.toList ++ Rows.refsNamesSpec.plain.varTypes Tryd.prog) (ds ++ gs)).all (· ≤ reachBytes) = true := hsz0
  have hval : ∀ (j : Nat) t v, Tryd.f3.params[j]? = some t → args[j]? = some v → Value.okWide Tryd.prog W .any base t v := hval0
  have hW' := hW
  obtain ⟨p, q, hA0, hV, rfl, hfz, hnd⟩ := hW
  have hA : DataW.TrodAll enc Tryd.prog W 0 (fun _ => true) true Tryd.f3.params.toList args.toList ds p := hA0
  obtain ⟨rfl, rfl⟩ := trodVars_none hV
  have hsz2 : (DataW.weightsEach Tryd.prog Tryd.f3.params.toList ds).all (· ≤ reachBytes) = true := by
    have e : Tryd.f3.params.toList ++ Rows.refsNamesSpec.plain.varTypes Tryd.prog = Tryd.f3.params.toList := by simp [ChangeSpec.plain, Rows.refsNamesSpec]; rfl
    rw [e, List.append_nil] at hsz; exact hsz
  have hA' := hA
  have hps : (Tryd.f3.params.toList.all fun t => Tryd.prog.readableRec t && decide (t < Tryd.prog.types.size)) = true := by kernel_rfl
  have hv2 : ∀ (j : Nat) t v, Tryd.f3.params.toList[j]? = some t → args.toList[j]? = some v → ∃ base, Value.okWide Tryd.prog W .any base t v := fun j t v h1 h2 => ⟨base, hval j t v (by rw [← Array.getElem?_toList]; exact h1) (by rw [← Array.getElem?_toList]; exact h2)⟩
  rw [Tryd.params3] at hA hsz2 hv2
  obtain ⟨dsE, hdsE⟩ : ∃ x, x = ds := ⟨_, rfl⟩
  refine (framed (f := 3) (coversAll_cons (covers_string Tryd.underlying9) (formed_string Tryd.underlying9) (fun _ => rfl) coversAll_nil) (fun a h => lawRefs a.1 ) hA hv2 hsz2 (hG)).mono fun e W' ⟨he, bel⟩ => ?_
  subst he
  have hB := trodAll_below three.1 bel hps hA'
  have hAo := hA
  obtain ⟨v0, vs0, d0, ds0, p0, q0, ha0, hd0, hp0, h0, r0⟩ := trodAll_cons hAo
  obtain ⟨hz1, hz2, hz3⟩ := trodAll_nil r0
  have hd : ds = [d0] := by rw [hd0, hz2]
  subst hd
  exact ⟨_, rfl, _, _, _, [], _, [], hW', trodAll_mk1 (shut_bool Tryd.underlying4 _), hB, rfl, bel.frame _, fun h => by cases h⟩

theorem over : Rows.refsNamesRow.holds Tryd.pinned (OpenSpec.ofChange Rows.refsNamesSpec) :=
  OpenClaim.holds_of_wide 3 Tryd.f3 rfl rfl rfl rfl rfl rfl rfl ⟨rfl, rfl, rfl, rfl, rfl⟩ rfl rfl rfl rfl rfl (by kernel_rfl) Tryd.func3 closedFacts
    (of_decide_eq_true (by kernel_rfl)) (by unfold Func.isWrapper; first | (rw [if_pos (by decide +kernel)]; kernel_rfl) | (rw [if_neg (by decide +kernel)]; exact ⟨rfl, rfl⟩))
    (fun os started H enc _ => lifted os started H enc)
theorem stands : (Tryd.f3.params.toList.all fun t => !Tryd.prog.wantsStandIn t) = true := by kernel_rfl
theorem proved : Rows.RefsNamesCardSaid :=
  Claim7.holds_tied_plain_at .later [] [.data, .pinned] true (true, "5defad6e9229b018b8cffc6a957cd5b0e93684f90a6a4b65029a4b7506ac245b") true
    over (fun _ h => by cases h) (by kernel_rfl) (fun _ h => by cases h) refsNames_row_tie rfl ⟨rfl, rfl⟩ (by kernel_rfl) rfl
    (fun f fn hf hfn => by
      obtain rfl : f = 3 := (Option.some.inj ((show Tryd.prog.funcNamed "gitlike/gitlikelaw7.RefsNames" = some 3 by kernel_rfl).symm.trans hf)).symm
      obtain rfl : fn = Tryd.f3 := (Option.some.inj (Tryd.func3.symm.trans hfn)).symm
      exact ⟨by kernel_rfl, fun j t ht => by
        rw [← Array.getElem?_toList] at ht
        have := List.all_eq_true.1 stands t (List.mem_of_getElem? ht)
        exact (show Tryd.prog.wantsStandIn t = false by simpa using this)⟩)
    (by kernel_rfl)
#print axioms proved
end Go.Proofs.YtijidndhlgbjhaaDoor.refsNames
