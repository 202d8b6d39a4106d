/- DeflateRoundCard: the law, proved out of contracts of the functions that it reaches (texts merged; names shortened by a program). No condition is laid on it. -/
import Derived.Test.YtfgljddikcghhaaDoorQG
import Derived.SevenTiedAt
import Derived.Test.YtfgljddikcghhaaDoorCards
import Derived.Test.YtfgljddikcghhaaDoorTie
import Derived.Test.YtfgljddikcghhaaDoorRows
import Derived.Test.YtfgljddikcghhaaDoorProg
import Derived.WalkKit
import Derived.ProofKit
import Derived.OpenShut
import Derived.ShutString
import Derived.ChangeOld
import Derived.Below
import Derived.SizedLaws
import Derived.ChangeVars
import Derived.LaidLaws
import Derived.LaidHandle
import Derived.Stop.Joined
import Derived.ClosedOfChecked
import Derived.Test.YtfgljddikcghhaaDoorQD
namespace Go.Proofs.YtfgljddikcghhaaDoor.deflateRound
open Go.ChangeShapes Go.WideShapes Go.ChangeAt Go.RowKit
set_option linter.unusedVariables false

theorem own : ownKnob Tryd.prog.godebug = none := by kernel_rfl
instance gi : AO := ⟨[(0, CW), (1, Ba)], by kernel_rfl⟩
instance : Ey := ⟨by kernel_rfl⟩
instance : Be := ⟨by kernel_rfl⟩
theorem et : Tryd.prog.globalNamed "errors.errorType" = some 0 := by kernel_rfl
theorem rt : (Tryd.prog.cutTypes.find? (·.1 == "internal/reflectlite.rtype")).map (·.2) = some 101 := by kernel_rfl
theorem AAN : ((List.range Tryd.prog.types.size).filter fun t => Tryd.prog.rowNamed t [101, 114, 114, 111, 114]) = [25] := by kernel_rfl
theorem Ajg {W : World} (h : handlesMet Tryd.prog [("errors.errorType", Rows.laid_errors_errorType)] W) : ∃ t fr, W.heap[0]? = some (.cells CW.cells.toArray t fr) := by
 obtain ⟨name, u, ty, e1, e2, e3, e4, e5⟩ := h _ (List.mem_singleton.2 rfl)
 have en : name = [101, 114, 114, 111, 114] := (Option.some.inj e1).symm
 subst en
 obtain rfl := Option.some.inj (rt.symm.trans e2)
 have hm : ty ∈ (List.range Tryd.prog.types.size).filter fun t => Tryd.prog.rowNamed t [101, 114, 114, 111, 114] := List.mem_filter.2 ⟨List.mem_range.2 e3, e4⟩
 rw [AAN] at hm
 obtain rfl := List.mem_singleton.1 hm
 have hh : typeHandle Tryd.prog 25 = .pointer (some ⟨2, 25, none⟩) := by kernel_rfl
 rw [hh] at e5
 exact Ar1 et e5
def VU : List (DataW Unit) := [.lit (.int .i64 16), .lit (.int .i64 17), .lit (.int .i64 18), .lit (.int .i64 0), .lit (.int .i64 8), .lit (.int .i64 7), .lit (.int .i64 9), .lit (.int .i64 6), .lit (.int .i64 10), .lit (.int .i64 5), .lit (.int .i64 11), .lit (.int .i64 4), .lit (.int .i64 12), .lit (.int .i64 3), .lit (.int .i64 13), .lit (.int .i64 2), .lit (.int .i64 14), .lit (.int .i64 1), .lit (.int .i64 15)]
theorem WZ {W : World} (h : laidMet Tryd.prog [("gitlike/deflate.order", Rows.laid_gitlike_deflate_order)] W) : ∃ t fr, W.heap[1]? = some (.cells Ba.cells.toArray t fr) :=
 AsI (t := (Tryd.prog.globals[1]?).elim 0 (·.type)) (e := match Tryd.prog.underlying ((Tryd.prog.globals[1]?).elim 0 (·.type)) with | some (.array _ e) => e | _ => 0) (n := Ba.cells.length) h (List.mem_of_getElem? (i := 0) (show [("gitlike/deflate.order", Rows.laid_gitlike_deflate_order)][0]? = some ("gitlike/deflate.order", DataW.agg VU) by kernel_rfl)) (by kernel_rfl) (by kernel_rfl) (by kernel_rfl) (by kernel_rfl) (by kernel_rfl) (by kernel_rfl) (by kernel_rfl)
theorem AlD {W : World} (h : laidMetH Tryd.prog Rows.deflateRoundRow.laid W) : TD (fun b => b < W.heap.size) W := by
 intro g x hx
 have hm := Apm hx
 have h' : laidMet Tryd.prog [("gitlike/deflate.order", Rows.laid_gitlike_deflate_order)] W ∧ handlesMet Tryd.prog [("errors.errorType", Rows.laid_errors_errorType)] W := h
 have hm' : (g, x) ∈ ([(0, CW), (1, Ba)] : List (Nat × GV)) := hm
 simp only [List.mem_cons, List.mem_nil_iff, or_false, Prod.mk.injEq] at hm'
 have key : ∃ t fr, W.heap[g]? = some (.cells x.cells.toArray t fr) := by
  rcases hm' with ⟨rfl, rfl⟩ | ⟨rfl, rfl⟩
  ·exact Ajg h'.2
  ·exact WZ h'.1
 obtain ⟨t, fr, hk⟩ := key
 exact ⟨(Array.getElem?_eq_some_iff.1 hk).1, t, fr, hk⟩
noncomputable def AlM (os : Os) : World :=
 let w0 := World.holding Tryd.prog os ⟨#[], #[.slice none 0 0, .slice none 0 0], []⟩
 let w1 := { w0 with heap := w0.heap.modify 0 fun
   | .cells _ t frozen => .cells CW.cells.toArray t frozen
   | o => o }
 let w2 := { w1 with heap := w1.heap.modify 1 fun
   | .cells _ t frozen => .cells Ba.cells.toArray t frozen
   | o => o }
 w2
theorem AkI (os : Os) (args : Array Value) : laidMetH Tryd.prog Rows.deflateRoundRow.laid ((AlM os).forCall (fun _ _ => 0) ⟨#[], args, []⟩).memory :=
 laidMetH_of_parts (laidMet_of_run' 8 (by kernel_rfl) (by kernel_rfl)) (by kernel_rfl)

theorem AvP : laidOutB Tryd.prog = true ∧ mapsRowed Tryd.prog = true :=
 have H := ClosedOfChecked.allSpec_of Tryd.checked.wellFormed (by kernel_rfl : Tryd.checked.prog.types = Tryd.checked.src.types)
 ⟨ClosedOfChecked.laidOutB_of H (by kernel_rfl), ClosedOfChecked.mapsRowed_of H⟩
theorem Ia {a b : Bool} (h : a = true) (k : b = true) : (a && b) = true := by rw [h, k]; rfl
theorem ADx : (Rows.deflateRoundRow.wf (OpenSpec.ofChange Rows.deflateRoundSpec)) = true := by kernel_rfl
theorem ACT : (laidOutB Tryd.prog) = true := AvP.1
theorem ACg : (mapsRowed Tryd.prog) = true := AvP.2
theorem ACa : (Tryd.f4.params.all (Tryd.prog.readableRec ·)) = true := by kernel_rfl
theorem AC5 : (namedTie Tryd.prog Rows.deflateRoundRow.named Rows.deflateRoundSpec.vars) = true := by kernel_rfl
theorem AD9 : ((Rows.deflateRoundRow.stops == [])) = true := by kernel_rfl
theorem AEa : ((Tryd.prog.stops == [])) = true := by kernel_rfl
theorem AC4 : ((Rows.deflateRoundRow.knobs == [])) = true := by kernel_rfl
theorem ACN : ((Tryd.prog.stopKnobs == [])) = true := by kernel_rfl
theorem ADy : ((Rows.deflateRoundRow.inPlace == Tryd.prog.inPlace 4)) = true := by kernel_rfl
theorem AAC : ((Rows.deflateRoundRow.unfollowed == Tryd.prog.unfollowed 4)) = true := by kernel_rfl
theorem AAy : ((Rows.deflateRoundRow.recurses == Tryd.prog.recurses 4)) = true := by kernel_rfl
theorem ABm : ((Rows.deflateRoundRow.named == Tryd.prog.varsNamed 4)) = true := by kernel_rfl
theorem Az8 : ((Rows.deflateRoundRow.maps == (Tryd.f4.params.toList ++ Rows.deflateRoundSpec.plain.varTypes Tryd.prog).any (Tryd.prog.mapsRec ·))) = true := by kernel_rfl
theorem AAs : ((Rows.deflateRoundRow.ifaces == (Tryd.f4.params.toList ++ Rows.deflateRoundSpec.plain.varTypes Tryd.prog).any (Tryd.prog.ifacesRec ·))) = true := by kernel_rfl
theorem Azx : ((Rows.deflateRoundRow.mapsOut == Tryd.prog.mapsAmong Tryd.f4.resultTypes.toList)) = true := by kernel_rfl
theorem AAA : ((Rows.deflateRoundRow.loops == (Tryd.f4.params.toList ++ Rows.deflateRoundSpec.plain.varTypes Tryd.prog).any (Tryd.prog.loopsFrom ·))) = true := by kernel_rfl
theorem Az1 : ((Rows.deflateRoundRow.wideKeys == (Tryd.f4.params.toList ++ Rows.deflateRoundSpec.plain.varTypes Tryd.prog ++ Tryd.f4.resultTypes.toList).any (Tryd.prog.wideKeysFrom ·))) = true := by kernel_rfl
theorem AAu : (Rows.deflateRoundSpec.vars.all (Tryd.prog.varReadable ·)) = true := by kernel_rfl
theorem AA6 : (Tryd.f4.resultTypes.all (fun t => Tryd.prog.readableRec t && decide (t < Tryd.prog.types.size))) = true := by kernel_rfl
theorem AzY : ((Rows.deflateRoundRow.ifacesOut == Tryd.f4.resultTypes.toList.any (Tryd.prog.ifacesRec ·))) = true := by kernel_rfl
theorem ABn : ((Rows.deflateRoundRow.loopsOut == Tryd.f4.resultTypes.toList.any (Tryd.prog.loopsFrom ·))) = true := by kernel_rfl
theorem Azi : ((Rows.deflateRoundRow.plainKeys == Tryd.prog.plainKeys)) = true := by kernel_rfl
theorem Azh : (Rows.deflateRoundRow.shortTexts.isNone) = true := by kernel_rfl
theorem AzE : (Tryd.prog.stopsHeard) = true := by kernel_rfl
theorem AAj : (Tryd.prog.mayEnter) = true := by kernel_rfl
theorem AAm : ((Rows.deflateRoundRow.lifted == Tryd.prog.liftsFinal)) = true := by kernel_rfl
theorem AA9 : ((Tryd.prog.make == some Rows.deflateRoundRow.make)) = true := by kernel_rfl
theorem AAq : ((Rows.deflateRoundRow.kinds == (if Rows.deflateRoundRow.domain.isEmpty then [] else Tryd.f4.params.toList.map fun t => match Tryd.prog.underlying t with | some (.int k) => some k | _ => none))) = true := by kernel_rfl
theorem ABF : ((Rows.deflateRoundRow.pinned == Rows.deflateRoundRow.pinnedBy)) = true := by kernel_rfl
theorem AAV : ((Rows.deflateRoundRow.veiled == (Tryd.f4.params.toList ++ Rows.deflateRoundSpec.plain.varTypes Tryd.prog ++ Tryd.f4.resultTypes.toList).any (Tryd.prog.veiledRec ·))) = true := by kernel_rfl
theorem AAB : (Rows.deflateRoundRow.veiledFits Tryd.prog Tryd.f4.params.toList (Tryd.f4.params.toList ++ Rows.deflateRoundSpec.plain.varTypes Tryd.prog ++ Tryd.f4.resultTypes.toList)) = true := by kernel_rfl
set_option maxRecDepth 100000 in
theorem Avn : ((Rows.deflateRoundRow.wf (OpenSpec.ofChange Rows.deflateRoundSpec)) && (laidOutB Tryd.prog) && (mapsRowed Tryd.prog) && (Tryd.f4.params.all (Tryd.prog.readableRec ·)) && (namedTie Tryd.prog Rows.deflateRoundRow.named Rows.deflateRoundSpec.vars) && ((Rows.deflateRoundRow.stops == [])) && ((Tryd.prog.stops == [])) && ((Rows.deflateRoundRow.knobs == [])) && ((Tryd.prog.stopKnobs == [])) && ((Rows.deflateRoundRow.inPlace == Tryd.prog.inPlace 4)) && ((Rows.deflateRoundRow.unfollowed == Tryd.prog.unfollowed 4)) && ((Rows.deflateRoundRow.recurses == Tryd.prog.recurses 4)) && ((Rows.deflateRoundRow.named == Tryd.prog.varsNamed 4)) && ((Rows.deflateRoundRow.maps == (Tryd.f4.params.toList ++ Rows.deflateRoundSpec.plain.varTypes Tryd.prog).any (Tryd.prog.mapsRec ·))) && ((Rows.deflateRoundRow.ifaces == (Tryd.f4.params.toList ++ Rows.deflateRoundSpec.plain.varTypes Tryd.prog).any (Tryd.prog.ifacesRec ·))) && ((Rows.deflateRoundRow.mapsOut == Tryd.prog.mapsAmong Tryd.f4.resultTypes.toList)) && ((Rows.deflateRoundRow.loops == (Tryd.f4.params.toList ++ Rows.deflateRoundSpec.plain.varTypes Tryd.prog).any (Tryd.prog.loopsFrom ·))) && ((Rows.deflateRoundRow.wideKeys == (Tryd.f4.params.toList ++ Rows.deflateRoundSpec.plain.varTypes Tryd.prog ++ Tryd.f4.resultTypes.toList).any (Tryd.prog.wideKeysFrom ·))) && (Rows.deflateRoundSpec.vars.all (Tryd.prog.varReadable ·)) && (Tryd.f4.resultTypes.all (fun t => Tryd.prog.readableRec t && decide (t < Tryd.prog.types.size))) && ((Rows.deflateRoundRow.ifacesOut == Tryd.f4.resultTypes.toList.any (Tryd.prog.ifacesRec ·))) && ((Rows.deflateRoundRow.loopsOut == Tryd.f4.resultTypes.toList.any (Tryd.prog.loopsFrom ·))) && ((Rows.deflateRoundRow.plainKeys == Tryd.prog.plainKeys)) && (Rows.deflateRoundRow.shortTexts.isNone) && (Tryd.prog.stopsHeard) && (Tryd.prog.mayEnter) && ((Rows.deflateRoundRow.lifted == Tryd.prog.liftsFinal)) && ((Tryd.prog.make == some Rows.deflateRoundRow.make)) && ((Rows.deflateRoundRow.kinds == (if Rows.deflateRoundRow.domain.isEmpty then [] else Tryd.f4.params.toList.map fun t => match Tryd.prog.underlying t with | some (.int k) => some k | _ => none))) && ((Rows.deflateRoundRow.pinned == Rows.deflateRoundRow.pinnedBy)) && ((Rows.deflateRoundRow.veiled == (Tryd.f4.params.toList ++ Rows.deflateRoundSpec.plain.varTypes Tryd.prog ++ Tryd.f4.resultTypes.toList).any (Tryd.prog.veiledRec ·))) && (Rows.deflateRoundRow.veiledFits Tryd.prog Tryd.f4.params.toList (Tryd.f4.params.toList ++ Rows.deflateRoundSpec.plain.varTypes Tryd.prog ++ Tryd.f4.resultTypes.toList))) = true := (Ia (Ia (Ia (Ia (Ia (Ia (Ia (Ia (Ia (Ia (Ia (Ia (Ia (Ia (Ia (Ia (Ia (Ia (Ia (Ia (Ia (Ia (Ia (Ia (Ia (Ia (Ia (Ia (Ia (Ia (Ia ADx ACT) ACg) ACa) AC5) AD9) AEa) AC4) ACN) ADy) AAC) AAy) ABm) Az8) AAs) Azx) AAA) Az1) AAu) AA6) AzY) ABn) Azi) Azh) AzE) AAj) AAm) AA9) AAq) ABF) AAV) AAB)
set_option maxRecDepth 100000 in
theorem Anz : joinedFacts Tryd.prog 4 Tryd.f4 Rows.deflateRoundSpec Rows.deflateRoundRow = true := Avn
set_option maxRecDepth 100000 in
theorem lifted (os : Os) (started : os.Started) (H : Type) (enc : TypeId × Value → H) :
  ReturnsInHanded {} Tryd.checked os 4 .any (fun w args => (Rows.deflateRoundSpec.pre enc Tryd.prog Tryd.f4 [] false w args ∧ laidMetH Tryd.prog Rows.deflateRoundRow.laid w) ∧ sizedMet enc Tryd.prog Tryd.f4 (OpenSpec.ofChange Rows.deflateRoundSpec) false w args) (Rows.deflateRoundSpec.post enc Tryd.prog Tryd.f4 false true false false) := by
 refine returnsInHanded_of_change_and (C := Tryd.checked) (X := fun w _ => laidMetH Tryd.prog Rows.deflateRoundRow.laid w) (fun _ _ _ hh h => h.of_heap hh) own started (by kernel_rfl) Tryd.func4
  (ChangeSpec.witness_at (enc := enc) (C := Tryd.checked) (os := os) (X := fun w _ => laidMetH Tryd.prog Rows.deflateRoundRow.laid w) false (AlM os) #[.slice none 0 0, .slice none 0 0] 8 rfl (by kernel_rfl) (by kernel_rfl) (by kernel_rfl) (by kernel_rfl) (by kernel_rfl) (AkI os _)) ?_
 intro W base args ds gs before hval0 hW hcnd hsz0 hL _
 have hsz : (DataW.weightsEach Tryd.prog (Tryd.f4.params.toList ++ Rows.deflateRoundSpec.plain.varTypes Tryd.prog) (ds ++ gs)).all (· ≤ reachBytes) = true := hsz0
 have hval : ∀ (j : Nat) t v, Tryd.f4.params[j]? = some t → args[j]? = some v → Value.okWide Tryd.prog W .any base t v := hval0
 have hW' := hW
 obtain ⟨p, q, hA0, hV, rfl, hfz, hnd⟩ := hW
 have hA : DataW.TrodAll enc Tryd.prog W 0 (fun _ => true) true Tryd.f4.params.toList args.toList ds p := hA0
 obtain ⟨rfl, rfl⟩ := trodVars_none hV
 have hsz2 : (DataW.weightsEach Tryd.prog Tryd.f4.params.toList ds).all (· ≤ reachBytes) = true := by
  have e : Tryd.f4.params.toList ++ Rows.deflateRoundSpec.plain.varTypes Tryd.prog = Tryd.f4.params.toList := by simp [ChangeSpec.plain, Rows.deflateRoundSpec]; rfl
  rw [e, List.append_nil] at hsz; exact hsz
 have hA' := hA
 have hps : (Tryd.f4.params.toList.all fun t => Tryd.prog.readableRec t && decide (t < Tryd.prog.types.size)) = true := by kernel_rfl
 have hv2 : ∀ (j : Nat) t v, Tryd.f4.params.toList[j]? = some t → args.toList[j]? = some v → ∃ base, Value.okWide Tryd.prog W .any base t v := fun j t v h1 h2 => ⟨base, hval j t v (by rw [← Array.getElem?_toList]; exact h1) (by rw [← Array.getElem?_toList]; exact h2)⟩
 rw [Tryd.params4] at hA hsz2 hv2
 obtain ⟨dsE, hdsE⟩ : ∃ x, x = ds := ⟨_, rfl⟩
 refine (ABC (f := 4) (Adm (AgQ Tryd.underlying22 Tryd.underlying5 (by kernel_rfl) (by kernel_rfl)) (Ag2 Tryd.underlying22) (fun _ => rfl) (Adm (AgQ Tryd.underlying22 Tryd.underlying5 (by kernel_rfl) (by kernel_rfl)) (Ag2 Tryd.underlying22) (fun _ => rfl) Aj6)) (fun a h => Au9 a.1 a.2.1 h.1 h.2.1) hA hv2 hsz2 (AlD hL)).mono fun e W' ⟨he, bel⟩ => ?_
 subst he
 have hB := AeE AvP.1 bel hps hA'
 have hAo := hA
 obtain ⟨v0, vs0, d0, ds0, p0, q0, ha0, hd0, hp0, h0, r0⟩ := trodAll_cons hAo
 obtain ⟨v1, vs1, d1, ds1, p1, q1, ha1, hd1, hp1, h1, r1⟩ := trodAll_cons r0
 obtain ⟨hz1, hz2, hz3⟩ := trodAll_nil r1
 have hd : ds = [d0, d1] := by rw [hd0, hd1, hz2]
 subst hd
 exact ⟨_, rfl, _, _, _, [], _, [], hW', trodAll_mk1 (shut_bool Tryd.underlying4 _), hB, rfl, bel.frame _, fun h => by cases h⟩

theorem over : Rows.deflateRoundRow.holds Tryd.pinned (OpenSpec.ofChange Rows.deflateRoundSpec) :=
 OpenClaim.holds_of_wide 4 Tryd.f4 rfl rfl rfl rfl rfl rfl rfl ⟨rfl, rfl, rfl, rfl, rfl⟩ rfl rfl rfl rfl rfl (by kernel_rfl) Tryd.func4 Anz
  (of_decide_eq_true (by kernel_rfl)) (by unfold Func.isWrapper; first | (rw [if_pos (by decide +kernel)]; kernel_rfl) | (rw [if_neg (by decide +kernel)]; exact ⟨rfl, rfl⟩))
  (fun os started H enc _ => lifted os started H enc)
theorem stands : (Tryd.f4.params.toList.all fun t => !Tryd.prog.wantsStandIn t) = true := by kernel_rfl
theorem proved : Rows.DeflateRoundCardSaid :=
 Claim7.holds_tied_plain_at .later [] [.handle, .widerDeep] true (true, "1538c98658cea24f2967e112a5bbd3d13f9cefa50f0a9e06ce3629c5f031b726") true
  over (fun _ h => by cases h) (by kernel_rfl) (fun _ h => by cases h) deflateRound_row_tie rfl ⟨rfl, rfl⟩ (by kernel_rfl) rfl
  (fun f fn hf hfn => by
   obtain rfl : f = 4 := (Option.some.inj ((show Tryd.prog.funcNamed "gitlike/gitlikelaw1.DeflateRound" = some 4 by kernel_rfl).symm.trans hf)).symm
   obtain rfl : fn = Tryd.f4 := (Option.some.inj (Tryd.func4.symm.trans hfn)).symm
   exact ⟨by kernel_rfl, fun j t ht => by
    rw [← Array.getElem?_toList] at ht
    have := List.all_eq_true.1 stands t (List.mem_of_getElem? ht)
    exact (show Tryd.prog.wantsStandIn t = false by simpa using this)⟩)
  (by kernel_rfl)
#print axioms proved
end Go.Proofs.YtfgljddikcghhaaDoor.deflateRound

