/- DigestHexes: whatever the input, the statement is true. No condition. -/
import Derived.SevenTiedAt
import Derived.Test.YtknphdcjopaaoaaDoorCards
import Derived.Test.YtknphdcjopaaoaaDoorTie
import Derived.Test.YtknphdcjopaaoaaDoorRows
import Derived.Test.YtknphdcjopaaoaaDoorProg
import Derived.WalkKit
import Derived.ProofKit
import Derived.OpenShut
import Derived.ShutString
import Derived.ChangeOld
import Derived.Below
import Derived.SizedLaws
import Derived.ChangeVars
import Derived.LaidLaws
import Derived.LaidHandle
import Derived.Stop.Joined
import Derived.Test.YtknphdcjopaaoaaDoorFrame
import Derived.Test.YtknphdcjopaaoaaDoorVhLaw
namespace Go.Proofs.YtknphdcjopaaoaaDoor.digestHexes
open Go.ChangeShapes Go.WideShapes Go.ChangeAt Go.RowKit
set_option linter.unusedVariables false

theorem own : ownKnob Tryd.prog.godebug = none := by kernel_rfl
theorem laidOut : laidOutB Tryd.prog = true := by kernel_rfl
theorem et : Tryd.prog.globalNamed "errors.errorType" = some 0 := by kernel_rfl
theorem rt : (Tryd.prog.cutTypes.find? (·.1 == "internal/reflectlite.rtype")).map (·.2) = some 115 := by kernel_rfl
theorem oneRow : ((List.range Tryd.prog.types.size).filter fun t => Tryd.prog.rowNamed t [101, 114, 114, 111, 114]) = [25] := by kernel_rfl
theorem handle_of_laid {W : World} (h : laidMetH Tryd.prog Rows.digestHexesRow.laid W) : W.cell? ⟨0, 0, none⟩ = some (.iface 115 (.agg #[.pointer (some ⟨4, 25, none⟩)])) := by
  have h' : laidMet Tryd.prog [] W ∧ handlesMet Tryd.prog Rows.digestHexesRow.laid W := h
  obtain ⟨name, u, ty, e1, e2, e3, e4, e5⟩ := h'.2 _ (List.mem_singleton.2 rfl)
  have en : name = [101, 114, 114, 111, 114] := (Option.some.inj e1).symm
  subst en
  obtain rfl := Option.some.inj (rt.symm.trans e2)
  have hm : ty ∈ (List.range Tryd.prog.types.size).filter fun t => Tryd.prog.rowNamed t [101, 114, 114, 111, 114] := List.mem_filter.2 ⟨List.mem_range.2 e3, e4⟩
  rw [oneRow] at hm
  obtain rfl := List.mem_singleton.1 hm
  have hh : typeHandle Tryd.prog 25 = .pointer (some ⟨4, 25, none⟩) := by kernel_rfl
  rw [hh] at e5
  simpa using World.var?_cell et e5 0
theorem glob_of_laid {W : World} (h : laidMetH Tryd.prog Rows.digestHexesRow.laid W) : GlobOk (fun b => b < W.heap.size) W := by
  intro g x hx
  have hc := handle_of_laid h
  unfold globOf at hx
  simp only [globs, List.find?_cons, List.find?_nil] at hx
  split at hx
  · rename_i hg
    simp only [Option.map_some, Option.some.injEq] at hx
    subst hx
    obtain rfl : g = 0 := by simpa using (beq_iff_eq.1 hg).symm
    refine ⟨cell_lt hc, fun j u hu => ?_⟩
    cases j with
    | zero => simp only [GV.cells, List.getElem?_cons_zero, Option.some.injEq] at hu; subst hu; exact hc
    | succ j => simp [GV.cells] at hu
  · cases hx
noncomputable def laidWorld (os : Os) : World :=
  let w0 := World.holding Tryd.prog os ⟨#[], #[.agg #[.int .u8 0, .int .u8 0, .int .u8 0, .int .u8 0, .int .u8 0, .int .u8 0, .int .u8 0, .int .u8 0, .int .u8 0, .int .u8 0, .int .u8 0, .int .u8 0, .int .u8 0, .int .u8 0, .int .u8 0, .int .u8 0, .int .u8 0, .int .u8 0, .int .u8 0, .int .u8 0], .string ⟨#[]⟩], []⟩
  { w0 with heap := w0.heap.modify 0 fun
      | .cells _ t frozen => .cells #[.iface 115 (.agg #[.pointer (some ⟨4, 25, none⟩)])] t frozen
      | o => o }
theorem laidWorld_met (os : Os) (args : Array Value) : laidMetH Tryd.prog Rows.digestHexesRow.laid ((laidWorld os).forCall (fun _ _ => 0) ⟨#[], args, []⟩).memory :=
  laidMetH_of_parts (laidMet_nil _ _) (by kernel_rfl)

set_option maxRecDepth 100000 in
theorem lifted (os : Os) (started : os.Started) (H : Type) (enc : TypeId × Value → H) :
    ReturnsInHanded {} Tryd.checked os 4 .any (fun w args => (Rows.digestHexesSpec.pre enc Tryd.prog Tryd.f4 [] false w args ∧ laidMetH Tryd.prog Rows.digestHexesRow.laid w) ∧ sizedMet enc Tryd.prog Tryd.f4 (OpenSpec.ofChange Rows.digestHexesSpec) false w args) (Rows.digestHexesSpec.post enc Tryd.prog Tryd.f4 false true false false) := by
  refine returnsInHanded_of_change_and (C := Tryd.checked) (X := fun w _ => laidMetH Tryd.prog Rows.digestHexesRow.laid w) (fun _ _ _ hh h => h.of_heap hh) own started (by kernel_rfl) Tryd.func4
    (ChangeSpec.witness_at (enc := enc) (C := Tryd.checked) (os := os) (X := fun w _ => laidMetH Tryd.prog Rows.digestHexesRow.laid w) false (laidWorld os) #[.agg #[.int .u8 0, .int .u8 0, .int .u8 0, .int .u8 0, .int .u8 0, .int .u8 0, .int .u8 0, .int .u8 0, .int .u8 0, .int .u8 0, .int .u8 0, .int .u8 0, .int .u8 0, .int .u8 0, .int .u8 0, .int .u8 0, .int .u8 0, .int .u8 0, .int .u8 0, .int .u8 0], .string ⟨#[]⟩] 8 rfl (by kernel_rfl) (by kernel_rfl) (by kernel_rfl) (by kernel_rfl) (by kernel_rfl) (laidWorld_met os _)) ?_
  intro W base args ds gs before hval0 hW hcnd hsz0 hL _
  have hsz : (DataW.weightsEach Tryd.prog (Tryd.f4.params.toList ++ Rows.digestHexesSpec.plain.varTypes Tryd.prog) (ds ++ gs)).all (· ≤ reachBytes) = true := hsz0
  have hval : ∀ (j : Nat) t v, Tryd.f4.params[j]? = some t → args[j]? = some v → Value.okWide Tryd.prog W .any base t v := hval0
  have hW' := hW
  obtain ⟨p, q, hA0, hV, rfl, hfz, hnd⟩ := hW
  have hA : DataW.TrodAll enc Tryd.prog W 0 (fun _ => true) true Tryd.f4.params.toList args.toList ds p := hA0
  obtain ⟨rfl, rfl⟩ := trodVars_none hV
  have hsz2 : (DataW.weightsEach Tryd.prog Tryd.f4.params.toList ds).all (· ≤ reachBytes) = true := by
    have e : Tryd.f4.params.toList ++ Rows.digestHexesSpec.plain.varTypes Tryd.prog = Tryd.f4.params.toList := by simp [ChangeSpec.plain, Rows.digestHexesSpec]; rfl
    rw [e, List.append_nil] at hsz; exact hsz
  have hA' := hA
  have hps : (Tryd.f4.params.toList.all fun t => Tryd.prog.readableRec t && decide (t < Tryd.prog.types.size)) = true := by kernel_rfl
  have hv2 : ∀ (j : Nat) t v, Tryd.f4.params.toList[j]? = some t → args.toList[j]? = some v → ∃ base, Value.okWide Tryd.prog W .any base t v := fun j t v h1 h2 => ⟨base, hval j t v (by rw [← Array.getElem?_toList]; exact h1) (by rw [← Array.getElem?_toList]; exact h2)⟩
  rw [Tryd.params4] at hA hsz2 hv2
  obtain ⟨dsE, hdsE⟩ : ∃ x, x = ds := ⟨_, rfl⟩
  refine (framed (f := 4) (coversAll_cons covers_hid (formed_array Tryd.underlying33) (fun _ => rfl) (coversAll_cons (covers_string Tryd.underlying9) (formed_string Tryd.underlying9) (fun _ => rfl) coversAll_nil)) (fun a h => lawHexes a.1 a.2.1 h.1) hA hv2 hsz2 (glob_of_laid hL)).mono fun e W' ⟨he, bel⟩ => ?_
  subst he
  have hB := trodAll_below laidOut bel hps hA'
  have hAo := hA
  obtain ⟨v0, vs0, d0, ds0, p0, q0, ha0, hd0, hp0, h0, r0⟩ := trodAll_cons hAo
  obtain ⟨v1, vs1, d1, ds1, p1, q1, ha1, hd1, hp1, h1, r1⟩ := trodAll_cons r0
  obtain ⟨hz1, hz2, hz3⟩ := trodAll_nil r1
  have hd : ds = [d0, d1] := by rw [hd0, hd1, hz2]
  subst hd
  exact ⟨_, rfl, _, _, _, [], _, [], hW', trodAll_mk1 (shut_bool Tryd.underlying4 _), hB, rfl, bel.frame _, fun h => by cases h⟩

theorem over : Rows.digestHexesRow.holds Tryd.pinned (OpenSpec.ofChange Rows.digestHexesSpec) :=
  OpenClaim.holds_of_wide 4 Tryd.f4 rfl rfl rfl rfl rfl rfl rfl ⟨rfl, rfl, rfl, rfl, rfl⟩ rfl rfl rfl rfl rfl (by kernel_rfl) Tryd.func4 (by kernel_rfl)
    (of_decide_eq_true (by kernel_rfl)) (by unfold Func.isWrapper; first | (rw [if_pos (by decide +kernel)]; kernel_rfl) | (rw [if_neg (by decide +kernel)]; exact ⟨rfl, rfl⟩))
    (fun os started H enc _ => lifted os started H enc)
theorem stands : (Tryd.f4.params.toList.all fun t => !Tryd.prog.wantsStandIn t) = true := by kernel_rfl
theorem proved : Rows.DigestHexesCardSaid :=
  Claim7.holds_tied_plain_at .later [] [.handle] true (true, "4a0d6a793211a72540a6c39d7ab3eacea7a30a16076db96fa30ed2e58c6d1b5c") true
    over (fun _ h => by cases h) (by kernel_rfl) (fun _ h => by cases h) digestHexes_row_tie rfl ⟨rfl, rfl⟩ (by kernel_rfl) rfl
    (fun f fn hf hfn => by
      obtain rfl : f = 4 := (Option.some.inj ((show Tryd.prog.funcNamed "gitlike/gitlikelaw2.DigestHexes" = some 4 by kernel_rfl).symm.trans hf)).symm
      obtain rfl : fn = Tryd.f4 := (Option.some.inj (Tryd.func4.symm.trans hfn)).symm
      exact ⟨by kernel_rfl, fun j t ht => by
        rw [← Array.getElem?_toList] at ht
        have := List.all_eq_true.1 stands t (List.mem_of_getElem? ht)
        exact (show Tryd.prog.wantsStandIn t = false by simpa using this)⟩)
    (by kernel_rfl)
#print axioms proved
end Go.Proofs.YtknphdcjopaaoaaDoor.digestHexes
