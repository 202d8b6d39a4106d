/- MergeCommutes: whatever the input, the statement is true. No condition. -/
import Derived.Test.YtknphdcjopaaoaaRows
import Derived.Test.YtknphdcjopaaoaaProg
import Derived.WalkKit
import Derived.ProofKit
import Derived.OpenShut
import Derived.ShutString
import Derived.ChangeOld
import Derived.Below
import Derived.SizedLaws
import Derived.ChangeVars
import Derived.LaidLaws
import Derived.LaidHandle
import Derived.Stop.Joined
import Derived.Test.YtknphdcjopaaoaaFrame
import Derived.Test.YtknphdcjopaaoaaVnCommLaw
namespace Go.Proofs.Ytknphdcjopaaoaa.mergeCommutes
open Go.ChangeShapes Go.WideShapes Go.ChangeAt Go.RowKit
set_option linter.unusedVariables false

theorem own : ownKnob Try.prog.godebug = none := by kernel_rfl
theorem laidOut : laidOutB Try.prog = true := by kernel_rfl
theorem glob_none {W : World} : GlobOk (fun b => b < W.heap.size) W := fun g x hx => by simp [globOf, globs] at hx

set_option maxRecDepth 100000 in
theorem lifted (os : Os) (started : os.Started) (H : Type) (enc : TypeId × Value → H) :
    ReturnsInHanded {} Try.checked os 9 .any (Rows.mergeCommutesSpec.pre6 enc Try.prog Try.f9 Rows.mergeCommutesRow.domain false) (Rows.mergeCommutesSpec.post enc Try.prog Try.f9 false true false false) := by
  refine returnsInHanded_of_change_sized (C := Try.checked) own started (by kernel_rfl) Try.func9
    (ChangeSpec.witness6 (enc := enc) (C := Try.checked) false ⟨#[], #[.slice none 0 0, .slice none 0 0, .slice none 0 0], []⟩ 8 (by kernel_rfl) (by kernel_rfl) (by kernel_rfl) (by kernel_rfl)) ?_
  intro W base args ds gs before hval0 hW hcnd hsz0 _
  have hsz : (DataW.weightsEach Try.prog (Try.f9.params.toList ++ Rows.mergeCommutesSpec.plain.varTypes Try.prog) (ds ++ gs)).all (· ≤ reachBytes) = true := hsz0
  have hval : ∀ (j : Nat) t v, Try.f9.params[j]? = some t → args[j]? = some v → Value.okWide Try.prog W .any base t v := hval0
  have hW' := hW
  obtain ⟨p, q, hA0, hV, rfl, hfz, hnd⟩ := hW
  have hA : DataW.TrodAll enc Try.prog W 0 (fun _ => true) true Try.f9.params.toList args.toList ds p := hA0
  obtain ⟨rfl, rfl⟩ := trodVars_none hV
  have hsz2 : (DataW.weightsEach Try.prog Try.f9.params.toList ds).all (· ≤ reachBytes) = true := by
    have e : Try.f9.params.toList ++ Rows.mergeCommutesSpec.plain.varTypes Try.prog = Try.f9.params.toList := by simp [ChangeSpec.plain, Rows.mergeCommutesSpec]; rfl
    rw [e, List.append_nil] at hsz; exact hsz
  have hA' := hA
  have hps : (Try.f9.params.toList.all fun t => Try.prog.readableRec t && decide (t < Try.prog.types.size)) = true := by kernel_rfl
  have hv2 : ∀ (j : Nat) t v, Try.f9.params.toList[j]? = some t → args.toList[j]? = some v → ∃ base, Value.okWide Try.prog W .any base t v := fun j t v h1 h2 => ⟨base, hval j t v (by rw [← Array.getElem?_toList]; exact h1) (by rw [← Array.getElem?_toList]; exact h2)⟩
  rw [Try.params9] at hA hsz2 hv2
  obtain ⟨dsE, hdsE⟩ : ∃ x, x = ds := ⟨_, rfl⟩
  refine (framed (f := 9) (coversAll_cons (covers_bytes Try.underlying22 Try.underlying5 (by kernel_rfl) (by kernel_rfl)) (formed_slice Try.underlying22) (fun _ => rfl) (coversAll_cons (covers_bytes Try.underlying22 Try.underlying5 (by kernel_rfl) (by kernel_rfl)) (formed_slice Try.underlying22) (fun _ => rfl) (coversAll_cons (covers_bytes Try.underlying22 Try.underlying5 (by kernel_rfl) (by kernel_rfl)) (formed_slice Try.underlying22) (fun _ => rfl) coversAll_nil))) (fun a h => lawCommutes a.1 a.2.1 a.2.2.1 h.1 h.2.1 h.2.2.1) hA hv2 hsz2 (glob_none)).mono fun e W' ⟨he, bel⟩ => ?_
  subst he
  have hB := trodAll_below laidOut bel hps hA'
  have hAo := hA
  obtain ⟨v0, vs0, d0, ds0, p0, q0, ha0, hd0, hp0, h0, r0⟩ := trodAll_cons hAo
  obtain ⟨v1, vs1, d1, ds1, p1, q1, ha1, hd1, hp1, h1, r1⟩ := trodAll_cons r0
  obtain ⟨v2, vs2, d2, ds2, p2, q2, ha2, hd2, hp2, h2, r2⟩ := trodAll_cons r1
  obtain ⟨hz1, hz2, hz3⟩ := trodAll_nil r2
  have hd : ds = [d0, d1, d2] := by rw [hd0, hd1, hd2, hz2]
  subst hd
  exact ⟨_, rfl, _, _, _, [], _, [], hW', trodAll_mk1 (shut_bool Try.underlying4 _), hB, rfl, bel.frame _, fun h => by cases h⟩

theorem over : Rows.mergeCommutesRow.holds Try.pinned (OpenSpec.ofChange Rows.mergeCommutesSpec) :=
  OpenClaim.holds_of_wide 9 Try.f9 rfl rfl rfl rfl rfl rfl rfl ⟨rfl, rfl, rfl, rfl, rfl⟩ rfl rfl rfl rfl rfl (by kernel_rfl) Try.func9 (by kernel_rfl)
    (of_decide_eq_true (by kernel_rfl)) (by unfold Func.isWrapper; first | (rw [if_pos (by decide +kernel)]; kernel_rfl) | (rw [if_neg (by decide +kernel)]; exact ⟨rfl, rfl⟩))
    (fun os started H enc _ => lifted os started H enc)
theorem proved : Rows.MergeCommutesSaid := over
#print axioms proved
end Go.Proofs.Ytknphdcjopaaoaa.mergeCommutes
