import Derived.Test.YtfgljddikcghhaaDoorBaseC
import Derived.Test.YtfgljddikcghhaaDoorCodeF
import Derived.Test.YtfgljddikcghhaaDoorVzPBlock
import Derived.RecoverIn
namespace Go.Proofs.YtfgljddikcghhaaDoor
open Go.RowKit
variable [Globs]
set_option linter.unusedSectionVars false
set_option linter.unusedVariables false
set_option linter.unusedSimpArgs false

theorem idle_Inflate : IdleV Tryd.prog 13 3 := by
 intro vs w hvs
 obtain ⟨v0, v1, v2, rfl⟩ : ∃ a b c, vs = [a, b, c] := by
  match vs, hvs with
  | [a, b, c], _ => exact ⟨a, b, c, rfl⟩
 refine callsDIn_of_wpSIn Tryd.func13 rfl trivial fun c0 cs hu => ?_
 apply wpSIn_seq
 apply wpSIn_region
 simp [wpOpsSIn, go_sem, recoverD, hu, Tryd.ntmps13, Exit.thenS]
 refine wpSIn_of_wpIn rfl (wpIn_block (wpIn_seq (wpIn_region_list ?_)))
 refine wpListIn_plain rfl fun K hK => ⟨fun _ _ => trivial, ?_⟩
 rw [show Fence.wide.round = none from rfl, Oper.semAt_none]
 simp [go_sem]
 refine hK _ _ (wpIn_cond_true (by simp [Act.eval]) (wpIn_region_list (wpListIn_plain rfl fun K2 hK2 => ⟨fun _ _ => trivial, ?_⟩)))
 rw [show Fence.wide.round = none from rfl, Oper.semAt_none]
 simp [go_sem]
 refine hK2 _ _ (wpListIn_nil ?_)
 simp [Exit.inBlock, bodyPostS, results, Tryd.results13, go_sem]
 cases c0
 simp_all

theorem errno_asserted (v : Value) (w : World) : (Instr.typeAssert (.iface 28 v) 20 28 true).run Tryd.prog w = .ok (.tuple #[v, .bool true]) w := by kernel_rfl
/-- What the closure stores. -/
def catC : VCode := .seq (.ops [⟨some 4, .p (.mov (.t 11)), none⟩] [0, 1, 2, 4])
  (.ops [⟨some 12, .p (.mov (.t 4)), none⟩,
   ⟨some 13, .p (.iface 28 (.t 12)), none⟩,
   ⟨none, .s (.store 1 (.t 0) (.c (.slice none 0 0))), none⟩,
   ⟨none, .s (.store 1 (.t 1) (.c (.int .i64 ((0 : Nat) : Int)))), none⟩,
   ⟨none, .s (.store 1 (.t 2) (.t 13)), none⟩] [])
theorem catch_Inflate {x0 x1 x2 : TV} {e : Nat} {H : List Ob} {R : List Ob → Prop} (h : vwp Tryd.prog catC (fun x _ H' => match x with | .nor => R H' | _ => False) [(0, x0), (1, x1), (2, x2), (11, i64 (e : Int))] H) :
  CatchV Tryd.prog 13 [x0, x1, x2] (errE e) H R := by
 intro β F w vs hs hv
 obtain ⟨hl, hget⟩ := RepL.get hv
 obtain ⟨v0, hv0, hr0⟩ := hget 0 x0 rfl
 obtain ⟨v1, hv1, hr1⟩ := hget 1 x1 rfl
 obtain ⟨v2, hv2, hr2⟩ := hget 2 x2 rfl
 have hvs : vs = [v0, v1, v2] := by
  match vs, hl, hv0, hv1, hv2 with
  | [a, b, c], _, rfl, rfl, rfl => rfl
 subst hvs
 refine callsDIn_of_wpSIn Tryd.func13 rfl trivial fun c0 cs hu => ?_
 apply wpSIn_seq
 apply wpSIn_region
 simp [wpOpsSIn, go_sem, recoverD, hu, Tryd.ntmps13, Exit.thenS]
 refine wpSIn_of_wpIn rfl (wpIn_block (wpIn_seq (wpIn_region_list ?_)))
 refine wpListIn_plain rfl fun K hK => ⟨fun _ _ => trivial, ?_⟩
 rw [show Fence.wide.round = none from rfl, Oper.semAt_none]
 simp [go_sem]
 refine hK _ _ (wpIn_cond_false (by simp [Act.eval]) (wpIn_seq (wpIn_region_list (wpListIn_plain rfl fun K2 hK2 => ⟨fun _ _ => trivial, ?_⟩))))
 rw [show Fence.wide.round = none from rfl, Oper.semAt_none]
 simp [go_sem, errno_asserted]
 refine hK2 _ _ (wpListIn_plain rfl fun K3 hK3 => ⟨fun _ _ => trivial, ?_⟩)
 rw [show Fence.wide.round = none from rfl, Oper.semAt_none]
 simp [go_sem]
 refine hK3 _ _ (wpListIn_plain rfl fun K4 hK4 => ⟨fun _ _ => trivial, ?_⟩)
 rw [show Fence.wide.round = none from rfl, Oper.semAt_none]
 simp [go_sem]
 refine hK4 _ _ (wpListIn_nil (wpIn_cond_true (by simp [Act.eval]) ?_))
 simp only [catC, vwp] at h
 refine wpIn_seq (wpIn_region_list (vops_sound (ro := none) (nn := 0) (N := Tryd.f13.ntmps) (D := []) (by kernel_rfl) h hs ⟨⟨fun s => ?_, hs.glob⟩, ?_, rfl⟩ ?_))
 ·simp only [get_cons, get]
  by_cases e0 : (0 : Nat) = s
  ·subst e0; simpa using hr0
  by_cases e1 : (1 : Nat) = s
  ·subst e1; simpa using hr1
  by_cases e2 : (2 : Nat) = s
  ·subst e2; simpa using hr2
  by_cases e3 : (11 : Nat) = s
  ·subst e3; simp; exact Rep.of_val
  ·simp [e0, e1, e2, e3]; exact Rep.any
 ·simp [Tryd.ntmps13]
 ·intro e1 H1 β1 F1 w1 a1 h1 hs1 hf1 hl1
  refine wpIn_region_list (vops_sound (ro := none) (nn := 0) (N := Tryd.f13.ntmps) (D := []) (by kernel_rfl) h1 hs1 (hf1.forget _) ?_)
  intro e2 H2 β2 F2 w2 a2 h2 hs2 hf2 hl2
  simp only [Exit.inBlock, bodyPostS]
  refine ⟨hf2.defers, _, rfl, .tuple #[], by simp [results, Tryd.results13, go_sem], rfl, rfl, β2, H2, F2, hs2, hl1.trans hl2, h2⟩
end Go.Proofs.YtfgljddikcghhaaDoor

