import Derived.Test.YtfgljddikcghhaaDoorAs
import Derived.Test.YtfgljddikcghhaaDoorCodeR
namespace Go.Proofs.YtfgljddikcghhaaDoor
open Go.RowKit
variable [Globs] [K_errors_errorType]
set_option linter.unusedSectionVars false
set_option linter.unusedVariables false
set_option linter.unusedSimpArgs false

theorem Stays.refl {F : Nat → Prop} {w : World} (h : ∀ b, F b → b < w.heap.size) : Stays F w F w := ⟨rfl, rfl, rfl, Nat.le_refl _, fun _ _ => rfl, fun _ h => h, fun _ _ h => h, h⟩
theorem Stays.alloc {F F' : Nat → Prop} {w w' : World} (h : Stays F w F' w') (o : Obj) : Stays F w F' (w'.alloc o) :=
 ⟨h.os, h.tape, h.output, by have := h.size; simp; omega, fun b hb => (alloc_old w' o (Nat.lt_of_lt_of_le hb h.size)).trans (h.same b hb), h.keepF, h.oldF, fun b hb => by have := h.ltF b hb; simp; omega⟩

/-- An error of the program's. -/
abbrev eno (n : Int) : TV := .ifc 28 (i64 n)

theorem as_calls {n : Int} {id ver : Nat} {p : List (Nat × Nat)} {x x' : TV} {H : List Ob} {K : TV → List Ob → Prop} (ho : H[id]? = some (.obj ver x)) (hs2 : setP p x (i64 n) = some x') (hk : K (tb true) (H.set id (.obj ver x'))) :
  VCalls Tryd.prog 18 [eno n, .ifc 43 (.op id ver p)] H K := by
 intro β F w vs hs hv
 obtain ⟨u, us, rfl, h1, h2⟩ := RepL.cons.1 hv
 obtain ⟨u2, us2, rfl, h3, h4⟩ := RepL.cons.1 h2
 rw [RepL.nil] at h4; subst h4
 -- the two arguments
 have e1 : u = .iface 28 (.int .i64 n) := by
  rcases h1 with h | h | ⟨xs0, h, rfl⟩
  ·cases h
  ·cases h
  ·rw [RepC] at h
   obtain ⟨v, rfl, vs, h, rfl⟩ := h
   rw [RepC] at h
   obtain ⟨rfl, _⟩ := h
   rfl
 obtain ⟨b, o, hbo, rfl⟩ : ∃ b o, β id ver = some (b, o) ∧ u2 = .iface 43 (.pointer (some ⟨b, o + span p, none⟩)) := by
  rcases h3 with h | h | ⟨xs0, h, rfl⟩
  ·cases h
  ·cases h
  ·rw [RepC] at h
   obtain ⟨v, rfl, vs, h, rfl⟩ := h
   rw [RepC] at h
   obtain ⟨_, b, o, hb, rfl⟩ := h
   exact ⟨b, o, hb, rfl⟩
 subst e1
 have hgl := hs.glob.at K_errors_errorType.k
 have hg : w.cell? ⟨0, 0, none⟩ = some (.iface 101 (.agg #[.pointer (some ⟨2, 25, none⟩)])) := hgl 0 _ rfl
 have hrow : ∀ c w, RepC c w (i64 n) [.int .i64 n] := fun c w => by rw [RepC]; exact ⟨rfl, rfl⟩
 obtain ⟨_, _, ht⟩ := hs.store ho hbo hs2 (hrow _ _)
 obtain ⟨t1, t2⟩ := ht 0 (by simp)
 obtain ⟨old, hold⟩ := Option.isSome_iff_exists.1 t1
 refine (as_hit n ⟨b, o + span p, none⟩ old w hg hold t2).mono ?_
 rintro e w' ⟨rfl, rfl⟩
 have hst := ((((Stays.refl (F := F) hs.lt).alloc (.cells #[.pointer (some ⟨b, o + span p, none⟩)] 43)).alloc (.cells #[.pointer (some ⟨2, 43, none⟩), .pointer (some ⟨w.heap.size, 0, none⟩), .int .u64 150] 61)).alloc (.cells #[.pointer (some ⟨2, 43, none⟩), .pointer (some ⟨w.heap.size, 0, none⟩), .int .u64 150] 61)).alloc (.cells #[.int .i64 n] 28)
 obtain ⟨k1, k2, _⟩ := (hst.sim hs).store ho hbo hs2 (hrow _ _)
 exact ⟨_, tb true, β, _, F, rfl, hk, k1, hst.later.trans k2, Rep.of_val⟩

/-- api.Tell of an error of the program's, and of none. -/
theorem tell {n : Int} : VPure Tryd.prog 8 [eno n] (fun x => x = i64 n) := by
 refine VCalls.toPureV (go_api_Tell (by simp) ?_)
 simp -dsimp (disch := first | assumption | omega) only [↓vmPre, vmPost, vmWrd, vmDat, eq_self, forall_const, Nat.reduceLT, Nat.reduceEqDiff, Nat.reduceSub, Nat.reduceMul, Nat.reduceMod, Nat.reduceDiv, Nat.reducePow, UInt8.reduceToNat, Int.reduceEq, Int.reduceLT, Int.reduceLE, ↓reduceIte, Nat.reduceAdd, Int.reduceToNat, reduceCtorEq, Nat.reduceLeDiff, ↓u_api_Tell]
 refine as_calls (x := i64 ((0 : Nat) : Int)) (x' := i64 n) rfl (by rw [setP_nil]; rfl) ?_
 simp -dsimp (disch := first | assumption | omega) only [↓vmPre, vmPost, vmWrd, vmDat, eq_self, forall_const, Nat.reduceLT, Nat.reduceEqDiff, Nat.reduceSub, Nat.reduceMul, Nat.reduceMod, Nat.reduceDiv, Nat.reducePow, UInt8.reduceToNat, Int.reduceEq, Int.reduceLT, Int.reduceLE, ↓reduceIte, Nat.reduceAdd, Int.reduceToNat, reduceCtorEq, Nat.reduceLeDiff, ↓u_api_Tell]
theorem tell0 : VPure Tryd.prog 8 [.val .nilIface] (fun x => x = i64 ((0 : Nat) : Int)) := by
 refine VCalls.toPureV (go_api_Tell (by simp) ?_)
 simp -dsimp (disch := first | assumption | omega) only [↓vmPre, vmPost, vmWrd, vmDat, eq_self, forall_const, Nat.reduceLT, Nat.reduceEqDiff, Nat.reduceSub, Nat.reduceMul, Nat.reduceMod, Nat.reduceDiv, Nat.reducePow, UInt8.reduceToNat, Int.reduceEq, Int.reduceLT, Int.reduceLE, ↓reduceIte, Nat.reduceAdd, Int.reduceToNat, reduceCtorEq, Nat.reduceLeDiff, ↓u_api_Tell]
end Go.Proofs.YtfgljddikcghhaaDoor

