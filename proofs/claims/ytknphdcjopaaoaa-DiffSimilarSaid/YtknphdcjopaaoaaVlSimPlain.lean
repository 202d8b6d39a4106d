/- What two texts have in common: counted in two ways. No program in sight. -/
import Derived.Test.YtknphdcjopaaoaaLinesPlain
namespace Go.Proofs.Ytknphdcjopaaoaa

theorem com_bytes (a b : List UInt8) : com (linesOf a) (linesOf b) ≤ b.length := by
  have := com_le (linesOf b) (linesOf a)
  rwa [linesOf_flat] at this
def sim (a b : List UInt8) : Nat := if a = b then 100 else 200 * com (linesOf a) (linesOf b) / (a.length + b.length)
theorem sim_comm (a b : List UInt8) : sim a b = sim b a := by
  unfold sim
  by_cases h : a = b
  · rw [if_pos h, if_pos h.symm]
  · rw [if_neg h, if_neg (fun e => h e.symm), com_comm, Nat.add_comm]
/-- Those that are not used yet. -/
def rem : List (List UInt8) → List Bool → List (List UInt8)
  | y :: ys, u :: us => if u then rem ys us else y :: rem ys us
  | _, _ => []
theorem rem_none : ∀ (ys : List (List UInt8)), rem ys (List.replicate ys.length false) = ys
  | [] => rfl
  | y :: ys => by rw [List.length_cons, List.replicate_succ, rem, rem_none ys]; rfl
theorem rem_hit {l : List UInt8} : ∀ {ys : List (List UInt8)} {us : List Bool} {k : Nat}, (∀ k', k' < k → ¬ (us[k']? = some false ∧ ys[k']? = some l)) → us[k]? = some false → ys[k]? = some l → l ∈ rem ys us ∧ rem ys (us.set k true) = (rem ys us).erase l
  | [], us, k, _, _, h => by simp at h
  | y :: ys, [], k, _, h, _ => by simp at h
  | y :: ys, u :: us, 0, h0, h1, h2 => by
    simp at h1 h2; subst h1; subst h2
    simp [rem]
  | y :: ys, u :: us, k + 1, h0, h1, h2 => by
    obtain ⟨g1, g2⟩ := rem_hit (l := l) (ys := ys) (us := us) (k := k) (fun k' hk => by have := h0 (k' + 1) (by omega); simpa using this) (by simpa using h1) (by simpa using h2)
    have hf := h0 0 (by omega)
    simp at hf
    rw [List.set_cons_succ, rem, rem]
    cases u with
    | true => exact ⟨g1, g2⟩
    | false =>
      have hne : y ≠ l := hf rfl
      simp only [Bool.false_eq_true, if_false]
      refine ⟨List.mem_cons_of_mem _ g1, ?_⟩
      rw [List.erase_cons, if_neg (by simpa using hne), g2]
theorem rem_miss {l : List UInt8} : ∀ {ys : List (List UInt8)} {us : List Bool}, (∀ k' : Nat, ¬ (us[k']? = some false ∧ ys[k']? = some l)) → l ∉ rem ys us
  | [], us, _ => by simp [rem]
  | y :: ys, [], _ => by simp [rem]
  | y :: ys, u :: us, h => by
    have g := rem_miss (l := l) (ys := ys) (us := us) (fun k' => by have := h (k' + 1); simpa using this)
    have hf := h 0
    simp at hf
    rw [rem]
    cases u with
    | true => exact g
    | false =>
      simp only [Bool.false_eq_true, if_false, List.mem_cons, not_or]
      exact ⟨fun e => hf rfl e.symm, g⟩
end Go.Proofs.Ytknphdcjopaaoaa
