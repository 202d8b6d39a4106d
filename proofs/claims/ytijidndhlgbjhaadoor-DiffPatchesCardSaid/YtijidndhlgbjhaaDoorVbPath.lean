/- strings.Builder: its row within what bears it. -/
import Derived.Test.YtijidndhlgbjhaaDoorVbString
namespace Go.Proofs.YtijidndhlgbjhaaDoor
open Go.RowKit
variable [Globs]
set_option linter.unusedSectionVars false
set_option linter.unusedVariables false
set_option linter.unusedSimpArgs false

theorem getP_app : ∀ {p q : List (Nat × Nat)} {x : TV}, getP (p ++ q) x = (getP p x).bind (getP q)
  | [], q, x => by rw [getP_nil]; rfl
  | (i, d) :: p, q, x => by
    cases x with
    | agg cs =>
      rw [List.cons_append, getP_agg, getP_agg]
      split
      · cases cs[i]? with
        | none => rfl
        | some c => exact getP_app
      · rfl
    | arr n k cs =>
      rw [List.cons_append, getP_arr, getP_arr]
      split
      · cases cs[i]? with
        | none => rfl
        | some c => exact getP_app
      · rfl
    | _ => rfl
/-- A builder's row is changed. -/
theorem bld_path {a a' b b' : TV} (ha : width a = 1) (ha' : width a' = 1) (hb : width b = 1) (hb' : width b' = 1) (hn : pureT a' = false) : ∀ {p : List (Nat × Nat)} {x x' : TV}, getP p x = some (.agg [a, b]) → setP p x (.agg [a', b]) = some x' →
    getP (p ++ [(1, 1)]) x' = some b ∧ ∃ x'', setP (p ++ [(1, 1)]) x' b' = some x'' ∧ setP p x (.agg [a', b']) = some x''
  | [], x, x', hg, hs => by
    rw [getP_nil] at hg; cases hg
    have w1 : width (.agg [a', b]) = width (.agg [a, b]) := by simp [width, widths, ha, ha', hb]
    have w2 : width (.agg [a', b']) = width (.agg [a, b]) := by simp [width, widths, ha, ha', hb, hb']
    rw [setP_nil, if_pos w1] at hs; cases hs
    rw [setP_nil, if_pos w2, List.nil_append, getP_agg, setP_agg]
    have h1 : widths ([a', b].take 1) = 1 := by simp [widths, ha']
    rw [if_pos h1, if_pos h1]
    refine ⟨by simp [getP_nil], _, ?_, rfl⟩
    simp [setP_nil, hb, hb']
  | (i, d) :: p, x, x', hg, hs => by
    cases x with
    | agg cs =>
      rw [getP_agg] at hg
      rw [setP_agg] at hs
      split at hg
      · rename_i hw
        rw [if_pos hw] at hs
        cases hc : cs[i]? with
        | none => rw [hc] at hg; cases hg
        | some c =>
          rw [hc] at hg hs
          have hg' : getP p c = some (.agg [a, b]) := hg
          have hs' : ((setP p c (.agg [a', b])).map fun c' => TV.agg (cs.set i c')) = some x' := hs
          obtain ⟨c', h1, rfl⟩ := Option.map_eq_some_iff.1 hs'
          obtain ⟨g1, c'', g2, g3⟩ := bld_path ha ha' hb hb' hn hg' h1
          have hi : i < cs.length := (List.getElem?_eq_some_iff.1 hc).1
          have hti : (cs.set i c').take i = cs.take i := by rw [List.take_set_of_le (Nat.le_refl _)]
          refine ⟨?_, .agg (cs.set i c''), ?_, ?_⟩
          · rw [List.cons_append, getP_agg, hti, if_pos hw, List.getElem?_set_self hi]; exact g1
          · rw [List.cons_append, setP_agg, hti, if_pos hw, List.getElem?_set_self hi]
            show (setP (p ++ [(1, 1)]) c' b').map _ = _
            rw [g2]; simp
          · rw [setP_agg, if_pos hw, hc]
            show (setP p c (.agg [a', b'])).map _ = _
            rw [g3]; rfl
      · cases hg
    | arr n k cs =>
      rw [setP_arr] at hs
      split at hs
      · rename_i h
        have := h.2
        simp [pureT, pureL, hn] at this
      · cases hs
    | _ => cases hg

/-- A builder that has been written to, or not; its row. -/
structure Bld (H : List Ob) (id ver : Nat) (p : List (Nat × Nat)) (j v : Nat) (x : TV) (l : List UInt8) : Prop where
  ob : H[id]? = some (.obj ver x)
  fields : ∃ a, BldSelf id ver p a ∧ getP p x = some (.agg [a, .os 1 j v [] 0 l.length l.length])
  row : H[j]? = some (.bld v 5 l)
  ne : id ≠ j
  fact : ∃ (q : Nat) (T : TypeId) (m : Nat), H[q]? = some (Ob.fact id ver T m) ∧ lies T m (span p)
theorem width_self {id ver : Nat} {p : List (Nat × Nat)} {a : TV} (h : BldSelf id ver p a) : width a = 1 := by rcases h with rfl | rfl <;> rfl

end Go.Proofs.YtijidndhlgbjhaaDoor
