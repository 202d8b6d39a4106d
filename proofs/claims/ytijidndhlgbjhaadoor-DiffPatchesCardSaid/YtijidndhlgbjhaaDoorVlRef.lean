/- The reference's lines and edits. -/
import Derived.Test.YtijidndhlgbjhaaDoorVlLines
namespace Go.Proofs.YtijidndhlgbjhaaDoor
open Go.RowKit
variable [Globs]
set_option linter.unusedSectionVars false
set_option linter.unusedVariables false
set_option linter.unusedSimpArgs false

/-- So far: the whole lines, the line begun, what is left. -/
structure Cutting (l : List UInt8) (ls : List (List UInt8)) (f k : Nat) : Prop where
  fk : f ≤ k
  kn : k ≤ l.length
  eq : linesOf l = ls ++ lin ((l.take k).drop f) (l.drop k)
  ln : ls.length ≤ k
  last : k = l.length → f = k

theorem Cutting.start (l : List UInt8) : Cutting l [] 0 0 := ⟨by omega, by omega, by simp [linesOf], by simp, fun _ => rfl⟩
theorem Cutting.goes {l : List UInt8} {ls : List (List UInt8)} {f k : Nat} (h : Cutting l ls f k) (hk : k < l.length) (h10 : l[k] ≠ 10) (hl : k + 1 ≠ l.length) : Cutting l ls f (k + 1) := by
  have fk := h.fk
  have hfl : f ≤ (l.take k).length := by rw [List.length_take]; omega
  refine ⟨by omega, by omega, ?_, by have := h.ln; omega, fun e => absurd e hl⟩
  rw [h.eq, List.drop_eq_getElem_cons hk, lin, if_neg h10]
  congr 2
  rw [List.take_succ_eq_append_getElem hk, List.drop_append_of_le_length hfl]
theorem Cutting.ends {l : List UInt8} {ls : List (List UInt8)} {f k : Nat} (h : Cutting l ls f k) (hk : k < l.length) (he : l[k] = 10 ∨ k + 1 = l.length) : Cutting l (ls ++ [(l.drop f).take (k + 1 - f)]) (k + 1) (k + 1) := by
  have fk := h.fk
  have hfl : f ≤ (l.take k).length := by rw [List.length_take]; omega
  rw [← List.drop_take]
  have e : (l.take (k + 1)).drop f = (l.take k).drop f ++ [l[k]] := by
    rw [List.take_succ_eq_append_getElem hk, List.drop_append_of_le_length hfl]
  refine ⟨by omega, by omega, ?_, by have := h.ln; simp; omega, fun _ => rfl⟩
  have e0 : (l.take (k + 1)).drop (k + 1) = [] := List.drop_eq_nil_of_le (by simp; omega)
  rw [h.eq, List.drop_eq_getElem_cons hk, e0, e, lin, List.append_assoc]
  generalize l[k] = z at *
  by_cases h10 : z = 10
  · rw [if_pos h10]; rfl
  · have hl : k + 1 = l.length := he.resolve_left h10
    rw [if_neg h10, show l.drop (k + 1) = [] from List.drop_eq_nil_of_le (by omega)]
    simp [lin]
theorem Cutting.done {l : List UInt8} {ls : List (List UInt8)} {f k : Nat} (h : Cutting l ls f k) (hk : ¬ k < l.length) : linesOf l = ls := by
  have h3 := List.length_take_le k l
  have hkn := h.kn
  have e : k = l.length := by omega
  have hf := h.last e
  rw [h.eq, show l.drop k = [] from List.drop_eq_nil_of_le (by omega), show (l.take k).drop f = [] from List.drop_eq_nil_of_le (by omega)]
  simp [lin]


theorem refLines (l : List UInt8) (hl : l.length ≤ 4000) : VPure Tryd.prog 118 [slB l] (fun x => x = slS (linesOf l)) := by
  refine VCalls.toPureV (go_ref10_Lines (by simp) ?_)
  simp -dsimp (disch := first | assumption | omega) only [↓vmPre, vmPost, vmWrd, vmDat, eq_self, forall_const, Nat.reduceLT, Nat.reduceEqDiff, Nat.reduceSub, Nat.reduceMul, Nat.reduceMod, Nat.reduceDiv, Nat.reducePow, UInt8.reduceToNat, Int.reduceEq, Int.reduceLT, Int.reduceLE, ↓reduceIte, Nat.reduceEqDiff, Nat.reduceAdd, Int.reduceToNat, reduceCtorEq, Nat.reduceLeDiff, ↓u_ref10_Lines]
  refine w_loop (fun m e H => ∃ (k f v : Nat) (ls : List (List UInt8)), m = l.length - k ∧ Cutting l ls f k ∧ e = [(0, slB l), (3, .os 1 0 v [] 0 ls.length ls.length), (4, i64 (f : Int)), (5, i64 (k : Int))] ∧ H = [.obj v (.arr ls.length 1 (ls.map ts))]) l.length ?_ ?_
  · exact ⟨0, 0, 0, [], by simp, Cutting.start l, rfl, rfl⟩
  · rintro m e H ⟨k, f, v, ls, rfl, hc, rfl, rfl⟩
    have hfk := hc.fk
    have hkn := hc.kn
    have hln := hc.ln
    by_cases hk : k < l.length
    · have hgk : l[k]? = some l[k] := by simp [hk]
      simp -dsimp (disch := first | assumption | omega) only [↓vmPre, vmPost, vmWrd, vmDat, eq_self, forall_const, Nat.reduceLT, Nat.reduceEqDiff, Nat.reduceSub, Nat.reduceMul, Nat.reduceMod, Nat.reduceDiv, Nat.reducePow, UInt8.reduceToNat, Int.reduceEq, Int.reduceLT, Int.reduceLE, ↓reduceIte, Nat.reduceEqDiff, Nat.reduceAdd, Int.reduceToNat, reduceCtorEq, Nat.reduceLeDiff, ↓u_ref10_Lines, hgk]
      refine vif_cases (fun h10 => ?_) (fun h10 => ?_)
      · have h10' : l[k] = 10 := UInt8.toNat_inj.1 (by have : ((10 : UInt8).toNat) = 10 := rfl; omega)
        have he2 := hc.ends hk (.inl h10')
        simp -dsimp (disch := first | assumption | omega) only [↓vmPre, vmPost, vmWrd, vmDat, eq_self, forall_const, Nat.reduceLT, Nat.reduceEqDiff, Nat.reduceSub, Nat.reduceMul, Nat.reduceMod, Nat.reduceDiv, Nat.reducePow, UInt8.reduceToNat, Int.reduceEq, Int.reduceLT, Int.reduceLE, ↓reduceIte, Nat.reduceEqDiff, Nat.reduceAdd, Int.reduceToNat, reduceCtorEq, Nat.reduceLeDiff, ↓u_ref10_Lines, hgk, one_set, take_one', take_map, map_ts_app]
        exact Rnd_cut (l.length - (k + 1)) 1 (by omega) (by omega) rfl rfl ⟨k + 1, k + 1, v + 1, _, rfl, he2, by simp <;> rfl, by simp⟩
      · have h10' : ¬ l[k] = 10 := fun e => h10 (by rw [e]; rfl)
        simp -dsimp (disch := first | assumption | omega) only [↓vmPre, vmPost, vmWrd, vmDat, eq_self, forall_const, Nat.reduceLT, Nat.reduceEqDiff, Nat.reduceSub, Nat.reduceMul, Nat.reduceMod, Nat.reduceDiv, Nat.reducePow, UInt8.reduceToNat, Int.reduceEq, Int.reduceLT, Int.reduceLE, ↓reduceIte, Nat.reduceEqDiff, Nat.reduceAdd, Int.reduceToNat, reduceCtorEq, Nat.reduceLeDiff, ↓u_ref10_Lines, hgk]
        refine vif_cases (fun hke => ?_) (fun hke => ?_)
        · have he2 := hc.ends hk (.inr (by omega))
          simp -dsimp (disch := first | assumption | omega) only [↓vmPre, vmPost, vmWrd, vmDat, eq_self, forall_const, Nat.reduceLT, Nat.reduceEqDiff, Nat.reduceSub, Nat.reduceMul, Nat.reduceMod, Nat.reduceDiv, Nat.reducePow, UInt8.reduceToNat, Int.reduceEq, Int.reduceLT, Int.reduceLE, ↓reduceIte, Nat.reduceEqDiff, Nat.reduceAdd, Int.reduceToNat, reduceCtorEq, Nat.reduceLeDiff, ↓u_ref10_Lines, hgk, one_set, take_one', take_map, map_ts_app]
          exact Rnd_cut (l.length - (k + 1)) 1 (by omega) (by omega) rfl rfl ⟨k + 1, k + 1, v + 1, _, rfl, he2, by simp <;> rfl, by simp⟩
        · have he2 := hc.goes hk h10' (by omega)
          simp -dsimp (disch := first | assumption | omega) only [↓vmPre, vmPost, vmWrd, vmDat, eq_self, forall_const, Nat.reduceLT, Nat.reduceEqDiff, Nat.reduceSub, Nat.reduceMul, Nat.reduceMod, Nat.reduceDiv, Nat.reducePow, UInt8.reduceToNat, Int.reduceEq, Int.reduceLT, Int.reduceLE, ↓reduceIte, Nat.reduceEqDiff, Nat.reduceAdd, Int.reduceToNat, reduceCtorEq, Nat.reduceLeDiff, ↓u_ref10_Lines, hgk]
          exact Rnd_keep (l.length - (k + 1)) (by omega) (by simp) ⟨k + 1, f, v, _, rfl, he2, rfl, rfl⟩
    · have hd := hc.done hk
      simp -dsimp (disch := first | assumption | omega) only [↓vmPre, vmPost, vmWrd, vmDat, eq_self, forall_const, Nat.reduceLT, Nat.reduceEqDiff, Nat.reduceSub, Nat.reduceMul, Nat.reduceMod, Nat.reduceDiv, Nat.reducePow, UInt8.reduceToNat, Int.reduceEq, Int.reduceLT, Int.reduceLE, ↓reduceIte, Nat.reduceEqDiff, Nat.reduceAdd, Int.reduceToNat, reduceCtorEq, Nat.reduceLeDiff, ↓u_ref10_Lines, take_map, hd]
end Go.Proofs.YtijidndhlgbjhaaDoor
