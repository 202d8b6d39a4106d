/- diff.Lines: the lines of a text. -/
import Derived.Test.YtijidndhlgbjhaaDoorVlIter
namespace Go.Proofs.YtijidndhlgbjhaaDoor
open Go.RowKit
variable [Globs]
set_option linter.unusedSectionVars false
set_option linter.unusedVariables false
set_option linter.unusedSimpArgs false

theorem one_set {a b : TV} : (List.replicate 1 a).set 0 b = [b] := by simp
theorem take_one' {b : TV} : [b].take 1 = [b] := by simp
theorem take_map {l : List (List UInt8)} {n : Nat} (h : n = l.length) : (l.map ts).take n = l.map ts := by rw [List.take_of_length_le (by simp [h])]
theorem map_ts_app {l : List (List UInt8)} {x : List UInt8} : l.map ts ++ [TV.val (.string (str x))] = (l ++ [x]).map ts := by simp
theorem bytesLines (l : List UInt8) (H : List Ob) : VCalls Tryd.prog 175 [slB l] H (fun x H' => x = .fn (.func 205) [] [.op H.length 0 []] ∧ H' = H ++ [.obj 0 (slB l)]) := by
  refine go_bytes_Lines (by simp) ?_
  simp -dsimp (disch := first | assumption | omega) only [↓vmPre, vmPost, vmWrd, vmDat, eq_self, forall_const, Nat.reduceLT, Nat.reduceEqDiff, Nat.reduceSub, Nat.reduceMul, Nat.reduceMod, Nat.reduceDiv, Nat.reducePow, UInt8.reduceToNat, Int.reduceEq, Int.reduceLT, Int.reduceLE, ↓reduceIte, Nat.reduceEqDiff, Nat.reduceAdd, Int.reduceToNat, reduceCtorEq, Nat.reduceLeDiff, ↓u_bytes_Lines]
theorem diffLines (l : List UInt8) (hl : l.length ≤ 4000) : VFresh Tryd.prog 112 [slB l] (fun x => x = slS (linesOf l)) := by
  refine VCalls.toFreshV (go_diff_Lines (by simp) ?_)
  simp -dsimp (disch := first | assumption | omega) only [↓vmPre, vmPost, vmWrd, vmDat, eq_self, forall_const, Nat.reduceLT, Nat.reduceEqDiff, Nat.reduceSub, Nat.reduceMul, Nat.reduceMod, Nat.reduceDiv, Nat.reducePow, UInt8.reduceToNat, Int.reduceEq, Int.reduceLT, Int.reduceLE, ↓reduceIte, Nat.reduceEqDiff, Nat.reduceAdd, Int.reduceToNat, reduceCtorEq, Nat.reduceLeDiff, ↓u_diff_Lines]
  refine VCalls.mono (bytesLines l _) ?_
  rintro x H' ⟨rfl, rfl⟩
  simp -dsimp (disch := first | assumption | omega) only [↓vmPre, vmPost, vmWrd, vmDat, eq_self, forall_const, Nat.reduceLT, Nat.reduceEqDiff, Nat.reduceSub, Nat.reduceMul, Nat.reduceMod, Nat.reduceDiv, Nat.reducePow, UInt8.reduceToNat, Int.reduceEq, Int.reduceLT, Int.reduceLE, ↓reduceIte, Nat.reduceEqDiff, Nat.reduceAdd, Int.reduceToNat, reduceCtorEq, Nat.reduceLeDiff, ↓u_diff_Lines]
  refine w_rfunc rfl (by kernel_rfl) rfl rfl ?_
  intro N fn ca cb hc
  refine VCalls.mono (lines_iter (id := 3) (sid := 1) (L := 4) (r0 := l) (J := fun _ => False) (I := fun r H => ∃ (done : List (List UInt8)) (v : Nat) (x : TV), RestAs r x ∧ linesOf l = done ++ linesOf r ∧ done.length + r.length ≤ l.length ∧
    H = [.obj 0 (.os 1 2 v [] 0 done.length done.length), .obj 0 x, .obj v (.arr done.length 1 (done.map ts)), .lp .ready none fn N [(2, .val (.slice none 0 0)), (3, .op 0 0 []), (6, .fn (.func 205) [] [.op 1 0 []])] [7] ca cb]) ?_ ?_ ?_ rfl) ?_
  · rintro r H ⟨done, v, x, h1, h2, h3, rfl⟩
    exact ⟨by simp, by omega, x, rfl, h1⟩
  · rintro r H x hne ⟨done, v, x0, h1, h2, h3, rfl⟩ hx
    have hlen := cutL_len r hne
    have hcons := linesOf_cons r hne
    refine vyield_of rfl hc rfl rfl rfl ?_
    simp -dsimp (disch := first | assumption | omega) only [↓vmPre, vmPost, vmWrd, vmDat, eq_self, forall_const, Nat.reduceLT, Nat.reduceEqDiff, Nat.reduceSub, Nat.reduceMul, Nat.reduceMod, Nat.reduceDiv, Nat.reducePow, UInt8.reduceToNat, Int.reduceEq, Int.reduceLT, Int.reduceLE, ↓reduceIte, Nat.reduceEqDiff, Nat.reduceAdd, Int.reduceToNat, reduceCtorEq, Nat.reduceLeDiff, ↓u_diff_Lines, bindE, List.set_cons_succ, List.set_cons_zero, one_set, take_one', List.drop_zero, take_map, map_ts_app, YPost]
    refine ⟨4, ⟨by omega, by omega, .inr ?_⟩, .inl ⟨done ++ [(cutL r).1], v + 1, x, hx, ?_, ?_, ?_⟩⟩
    · rcases hx with rfl | ⟨_, rfl⟩ <;> rfl
    · rw [h2, hcons, List.append_assoc, List.singleton_append]
    · rw [List.length_append, List.length_singleton]; omega
    · simp
  · exact ⟨[], 0, slB l, .inl rfl, rfl, by simp, rfl⟩
  · rintro _ H' (⟨done, v, x, h1, h2, h3, rfl⟩ | h)
    · simp -dsimp (disch := first | assumption | omega) only [↓vmPre, vmPost, vmWrd, vmDat, eq_self, forall_const, Nat.reduceLT, Nat.reduceEqDiff, Nat.reduceSub, Nat.reduceMul, Nat.reduceMod, Nat.reduceDiv, Nat.reducePow, UInt8.reduceToNat, Int.reduceEq, Int.reduceLT, Int.reduceLE, ↓reduceIte, Nat.reduceEqDiff, Nat.reduceAdd, Int.reduceToNat, reduceCtorEq, Nat.reduceLeDiff, ↓u_diff_Lines, RfPost]
      rw [h2]; simp [linesOf, lin]
    · exact h.elim
end Go.Proofs.YtijidndhlgbjhaaDoor
