/- Numbers in patches: the program's and the document's. -/
import Derived.Test.YtijidndhlgbjhaaDoorCodeP
import Derived.Test.YtijidndhlgbjhaaDoorVsKit
import Derived.Test.YtijidndhlgbjhaaDoorVmQ
import Derived.Test.YtijidndhlgbjhaaDoorVpPlain
namespace Go.Proofs.YtijidndhlgbjhaaDoor
open Go.RowKit
variable [Globs]
set_option linter.unusedSectionVars false
set_option linter.unusedVariables false
set_option linter.unusedSimpArgs false

theorem is_by1 {b : UInt8} : (∀ y : TV, y ∈ [TV.val (Value.int IntKind.u8 (b.toNat : Int))] → isBy y) = True := by
  refine eq_true ?_
  intro y hy
  obtain rfl := List.mem_singleton.1 hy
  exact isBy_by8 b
theorem unby_1 {b : UInt8} : List.map unby [TV.val (Value.int IntKind.u8 (b.toNat : Int))] = [b] := by
  rw [List.map_cons, List.map_nil]; exact congrArg (· :: []) (unby_by8 b)
theorem one_rep {a b : TV} : (List.replicate 1 a).set 0 b = [b] := by simp
/-- The document's Decimal. -/
theorem decimalV (n : Nat) (hn : n ≤ 1000000000) : VPure Tryd.prog 119 [i64 (n : Int)] (fun r => r = ts (Lib.decDigits n)) := by
  refine VCalls.toPureV (go_ref3_Decimal (by simp) ?_)
  by_cases h0 : n = 0
  · subst h0
    simp -dsimp (disch := first | assumption | omega) only [↓vmPre, vmPost, vmWrd, vmDat, eq_self, forall_const, Nat.reduceLT, Nat.reduceEqDiff, Nat.reduceSub, Nat.reduceMul, Nat.reduceMod, Nat.reduceDiv, Nat.reducePow, UInt8.reduceToNat, Int.reduceEq, Int.reduceLT, Int.reduceLE, ↓reduceIte, Nat.reduceEqDiff, Nat.reduceAdd, Int.reduceToNat, reduceCtorEq, Nat.reduceLeDiff, ↓u_ref3_Decimal]
    rw [Lib.decDigits_one (by omega)]
    rfl
  simp -dsimp (disch := first | assumption | omega) only [↓vmPre, vmPost, vmWrd, vmDat, eq_self, forall_const, Nat.reduceLT, Nat.reduceEqDiff, Nat.reduceSub, Nat.reduceMul, Nat.reduceMod, Nat.reduceDiv, Nat.reducePow, UInt8.reduceToNat, Int.reduceEq, Int.reduceLT, Int.reduceLE, ↓reduceIte, Nat.reduceEqDiff, Nat.reduceAdd, Int.reduceToNat, reduceCtorEq, Nat.reduceLeDiff, ↓u_ref3_Decimal]
  have dl := dec_len n
  refine w_loop (fun q e H => ∃ (m : Nat) (s : List UInt8), q = m ∧ m ≤ n ∧ ((m = 0 ∧ s = Lib.decDigits n) ∨ (0 < m ∧ Lib.decDigits n = Lib.decDigits m ++ s)) ∧ e = [(0, i64 (m : Int)), (3, ts s)] ∧ H = []) n ?_ ?_
  · exact ⟨n, [], rfl, Nat.le_refl _, .inr ⟨by omega, by simp⟩, rfl, rfl⟩
  · rintro q e H ⟨m, s, rfl, hmn, hm, rfl, rfl⟩
    have hsl : s.length ≤ n + 1 := by
      rcases hm with ⟨_, rfl⟩ | ⟨_, h⟩
      · exact dl
      · rw [h, List.length_append] at dl; omega
    by_cases hpos : 0 < q
    · have h48 : (48 + q % 10) < 256 := by omega
      have hsl2 : ([UInt8.ofNat (48 + q % 10)] : List UInt8).length + s.length ≤ 9223372036854775807 := by simp only [List.length_cons, List.length_nil]; omega
      simp -dsimp (disch := first | assumption | omega) only [↓vmPre, vmPost, vmWrd, vmDat, eq_self, forall_const, Nat.reduceLT, Nat.reduceEqDiff, Nat.reduceSub, Nat.reduceMul, Nat.reduceMod, Nat.reduceDiv, Nat.reducePow, UInt8.reduceToNat, Int.reduceEq, Int.reduceLT, Int.reduceLE, ↓reduceIte, Nat.reduceEqDiff, Nat.reduceAdd, Int.reduceToNat, reduceCtorEq, Nat.reduceLeDiff, ↓u_ref3_Decimal, one_rep, s_cat, is_by1, unby_by8, hsl2]
      refine Rnd_cut (q / 10) 0 (by omega) (by omega) rfl rfl ⟨q / 10, [UInt8.ofNat (48 + q % 10)] ++ s, rfl, by omega, ?_, rfl, rfl⟩
      have hd : Lib.decDigits n = Lib.decDigits q ++ s := by
        rcases hm with ⟨h, _⟩ | ⟨_, h⟩
        · omega
        · exact h
      by_cases h10 : q < 10
      · refine .inl ⟨by omega, ?_⟩
        rw [hd, Lib.decDigits_one h10, Nat.mod_eq_of_lt h10]
      · refine .inr ⟨by omega, ?_⟩
        rw [hd, Lib.decDigits, dif_neg h10, List.append_assoc]
    · simp -dsimp (disch := first | assumption | omega) only [↓vmPre, vmPost, vmWrd, vmDat, eq_self, forall_const, Nat.reduceLT, Nat.reduceEqDiff, Nat.reduceSub, Nat.reduceMul, Nat.reduceMod, Nat.reduceDiv, Nat.reducePow, UInt8.reduceToNat, Int.reduceEq, Int.reduceLT, Int.reduceLE, ↓reduceIte, Nat.reduceEqDiff, Nat.reduceAdd, Int.reduceToNat, reduceCtorEq, Nat.reduceLeDiff, ↓u_ref3_Decimal]
      rcases hm with ⟨_, rfl⟩ | ⟨h, _⟩
      · rfl
      · omega
end Go.Proofs.YtijidndhlgbjhaaDoor
