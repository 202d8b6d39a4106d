/- refs.IsName. -/
import Derived.Test.YtijidndhlgbjhaaDoorVrKit
namespace Go.Proofs.YtijidndhlgbjhaaDoor
open Go.RowKit
variable [Globs]
set_option linter.unusedSectionVars false
set_option linter.unusedVariables false
set_option linter.unusedSimpArgs false

theorem iff_false' {q : Prop} (h : ¬ q) (b : Bool) (hb : b = false) : (b = true ↔ q) := by subst hb; simp [h]
theorem iff_true' {q : Prop} (h : q) (b : Bool) (hb : b = true) : (b = true ↔ q) := by subst hb; simp [h]
theorem part_cases (p : List UInt8) : (partB p = false ∧ (p = [] ∨ ∃ c l, p = c :: l ∧ (c = 46 ∨ (c ≠ 46 ∧ Lib.hasSuffix p [46, 108, 111, 99, 107] = true)))) ∨ (partB p = true ∧ ∃ c l, p = c :: l ∧ c ≠ 46 ∧ Lib.hasSuffix p [46, 108, 111, 99, 107] = false) := by
  cases p with
  | nil => left; exact ⟨by unfold partB; simp, .inl rfl⟩
  | cons c l =>
    by_cases h1 : c = 46
    · left; subst h1; exact ⟨by unfold partB; simp, .inr ⟨_, _, rfl, .inl rfl⟩⟩
    · cases h2 : Lib.hasSuffix (c :: l) [46, 108, 111, 99, 107] with
      | true =>
        left
        have := (hasSuf_lock _).1 h2
        exact ⟨by unfold partB; rw [decide_eq_false_iff_not]; exact fun h => h.2.2 this, .inr ⟨_, _, rfl, .inr ⟨h1, rfl⟩⟩⟩
      | false =>
        right
        have : ¬ (5 ≤ (c :: l).length ∧ (c :: l).drop ((c :: l).length - 5) = [46, 108, 111, 99, 107]) := fun h => by rw [(hasSuf_lock _).2 h] at h2; cases h2
        exact ⟨by unfold partB; rw [decide_eq_true_eq]; exact ⟨by simp, by simpa using h1, this⟩, _, _, rfl, h1, rfl⟩
theorem refsIsNameV [K_MaxLen] (s : List UInt8) (hs : s.length ≤ 100000) : VPure Tryd.prog 15 [ts s] (fun x => ∃ b, x = tb b ∧ (b = true ↔ refP s)) := by
  refine VCalls.toPureV (go_refs_IsName (by simp) ?_)
  by_cases h0 : s = [72, 69, 65, 68]
  · subst h0
    simp -dsimp (disch := first | assumption | omega) only [↓vmPre, vmPost, vmWrd, vmDat, eq_self, forall_const, Nat.reduceLT, Nat.reduceEqDiff, Nat.reduceSub, Nat.reduceMul, Nat.reduceMod, Nat.reduceDiv, Nat.reducePow, UInt8.reduceToNat, Int.reduceEq, Int.reduceLT, Int.reduceLE, ↓reduceIte, Nat.reduceEqDiff, Nat.reduceAdd, Int.reduceToNat, reduceCtorEq, Nat.reduceLeDiff, ↓u_refs_IsName, bl_strN]
    exact ⟨_, rfl, iff_true' (.inl rfl) _ rfl⟩
  by_cases h1 : 60 < s.length
  · simp -dsimp (disch := first | assumption | omega) only [↓vmPre, vmPost, vmWrd, vmDat, eq_self, forall_const, Nat.reduceLT, Nat.reduceEqDiff, Nat.reduceSub, Nat.reduceMul, Nat.reduceMod, Nat.reduceDiv, Nat.reducePow, UInt8.reduceToNat, Int.reduceEq, Int.reduceLT, Int.reduceLE, ↓reduceIte, Nat.reduceEqDiff, Nat.reduceAdd, Int.reduceToNat, reduceCtorEq, Nat.reduceLeDiff, ↓u_refs_IsName, h0, bl_strN]
    exact ⟨_, rfl, iff_false' (fun h => h.elim h0 fun h => by omega) _ rfl⟩
  simp -dsimp (disch := first | assumption | omega) only [↓vmPre, vmPost, vmWrd, vmDat, eq_self, forall_const, Nat.reduceLT, Nat.reduceEqDiff, Nat.reduceSub, Nat.reduceMul, Nat.reduceMod, Nat.reduceDiv, Nat.reducePow, UInt8.reduceToNat, Int.reduceEq, Int.reduceLT, Int.reduceLE, ↓reduceIte, Nat.reduceEqDiff, Nat.reduceAdd, Int.reduceToNat, reduceCtorEq, Nat.reduceLeDiff, ↓u_refs_IsName, h0, bl_strN]
  refine (hasPrefixV s _).calls rfl ?_
  rintro _ rfl
  cases h2 : Lib.hasPrefix s [114, 101, 102, 115, 47] with
  | false =>
    simp -dsimp (disch := first | assumption | omega) only [↓vmPre, vmPost, vmWrd, vmDat, eq_self, forall_const, Nat.reduceLT, Nat.reduceEqDiff, Nat.reduceSub, Nat.reduceMul, Nat.reduceMod, Nat.reduceDiv, Nat.reducePow, UInt8.reduceToNat, Int.reduceEq, Int.reduceLT, Int.reduceLE, ↓reduceIte, Nat.reduceEqDiff, Nat.reduceAdd, Int.reduceToNat, reduceCtorEq, Nat.reduceLeDiff, ↓u_refs_IsName, h0, bl_strN]
    refine ⟨_, rfl, iff_false' (fun h => h.elim h0 fun h => ?_) _ rfl⟩
    rw [(hasPre_refs s).2 h.2.1] at h2; cases h2
  | true =>
  have h2' := (hasPre_refs s).1 h2
  simp -dsimp (disch := first | assumption | omega) only [↓vmPre, vmPost, vmWrd, vmDat, eq_self, forall_const, Nat.reduceLT, Nat.reduceEqDiff, Nat.reduceSub, Nat.reduceMul, Nat.reduceMod, Nat.reduceDiv, Nat.reducePow, UInt8.reduceToNat, Int.reduceEq, Int.reduceLT, Int.reduceLE, ↓reduceIte, Nat.reduceEqDiff, Nat.reduceAdd, Int.reduceToNat, reduceCtorEq, Nat.reduceLeDiff, ↓u_refs_IsName, h0, bl_strN]
  refine (hasSuffixV s [46] (by omega)).calls rfl ?_
  rintro _ rfl
  cases h3 : Lib.hasSuffix s [46] with
  | true =>
    simp -dsimp (disch := first | assumption | omega) only [↓vmPre, vmPost, vmWrd, vmDat, eq_self, forall_const, Nat.reduceLT, Nat.reduceEqDiff, Nat.reduceSub, Nat.reduceMul, Nat.reduceMod, Nat.reduceDiv, Nat.reducePow, UInt8.reduceToNat, Int.reduceEq, Int.reduceLT, Int.reduceLE, ↓reduceIte, Nat.reduceEqDiff, Nat.reduceAdd, Int.reduceToNat, reduceCtorEq, Nat.reduceLeDiff, ↓u_refs_IsName, h0, bl_strN]
    exact ⟨_, rfl, iff_false' (fun h => h.elim h0 fun h => h.2.2.1 ((hasSuf_one s 46).1 h3)) _ rfl⟩
  | false =>
  have h3' : s[s.length - 1]? ≠ some 46 := fun h => by rw [(hasSuf_one s 46).2 h] at h3; cases h3
  simp -dsimp (disch := first | assumption | omega) only [↓vmPre, vmPost, vmWrd, vmDat, eq_self, forall_const, Nat.reduceLT, Nat.reduceEqDiff, Nat.reduceSub, Nat.reduceMul, Nat.reduceMod, Nat.reduceDiv, Nat.reducePow, UInt8.reduceToNat, Int.reduceEq, Int.reduceLT, Int.reduceLE, ↓reduceIte, Nat.reduceEqDiff, Nat.reduceAdd, Int.reduceToNat, reduceCtorEq, Nat.reduceLeDiff, ↓u_refs_IsName, h0, bl_strN]
  refine (containsV s [46, 46] hs).calls rfl ?_
  rintro _ rfl
  cases h4 : Lib.contains s [46, 46] with
  | true =>
    simp -dsimp (disch := first | assumption | omega) only [↓vmPre, vmPost, vmWrd, vmDat, eq_self, forall_const, Nat.reduceLT, Nat.reduceEqDiff, Nat.reduceSub, Nat.reduceMul, Nat.reduceMod, Nat.reduceDiv, Nat.reducePow, UInt8.reduceToNat, Int.reduceEq, Int.reduceLT, Int.reduceLE, ↓reduceIte, Nat.reduceEqDiff, Nat.reduceAdd, Int.reduceToNat, reduceCtorEq, Nat.reduceLeDiff, ↓u_refs_IsName, h0, bl_strN]
    exact ⟨_, rfl, iff_false' (fun h => h.elim h0 fun h => h.2.2.2.1 ((contains_two 46 46 s).1 h4)) _ rfl⟩
  | false =>
  have h4' : ¬ Pair 46 46 s := fun h => by rw [(contains_two 46 46 s).2 h] at h4; cases h4
  simp -dsimp (disch := first | assumption | omega) only [↓vmPre, vmPost, vmWrd, vmDat, eq_self, forall_const, Nat.reduceLT, Nat.reduceEqDiff, Nat.reduceSub, Nat.reduceMul, Nat.reduceMod, Nat.reduceDiv, Nat.reducePow, UInt8.reduceToNat, Int.reduceEq, Int.reduceLT, Int.reduceLE, ↓reduceIte, Nat.reduceEqDiff, Nat.reduceAdd, Int.reduceToNat, reduceCtorEq, Nat.reduceLeDiff, ↓u_refs_IsName, h0, bl_strN]
  refine (containsV s [64, 123] hs).calls rfl ?_
  rintro _ rfl
  cases h5 : Lib.contains s [64, 123] with
  | true =>
    simp -dsimp (disch := first | assumption | omega) only [↓vmPre, vmPost, vmWrd, vmDat, eq_self, forall_const, Nat.reduceLT, Nat.reduceEqDiff, Nat.reduceSub, Nat.reduceMul, Nat.reduceMod, Nat.reduceDiv, Nat.reducePow, UInt8.reduceToNat, Int.reduceEq, Int.reduceLT, Int.reduceLE, ↓reduceIte, Nat.reduceEqDiff, Nat.reduceAdd, Int.reduceToNat, reduceCtorEq, Nat.reduceLeDiff, ↓u_refs_IsName, h0, bl_strN]
    exact ⟨_, rfl, iff_false' (fun h => h.elim h0 fun h => h.2.2.2.2.1 ((contains_two 64 123 s).1 h5)) _ rfl⟩
  | false =>
  have h5' : ¬ Pair 64 123 s := fun h => by rw [(contains_two 64 123 s).2 h] at h5; cases h5
  simp -dsimp (disch := first | assumption | omega) only [↓vmPre, vmPost, vmWrd, vmDat, eq_self, forall_const, Nat.reduceLT, Nat.reduceEqDiff, Nat.reduceSub, Nat.reduceMul, Nat.reduceMod, Nat.reduceDiv, Nat.reducePow, UInt8.reduceToNat, Int.reduceEq, Int.reduceLT, Int.reduceLE, ↓reduceIte, Nat.reduceEqDiff, Nat.reduceAdd, Int.reduceToNat, reduceCtorEq, Nat.reduceLeDiff, ↓u_refs_IsName, h0, bl_strN]
  refine (containsFuncV s (by omega)).calls rfl ?_
  rintro _ ⟨b, rfl, hb⟩
  cases b with
  | true =>
    simp -dsimp (disch := first | assumption | omega) only [↓vmPre, vmPost, vmWrd, vmDat, eq_self, forall_const, Nat.reduceLT, Nat.reduceEqDiff, Nat.reduceSub, Nat.reduceMul, Nat.reduceMod, Nat.reduceDiv, Nat.reducePow, UInt8.reduceToNat, Int.reduceEq, Int.reduceLT, Int.reduceLE, ↓reduceIte, Nat.reduceEqDiff, Nat.reduceAdd, Int.reduceToNat, reduceCtorEq, Nat.reduceLeDiff, ↓u_refs_IsName, h0, bl_strN]
    exact ⟨_, rfl, iff_false' (fun h => h.elim h0 fun h => hb.1 rfl h.2.2.2.2.2.1) _ rfl⟩
  | false =>
  have h6' : ∀ c ∈ s, goodB c = true := Classical.not_not.1 fun h => by have := hb.2 h; cases this
  simp -dsimp (disch := first | assumption | omega) only [↓vmPre, vmPost, vmWrd, vmDat, eq_self, forall_const, Nat.reduceLT, Nat.reduceEqDiff, Nat.reduceSub, Nat.reduceMul, Nat.reduceMod, Nat.reduceDiv, Nat.reducePow, UInt8.reduceToNat, Int.reduceEq, Int.reduceLT, Int.reduceLE, ↓reduceIte, Nat.reduceEqDiff, Nat.reduceAdd, Int.reduceToNat, reduceCtorEq, Nat.reduceLeDiff, ↓u_refs_IsName, h0, bl_strN]
  refine VCalls.mono (splitSeqV s 47 _) ?_
  rintro x H' ⟨rfl, rfl⟩
  have key : refP s ↔ (pieces 47 s).all partB = true := ⟨fun h => h.elim (fun h => absurd h h0) fun h => h.2.2.2.2.2.2, fun h => .inr ⟨by omega, h2', h3', h4', h5', h6', h⟩⟩
  simp -dsimp (disch := first | assumption | omega) only [↓vmPre, vmPost, vmWrd, vmDat, eq_self, forall_const, Nat.reduceLT, Nat.reduceEqDiff, Nat.reduceSub, Nat.reduceMul, Nat.reduceMod, Nat.reduceDiv, Nat.reducePow, UInt8.reduceToNat, Int.reduceEq, Int.reduceLT, Int.reduceLE, ↓reduceIte, Nat.reduceEqDiff, Nat.reduceAdd, Int.reduceToNat, reduceCtorEq, Nat.reduceLeDiff, ↓u_refs_IsName, bl_strN]
  refine w_rfunc rfl (by kernel_rfl) rfl rfl ?_
  intro N fn ca cb hc
  refine VCalls.mono (split_iter (c := 47) (id := 4) (sp := 2) (sid := 1) (sv := 3) (L := 5) (r0 := s)
    (I := fun r H => (pieces 47 s).all partB = (pieces 47 r).all partB ∧ r.length ≤ s.length ∧ H = [.obj 0 (tb false), .obj 0 (ts r), .obj 0 (ts [47]), .obj 0 (i64 ((0 : Nat) : Int)), .lp .ready none fn N [(2, .op 0 0 []), (29, .fn (.func 172) [] [.op 2 0 [], .op 1 0 [], .op 3 0 []])] [30] ca cb])
    (J := fun H => (pieces 47 s).all partB = false ∧ ∃ r, H = [.obj 0 (tb false), .obj 0 (ts r), .obj 0 (ts [47]), .obj 0 (i64 ((0 : Nat) : Int)), .lp .done (some .ret) fn N [(2, .op 0 0 []), (29, .fn (.func 172) [] [.op 2 0 [], .op 1 0 [], .op 3 0 []])] [30] ca cb])
    (E := fun H => ((pieces 47 s).all partB = false ∧ ∃ r, H = [.obj 0 (tb false), .obj 0 (ts r), .obj 0 (ts [47]), .obj 0 (i64 ((0 : Nat) : Int)), .lp .done (some .ret) fn N [(2, .op 0 0 []), (29, .fn (.func 172) [] [.op 2 0 [], .op 1 0 [], .op 3 0 []])] [30] ca cb])
      ∨ ((pieces 47 s).all partB = true ∧ ∃ r, H = [.obj 0 (tb false), .obj 0 (ts r), .obj 0 (ts [47]), .obj 0 (i64 ((0 : Nat) : Int)), .lp .ready none fn N [(2, .op 0 0 []), (29, .fn (.func 172) [] [.op 2 0 [], .op 1 0 [], .op 3 0 []])] [30] ca cb])) ?_ ?_ ?_ ?_ rfl) ?_
  · rintro r H ⟨g1, g2, rfl⟩
    exact ⟨by simp, by omega, rfl, rfl, rfl⟩
  · rintro r H k ⟨g1, g2, rfl⟩ hk hp
    rw [hp, List.all_cons] at g1
    have hlen : (r.take k).length ≤ 1000 := by simp; omega
    refine vyield_of rfl hc rfl rfl rfl ?_
    rcases part_cases (r.take k) with ⟨hn, (h | ⟨c, l, h, (rfl | ⟨hc1, hc2⟩)⟩)⟩ | ⟨hn, c, l, h, hc1, hc2⟩
    · rw [h]
      simp -dsimp (disch := first | assumption | omega) only [↓vmPre, vmPost, vmWrd, vmDat, eq_self, forall_const, Nat.reduceLT, Nat.reduceEqDiff, Nat.reduceSub, Nat.reduceMul, Nat.reduceMod, Nat.reduceDiv, Nat.reducePow, UInt8.reduceToNat, Int.reduceEq, Int.reduceLT, Int.reduceLE, ↓reduceIte, Nat.reduceEqDiff, Nat.reduceAdd, Int.reduceToNat, reduceCtorEq, Nat.reduceLeDiff, ↓u_refs_IsName, bindE, YPost, bl_strN]
      exact .inr ⟨by rw [g1, hn, Bool.false_and], _, rfl⟩
    · rw [h]
      simp -dsimp (disch := first | assumption | omega) only [↓vmPre, vmPost, vmWrd, vmDat, eq_self, forall_const, Nat.reduceLT, Nat.reduceEqDiff, Nat.reduceSub, Nat.reduceMul, Nat.reduceMod, Nat.reduceDiv, Nat.reducePow, UInt8.reduceToNat, Int.reduceEq, Int.reduceLT, Int.reduceLE, ↓reduceIte, Nat.reduceEqDiff, Nat.reduceAdd, Int.reduceToNat, reduceCtorEq, Nat.reduceLeDiff, ↓u_refs_IsName, bindE, YPost, bl_strN]
      exact .inr ⟨by rw [g1, hn, Bool.false_and], _, rfl⟩
    · have hd : ¬ c.toNat = 46 := fun e => hc1 (UInt8.toNat_inj.1 e)
      have hne : ¬ (c :: l) = [] := by simp
      rw [h] at hc2 ⊢
      have hle : (c :: l).length ≤ 9223372036854775807 := by rw [← h]; omega
      simp -dsimp (disch := first | assumption | omega) only [↓vmPre, vmPost, vmWrd, vmDat, eq_self, forall_const, Nat.reduceLT, Nat.reduceEqDiff, Nat.reduceSub, Nat.reduceMul, Nat.reduceMod, Nat.reduceDiv, Nat.reducePow, UInt8.reduceToNat, Int.reduceEq, Int.reduceLT, Int.reduceLE, ↓reduceIte, Nat.reduceEqDiff, Nat.reduceAdd, Int.reduceToNat, reduceCtorEq, Nat.reduceLeDiff, ↓u_refs_IsName, bindE, YPost, bl_strN, hd]
      refine (hasSuffixV (c :: l) [46, 108, 111, 99, 107] hle).calls rfl ?_
      rintro _ rfl
      rw [hc2]
      simp -dsimp (disch := first | assumption | omega) only [↓vmPre, vmPost, vmWrd, vmDat, eq_self, forall_const, Nat.reduceLT, Nat.reduceEqDiff, Nat.reduceSub, Nat.reduceMul, Nat.reduceMod, Nat.reduceDiv, Nat.reducePow, UInt8.reduceToNat, Int.reduceEq, Int.reduceLT, Int.reduceLE, ↓reduceIte, Nat.reduceEqDiff, Nat.reduceAdd, Int.reduceToNat, reduceCtorEq, Nat.reduceLeDiff, ↓u_refs_IsName, bindE, YPost, bl_strN]
      exact .inr ⟨by rw [g1, hn, Bool.false_and], _, rfl⟩
    · have hd : ¬ c.toNat = 46 := fun e => hc1 (UInt8.toNat_inj.1 e)
      have hne : ¬ (c :: l) = [] := by simp
      rw [h] at hc2 ⊢
      have hle : (c :: l).length ≤ 9223372036854775807 := by rw [← h]; omega
      simp -dsimp (disch := first | assumption | omega) only [↓vmPre, vmPost, vmWrd, vmDat, eq_self, forall_const, Nat.reduceLT, Nat.reduceEqDiff, Nat.reduceSub, Nat.reduceMul, Nat.reduceMod, Nat.reduceDiv, Nat.reducePow, UInt8.reduceToNat, Int.reduceEq, Int.reduceLT, Int.reduceLE, ↓reduceIte, Nat.reduceEqDiff, Nat.reduceAdd, Int.reduceToNat, reduceCtorEq, Nat.reduceLeDiff, ↓u_refs_IsName, bindE, YPost, bl_strN, hd]
      refine (hasSuffixV (c :: l) [46, 108, 111, 99, 107] hle).calls rfl ?_
      rintro _ rfl
      rw [hc2]
      simp -dsimp (disch := first | assumption | omega) only [↓vmPre, vmPost, vmWrd, vmDat, eq_self, forall_const, Nat.reduceLT, Nat.reduceEqDiff, Nat.reduceSub, Nat.reduceMul, Nat.reduceMod, Nat.reduceDiv, Nat.reducePow, UInt8.reduceToNat, Int.reduceEq, Int.reduceLT, Int.reduceLE, ↓reduceIte, Nat.reduceEqDiff, Nat.reduceAdd, Int.reduceToNat, reduceCtorEq, Nat.reduceLeDiff, ↓u_refs_IsName, bindE, YPost, bl_strN]
      refine ⟨5, ⟨by omega, by omega, .inl (by omega)⟩, .inl ⟨rfl, rfl, by rw [g1, hn, Bool.true_and], by omega, rfl⟩⟩
  · rintro r H ⟨g1, g2, rfl⟩ hp
    rw [hp, List.all_cons] at g1
    refine vyield_of rfl hc rfl rfl rfl ?_
    rcases part_cases r with ⟨hn, (h | ⟨c, l, h, (rfl | ⟨hc1, hc2⟩)⟩)⟩ | ⟨hn, c, l, h, hc1, hc2⟩
    · rw [h]
      simp -dsimp (disch := first | assumption | omega) only [↓vmPre, vmPost, vmWrd, vmDat, eq_self, forall_const, Nat.reduceLT, Nat.reduceEqDiff, Nat.reduceSub, Nat.reduceMul, Nat.reduceMod, Nat.reduceDiv, Nat.reducePow, UInt8.reduceToNat, Int.reduceEq, Int.reduceLT, Int.reduceLE, ↓reduceIte, Nat.reduceEqDiff, Nat.reduceAdd, Int.reduceToNat, reduceCtorEq, Nat.reduceLeDiff, ↓u_refs_IsName, bindE, YPost, bl_strN]
      exact .inl ⟨by rw [g1, hn, Bool.false_and], _, rfl⟩
    · rw [h]
      simp -dsimp (disch := first | assumption | omega) only [↓vmPre, vmPost, vmWrd, vmDat, eq_self, forall_const, Nat.reduceLT, Nat.reduceEqDiff, Nat.reduceSub, Nat.reduceMul, Nat.reduceMod, Nat.reduceDiv, Nat.reducePow, UInt8.reduceToNat, Int.reduceEq, Int.reduceLT, Int.reduceLE, ↓reduceIte, Nat.reduceEqDiff, Nat.reduceAdd, Int.reduceToNat, reduceCtorEq, Nat.reduceLeDiff, ↓u_refs_IsName, bindE, YPost, bl_strN]
      exact .inl ⟨by rw [g1, hn, Bool.false_and], _, rfl⟩
    · have hd : ¬ c.toNat = 46 := fun e => hc1 (UInt8.toNat_inj.1 e)
      have hne : ¬ (c :: l) = [] := by simp
      rw [h] at hc2 ⊢
      have hle : (c :: l).length ≤ 9223372036854775807 := by rw [← h]; omega
      simp -dsimp (disch := first | assumption | omega) only [↓vmPre, vmPost, vmWrd, vmDat, eq_self, forall_const, Nat.reduceLT, Nat.reduceEqDiff, Nat.reduceSub, Nat.reduceMul, Nat.reduceMod, Nat.reduceDiv, Nat.reducePow, UInt8.reduceToNat, Int.reduceEq, Int.reduceLT, Int.reduceLE, ↓reduceIte, Nat.reduceEqDiff, Nat.reduceAdd, Int.reduceToNat, reduceCtorEq, Nat.reduceLeDiff, ↓u_refs_IsName, bindE, YPost, bl_strN, hd]
      refine (hasSuffixV (c :: l) [46, 108, 111, 99, 107] hle).calls rfl ?_
      rintro _ rfl
      rw [hc2]
      simp -dsimp (disch := first | assumption | omega) only [↓vmPre, vmPost, vmWrd, vmDat, eq_self, forall_const, Nat.reduceLT, Nat.reduceEqDiff, Nat.reduceSub, Nat.reduceMul, Nat.reduceMod, Nat.reduceDiv, Nat.reducePow, UInt8.reduceToNat, Int.reduceEq, Int.reduceLT, Int.reduceLE, ↓reduceIte, Nat.reduceEqDiff, Nat.reduceAdd, Int.reduceToNat, reduceCtorEq, Nat.reduceLeDiff, ↓u_refs_IsName, bindE, YPost, bl_strN]
      exact .inl ⟨by rw [g1, hn, Bool.false_and], _, rfl⟩
    · have hd : ¬ c.toNat = 46 := fun e => hc1 (UInt8.toNat_inj.1 e)
      have hne : ¬ (c :: l) = [] := by simp
      rw [h] at hc2 ⊢
      have hle : (c :: l).length ≤ 9223372036854775807 := by rw [← h]; omega
      simp -dsimp (disch := first | assumption | omega) only [↓vmPre, vmPost, vmWrd, vmDat, eq_self, forall_const, Nat.reduceLT, Nat.reduceEqDiff, Nat.reduceSub, Nat.reduceMul, Nat.reduceMod, Nat.reduceDiv, Nat.reducePow, UInt8.reduceToNat, Int.reduceEq, Int.reduceLT, Int.reduceLE, ↓reduceIte, Nat.reduceEqDiff, Nat.reduceAdd, Int.reduceToNat, reduceCtorEq, Nat.reduceLeDiff, ↓u_refs_IsName, bindE, YPost, bl_strN, hd]
      refine (hasSuffixV (c :: l) [46, 108, 111, 99, 107] hle).calls rfl ?_
      rintro _ rfl
      rw [hc2]
      simp -dsimp (disch := first | assumption | omega) only [↓vmPre, vmPost, vmWrd, vmDat, eq_self, forall_const, Nat.reduceLT, Nat.reduceEqDiff, Nat.reduceSub, Nat.reduceMul, Nat.reduceMod, Nat.reduceDiv, Nat.reducePow, UInt8.reduceToNat, Int.reduceEq, Int.reduceLT, Int.reduceLE, ↓reduceIte, Nat.reduceEqDiff, Nat.reduceAdd, Int.reduceToNat, reduceCtorEq, Nat.reduceLeDiff, ↓u_refs_IsName, bindE, YPost, bl_strN]
      refine ⟨5, ⟨by omega, by omega, .inl (by omega)⟩, .inr ⟨by rw [g1, hn]; rfl, _, rfl⟩⟩
  · exact ⟨rfl, Nat.le_refl _, rfl⟩
  · rintro _ H' ((⟨g1, r, rfl⟩ | ⟨g1, r, rfl⟩) | ⟨g1, r, rfl⟩)
    · simp -dsimp (disch := first | assumption | omega) only [↓vmPre, vmPost, vmWrd, vmDat, eq_self, forall_const, Nat.reduceLT, Nat.reduceEqDiff, Nat.reduceSub, Nat.reduceMul, Nat.reduceMod, Nat.reduceDiv, Nat.reducePow, UInt8.reduceToNat, Int.reduceEq, Int.reduceLT, Int.reduceLE, ↓reduceIte, Nat.reduceEqDiff, Nat.reduceAdd, Int.reduceToNat, reduceCtorEq, Nat.reduceLeDiff, ↓u_refs_IsName, RfPost]
      exact ⟨_, rfl, by rw [key, g1]⟩
    · simp -dsimp (disch := first | assumption | omega) only [↓vmPre, vmPost, vmWrd, vmDat, eq_self, forall_const, Nat.reduceLT, Nat.reduceEqDiff, Nat.reduceSub, Nat.reduceMul, Nat.reduceMod, Nat.reduceDiv, Nat.reducePow, UInt8.reduceToNat, Int.reduceEq, Int.reduceLT, Int.reduceLE, ↓reduceIte, Nat.reduceEqDiff, Nat.reduceAdd, Int.reduceToNat, reduceCtorEq, Nat.reduceLeDiff, ↓u_refs_IsName, RfPost]
      exact ⟨_, rfl, by rw [key, g1]⟩
    · simp -dsimp (disch := first | assumption | omega) only [↓vmPre, vmPost, vmWrd, vmDat, eq_self, forall_const, Nat.reduceLT, Nat.reduceEqDiff, Nat.reduceSub, Nat.reduceMul, Nat.reduceMod, Nat.reduceDiv, Nat.reducePow, UInt8.reduceToNat, Int.reduceEq, Int.reduceLT, Int.reduceLE, ↓reduceIte, Nat.reduceEqDiff, Nat.reduceAdd, Int.reduceToNat, reduceCtorEq, Nat.reduceLeDiff, ↓u_refs_IsName, RfPost]
      exact ⟨_, rfl, by rw [key, g1]⟩
end Go.Proofs.YtijidndhlgbjhaaDoor
