/- object.IsName and stage.IsPath; the document's. -/
import Derived.Test.YtijidndhlgbjhaaDoorVkAny
namespace Go.Proofs.YtijidndhlgbjhaaDoor
open Go.RowKit
variable [Globs]
set_option linter.unusedSectionVars false
set_option linter.unusedVariables false
set_option linter.unusedSimpArgs false

/-- Is it an entry's name? -/
def nameOk (s : List UInt8) : Bool := decide (s ≠ [] ∧ s ≠ [46] ∧ s ≠ [46, 46] ∧ s ≠ [46, 103, 105, 116] ∧ s.length ≤ 50 ∧ ¬ ∃ x ∈ s, x ∈ [(47 : UInt8), 0])
theorem isNameV (s : List UInt8) (hs : s.length ≤ 1000) : VPure Tryd.prog 54 [ts s] (fun x => x = tb (nameOk s)) := by
  refine VCalls.toPureV (go_object_IsName (by simp) ?_)
  unfold nameOk
  by_cases h1 : s = []
  · subst h1; simp -dsimp (disch := first | assumption | omega) only [↓vmPre, vmPost, vmWrd, vmDat, eq_self, forall_const, Nat.reduceLT, Nat.reduceEqDiff, Nat.reduceSub, Nat.reduceMul, Nat.reduceMod, Nat.reduceDiv, Nat.reducePow, UInt8.reduceToNat, Int.reduceEq, Int.reduceLT, Int.reduceLE, ↓reduceIte, Nat.reduceEqDiff, Nat.reduceAdd, Int.reduceToNat, reduceCtorEq, Nat.reduceLeDiff, ↓u_object_IsName]; simp
  by_cases h2 : s = [46]
  · subst h2; simp -dsimp (disch := first | assumption | omega) only [↓vmPre, vmPost, vmWrd, vmDat, eq_self, forall_const, Nat.reduceLT, Nat.reduceEqDiff, Nat.reduceSub, Nat.reduceMul, Nat.reduceMod, Nat.reduceDiv, Nat.reducePow, UInt8.reduceToNat, Int.reduceEq, Int.reduceLT, Int.reduceLE, ↓reduceIte, Nat.reduceEqDiff, Nat.reduceAdd, Int.reduceToNat, reduceCtorEq, Nat.reduceLeDiff, ↓u_object_IsName]; simp
  by_cases h3 : s = [46, 46]
  · subst h3; simp -dsimp (disch := first | assumption | omega) only [↓vmPre, vmPost, vmWrd, vmDat, eq_self, forall_const, Nat.reduceLT, Nat.reduceEqDiff, Nat.reduceSub, Nat.reduceMul, Nat.reduceMod, Nat.reduceDiv, Nat.reducePow, UInt8.reduceToNat, Int.reduceEq, Int.reduceLT, Int.reduceLE, ↓reduceIte, Nat.reduceEqDiff, Nat.reduceAdd, Int.reduceToNat, reduceCtorEq, Nat.reduceLeDiff, ↓u_object_IsName]; simp
  by_cases h4 : s = [46, 103, 105, 116]
  · subst h4; simp -dsimp (disch := first | assumption | omega) only [↓vmPre, vmPost, vmWrd, vmDat, eq_self, forall_const, Nat.reduceLT, Nat.reduceEqDiff, Nat.reduceSub, Nat.reduceMul, Nat.reduceMod, Nat.reduceDiv, Nat.reducePow, UInt8.reduceToNat, Int.reduceEq, Int.reduceLT, Int.reduceLE, ↓reduceIte, Nat.reduceEqDiff, Nat.reduceAdd, Int.reduceToNat, reduceCtorEq, Nat.reduceLeDiff, ↓u_object_IsName]; simp
  by_cases h5 : s.length ≤ 50
  · simp -dsimp (disch := first | assumption | omega) only [↓vmPre, vmPost, vmWrd, vmDat, eq_self, forall_const, Nat.reduceLT, Nat.reduceEqDiff, Nat.reduceSub, Nat.reduceMul, Nat.reduceMod, Nat.reduceDiv, Nat.reducePow, UInt8.reduceToNat, Int.reduceEq, Int.reduceLT, Int.reduceLE, ↓reduceIte, Nat.reduceEqDiff, Nat.reduceAdd, Int.reduceToNat, reduceCtorEq, Nat.reduceLeDiff, ↓u_object_IsName, h1, h2, h3, h4, bl_strN]
    refine (containsAnyV s 47 0 hs (by decide) (by decide)).calls rfl ?_
    rintro _ rfl
    simp -dsimp (disch := first | assumption | omega) only [↓vmPre, vmPost, vmWrd, vmDat, eq_self, forall_const, Nat.reduceLT, Nat.reduceEqDiff, Nat.reduceSub, Nat.reduceMul, Nat.reduceMod, Nat.reduceDiv, Nat.reducePow, UInt8.reduceToNat, Int.reduceEq, Int.reduceLT, Int.reduceLE, ↓reduceIte, Nat.reduceEqDiff, Nat.reduceAdd, Int.reduceToNat, reduceCtorEq, Nat.reduceLeDiff, ↓u_object_IsName]
    by_cases hb : ∃ x ∈ s, x ∈ [(47 : UInt8), 0]
    · rw [decide_eq_true hb, decide_eq_false (fun h => h.2.2.2.2.2 hb)]; rfl
    · rw [decide_eq_false hb, decide_eq_true ⟨h1, h2, h3, h4, h5, hb⟩]; rfl
  · simp -dsimp (disch := first | assumption | omega) only [↓vmPre, vmPost, vmWrd, vmDat, eq_self, forall_const, Nat.reduceLT, Nat.reduceEqDiff, Nat.reduceSub, Nat.reduceMul, Nat.reduceMod, Nat.reduceDiv, Nat.reducePow, UInt8.reduceToNat, Int.reduceEq, Int.reduceLT, Int.reduceLE, ↓reduceIte, Nat.reduceEqDiff, Nat.reduceAdd, Int.reduceToNat, reduceCtorEq, Nat.reduceLeDiff, ↓u_object_IsName, h1, h2, h3, h4, bl_strN]
    simp [h5]
theorem refIsNameV (s : List UInt8) (hs : s.length ≤ 1000) : VPure Tryd.prog 55 [ts s] (fun x => x = tb (nameOk s)) := by
  refine VCalls.toPureV (go_ref3_IsName (by simp) ?_)
  unfold nameOk
  by_cases h1 : s = []
  · subst h1; simp -dsimp (disch := first | assumption | omega) only [↓vmPre, vmPost, vmWrd, vmDat, eq_self, forall_const, Nat.reduceLT, Nat.reduceEqDiff, Nat.reduceSub, Nat.reduceMul, Nat.reduceMod, Nat.reduceDiv, Nat.reducePow, UInt8.reduceToNat, Int.reduceEq, Int.reduceLT, Int.reduceLE, ↓reduceIte, Nat.reduceEqDiff, Nat.reduceAdd, Int.reduceToNat, reduceCtorEq, Nat.reduceLeDiff, ↓u_ref3_IsName, bl_strN]; simp
  by_cases h5 : s.length ≤ 50
  · by_cases h2 : s = [46]
    · subst h2; simp -dsimp (disch := first | assumption | omega) only [↓vmPre, vmPost, vmWrd, vmDat, eq_self, forall_const, Nat.reduceLT, Nat.reduceEqDiff, Nat.reduceSub, Nat.reduceMul, Nat.reduceMod, Nat.reduceDiv, Nat.reducePow, UInt8.reduceToNat, Int.reduceEq, Int.reduceLT, Int.reduceLE, ↓reduceIte, Nat.reduceEqDiff, Nat.reduceAdd, Int.reduceToNat, reduceCtorEq, Nat.reduceLeDiff, ↓u_ref3_IsName, bl_strN]; simp
    by_cases h3 : s = [46, 46]
    · subst h3; simp -dsimp (disch := first | assumption | omega) only [↓vmPre, vmPost, vmWrd, vmDat, eq_self, forall_const, Nat.reduceLT, Nat.reduceEqDiff, Nat.reduceSub, Nat.reduceMul, Nat.reduceMod, Nat.reduceDiv, Nat.reducePow, UInt8.reduceToNat, Int.reduceEq, Int.reduceLT, Int.reduceLE, ↓reduceIte, Nat.reduceEqDiff, Nat.reduceAdd, Int.reduceToNat, reduceCtorEq, Nat.reduceLeDiff, ↓u_ref3_IsName, bl_strN]; simp
    by_cases h4 : s = [46, 103, 105, 116]
    · subst h4; simp -dsimp (disch := first | assumption | omega) only [↓vmPre, vmPost, vmWrd, vmDat, eq_self, forall_const, Nat.reduceLT, Nat.reduceEqDiff, Nat.reduceSub, Nat.reduceMul, Nat.reduceMod, Nat.reduceDiv, Nat.reducePow, UInt8.reduceToNat, Int.reduceEq, Int.reduceLT, Int.reduceLE, ↓reduceIte, Nat.reduceEqDiff, Nat.reduceAdd, Int.reduceToNat, reduceCtorEq, Nat.reduceLeDiff, ↓u_ref3_IsName, bl_strN]; simp
    have hpos : 0 < s.length := List.length_pos_iff.2 h1
    simp -dsimp (disch := first | assumption | omega) only [↓vmPre, vmPost, vmWrd, vmDat, eq_self, forall_const, Nat.reduceLT, Nat.reduceEqDiff, Nat.reduceSub, Nat.reduceMul, Nat.reduceMod, Nat.reduceDiv, Nat.reducePow, UInt8.reduceToNat, Int.reduceEq, Int.reduceLT, Int.reduceLE, ↓reduceIte, Nat.reduceEqDiff, Nat.reduceAdd, Int.reduceToNat, reduceCtorEq, Nat.reduceLeDiff, ↓u_ref3_IsName, h2, h3, h4, bl_strN]
    refine w_loop (fun q e H => ∃ i : Nat, q = s.length - i ∧ i ≤ s.length ∧ (∀ j x, j < i → s[j]? = some x → x ∉ [(47 : UInt8), 0]) ∧ e = [(0, ts s), (3, i64 (i : Int))] ∧ H = []) s.length ?_ ?_
    · exact ⟨0, rfl, by omega, fun j x h => by omega, rfl, rfl⟩
    · rintro q e H ⟨i, rfl, hi, hno, rfl, rfl⟩
      by_cases h : i < s.length
      · obtain ⟨c, hc⟩ : ∃ c, s[i]? = some c := ⟨_, List.getElem?_eq_getElem h⟩
        by_cases c1 : c = 0
        · subst c1
          simp -dsimp (disch := first | assumption | omega) only [↓vmPre, vmPost, vmWrd, vmDat, eq_self, forall_const, Nat.reduceLT, Nat.reduceEqDiff, Nat.reduceSub, Nat.reduceMul, Nat.reduceMod, Nat.reduceDiv, Nat.reducePow, UInt8.reduceToNat, Int.reduceEq, Int.reduceLT, Int.reduceLE, ↓reduceIte, Nat.reduceEqDiff, Nat.reduceAdd, Int.reduceToNat, reduceCtorEq, Nat.reduceLeDiff, ↓u_ref3_IsName, bl_strN, hc]
          rw [decide_eq_false (fun h => h.2.2.2.2.2 ⟨0, List.mem_of_getElem? hc, by simp⟩)]
        by_cases c2 : c = 47
        · subst c2
          simp -dsimp (disch := first | assumption | omega) only [↓vmPre, vmPost, vmWrd, vmDat, eq_self, forall_const, Nat.reduceLT, Nat.reduceEqDiff, Nat.reduceSub, Nat.reduceMul, Nat.reduceMod, Nat.reduceDiv, Nat.reducePow, UInt8.reduceToNat, Int.reduceEq, Int.reduceLT, Int.reduceLE, ↓reduceIte, Nat.reduceEqDiff, Nat.reduceAdd, Int.reduceToNat, reduceCtorEq, Nat.reduceLeDiff, ↓u_ref3_IsName, bl_strN, hc]
          rw [decide_eq_false (fun h => h.2.2.2.2.2 ⟨47, List.mem_of_getElem? hc, by simp⟩)]
        have d1 : ¬ c.toNat = 0 := fun e => c1 (UInt8.toNat_inj.1 e)
        have d2 : ¬ c.toNat = 47 := fun e => c2 (UInt8.toNat_inj.1 e)
        simp -dsimp (disch := first | assumption | omega) only [↓vmPre, vmPost, vmWrd, vmDat, eq_self, forall_const, Nat.reduceLT, Nat.reduceEqDiff, Nat.reduceSub, Nat.reduceMul, Nat.reduceMod, Nat.reduceDiv, Nat.reducePow, UInt8.reduceToNat, Int.reduceEq, Int.reduceLT, Int.reduceLE, ↓reduceIte, Nat.reduceEqDiff, Nat.reduceAdd, Int.reduceToNat, reduceCtorEq, Nat.reduceLeDiff, ↓u_ref3_IsName, bl_strN, hc, d1, d2]
        refine Rnd_keep (s.length - (i + 1)) (by omega) (by simp) ⟨i + 1, rfl, by omega, fun j x hj hx => ?_, rfl, rfl⟩
        by_cases e : j = i
        · subst e; rw [hc] at hx; cases hx; simp [c1, c2]
        · exact hno j x (by omega) hx
      · have hb : ¬ ∃ x ∈ s, x ∈ [(47 : UInt8), 0] := fun ⟨x, hx, hm⟩ => by
          obtain ⟨j, hj, rfl⟩ := List.mem_iff_getElem.1 hx
          exact hno j _ (by omega) (List.getElem?_eq_getElem hj) hm
        simp -dsimp (disch := first | assumption | omega) only [↓vmPre, vmPost, vmWrd, vmDat, eq_self, forall_const, Nat.reduceLT, Nat.reduceEqDiff, Nat.reduceSub, Nat.reduceMul, Nat.reduceMod, Nat.reduceDiv, Nat.reducePow, UInt8.reduceToNat, Int.reduceEq, Int.reduceLT, Int.reduceLE, ↓reduceIte, Nat.reduceEqDiff, Nat.reduceAdd, Int.reduceToNat, reduceCtorEq, Nat.reduceLeDiff, ↓u_ref3_IsName, bl_strN]
        rw [decide_eq_true ⟨h1, h2, h3, h4, h5, hb⟩]
  · have hpos : 0 < s.length := List.length_pos_iff.2 h1
    simp -dsimp (disch := first | assumption | omega) only [↓vmPre, vmPost, vmWrd, vmDat, eq_self, forall_const, Nat.reduceLT, Nat.reduceEqDiff, Nat.reduceSub, Nat.reduceMul, Nat.reduceMod, Nat.reduceDiv, Nat.reducePow, UInt8.reduceToNat, Int.reduceEq, Int.reduceLT, Int.reduceLE, ↓reduceIte, Nat.reduceEqDiff, Nat.reduceAdd, Int.reduceToNat, reduceCtorEq, Nat.reduceLeDiff, ↓u_ref3_IsName, bl_strN]
    simp [h5]
theorem pieces_none {c : UInt8} {l : List UInt8} (h : c ∉ l) : pieces c l = [l] := by
  induction l with
  | nil => rfl
  | cons b l ih => rw [pieces, if_neg (fun e => h (by simp [e])), ih (fun e => h (by simp [e]))]
theorem pieces_some {c : UInt8} {l : List UInt8} {k : Nat} (h : l[k]? = some c) (hn : c ∉ l.take k) : pieces c l = l.take k :: pieces c (l.drop (k + 1)) := by
  induction l generalizing k with
  | nil => simp at h
  | cons b l ih =>
    cases k with
    | zero => simp at h; simp [pieces, h]
    | succ k =>
      rw [List.getElem?_cons_succ] at h
      rw [List.take_succ_cons] at hn
      rw [pieces, if_neg (fun e => hn (by simp [e])), ih h (fun e => hn (by simp [e]))]; rfl
/-- Is it a path? -/
def pathOk (s : List UInt8) : Bool := decide (s.length ≤ 100) && (pieces 47 s).all nameOk
theorem splitSeqV (s : List UInt8) (c : UInt8) (H : List Ob) : VCalls Tryd.prog 53 [ts s, ts [c]] H (fun x H' => x = .fn (.func 172) [] [.op (H.length + 1) 0 [], .op H.length 0 [], .op (H.length + 2) 0 []] ∧ H' = H ++ [.obj 0 (ts s), .obj 0 (ts [c]), .obj 0 (i64 ((0 : Nat) : Int))]) := by
  refine go_strings_SplitSeq (by simp) ?_
  simp -dsimp (disch := first | assumption | omega) only [↓vmPre, vmPost, vmWrd, vmDat, eq_self, forall_const, Nat.reduceLT, Nat.reduceEqDiff, Nat.reduceSub, Nat.reduceMul, Nat.reduceMod, Nat.reduceDiv, Nat.reducePow, UInt8.reduceToNat, Int.reduceEq, Int.reduceLT, Int.reduceLE, ↓reduceIte, Nat.reduceEqDiff, Nat.reduceAdd, Int.reduceToNat, reduceCtorEq, Nat.reduceLeDiff, ↓u_strings_SplitSeq]
  refine go_strings_splitSeq (by simp) ?_
  simp -dsimp (disch := first | assumption | omega) only [↓vmPre, vmPost, vmWrd, vmDat, eq_self, forall_const, Nat.reduceLT, Nat.reduceEqDiff, Nat.reduceSub, Nat.reduceMul, Nat.reduceMod, Nat.reduceDiv, Nat.reducePow, UInt8.reduceToNat, Int.reduceEq, Int.reduceLT, Int.reduceLE, ↓reduceIte, Nat.reduceEqDiff, Nat.reduceAdd, Int.reduceToNat, reduceCtorEq, Nat.reduceLeDiff, ↓u_strings_splitSeq, ↓u_strings_SplitSeq, List.append_assoc]
theorem isPathV (s : List UInt8) (hs : s.length ≤ 20000) : VPure Tryd.prog 17 [ts s] (fun x => x = tb (pathOk s)) := by
  refine VCalls.toPureV (go_stage_IsPath (by simp) ?_)
  unfold pathOk
  by_cases h1 : 100 < s.length
  · simp -dsimp (disch := first | assumption | omega) only [↓vmPre, vmPost, vmWrd, vmDat, eq_self, forall_const, Nat.reduceLT, Nat.reduceEqDiff, Nat.reduceSub, Nat.reduceMul, Nat.reduceMod, Nat.reduceDiv, Nat.reducePow, UInt8.reduceToNat, Int.reduceEq, Int.reduceLT, Int.reduceLE, ↓reduceIte, Nat.reduceEqDiff, Nat.reduceAdd, Int.reduceToNat, reduceCtorEq, Nat.reduceLeDiff, ↓u_stage_IsPath, bl_strN]
    rw [decide_eq_false (by omega)]; rfl
  rw [decide_eq_true (by omega), Bool.true_and]
  simp -dsimp (disch := first | assumption | omega) only [↓vmPre, vmPost, vmWrd, vmDat, eq_self, forall_const, Nat.reduceLT, Nat.reduceEqDiff, Nat.reduceSub, Nat.reduceMul, Nat.reduceMod, Nat.reduceDiv, Nat.reducePow, UInt8.reduceToNat, Int.reduceEq, Int.reduceLT, Int.reduceLE, ↓reduceIte, Nat.reduceEqDiff, Nat.reduceAdd, Int.reduceToNat, reduceCtorEq, Nat.reduceLeDiff, ↓u_stage_IsPath, bl_strN]
  refine VCalls.mono (splitSeqV s 47 _) ?_
  rintro x H' ⟨rfl, rfl⟩
  simp -dsimp (disch := first | assumption | omega) only [↓vmPre, vmPost, vmWrd, vmDat, eq_self, forall_const, Nat.reduceLT, Nat.reduceEqDiff, Nat.reduceSub, Nat.reduceMul, Nat.reduceMod, Nat.reduceDiv, Nat.reducePow, UInt8.reduceToNat, Int.reduceEq, Int.reduceLT, Int.reduceLE, ↓reduceIte, Nat.reduceEqDiff, Nat.reduceAdd, Int.reduceToNat, reduceCtorEq, Nat.reduceLeDiff, ↓u_stage_IsPath]
  refine w_rfunc rfl (by kernel_rfl) rfl rfl ?_
  intro N fn ca cb hc
  refine VCalls.mono (split_iter (c := 47) (id := 4) (sp := 2) (sid := 1) (sv := 3) (L := 5) (r0 := s)
    (I := fun r H => (pieces 47 s).all nameOk = (pieces 47 r).all nameOk ∧ r.length ≤ s.length ∧
      H = [.obj 0 (tb false), .obj 0 (ts r), .obj 0 (ts [47]), .obj 0 (i64 ((0 : Nat) : Int)), .lp .ready none fn N [(2, .op 0 0 []), (8, .fn (.func 172) [] [.op 2 0 [], .op 1 0 [], .op 3 0 []])] [9] ca cb])
    (J := fun H => (pieces 47 s).all nameOk = false ∧ ∃ r, H = [.obj 0 (tb false), .obj 0 (ts r), .obj 0 (ts [47]), .obj 0 (i64 ((0 : Nat) : Int)), .lp .done (some .ret) fn N [(2, .op 0 0 []), (8, .fn (.func 172) [] [.op 2 0 [], .op 1 0 [], .op 3 0 []])] [9] ca cb])
    (E := fun H => ((pieces 47 s).all nameOk = false ∧ ∃ r, H = [.obj 0 (tb false), .obj 0 (ts r), .obj 0 (ts [47]), .obj 0 (i64 ((0 : Nat) : Int)), .lp .done (some .ret) fn N [(2, .op 0 0 []), (8, .fn (.func 172) [] [.op 2 0 [], .op 1 0 [], .op 3 0 []])] [9] ca cb])
      ∨ ((pieces 47 s).all nameOk = true ∧ ∃ r, H = [.obj 0 (tb false), .obj 0 (ts r), .obj 0 (ts [47]), .obj 0 (i64 ((0 : Nat) : Int)), .lp .ready none fn N [(2, .op 0 0 []), (8, .fn (.func 172) [] [.op 2 0 [], .op 1 0 [], .op 3 0 []])] [9] ca cb])) ?_ ?_ ?_ ?_ rfl) ?_
  · rintro r H ⟨g1, g2, rfl⟩
    exact ⟨by simp, by omega, rfl, rfl, rfl⟩
  · rintro r H k ⟨g1, g2, rfl⟩ hk hp
    rw [hp, List.all_cons] at g1
    refine vyield_of rfl hc rfl rfl rfl ?_
    simp -dsimp (disch := first | assumption | omega) only [↓vmPre, vmPost, vmWrd, vmDat, eq_self, forall_const, Nat.reduceLT, Nat.reduceEqDiff, Nat.reduceSub, Nat.reduceMul, Nat.reduceMod, Nat.reduceDiv, Nat.reducePow, UInt8.reduceToNat, Int.reduceEq, Int.reduceLT, Int.reduceLE, ↓reduceIte, Nat.reduceEqDiff, Nat.reduceAdd, Int.reduceToNat, reduceCtorEq, Nat.reduceLeDiff, ↓u_stage_IsPath, bindE, YPost]
    refine (isNameV (r.take k) (by simp; omega)).calls rfl ?_
    rintro _ rfl
    cases hn : nameOk (r.take k) with
    | true =>
      simp -dsimp (disch := first | assumption | omega) only [↓vmPre, vmPost, vmWrd, vmDat, eq_self, forall_const, Nat.reduceLT, Nat.reduceEqDiff, Nat.reduceSub, Nat.reduceMul, Nat.reduceMod, Nat.reduceDiv, Nat.reducePow, UInt8.reduceToNat, Int.reduceEq, Int.reduceLT, Int.reduceLE, ↓reduceIte, Nat.reduceEqDiff, Nat.reduceAdd, Int.reduceToNat, reduceCtorEq, Nat.reduceLeDiff, ↓u_stage_IsPath, bindE, YPost]
      refine ⟨5, ⟨by omega, by omega, .inl (by omega)⟩, .inl ⟨rfl, rfl, by rw [g1, hn, Bool.true_and], by omega, rfl⟩⟩
    | false =>
      simp -dsimp (disch := first | assumption | omega) only [↓vmPre, vmPost, vmWrd, vmDat, eq_self, forall_const, Nat.reduceLT, Nat.reduceEqDiff, Nat.reduceSub, Nat.reduceMul, Nat.reduceMod, Nat.reduceDiv, Nat.reducePow, UInt8.reduceToNat, Int.reduceEq, Int.reduceLT, Int.reduceLE, ↓reduceIte, Nat.reduceEqDiff, Nat.reduceAdd, Int.reduceToNat, reduceCtorEq, Nat.reduceLeDiff, ↓u_stage_IsPath, bindE, YPost]
      exact .inr ⟨by rw [g1, hn, Bool.false_and], r, rfl⟩
  · rintro r H ⟨g1, g2, rfl⟩ hp
    rw [hp, List.all_cons] at g1
    refine vyield_of rfl hc rfl rfl rfl ?_
    simp -dsimp (disch := first | assumption | omega) only [↓vmPre, vmPost, vmWrd, vmDat, eq_self, forall_const, Nat.reduceLT, Nat.reduceEqDiff, Nat.reduceSub, Nat.reduceMul, Nat.reduceMod, Nat.reduceDiv, Nat.reducePow, UInt8.reduceToNat, Int.reduceEq, Int.reduceLT, Int.reduceLE, ↓reduceIte, Nat.reduceEqDiff, Nat.reduceAdd, Int.reduceToNat, reduceCtorEq, Nat.reduceLeDiff, ↓u_stage_IsPath, bindE, YPost]
    refine (isNameV r (by omega)).calls rfl ?_
    rintro _ rfl
    cases hn : nameOk r with
    | true =>
      simp -dsimp (disch := first | assumption | omega) only [↓vmPre, vmPost, vmWrd, vmDat, eq_self, forall_const, Nat.reduceLT, Nat.reduceEqDiff, Nat.reduceSub, Nat.reduceMul, Nat.reduceMod, Nat.reduceDiv, Nat.reducePow, UInt8.reduceToNat, Int.reduceEq, Int.reduceLT, Int.reduceLE, ↓reduceIte, Nat.reduceEqDiff, Nat.reduceAdd, Int.reduceToNat, reduceCtorEq, Nat.reduceLeDiff, ↓u_stage_IsPath, bindE, YPost]
      refine ⟨5, ⟨by omega, by omega, .inl (by omega)⟩, .inr ⟨by rw [g1, hn]; rfl, r, rfl⟩⟩
    | false =>
      simp -dsimp (disch := first | assumption | omega) only [↓vmPre, vmPost, vmWrd, vmDat, eq_self, forall_const, Nat.reduceLT, Nat.reduceEqDiff, Nat.reduceSub, Nat.reduceMul, Nat.reduceMod, Nat.reduceDiv, Nat.reducePow, UInt8.reduceToNat, Int.reduceEq, Int.reduceLT, Int.reduceLE, ↓reduceIte, Nat.reduceEqDiff, Nat.reduceAdd, Int.reduceToNat, reduceCtorEq, Nat.reduceLeDiff, ↓u_stage_IsPath, bindE, YPost]
      exact .inl ⟨by rw [g1, hn, Bool.false_and], r, rfl⟩
  · exact ⟨rfl, Nat.le_refl _, rfl⟩
  · rintro _ H' ((⟨g1, r, rfl⟩ | ⟨g1, r, rfl⟩) | ⟨g1, r, rfl⟩)
    · simp -dsimp (disch := first | assumption | omega) only [↓vmPre, vmPost, vmWrd, vmDat, eq_self, forall_const, Nat.reduceLT, Nat.reduceEqDiff, Nat.reduceSub, Nat.reduceMul, Nat.reduceMod, Nat.reduceDiv, Nat.reducePow, UInt8.reduceToNat, Int.reduceEq, Int.reduceLT, Int.reduceLE, ↓reduceIte, Nat.reduceEqDiff, Nat.reduceAdd, Int.reduceToNat, reduceCtorEq, Nat.reduceLeDiff, ↓u_stage_IsPath, RfPost]
      rw [g1]
    · simp -dsimp (disch := first | assumption | omega) only [↓vmPre, vmPost, vmWrd, vmDat, eq_self, forall_const, Nat.reduceLT, Nat.reduceEqDiff, Nat.reduceSub, Nat.reduceMul, Nat.reduceMod, Nat.reduceDiv, Nat.reducePow, UInt8.reduceToNat, Int.reduceEq, Int.reduceLT, Int.reduceLE, ↓reduceIte, Nat.reduceEqDiff, Nat.reduceAdd, Int.reduceToNat, reduceCtorEq, Nat.reduceLeDiff, ↓u_stage_IsPath, RfPost]
      rw [g1]
    · simp -dsimp (disch := first | assumption | omega) only [↓vmPre, vmPost, vmWrd, vmDat, eq_self, forall_const, Nat.reduceLT, Nat.reduceEqDiff, Nat.reduceSub, Nat.reduceMul, Nat.reduceMod, Nat.reduceDiv, Nat.reducePow, UInt8.reduceToNat, Int.reduceEq, Int.reduceLT, Int.reduceLE, ↓reduceIte, Nat.reduceEqDiff, Nat.reduceAdd, Int.reduceToNat, reduceCtorEq, Nat.reduceLeDiff, ↓u_stage_IsPath, RfPost]
      rw [g1]
theorem refIsPathV (s : List UInt8) (hs : s.length ≤ 20000) : VPure Tryd.prog 18 [ts s] (fun x => x = tb (pathOk s)) := by
  refine VCalls.toPureV (go_ref8_IsPath (by simp) ?_)
  unfold pathOk
  by_cases h1 : 100 < s.length
  · simp -dsimp (disch := first | assumption | omega) only [↓vmPre, vmPost, vmWrd, vmDat, eq_self, forall_const, Nat.reduceLT, Nat.reduceEqDiff, Nat.reduceSub, Nat.reduceMul, Nat.reduceMod, Nat.reduceDiv, Nat.reducePow, UInt8.reduceToNat, Int.reduceEq, Int.reduceLT, Int.reduceLE, ↓reduceIte, Nat.reduceEqDiff, Nat.reduceAdd, Int.reduceToNat, reduceCtorEq, Nat.reduceLeDiff, ↓u_ref8_IsPath, bl_strN]
    rw [decide_eq_false (by omega)]; rfl
  rw [decide_eq_true (by omega), Bool.true_and]
  simp -dsimp (disch := first | assumption | omega) only [↓vmPre, vmPost, vmWrd, vmDat, eq_self, forall_const, Nat.reduceLT, Nat.reduceEqDiff, Nat.reduceSub, Nat.reduceMul, Nat.reduceMod, Nat.reduceDiv, Nat.reducePow, UInt8.reduceToNat, Int.reduceEq, Int.reduceLT, Int.reduceLE, ↓reduceIte, Nat.reduceEqDiff, Nat.reduceAdd, Int.reduceToNat, reduceCtorEq, Nat.reduceLeDiff, ↓u_ref8_IsPath, bl_strN]
  refine w_loop (fun q e H => ∃ f i : Nat, q = s.length + 1 - i ∧ f ≤ i ∧ i ≤ s.length + 1 ∧ ((f = s.length + 1 ∧ (pieces 47 s).all nameOk = true) ∨ (i ≤ s.length ∧ (pieces 47 s).all nameOk = (pieces 47 (s.drop f)).all nameOk ∧ 47 ∉ (s.drop f).take (i - f))) ∧ e = [(0, ts s), (3, i64 (f : Int)), (4, i64 (i : Int))] ∧ H = []) (s.length + 1) ?_ ?_
  · exact ⟨0, 0, rfl, by omega, by omega, .inr ⟨by omega, rfl, by simp⟩, rfl, rfl⟩
  · rintro q e H ⟨f, i, rfl, hf, hi, hor, rfl, rfl⟩
    by_cases h : i ≤ s.length
    · obtain ⟨h0, h1, h2⟩ : (i ≤ s.length ∧ (pieces 47 s).all nameOk = (pieces 47 (s.drop f)).all nameOk ∧ 47 ∉ (s.drop f).take (i - f)) := by
        rcases hor with ⟨h1, _⟩ | h
        · omega
        · exact h
      have hlen : ((s.drop f).take (i - f)).length = i - f := by simp; omega
      by_cases h3 : i = s.length
      · have hp : pieces 47 (s.drop f) = [s.drop f] := by
          rw [List.take_of_length_le (by simp; omega)] at h2
          exact pieces_none h2
        have hl2 : (s.drop f).length ≤ 1000 := by simp; omega
        rw [hp, List.all_cons, List.all_nil, Bool.and_true] at h1
        subst h3
        simp -dsimp (disch := first | assumption | omega) only [↓vmPre, vmPost, vmWrd, vmDat, eq_self, forall_const, Nat.reduceLT, Nat.reduceEqDiff, Nat.reduceSub, Nat.reduceMul, Nat.reduceMod, Nat.reduceDiv, Nat.reducePow, UInt8.reduceToNat, Int.reduceEq, Int.reduceLT, Int.reduceLE, ↓reduceIte, Nat.reduceEqDiff, Nat.reduceAdd, Int.reduceToNat, reduceCtorEq, Nat.reduceLeDiff, ↓u_ref8_IsPath, bl_strN]
        refine (refIsNameV (s.drop f) hl2).calls rfl ?_
        rintro _ rfl
        cases hn : nameOk (s.drop f) with
        | true =>
          simp -dsimp (disch := first | assumption | omega) only [↓vmPre, vmPost, vmWrd, vmDat, eq_self, forall_const, Nat.reduceLT, Nat.reduceEqDiff, Nat.reduceSub, Nat.reduceMul, Nat.reduceMod, Nat.reduceDiv, Nat.reducePow, UInt8.reduceToNat, Int.reduceEq, Int.reduceLT, Int.reduceLE, ↓reduceIte, Nat.reduceEqDiff, Nat.reduceAdd, Int.reduceToNat, reduceCtorEq, Nat.reduceLeDiff, ↓u_ref8_IsPath, bl_strN]
          exact Rnd_keep 0 (by omega) (by simp) ⟨s.length + 1, s.length + 1, by omega, by omega, by omega, .inl ⟨rfl, by rw [h1, hn]⟩, rfl, rfl⟩
        | false =>
          simp -dsimp (disch := first | assumption | omega) only [↓vmPre, vmPost, vmWrd, vmDat, eq_self, forall_const, Nat.reduceLT, Nat.reduceEqDiff, Nat.reduceSub, Nat.reduceMul, Nat.reduceMod, Nat.reduceDiv, Nat.reducePow, UInt8.reduceToNat, Int.reduceEq, Int.reduceLT, Int.reduceLE, ↓reduceIte, Nat.reduceEqDiff, Nat.reduceAdd, Int.reduceToNat, reduceCtorEq, Nat.reduceLeDiff, ↓u_ref8_IsPath, bl_strN]
          rw [h1, hn]
      · obtain ⟨c, hc⟩ : ∃ c, s[i]? = some c := ⟨_, List.getElem?_eq_getElem (by omega)⟩
        have hc' : (s.drop f)[i - f]? = some c := by rw [List.getElem?_drop]; rw [← hc]; congr 1; omega
        by_cases c2 : c = 47
        · subst c2
          have hp : pieces 47 (s.drop f) = (s.drop f).take (i - f) :: pieces 47 (s.drop (i + 1)) := by
            rw [pieces_some hc' h2, List.drop_drop]; congr 3; omega
          rw [hp, List.all_cons] at h1
          simp -dsimp (disch := first | assumption | omega) only [↓vmPre, vmPost, vmWrd, vmDat, eq_self, forall_const, Nat.reduceLT, Nat.reduceEqDiff, Nat.reduceSub, Nat.reduceMul, Nat.reduceMod, Nat.reduceDiv, Nat.reducePow, UInt8.reduceToNat, Int.reduceEq, Int.reduceLT, Int.reduceLE, ↓reduceIte, Nat.reduceEqDiff, Nat.reduceAdd, Int.reduceToNat, reduceCtorEq, Nat.reduceLeDiff, ↓u_ref8_IsPath, bl_strN, hc]
          refine (refIsNameV ((s.drop f).take (i - f)) (by omega)).calls rfl ?_
          rintro _ rfl
          cases hn : nameOk ((s.drop f).take (i - f)) with
          | true =>
            simp -dsimp (disch := first | assumption | omega) only [↓vmPre, vmPost, vmWrd, vmDat, eq_self, forall_const, Nat.reduceLT, Nat.reduceEqDiff, Nat.reduceSub, Nat.reduceMul, Nat.reduceMod, Nat.reduceDiv, Nat.reducePow, UInt8.reduceToNat, Int.reduceEq, Int.reduceLT, Int.reduceLE, ↓reduceIte, Nat.reduceEqDiff, Nat.reduceAdd, Int.reduceToNat, reduceCtorEq, Nat.reduceLeDiff, ↓u_ref8_IsPath, bl_strN, hc]
            exact Rnd_keep (s.length + 1 - (i + 1)) (by omega) (by simp) ⟨i + 1, i + 1, by omega, by omega, by omega, .inr ⟨by omega, by rw [h1, hn, Bool.true_and], by simp⟩, rfl, rfl⟩
          | false =>
            simp -dsimp (disch := first | assumption | omega) only [↓vmPre, vmPost, vmWrd, vmDat, eq_self, forall_const, Nat.reduceLT, Nat.reduceEqDiff, Nat.reduceSub, Nat.reduceMul, Nat.reduceMod, Nat.reduceDiv, Nat.reducePow, UInt8.reduceToNat, Int.reduceEq, Int.reduceLT, Int.reduceLE, ↓reduceIte, Nat.reduceEqDiff, Nat.reduceAdd, Int.reduceToNat, reduceCtorEq, Nat.reduceLeDiff, ↓u_ref8_IsPath, bl_strN, hc]
            rw [h1, hn]; rfl
        have d2 : ¬ c.toNat = 47 := fun e => c2 (UInt8.toNat_inj.1 e)
        simp -dsimp (disch := first | assumption | omega) only [↓vmPre, vmPost, vmWrd, vmDat, eq_self, forall_const, Nat.reduceLT, Nat.reduceEqDiff, Nat.reduceSub, Nat.reduceMul, Nat.reduceMod, Nat.reduceDiv, Nat.reducePow, UInt8.reduceToNat, Int.reduceEq, Int.reduceLT, Int.reduceLE, ↓reduceIte, Nat.reduceEqDiff, Nat.reduceAdd, Int.reduceToNat, reduceCtorEq, Nat.reduceLeDiff, ↓u_ref8_IsPath, bl_strN, hc, d2]
        refine Rnd_keep (s.length + 1 - (i + 1)) (by omega) (by simp) ⟨f, i + 1, by omega, by omega, by omega, .inr ⟨by omega, h1, ?_⟩, rfl, rfl⟩
        rw [show i + 1 - f = (i - f) + 1 by omega, List.take_add_one, hc']
        simp [h2, Ne.symm c2]
    · rcases hor with ⟨h1, h2⟩ | ⟨h1, _⟩
      · simp -dsimp (disch := first | assumption | omega) only [↓vmPre, vmPost, vmWrd, vmDat, eq_self, forall_const, Nat.reduceLT, Nat.reduceEqDiff, Nat.reduceSub, Nat.reduceMul, Nat.reduceMod, Nat.reduceDiv, Nat.reducePow, UInt8.reduceToNat, Int.reduceEq, Int.reduceLT, Int.reduceLE, ↓reduceIte, Nat.reduceEqDiff, Nat.reduceAdd, Int.reduceToNat, reduceCtorEq, Nat.reduceLeDiff, ↓u_ref8_IsPath, bl_strN]
        rw [h2]
      · omega
end Go.Proofs.YtijidndhlgbjhaaDoor
