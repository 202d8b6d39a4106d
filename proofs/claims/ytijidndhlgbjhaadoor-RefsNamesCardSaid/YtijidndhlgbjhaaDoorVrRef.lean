/- The document's IsName of refs. -/
import Derived.Test.YtijidndhlgbjhaaDoorVrName
namespace Go.Proofs.YtijidndhlgbjhaaDoor
open Go.RowKit
variable [Globs]
set_option linter.unusedSectionVars false
set_option linter.unusedVariables false
set_option linter.unusedSimpArgs false

/-- The loop's invariant, but for the numbers. -/
def RefInv (s : List UInt8) (f i : Nat) : Prop := f ≤ i ∧ i ≤ s.length + 1 ∧ (∀ j c, j < i → s[j]? = some c → goodB c = true) ∧ (∀ j, j + 1 < i → ¬ (s[j]? = some 46 ∧ s[j + 1]? = some 46) ∧ ¬ (s[j]? = some 64 ∧ s[j + 1]? = some 123)) ∧
  ((f = s.length + 1 ∧ i = s.length + 1 ∧ (pieces 47 s).all partB = true) ∨ (i ≤ s.length ∧ (pieces 47 s).all partB = (pieces 47 (s.drop f)).all partB ∧ 47 ∉ (s.drop f).take (i - f)))
theorem RefInv.sep {s : List UInt8} {f i : Nat} (h : RefInv s f i) (hi : i ≤ s.length) (hsep : i = s.length ∨ s[i]? = some 47) : (pieces 47 s).all partB = (partB ((s.drop f).take (i - f)) && (decide (i = s.length) || (pieces 47 (s.drop (i + 1))).all partB)) := by
  obtain ⟨h1, h2, h3, h4, h5⟩ := h
  rcases h5 with ⟨_, h5, _⟩ | ⟨_, h6, h7⟩
  · omega
  rw [h6]
  by_cases he : i = s.length
  · rw [List.take_of_length_le (by simp; omega)] at h7 ⊢
    rw [pieces_none h7]; simp [he]
  · have hc : s[i]? = some 47 := by rcases hsep with h | h; exact absurd h he; exact h
    have hc' : (s.drop f)[i - f]? = some 47 := by rw [List.getElem?_drop]; rw [← hc]; congr 1; omega
    rw [pieces_some hc' h7, List.drop_drop]
    simp only [he, decide_false, Bool.false_or, List.all_cons]
    congr 4; omega
theorem RefInv.next {s : List UInt8} {f i : Nat} (h : RefInv s f i) (hi : i ≤ s.length) (hsep : i = s.length ∨ s[i]? = some 47) (hp : partB ((s.drop f).take (i - f)) = true) : RefInv s (i + 1) (i + 1) := by
  have hs := h.sep hi hsep
  obtain ⟨h1, h2, h3, h4, h5⟩ := h
  rw [hp, Bool.true_and] at hs
  refine ⟨Nat.le_refl _, by omega, fun j c hj hc => ?_, fun j hj => ?_, ?_⟩
  · by_cases e : j = i
    · subst e
      rcases hsep with h | h
      · rw [List.getElem?_eq_none (by omega)] at hc; cases hc
      · rw [h] at hc; cases hc; decide
    · exact h3 j c (by omega) hc
  · by_cases e : j + 1 = i
    · rcases hsep with h | h
      · rw [List.getElem?_eq_none (by omega : s.length ≤ j + 1)]; simp
      · rw [e, h]; simp
    · exact h4 j (by omega)
  · by_cases he : i = s.length
    · left; exact ⟨by omega, by omega, by rw [hs]; simp [he]⟩
    · right; exact ⟨by omega, by rw [hs]; simp [he], by simp⟩
theorem RefInv.step {s : List UInt8} {f i : Nat} {c : UInt8} (h : RefInv s f i) (hc : s[i]? = some c) (h47 : c ≠ 47) (hg : goodB c = true) (hp : ∀ j, j + 1 = i → ¬ (s[j]? = some 46 ∧ c = 46) ∧ ¬ (s[j]? = some 64 ∧ c = 123)) : RefInv s f (i + 1) := by
  have hi : i < s.length := (List.getElem?_eq_some_iff.1 hc).1
  obtain ⟨h1, h2, h3, h4, h5⟩ := h
  refine ⟨by omega, by omega, fun j x hj hx => ?_, fun j hj => ?_, ?_⟩
  · by_cases e : j = i
    · subst e; rw [hc] at hx; cases hx; exact hg
    · exact h3 j x (by omega) hx
  · by_cases e : j + 1 = i
    · have := hp j e
      rw [e, hc]
      simpa using this
    · exact h4 j (by omega)
  · rcases h5 with ⟨_, h5, _⟩ | ⟨_, h6, h7⟩
    · omega
    · right
      refine ⟨by omega, h6, ?_⟩
      have hc' : (s.drop f)[i - f]? = some c := by rw [List.getElem?_drop]; rw [← hc]; congr 1; omega
      rw [show i + 1 - f = (i - f) + 1 by omega, List.take_add_one, hc']
      simp [h7, Ne.symm h47]
theorem goodB_cases (c : UInt8) : goodB c = true ∧ 33 ≤ c.toNat ∧ c.toNat ≤ 126 ∧ c.toNat ≠ 126 ∧ c.toNat ≠ 94 ∧ c.toNat ≠ 58 ∧ c.toNat ≠ 63 ∧ c.toNat ≠ 42 ∧ c.toNat ≠ 91 ∧ c.toNat ≠ 92 ∨ goodB c = false ∧ (c.toNat < 33 ∨ 126 < c.toNat ∨ c = 126 ∨ c = 94 ∨ c = 58 ∨ c = 63 ∨ c = 42 ∨ c = 91 ∨ c = 92) := by
  cases h : goodB c with
  | true =>
    left
    unfold goodB at h
    rw [decide_eq_true_eq] at h
    obtain ⟨h1, h2, h3⟩ := h
    simp only [List.mem_cons, List.not_mem_nil, or_false, not_or, ← UInt8.toNat_inj] at h3
    exact ⟨rfl, h1, h2, h3.1, h3.2.1, h3.2.2.1, h3.2.2.2.1, h3.2.2.2.2.1, h3.2.2.2.2.2.1, h3.2.2.2.2.2.2⟩
  | false =>
    right
    unfold goodB at h
    rw [decide_eq_false_iff_not] at h
    refine ⟨rfl, ?_⟩
    by_cases h1 : c.toNat < 33
    · exact .inl h1
    by_cases h2 : 126 < c.toNat
    · exact .inr (.inl h2)
    have h3 : c ∈ [(126 : UInt8), 94, 58, 63, 42, 91, 92] := Decidable.not_not.1 fun h3 => h ⟨by omega, by omega, h3⟩
    simp only [List.mem_cons, List.not_mem_nil, or_false] at h3
    exact .inr (.inr h3)
theorem notRef {s : List UInt8} {v : TV} (h0 : ¬ s = [72, 69, 65, 68]) (h : (pieces 47 s).all partB = false) (hv : v = tb false := by rfl) : ∃ b, v = tb b ∧ (b = true ↔ refP s) :=
  ⟨false, hv, iff_false' (fun k => k.elim h0 fun k => by rw [k.2.2.2.2.2.2] at h; cases h) _ rfl⟩
set_option maxRecDepth 100000 in
set_option maxHeartbeats 2000000 in
theorem refNameV (s : List UInt8) (hs : s.length ≤ 100000) : VPure Tryd.prog 16 [ts s] (fun x => ∃ b, x = tb b ∧ (b = true ↔ refP s)) := by
  refine VCalls.toPureV (go_ref7_IsName (by simp) ?_)
  by_cases h0 : s = [72, 69, 65, 68]
  · subst h0
    simp -dsimp (disch := first | assumption | omega) only [↓vmPre, vmPost, vmWrd, vmDat, eq_self, forall_const, Nat.reduceLT, Nat.reduceEqDiff, Nat.reduceSub, Nat.reduceMul, Nat.reduceMod, Nat.reduceDiv, Nat.reducePow, UInt8.reduceToNat, Int.reduceEq, Int.reduceLT, Int.reduceLE, ↓reduceIte, Nat.reduceEqDiff, Nat.reduceAdd, Int.reduceToNat, reduceCtorEq, Nat.reduceLeDiff, ↓u_ref7_IsName, bl_strN]
    exact ⟨_, rfl, iff_true' (.inl rfl) _ rfl⟩
  by_cases h1 : 60 < s.length
  · simp -dsimp (disch := first | assumption | omega) only [↓vmPre, vmPost, vmWrd, vmDat, eq_self, forall_const, Nat.reduceLT, Nat.reduceEqDiff, Nat.reduceSub, Nat.reduceMul, Nat.reduceMod, Nat.reduceDiv, Nat.reducePow, UInt8.reduceToNat, Int.reduceEq, Int.reduceLT, Int.reduceLE, ↓reduceIte, Nat.reduceEqDiff, Nat.reduceAdd, Int.reduceToNat, reduceCtorEq, Nat.reduceLeDiff, ↓u_ref7_IsName, h0, bl_strN]
    exact ⟨_, rfl, iff_false' (fun h => h.elim h0 fun h => by omega) _ rfl⟩
  by_cases h2 : s.length < 6
  · simp -dsimp (disch := first | assumption | omega) only [↓vmPre, vmPost, vmWrd, vmDat, eq_self, forall_const, Nat.reduceLT, Nat.reduceEqDiff, Nat.reduceSub, Nat.reduceMul, Nat.reduceMod, Nat.reduceDiv, Nat.reducePow, UInt8.reduceToNat, Int.reduceEq, Int.reduceLT, Int.reduceLE, ↓reduceIte, Nat.reduceEqDiff, Nat.reduceAdd, Int.reduceToNat, reduceCtorEq, Nat.reduceLeDiff, ↓u_ref7_IsName, h0, bl_strN]
    exact ⟨_, rfl, iff_false' (fun h => h.elim h0 fun h => refs_six h2 ⟨h.2.1, h.2.2.2.2.2.2⟩) _ rfl⟩
  by_cases h3 : s.take 5 = [114, 101, 102, 115, 47]
  case neg =>
    simp -dsimp (disch := first | assumption | omega) only [↓vmPre, vmPost, vmWrd, vmDat, eq_self, forall_const, Nat.reduceLT, Nat.reduceEqDiff, Nat.reduceSub, Nat.reduceMul, Nat.reduceMod, Nat.reduceDiv, Nat.reducePow, UInt8.reduceToNat, Int.reduceEq, Int.reduceLT, Int.reduceLE, ↓reduceIte, Nat.reduceEqDiff, Nat.reduceAdd, Int.reduceToNat, reduceCtorEq, Nat.reduceLeDiff, ↓u_ref7_IsName, h0, bl_strN, h3]
    exact ⟨_, rfl, iff_false' (fun h => h.elim h0 fun h => h3 h.2.1) _ rfl⟩
  obtain ⟨cl, hcl⟩ : ∃ c, s[s.length - 1]? = some c := ⟨_, List.getElem?_eq_getElem (by omega)⟩
  by_cases h4 : cl = 46
  · subst h4
    simp -dsimp (disch := first | assumption | omega) only [↓vmPre, vmPost, vmWrd, vmDat, eq_self, forall_const, Nat.reduceLT, Nat.reduceEqDiff, Nat.reduceSub, Nat.reduceMul, Nat.reduceMod, Nat.reduceDiv, Nat.reducePow, UInt8.reduceToNat, Int.reduceEq, Int.reduceLT, Int.reduceLE, ↓reduceIte, Nat.reduceEqDiff, Nat.reduceAdd, Int.reduceToNat, reduceCtorEq, Nat.reduceLeDiff, ↓u_ref7_IsName, h0, bl_strN, h3, hcl]
    exact ⟨_, rfl, iff_false' (fun h => h.elim h0 fun h => h.2.2.1 hcl) _ rfl⟩
  have h4' : ¬ cl.toNat = 46 := fun e => h4 (UInt8.toNat_inj.1 e)
  simp -dsimp (disch := first | assumption | omega) only [↓vmPre, vmPost, vmWrd, vmDat, eq_self, forall_const, Nat.reduceLT, Nat.reduceEqDiff, Nat.reduceSub, Nat.reduceMul, Nat.reduceMod, Nat.reduceDiv, Nat.reducePow, UInt8.reduceToNat, Int.reduceEq, Int.reduceLT, Int.reduceLE, ↓reduceIte, Nat.reduceEqDiff, Nat.reduceAdd, Int.reduceToNat, reduceCtorEq, Nat.reduceLeDiff, ↓u_ref7_IsName, h0, bl_strN, h3, hcl, h4']
  refine w_loop (fun q e H => ∃ f i : Nat, q = s.length + 1 - i ∧ RefInv s f i ∧ e = [(0, ts s), (3, i64 (s.length : Int)), (4, i64 (f : Int)), (5, i64 (i : Int))] ∧ H = []) (s.length + 1) ?_ ?_
  · exact ⟨0, 0, rfl, ⟨by omega, by omega, fun j c h => by omega, fun j h => by omega, .inr ⟨by omega, rfl, by simp⟩⟩, rfl, rfl⟩
  · rintro q e H ⟨f, i, rfl, hI, rfl, rfl⟩
    have hf := hI.1
    by_cases hi : i ≤ s.length
    · by_cases hsep : i = s.length ∨ s[i]? = some 47
      · by_cases he : i = s.length
        · subst he
          have hall := hI.sep hi hsep
          have hplen : ((s.drop f).take (s.length - f)).length = s.length - f := by simp
          have h55 : s.length - (s.length - 5) = 5 := by omega
          have tk5 : List.take 5 [(46 : UInt8), 108, 111, 99, 107] = [46, 108, 111, 99, 107] := rfl
          by_cases hk : s.length = f
          · have hb : partB ((s.drop f).take (s.length - f)) = false := by rw [← hk]; simp [partB]
            simp -dsimp (disch := first | assumption | omega) only [↓vmPre, vmPost, vmWrd, vmDat, eq_self, forall_const, Nat.reduceLT, Nat.reduceEqDiff, Nat.reduceSub, Nat.reduceMul, Nat.reduceMod, Nat.reduceDiv, Nat.reducePow, UInt8.reduceToNat, Int.reduceEq, Int.reduceLT, Int.reduceLE, ↓reduceIte, Nat.reduceEqDiff, Nat.reduceAdd, Int.reduceToNat, reduceCtorEq, Nat.reduceLeDiff, ↓u_ref7_IsName, bl_strN]
            exact notRef h0 (by rw [hall, hb, Bool.false_and])
          obtain ⟨cf, hcf⟩ : ∃ c, s[f]? = some c := ⟨_, List.getElem?_eq_getElem (by omega)⟩
          have hp0 : ((s.drop f).take (s.length - f))[0]? = some cf := by rw [List.getElem?_take, if_pos (by omega), List.getElem?_drop]; exact hcf
          by_cases h46 : cf = 46
          · subst h46
            have hb : partB ((s.drop f).take (s.length - f)) = false := by unfold partB; rw [decide_eq_false_iff_not]; exact fun h => h.2.1 hp0
            simp -dsimp (disch := first | assumption | omega) only [↓vmPre, vmPost, vmWrd, vmDat, eq_self, forall_const, Nat.reduceLT, Nat.reduceEqDiff, Nat.reduceSub, Nat.reduceMul, Nat.reduceMod, Nat.reduceDiv, Nat.reducePow, UInt8.reduceToNat, Int.reduceEq, Int.reduceLT, Int.reduceLE, ↓reduceIte, Nat.reduceEqDiff, Nat.reduceAdd, Int.reduceToNat, reduceCtorEq, Nat.reduceLeDiff, ↓u_ref7_IsName, bl_strN, hcf]
            exact notRef h0 (by rw [hall, hb, Bool.false_and])
          have d46 : ¬ cf.toNat = 46 := fun e => h46 (UInt8.toNat_inj.1 e)
          have hpne : (s.drop f).take (s.length - f) ≠ [] := fun e => by rw [e] at hp0; cases hp0
          by_cases h5 : s.length - f < 5
          · have hb : partB ((s.drop f).take (s.length - f)) = true := by unfold partB; rw [decide_eq_true_eq, hp0]; exact ⟨hpne, by simpa using h46, fun h => by omega⟩
            simp -dsimp (disch := first | assumption | omega) only [↓vmPre, vmPost, vmWrd, vmDat, eq_self, forall_const, Nat.reduceLT, Nat.reduceEqDiff, Nat.reduceSub, Nat.reduceMul, Nat.reduceMod, Nat.reduceDiv, Nat.reducePow, UInt8.reduceToNat, Int.reduceEq, Int.reduceLT, Int.reduceLE, ↓reduceIte, Nat.reduceEqDiff, Nat.reduceAdd, Int.reduceToNat, reduceCtorEq, Nat.reduceLeDiff, ↓u_ref7_IsName, bl_strN, hcf, d46]
            exact Rnd_keep (s.length + 1 - (s.length + 1)) (by omega) (by simp) ⟨s.length + 1, s.length + 1, rfl, hI.next hi hsep hb, rfl, rfl⟩
          have hdr : ((s.drop f).take (s.length - f)).drop (((s.drop f).take (s.length - f)).length - 5) = s.drop (s.length - 5) := by
            rw [hplen, List.drop_take, List.drop_drop, List.take_of_length_le (by simp; omega)]; congr 1; omega
          by_cases hl : s.drop (s.length - 5) = [46, 108, 111, 99, 107]
          · have hb : partB ((s.drop f).take (s.length - f)) = false := by unfold partB; rw [decide_eq_false_iff_not]; exact fun h => h.2.2 ⟨by omega, by rw [hdr]; exact hl⟩
            simp -dsimp (disch := first | assumption | omega) only [↓vmPre, vmPost, vmWrd, vmDat, eq_self, forall_const, Nat.reduceLT, Nat.reduceEqDiff, Nat.reduceSub, Nat.reduceMul, Nat.reduceMod, Nat.reduceDiv, Nat.reducePow, UInt8.reduceToNat, Int.reduceEq, Int.reduceLT, Int.reduceLE, ↓reduceIte, Nat.reduceEqDiff, Nat.reduceAdd, Int.reduceToNat, reduceCtorEq, Nat.reduceLeDiff, ↓u_ref7_IsName, bl_strN, hcf, d46, hl, h55, tk5]
            exact notRef h0 (by rw [hall, hb, Bool.false_and])
          · have hl' : ¬ (s.drop (s.length - 5)).take (s.length - (s.length - 5)) = [46, 108, 111, 99, 107] := by rw [List.take_of_length_le (by simp)]; exact hl
            have hb : partB ((s.drop f).take (s.length - f)) = true := by unfold partB; rw [decide_eq_true_eq, hp0, hdr]; exact ⟨hpne, by simpa using h46, fun h => hl h.2⟩
            simp -dsimp (disch := first | assumption | omega) only [↓vmPre, vmPost, vmWrd, vmDat, eq_self, forall_const, Nat.reduceLT, Nat.reduceEqDiff, Nat.reduceSub, Nat.reduceMul, Nat.reduceMod, Nat.reduceDiv, Nat.reducePow, UInt8.reduceToNat, Int.reduceEq, Int.reduceLT, Int.reduceLE, ↓reduceIte, Nat.reduceEqDiff, Nat.reduceAdd, Int.reduceToNat, reduceCtorEq, Nat.reduceLeDiff, ↓u_ref7_IsName, bl_strN, hcf, d46, hl']
            exact Rnd_keep (s.length + 1 - (s.length + 1)) (by omega) (by simp) ⟨s.length + 1, s.length + 1, rfl, hI.next hi hsep hb, rfl, rfl⟩
        · have hc : s[i]? = some 47 := by rcases hsep with h | h; exact absurd h he; exact h
          have hall := hI.sep hi hsep
          have hplen : ((s.drop f).take (i - f)).length = i - f := by simp; omega
          by_cases hk : i = f
          · subst hk
            have hb : partB ((s.drop i).take (i - i)) = false := by simp [partB]
            simp -dsimp (disch := first | assumption | omega) only [↓vmPre, vmPost, vmWrd, vmDat, eq_self, forall_const, Nat.reduceLT, Nat.reduceEqDiff, Nat.reduceSub, Nat.reduceMul, Nat.reduceMod, Nat.reduceDiv, Nat.reducePow, UInt8.reduceToNat, Int.reduceEq, Int.reduceLT, Int.reduceLE, ↓reduceIte, Nat.reduceEqDiff, Nat.reduceAdd, Int.reduceToNat, reduceCtorEq, Nat.reduceLeDiff, ↓u_ref7_IsName, bl_strN, hc]
            exact notRef h0 (by rw [hall, hb, Bool.false_and])
          obtain ⟨cf, hcf⟩ : ∃ c, s[f]? = some c := ⟨_, List.getElem?_eq_getElem (by omega)⟩
          have hp0 : ((s.drop f).take (i - f))[0]? = some cf := by rw [List.getElem?_take, if_pos (by omega), List.getElem?_drop]; exact hcf
          by_cases h46 : cf = 46
          · subst h46
            have hb : partB ((s.drop f).take (i - f)) = false := by unfold partB; rw [decide_eq_false_iff_not]; exact fun h => h.2.1 hp0
            simp -dsimp (disch := first | assumption | omega) only [↓vmPre, vmPost, vmWrd, vmDat, eq_self, forall_const, Nat.reduceLT, Nat.reduceEqDiff, Nat.reduceSub, Nat.reduceMul, Nat.reduceMod, Nat.reduceDiv, Nat.reducePow, UInt8.reduceToNat, Int.reduceEq, Int.reduceLT, Int.reduceLE, ↓reduceIte, Nat.reduceEqDiff, Nat.reduceAdd, Int.reduceToNat, reduceCtorEq, Nat.reduceLeDiff, ↓u_ref7_IsName, bl_strN, hc, hcf]
            exact notRef h0 (by rw [hall, hb, Bool.false_and])
          have d46 : ¬ cf.toNat = 46 := fun e => h46 (UInt8.toNat_inj.1 e)
          have hpne : (s.drop f).take (i - f) ≠ [] := fun e => by rw [e] at hp0; cases hp0
          by_cases h5 : i - f < 5
          · have hb : partB ((s.drop f).take (i - f)) = true := by unfold partB; rw [decide_eq_true_eq, hp0]; exact ⟨hpne, by simpa using h46, fun h => by omega⟩
            simp -dsimp (disch := first | assumption | omega) only [↓vmPre, vmPost, vmWrd, vmDat, eq_self, forall_const, Nat.reduceLT, Nat.reduceEqDiff, Nat.reduceSub, Nat.reduceMul, Nat.reduceMod, Nat.reduceDiv, Nat.reducePow, UInt8.reduceToNat, Int.reduceEq, Int.reduceLT, Int.reduceLE, ↓reduceIte, Nat.reduceEqDiff, Nat.reduceAdd, Int.reduceToNat, reduceCtorEq, Nat.reduceLeDiff, ↓u_ref7_IsName, bl_strN, hc, hcf, d46]
            exact Rnd_keep (s.length + 1 - (i + 1)) (by omega) (by simp) ⟨i + 1, i + 1, rfl, hI.next hi hsep hb, rfl, rfl⟩
          have hdr : ((s.drop f).take (i - f)).drop (((s.drop f).take (i - f)).length - 5) = (s.drop (i - 5)).take 5 := by
            rw [hplen, List.drop_take, List.drop_drop]; congr 1; omega; congr 1; omega
          have h55 : i - (i - 5) = 5 := by omega
          by_cases hl : (s.drop (i - 5)).take 5 = [46, 108, 111, 99, 107]
          · have hb : partB ((s.drop f).take (i - f)) = false := by unfold partB; rw [decide_eq_false_iff_not]; exact fun h => h.2.2 ⟨by omega, by rw [hdr]; exact hl⟩
            simp -dsimp (disch := first | assumption | omega) only [↓vmPre, vmPost, vmWrd, vmDat, eq_self, forall_const, Nat.reduceLT, Nat.reduceEqDiff, Nat.reduceSub, Nat.reduceMul, Nat.reduceMod, Nat.reduceDiv, Nat.reducePow, UInt8.reduceToNat, Int.reduceEq, Int.reduceLT, Int.reduceLE, ↓reduceIte, Nat.reduceEqDiff, Nat.reduceAdd, Int.reduceToNat, reduceCtorEq, Nat.reduceLeDiff, ↓u_ref7_IsName, bl_strN, hc, hcf, d46, hl, h55]
            exact notRef h0 (by rw [hall, hb, Bool.false_and])
          · have hb : partB ((s.drop f).take (i - f)) = true := by unfold partB; rw [decide_eq_true_eq, hp0, hdr]; exact ⟨hpne, by simpa using h46, fun h => hl h.2⟩
            simp -dsimp (disch := first | assumption | omega) only [↓vmPre, vmPost, vmWrd, vmDat, eq_self, forall_const, Nat.reduceLT, Nat.reduceEqDiff, Nat.reduceSub, Nat.reduceMul, Nat.reduceMod, Nat.reduceDiv, Nat.reducePow, UInt8.reduceToNat, Int.reduceEq, Int.reduceLT, Int.reduceLE, ↓reduceIte, Nat.reduceEqDiff, Nat.reduceAdd, Int.reduceToNat, reduceCtorEq, Nat.reduceLeDiff, ↓u_ref7_IsName, bl_strN, hc, hcf, d46, hl, h55]
            exact Rnd_keep (s.length + 1 - (i + 1)) (by omega) (by simp) ⟨i + 1, i + 1, rfl, hI.next hi hsep hb, rfl, rfl⟩
      · have he : i < s.length := by omega
        obtain ⟨c, hc⟩ : ∃ c, s[i]? = some c := ⟨_, List.getElem?_eq_getElem he⟩
        have h47 : c ≠ 47 := fun e => hsep (.inr (by rw [hc, e]))
        have d47 : ¬ c.toNat = 47 := fun e => h47 (UInt8.toNat_inj.1 e)
        rcases goodB_cases c with ⟨hg, g1, g2, g3, g4, g5, g6, g7, g8, g9⟩ | ⟨hg, hbad⟩
        · by_cases c46 : c = 46
          · subst c46
            by_cases hi0 : i = 0
            · subst hi0
              simp -dsimp (disch := first | assumption | omega) only [↓vmPre, vmPost, vmWrd, vmDat, eq_self, forall_const, Nat.reduceLT, Nat.reduceEqDiff, Nat.reduceSub, Nat.reduceMul, Nat.reduceMod, Nat.reduceDiv, Nat.reducePow, UInt8.reduceToNat, Int.reduceEq, Int.reduceLT, Int.reduceLE, ↓reduceIte, Nat.reduceEqDiff, Nat.reduceAdd, Int.reduceToNat, reduceCtorEq, Nat.reduceLeDiff, ↓u_ref7_IsName, bl_strN, hc]
              exact Rnd_keep (s.length + 1 - (0 + 1)) (by omega) (by simp) ⟨f, 0 + 1, rfl, hI.step hc h47 hg (fun j h => by omega), rfl, rfl⟩
            obtain ⟨cp, hcp⟩ : ∃ c, s[i - 1]? = some c := ⟨_, List.getElem?_eq_getElem (by omega)⟩
            by_cases cp46 : cp = 46
            · subst cp46
              simp -dsimp (disch := first | assumption | omega) only [↓vmPre, vmPost, vmWrd, vmDat, eq_self, forall_const, Nat.reduceLT, Nat.reduceEqDiff, Nat.reduceSub, Nat.reduceMul, Nat.reduceMod, Nat.reduceDiv, Nat.reducePow, UInt8.reduceToNat, Int.reduceEq, Int.reduceLT, Int.reduceLE, ↓reduceIte, Nat.reduceEqDiff, Nat.reduceAdd, Int.reduceToNat, reduceCtorEq, Nat.reduceLeDiff, ↓u_ref7_IsName, bl_strN, hc, hcp]
              exact ⟨_, rfl, iff_false' (fun h => h.elim h0 fun h => h.2.2.2.1 ⟨i - 1, hcp, by rw [show i - 1 + 1 = i by omega]; exact hc⟩) _ rfl⟩
            · have dp : ¬ cp.toNat = 46 := fun e => cp46 (UInt8.toNat_inj.1 e)
              simp -dsimp (disch := first | assumption | omega) only [↓vmPre, vmPost, vmWrd, vmDat, eq_self, forall_const, Nat.reduceLT, Nat.reduceEqDiff, Nat.reduceSub, Nat.reduceMul, Nat.reduceMod, Nat.reduceDiv, Nat.reducePow, UInt8.reduceToNat, Int.reduceEq, Int.reduceLT, Int.reduceLE, ↓reduceIte, Nat.reduceEqDiff, Nat.reduceAdd, Int.reduceToNat, reduceCtorEq, Nat.reduceLeDiff, ↓u_ref7_IsName, bl_strN, hc, hcp, dp]
              exact Rnd_keep (s.length + 1 - (i + 1)) (by omega) (by simp) ⟨f, i + 1, rfl, hI.step hc h47 hg (fun j h => by rw [show j = i - 1 by omega, hcp]; simp [cp46]), rfl, rfl⟩
          have d46 : ¬ c.toNat = 46 := fun e => c46 (UInt8.toNat_inj.1 e)
          by_cases c123 : c = 123
          · subst c123
            by_cases hi0 : i = 0
            · subst hi0
              simp -dsimp (disch := first | assumption | omega) only [↓vmPre, vmPost, vmWrd, vmDat, eq_self, forall_const, Nat.reduceLT, Nat.reduceEqDiff, Nat.reduceSub, Nat.reduceMul, Nat.reduceMod, Nat.reduceDiv, Nat.reducePow, UInt8.reduceToNat, Int.reduceEq, Int.reduceLT, Int.reduceLE, ↓reduceIte, Nat.reduceEqDiff, Nat.reduceAdd, Int.reduceToNat, reduceCtorEq, Nat.reduceLeDiff, ↓u_ref7_IsName, bl_strN, hc]
              exact Rnd_keep (s.length + 1 - (0 + 1)) (by omega) (by simp) ⟨f, 0 + 1, rfl, hI.step hc h47 hg (fun j h => by omega), rfl, rfl⟩
            obtain ⟨cp, hcp⟩ : ∃ c, s[i - 1]? = some c := ⟨_, List.getElem?_eq_getElem (by omega)⟩
            by_cases cp64 : cp = 64
            · subst cp64
              simp -dsimp (disch := first | assumption | omega) only [↓vmPre, vmPost, vmWrd, vmDat, eq_self, forall_const, Nat.reduceLT, Nat.reduceEqDiff, Nat.reduceSub, Nat.reduceMul, Nat.reduceMod, Nat.reduceDiv, Nat.reducePow, UInt8.reduceToNat, Int.reduceEq, Int.reduceLT, Int.reduceLE, ↓reduceIte, Nat.reduceEqDiff, Nat.reduceAdd, Int.reduceToNat, reduceCtorEq, Nat.reduceLeDiff, ↓u_ref7_IsName, bl_strN, hc, hcp]
              exact ⟨_, rfl, iff_false' (fun h => h.elim h0 fun h => h.2.2.2.2.1 ⟨i - 1, hcp, by rw [show i - 1 + 1 = i by omega]; exact hc⟩) _ rfl⟩
            · have dp : ¬ cp.toNat = 64 := fun e => cp64 (UInt8.toNat_inj.1 e)
              simp -dsimp (disch := first | assumption | omega) only [↓vmPre, vmPost, vmWrd, vmDat, eq_self, forall_const, Nat.reduceLT, Nat.reduceEqDiff, Nat.reduceSub, Nat.reduceMul, Nat.reduceMod, Nat.reduceDiv, Nat.reducePow, UInt8.reduceToNat, Int.reduceEq, Int.reduceLT, Int.reduceLE, ↓reduceIte, Nat.reduceEqDiff, Nat.reduceAdd, Int.reduceToNat, reduceCtorEq, Nat.reduceLeDiff, ↓u_ref7_IsName, bl_strN, hc, hcp, dp]
              exact Rnd_keep (s.length + 1 - (i + 1)) (by omega) (by simp) ⟨f, i + 1, rfl, hI.step hc h47 hg (fun j h => by rw [show j = i - 1 by omega, hcp]; simp [cp64]), rfl, rfl⟩
          have d123 : ¬ c.toNat = 123 := fun e => c123 (UInt8.toNat_inj.1 e)
          by_cases hi0 : i = 0
          · subst hi0
            simp -dsimp (disch := first | assumption | omega) only [↓vmPre, vmPost, vmWrd, vmDat, eq_self, forall_const, Nat.reduceLT, Nat.reduceEqDiff, Nat.reduceSub, Nat.reduceMul, Nat.reduceMod, Nat.reduceDiv, Nat.reducePow, UInt8.reduceToNat, Int.reduceEq, Int.reduceLT, Int.reduceLE, ↓reduceIte, Nat.reduceEqDiff, Nat.reduceAdd, Int.reduceToNat, reduceCtorEq, Nat.reduceLeDiff, ↓u_ref7_IsName, bl_strN, hc, d46, d47, d123, g3, g4, g5, g6, g7, g8, g9]
            exact Rnd_keep (s.length + 1 - (0 + 1)) (by omega) (by simp) ⟨f, 0 + 1, rfl, hI.step hc h47 hg (fun j h => by omega), rfl, rfl⟩
          · simp -dsimp (disch := first | assumption | omega) only [↓vmPre, vmPost, vmWrd, vmDat, eq_self, forall_const, Nat.reduceLT, Nat.reduceEqDiff, Nat.reduceSub, Nat.reduceMul, Nat.reduceMod, Nat.reduceDiv, Nat.reducePow, UInt8.reduceToNat, Int.reduceEq, Int.reduceLT, Int.reduceLE, ↓reduceIte, Nat.reduceEqDiff, Nat.reduceAdd, Int.reduceToNat, reduceCtorEq, Nat.reduceLeDiff, ↓u_ref7_IsName, bl_strN, hc, d46, d47, d123, g3, g4, g5, g6, g7, g8, g9]
            exact Rnd_keep (s.length + 1 - (i + 1)) (by omega) (by simp) ⟨f, i + 1, rfl, hI.step hc h47 hg (fun j h => by simp [c46, c123]), rfl, rfl⟩
        · have hno : ¬ refP s := fun h => h.elim h0 fun h => by
            have := h.2.2.2.2.2.1 c (List.mem_of_getElem? hc)
            rw [hg] at this; cases this
          rcases hbad with h | h | rfl | rfl | rfl | rfl | rfl | rfl | rfl
          all_goals
            simp -dsimp (disch := first | assumption | omega) only [↓vmPre, vmPost, vmWrd, vmDat, eq_self, forall_const, Nat.reduceLT, Nat.reduceEqDiff, Nat.reduceSub, Nat.reduceMul, Nat.reduceMod, Nat.reduceDiv, Nat.reducePow, UInt8.reduceToNat, Int.reduceEq, Int.reduceLT, Int.reduceLE, ↓reduceIte, Nat.reduceEqDiff, Nat.reduceAdd, Int.reduceToNat, reduceCtorEq, Nat.reduceLeDiff, ↓u_ref7_IsName, bl_strN, hc, d47]
            exact ⟨_, rfl, iff_false' hno _ rfl⟩
    · obtain ⟨k1, k2, k3, k4, k5⟩ := hI
      have hp : (pieces 47 s).all partB = true := by
        rcases k5 with ⟨_, _, h⟩ | ⟨h, _⟩
        · exact h
        · omega
      simp -dsimp (disch := first | assumption | omega) only [↓vmPre, vmPost, vmWrd, vmDat, eq_self, forall_const, Nat.reduceLT, Nat.reduceEqDiff, Nat.reduceSub, Nat.reduceMul, Nat.reduceMod, Nat.reduceDiv, Nat.reducePow, UInt8.reduceToNat, Int.reduceEq, Int.reduceLT, Int.reduceLE, ↓reduceIte, Nat.reduceEqDiff, Nat.reduceAdd, Int.reduceToNat, reduceCtorEq, Nat.reduceLeDiff, ↓u_ref7_IsName, bl_strN]
      refine ⟨_, rfl, iff_true' (.inr ⟨by omega, h3, by rw [hcl]; simpa using h4, fun ⟨j, j1, j2⟩ => ?_, fun ⟨j, j1, j2⟩ => ?_, fun c hc => ?_, hp⟩) _ rfl⟩
      · have := (List.getElem?_eq_some_iff.1 j2).1
        exact (k4 j (by omega)).1 ⟨j1, j2⟩
      · have := (List.getElem?_eq_some_iff.1 j2).1
        exact (k4 j (by omega)).2 ⟨j1, j2⟩
      · obtain ⟨j, hj, rfl⟩ := List.mem_iff_getElem.1 hc
        exact k3 j _ (by omega) (List.getElem?_eq_getElem hj)
end Go.Proofs.YtijidndhlgbjhaaDoor
