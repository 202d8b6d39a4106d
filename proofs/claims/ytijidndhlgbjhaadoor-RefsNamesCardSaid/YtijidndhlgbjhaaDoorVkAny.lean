/- strings.ContainsAny with a text of two plain bytes. -/
import Derived.Test.YtijidndhlgbjhaaDoorVkRune
import Derived.Laws.RangeAny
import Derived.Lib.TrimU
namespace Go.Proofs.YtijidndhlgbjhaaDoor
open Go.RowKit
variable [Globs]
set_option linter.unusedSectionVars false
set_option linter.unusedVariables false
set_option linter.unusedSimpArgs false

theorem decodeN_skip (n b0 b1 b2 b3 : Nat) : (2 ≤ (Lib.decodeN n b0 b1 b2 b3).2 → 1 < n ∧ b1 / 64 = 2) ∧ (3 ≤ (Lib.decodeN n b0 b1 b2 b3).2 → 2 < n ∧ b2 / 64 = 2) ∧ (4 ≤ (Lib.decodeN n b0 b1 b2 b3).2 → 3 < n ∧ b3 / 64 = 2) ∧ (Lib.decodeN n b0 b1 b2 b3).2 ≤ 4 := by
  unfold Lib.decodeN
  by_cases h0 : b0 < 128
  · rw [if_pos h0]; simp
  rw [if_neg h0]
  by_cases h1 : b0 / 32 = 6 ∧ (1 < n ∧ b1 / 64 = 2)
  · rw [if_pos h1]; obtain ⟨_, h2, h3⟩ := h1; split <;> simp [h2, h3]
  rw [if_neg h1]
  by_cases h4 : b0 / 16 = 14 ∧ (1 < n ∧ b1 / 64 = 2) ∧ (2 < n ∧ b2 / 64 = 2)
  · rw [if_pos h4]; obtain ⟨_, ⟨h2, h3⟩, h5, h6⟩ := h4; split <;> simp [h2, h3, h5, h6]
  rw [if_neg h4]
  by_cases h7 : b0 / 8 = 30 ∧ (1 < n ∧ b1 / 64 = 2) ∧ (2 < n ∧ b2 / 64 = 2) ∧ (3 < n ∧ b3 / 64 = 2)
  · rw [if_pos h7]; obtain ⟨_, ⟨h2, h3⟩, ⟨h5, h6⟩, h8, h9⟩ := h7; split <;> simp [h2, h3, h5, h6, h8, h9]
  rw [if_neg h7]; simp
theorem getL {l : List UInt8} {i : Nat} (h : i < l.length) : (str l).get! i = l[i] := by
  have h' : i < (str l).size := by rw [sizeL]; exact h
  have e : (str l).get! i = (str l)[i]'h' := by
    simp [ByteArray.get!, getElem!_pos, h']
    rfl
  rw [e]; rfl
/-- What a rune's further bytes are. -/
theorem decode_skip {l : List UInt8} {pos j : Nat} (hj : pos < j) (hj2 : j < pos + (Utf8.decode (str l) pos).2) : ∃ c, l[j]? = some c ∧ 128 ≤ c.toNat := by
  rw [Lib.decode_at, sizeL] at hj2
  obtain ⟨h1, h2, h3, h4⟩ := decodeN_skip (l.length - pos) ((str l).get! pos).toNat ((str l).get! (pos + 1)).toNat ((str l).get! (pos + 2)).toNat ((str l).get! (pos + 3)).toNat
  generalize (Lib.decodeN (l.length - pos) ((str l).get! pos).toNat ((str l).get! (pos + 1)).toNat ((str l).get! (pos + 2)).toNat ((str l).get! (pos + 3)).toNat).2 = k at *
  rcases (by omega : j = pos + 1 ∨ j = pos + 2 ∨ j = pos + 3) with rfl | rfl | rfl
  · obtain ⟨q1, q2⟩ := h1 (by omega)
    rw [getL (by omega)] at q2
    exact ⟨_, List.getElem?_eq_getElem (by omega), by omega⟩
  · obtain ⟨q1, q2⟩ := h2 (by omega)
    rw [getL (by omega)] at q2
    exact ⟨_, List.getElem?_eq_getElem (by omega), by omega⟩
  · obtain ⟨q1, q2⟩ := h3 (by omega)
    rw [getL (by omega)] at q2
    exact ⟨_, List.getElem?_eq_getElem (by omega), by omega⟩
theorem decodeHi (l : List UInt8) (k : Nat) (c : UInt8) (hk : l[k]? = some c) (hc : 128 ≤ c.toNat) : 128 ≤ (Utf8.decode (str l) k).1 ∧ (Utf8.decode (str l) k).1 ≤ 1114111 ∧ 1 ≤ (Utf8.decode (str l) k).2 := by
  obtain ⟨hl, rfl⟩ := List.getElem?_eq_some_iff.1 hk
  have h : k < (str l).size := by rw [sizeL]; exact hl
  have e : ((str l)[k]'h) = l[k] := rfl
  obtain ⟨h1, h2⟩ := decode_high (str l) k h (by rw [e]; exact hc)
  exact ⟨h1, Lib.rune_le _ _, h2⟩
theorem indexAny_iff (m : List UInt8) : ∀ l : List UInt8, 0 ≤ Lib.indexAny l m ↔ ∃ x ∈ l, x ∈ m
  | [] => by simp [Lib.indexAny]
  | b :: l => by
    have ih := indexAny_iff m l
    have hg := Lib.indexAny_ge m l
    unfold Lib.indexAny
    by_cases hb : b ∈ m
    · simp [hb]
    · have hb' : m.contains b = false := by simpa using hb
      rw [if_neg (by rw [hb']; simp)]
      by_cases h : Lib.indexAny l m = -1
      · rw [h]
        have : ¬ ∃ x ∈ l, x ∈ m := by rw [← ih, h]; omega
        simp [hb, this]
      · have h' : 0 ≤ Lib.indexAny l m := by omega
        have h2 : (Lib.indexAny l m == -1) = false := by simpa using h
        rw [h2]
        have := ih.1 h'
        simp [hb, this]
        omega
theorem indexRuneLo (a b : UInt8) (c : UInt8) (hc : c.toNat < 128) : VPure Tryd.prog 108 [ts [a, b], .val (.int .i32 ((c.toNat : Nat) : Int))] (fun x => x = i64 (Lib.indexByte [a, b] c)) := by
  have h := VPure.ofBelow (f := 108) (args := [.string (str [a, b]), .int .i32 c.toNat]) (r := .int .i64 (Lib.indexByte [a, b] c)) (fun F w _ => by
    have h1 := Tryd.strings_IndexRune_ascii (str [a, b]) c.toNat w (by omega) (by omega)
    have e2 : ((c.toNat : Int)).toNat.toUInt8 = c := by rw [Int.toNat_natCast]; simp
    rw [strL, e2] at h1
    refine h1.mono ?_
    rintro e w' ⟨rfl, rfl⟩
    exact ⟨rfl, below_self _⟩)
  exact h
set_option maxRecDepth 100000 in
theorem indexAnyV (s : List UInt8) (a b : UInt8) (hs : s.length ≤ 1000) (ha : a.toNat < 128) (hb : b.toNat < 128) : VPure Tryd.prog 174 [ts s, ts [a, b]] (fun x => ∃ i : Int, x = i64 i ∧ (0 ≤ i ↔ ∃ x ∈ s, x ∈ [a, b])) := by
  by_cases h8 : 8 < s.length
  · have h := VPure.ofBelow (f := 174) (args := [.string (str s), .string (str [a, b])]) (r := .int .i64 (Lib.indexAny s [a, b])) (fun F w _ => by
      have h1 := Tryd.strings_IndexAny_long (by intro w; kernel_rfl) (str s) (str [a, b]) w (by rw [sizeL]; simp) (by rw [sizeL]; exact h8) (by rw [sizeL]; omega) (by rw [sizeL]; simp) (fun j x hx => by
        rw [strL] at hx
        have := List.mem_of_getElem? hx
        simp at this
        rcases this with rfl | rfl
        · exact ha
        · exact hb)
      rw [strL, strL] at h1
      refine h1.mono ?_
      rintro e w' ⟨rfl, rfl⟩
      exact ⟨rfl, rfl, rfl, rfl, by simp; omega, fun i hi => by rw [alloc_old _ _ (by simp; omega), alloc_old _ _ hi]⟩)
    refine VPure.mono (args := [ts s, ts [a, b]]) h ?_
    rintro x rfl
    exact ⟨_, rfl, indexAny_iff _ _⟩
  · refine VCalls.toPureV (go_strings_IndexAny (by simp) ?_)
    have n1 : ¬ ([a, b] : List UInt8) = [] := by simp
    simp -dsimp (disch := first | assumption | omega) only [↓vmPre, vmPost, vmWrd, vmDat, eq_self, forall_const, Nat.reduceLT, Nat.reduceEqDiff, Nat.reduceSub, Nat.reduceMul, Nat.reduceMod, Nat.reduceDiv, Nat.reducePow, UInt8.reduceToNat, Int.reduceEq, Int.reduceLT, Int.reduceLE, ↓reduceIte, Nat.reduceEqDiff, Nat.reduceAdd, Int.reduceToNat, reduceCtorEq, Nat.reduceLeDiff, ↓u_strings_IndexAny, bl_strN]
    refine go_strings_shouldUseASCIISet (by simp) ?_
    simp -dsimp (disch := first | assumption | omega) only [↓vmPre, vmPost, vmWrd, vmDat, eq_self, forall_const, Nat.reduceLT, Nat.reduceEqDiff, Nat.reduceSub, Nat.reduceMul, Nat.reduceMod, Nat.reduceDiv, Nat.reducePow, UInt8.reduceToNat, Int.reduceEq, Int.reduceLT, Int.reduceLE, ↓reduceIte, Nat.reduceEqDiff, Nat.reduceAdd, Int.reduceToNat, reduceCtorEq, Nat.reduceLeDiff, ↓u_strings_shouldUseASCIISet, ↓u_strings_IndexAny, bl_strN]
    refine w_loop (fun q e H => ∃ pos : Nat, q = s.length - pos ∧ (∀ j x, j < pos → s[j]? = some x → x ∉ [a, b]) ∧ e = [(1, ts [a, b]), (45, .op 0 0 [])] ∧ H = [.sit s pos]) s.length ?_ ?_
    · exact ⟨0, rfl, fun j x h => by omega, rfl, rfl⟩
    · rintro q e H ⟨pos, rfl, hno, rfl, rfl⟩
      by_cases hp : pos < s.length
      · obtain ⟨c, hc⟩ : ∃ c, s[pos]? = some c := ⟨_, List.getElem?_eq_getElem hp⟩
        by_cases h7 : c.toNat < 128
        · obtain ⟨d1, d2⟩ := decodeA s pos c hc h7
          simp -dsimp (disch := first | assumption | omega) only [↓vmPre, vmPost, vmWrd, vmDat, eq_self, forall_const, Nat.reduceLT, Nat.reduceEqDiff, Nat.reduceSub, Nat.reduceMul, Nat.reduceMod, Nat.reduceDiv, Nat.reducePow, UInt8.reduceToNat, Int.reduceEq, Int.reduceLT, Int.reduceLE, ↓reduceIte, Nat.reduceEqDiff, Nat.reduceAdd, Int.reduceToNat, reduceCtorEq, Nat.reduceLeDiff, ↓u_strings_IndexAny, d1, d2]
          refine (indexRuneLo a b c h7).calls rfl ?_
          rintro _ rfl
          by_cases hm : c ∈ [a, b]
          · obtain ⟨k, hk⟩ : ∃ k : Nat, Lib.indexByte [a, b] c = (k : Int) := by
              rcases ixb_cases c [a, b] with ⟨_, h, _⟩ | ⟨k, h, _⟩
              · exact absurd hm h
              · exact ⟨k, h⟩
            rw [hk]
            simp -dsimp (disch := first | assumption | omega) only [↓vmPre, vmPost, vmWrd, vmDat, eq_self, forall_const, Nat.reduceLT, Nat.reduceEqDiff, Nat.reduceSub, Nat.reduceMul, Nat.reduceMod, Nat.reduceDiv, Nat.reducePow, UInt8.reduceToNat, Int.reduceEq, Int.reduceLT, Int.reduceLE, ↓reduceIte, Nat.reduceEqDiff, Nat.reduceAdd, Int.reduceToNat, reduceCtorEq, Nat.reduceLeDiff, ↓u_strings_IndexAny]
            exact ⟨_, rfl, fun _ => ⟨c, List.mem_of_getElem? hc, hm⟩, fun _ => by omega⟩
          · have hk : Lib.indexByte [a, b] c = -1 := by
              rcases ixb_cases c [a, b] with ⟨h, _⟩ | ⟨k, _, h, h2, _⟩
              · exact h
              · exact absurd (List.mem_of_getElem? h2) hm
            rw [hk]
            simp -dsimp (disch := first | assumption | omega) only [↓vmPre, vmPost, vmWrd, vmDat, eq_self, forall_const, Nat.reduceLT, Nat.reduceEqDiff, Nat.reduceSub, Nat.reduceMul, Nat.reduceMod, Nat.reduceDiv, Nat.reducePow, UInt8.reduceToNat, Int.reduceEq, Int.reduceLT, Int.reduceLE, ↓reduceIte, Nat.reduceEqDiff, Nat.reduceAdd, Int.reduceToNat, reduceCtorEq, Nat.reduceLeDiff, ↓u_strings_IndexAny]
            refine Rnd_keep (s.length - (pos + 1)) (by omega) (by simp) ⟨pos + 1, rfl, fun j x hj hx => ?_, rfl, rfl⟩
            by_cases e : j = pos
            · subst e; rw [hc] at hx; cases hx; exact hm
            · exact hno j x (by omega) hx
        · obtain ⟨d1, d2, d3⟩ := decodeHi s pos c hc (by omega)
          have hsk : ∀ j, pos < j → j < pos + (Utf8.decode (str s) pos).2 → ∃ c, s[j]? = some c ∧ 128 ≤ c.toNat := fun j h h2 => decode_skip h h2
          simp -dsimp (disch := first | assumption | omega) only [↓vmPre, vmPost, vmWrd, vmDat, eq_self, forall_const, Nat.reduceLT, Nat.reduceEqDiff, Nat.reduceSub, Nat.reduceMul, Nat.reduceMod, Nat.reduceDiv, Nat.reducePow, UInt8.reduceToNat, Int.reduceEq, Int.reduceLT, Int.reduceLE, ↓reduceIte, Nat.reduceEqDiff, Nat.reduceAdd, Int.reduceToNat, reduceCtorEq, Nat.reduceLeDiff, ↓u_strings_IndexAny]
          generalize (Utf8.decode (str s) pos).1 = r at *
          generalize (Utf8.decode (str s) pos).2 = k at *
          refine (indexRuneHi a b ha hb r d1 d2).calls rfl ?_
          rintro _ rfl
          simp -dsimp (disch := first | assumption | omega) only [↓vmPre, vmPost, vmWrd, vmDat, eq_self, forall_const, Nat.reduceLT, Nat.reduceEqDiff, Nat.reduceSub, Nat.reduceMul, Nat.reduceMod, Nat.reduceDiv, Nat.reducePow, UInt8.reduceToNat, Int.reduceEq, Int.reduceLT, Int.reduceLE, ↓reduceIte, Nat.reduceEqDiff, Nat.reduceAdd, Int.reduceToNat, reduceCtorEq, Nat.reduceLeDiff, ↓u_strings_IndexAny]
          have hi2 : ∀ y : UInt8, 128 ≤ y.toNat → y ∉ [a, b] := fun y hy hm => by
            simp at hm
            rcases hm with rfl | rfl <;> omega
          refine Rnd_keep (s.length - (pos + k)) (by omega) (by simp) ⟨pos + k, rfl, fun j x hj hx => ?_, rfl, rfl⟩
          by_cases e : j = pos
          · subst e; rw [hc] at hx; cases hx; exact hi2 _ (by omega)
          · by_cases h2 : j < pos
            · exact hno j x h2 hx
            · obtain ⟨y, hy, hy2⟩ := hsk j (by omega) hj
              rw [hy] at hx; cases hx; exact hi2 _ hy2
      · simp -dsimp (disch := first | assumption | omega) only [↓vmPre, vmPost, vmWrd, vmDat, eq_self, forall_const, Nat.reduceLT, Nat.reduceEqDiff, Nat.reduceSub, Nat.reduceMul, Nat.reduceMod, Nat.reduceDiv, Nat.reducePow, UInt8.reduceToNat, Int.reduceEq, Int.reduceLT, Int.reduceLE, ↓reduceIte, Nat.reduceEqDiff, Nat.reduceAdd, Int.reduceToNat, reduceCtorEq, Nat.reduceLeDiff, ↓u_strings_IndexAny]
        refine ⟨-1, rfl, fun h => by omega, fun ⟨x, hx, hm⟩ => ?_⟩
        obtain ⟨j, hj, rfl⟩ := List.mem_iff_getElem.1 hx
        exact absurd hm (hno j _ (by omega) (List.getElem?_eq_getElem hj))
theorem containsAnyV (s : List UInt8) (a b : UInt8) (hs : s.length ≤ 1000) (ha : a.toNat < 128) (hb : b.toNat < 128) : VPure Tryd.prog 110 [ts s, ts [a, b]] (fun x => x = tb (decide (∃ x ∈ s, x ∈ [a, b]))) := by
  refine VCalls.toPureV (go_strings_ContainsAny (by simp) ?_)
  simp -dsimp (disch := first | assumption | omega) only [↓vmPre, vmPost, vmWrd, vmDat, eq_self, forall_const, Nat.reduceLT, Nat.reduceEqDiff, Nat.reduceSub, Nat.reduceMul, Nat.reduceMod, Nat.reduceDiv, Nat.reducePow, UInt8.reduceToNat, Int.reduceEq, Int.reduceLT, Int.reduceLE, ↓reduceIte, Nat.reduceEqDiff, Nat.reduceAdd, Int.reduceToNat, reduceCtorEq, Nat.reduceLeDiff, ↓u_strings_ContainsAny]
  refine (indexAnyV s a b hs ha hb).calls rfl ?_
  rintro _ ⟨i, rfl, hi⟩
  have e : (decide (∃ x ∈ s, x ∈ [a, b])) = decide (0 ≤ i) := by simp only [hi]
  rw [e]
  simp -dsimp (disch := first | assumption | omega) only [↓vmPre, vmPost, vmWrd, vmDat, eq_self, forall_const, Nat.reduceLT, Nat.reduceEqDiff, Nat.reduceSub, Nat.reduceMul, Nat.reduceMod, Nat.reduceDiv, Nat.reducePow, UInt8.reduceToNat, Int.reduceEq, Int.reduceLT, Int.reduceLE, ↓reduceIte, Nat.reduceEqDiff, Nat.reduceAdd, Int.reduceToNat, reduceCtorEq, Nat.reduceLeDiff, ↓u_strings_ContainsAny]
  simp
end Go.Proofs.YtijidndhlgbjhaaDoor
