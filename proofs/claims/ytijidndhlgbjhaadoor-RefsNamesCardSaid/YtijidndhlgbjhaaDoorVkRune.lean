/- strings.IndexRune at a text of two plain bytes and a rune that is not one of them; strings.ContainsAny with such a text. -/
import Derived.Test.YtijidndhlgbjhaaDoorVkSplit
namespace Go.Proofs.YtijidndhlgbjhaaDoor
open Go.RowKit
variable [Globs]
set_option linter.unusedSectionVars false
set_option linter.unusedVariables false
set_option linter.unusedSimpArgs false

theorem validRuneV (r : Int) (h0 : -2147483648 ≤ r) (h1 : r ≤ 2147483647) : VPure Tryd.prog 169 [.val (.int .i32 r)] (fun x => x = tb (Lib.validRune r)) := by
  have h := VPure.ofBelow (f := 169) (args := [.int .i32 r]) (r := .bool (Lib.validRune r)) (fun F w _ => by
    refine (Tryd.utf8_ValidRune r w).mono ?_
    rintro e w' ⟨rfl, rfl⟩
    exact ⟨rfl, below_self _⟩)
  exact h
theorem sIndexByteV (s : List UInt8) (c : UInt8) : VPure Tryd.prog 168 [ts s, by8 c] (fun x => x = i64 (Lib.indexByte s c)) := by
  have h := VPure.ofBelow (f := 168) (args := [.string (str s), .int .u8 c.toNat]) (r := .int .i64 (Lib.indexByte s c)) (fun F w _ => by
    have h1 := Tryd.strings_IndexByte (str s) c.toNat w
    have e2 : ((c.toNat : Int)).toNat.toUInt8 = c := by rw [Int.toNat_natCast]; simp
    rw [strL, e2] at h1
    refine h1.mono ?_
    rintro e w' ⟨rfl, rfl⟩
    exact ⟨rfl, below_self _⟩)
  exact h
theorem ixb_nil {c : UInt8} : Lib.indexByte [] c = -1 := by simp [Lib.indexByte]
theorem sizeL (l : List UInt8) : (str l).size = l.length := by show l.toArray.size = _; simp
theorem decodeA (l : List UInt8) (k : Nat) (c : UInt8) (hk : l[k]? = some c) (hc : c.toNat < 128) : (Utf8.decode (str l) k).1 = c.toNat ∧ (Utf8.decode (str l) k).2 = 1 := by
  obtain ⟨hl, rfl⟩ := List.getElem?_eq_some_iff.1 hk
  have h : k < (str l).size := by rw [sizeL]; exact hl
  have e : ((str l)[k]'h) = l[k] := rfl
  have := decode_ascii (str l) k h (by rw [e]; exact hc)
  rw [this, e]; exact ⟨rfl, rfl⟩
theorem u8N {n : Nat} (h : n < 256) : (UInt8.ofNat n).toNat = n := by rw [UInt8.toNat_ofNat']; omega
theorem encHi (r : Nat) (h0 : 128 ≤ r) : ∃ (L : List UInt8) (x : UInt8), Utf8.encode (r : Int) = str (L ++ [x]) ∧ 1 ≤ L.length ∧ L.length ≤ 3 ∧ 128 ≤ x.toNat := by
  have key : ∀ c : Nat, 128 ≤ c → ∃ (L : List UInt8) (x : UInt8), (if c < 0x80 then (⟨#[UInt8.ofNat c]⟩ : ByteArray)
      else if c < 0x800 then ⟨#[UInt8.ofNat (0xC0 + c / 64), UInt8.ofNat (0x80 + c % 64)]⟩
      else if c < 0x10000 then ⟨#[UInt8.ofNat (0xE0 + c / 4096), UInt8.ofNat (0x80 + c / 64 % 64), UInt8.ofNat (0x80 + c % 64)]⟩
      else ⟨#[UInt8.ofNat (0xF0 + c / 262144), UInt8.ofNat (0x80 + c / 4096 % 64), UInt8.ofNat (0x80 + c / 64 % 64), UInt8.ofNat (0x80 + c % 64)]⟩) = str (L ++ [x]) ∧ 1 ≤ L.length ∧ L.length ≤ 3 ∧ 128 ≤ x.toNat := by
    intro c hc
    have hx : 128 ≤ (UInt8.ofNat (0x80 + c % 64)).toNat := by rw [u8N (by omega)]; omega
    rw [if_neg (by omega)]
    by_cases h1 : c < 0x800
    · rw [if_pos h1]; exact ⟨[_], _, rfl, by simp, by simp, hx⟩
    · rw [if_neg h1]
      by_cases h2 : c < 0x10000
      · rw [if_pos h2]; exact ⟨[_, _], _, rfl, by simp, by simp, hx⟩
      · rw [if_neg h2]; exact ⟨[_, _, _], _, rfl, by simp, by simp, hx⟩
  unfold Utf8.encode
  refine key _ ?_
  split
  · simpa using h0
  · decide
set_option maxRecDepth 100000 in
theorem indexRuneHi (a b : UInt8) (ha : a.toNat < 128) (hb : b.toNat < 128) (r : Nat) (h0 : 128 ≤ r) (h1 : r ≤ 1114111) : VPure Tryd.prog 108 [ts [a, b], .val (.int .i32 (r : Int))] (fun x => x = i64 (-1)) := by
  refine VCalls.toPureV (go_strings_IndexRune (by simp) ?_)
  by_cases hr : r = 65533
  · subst hr
    obtain ⟨d1, d2⟩ := decodeA [a, b] 0 a rfl ha
    obtain ⟨d3, d4⟩ := decodeA [a, b] 1 b rfl hb
    simp -dsimp (disch := first | assumption | omega) only [↓vmPre, vmPost, vmWrd, vmDat, eq_self, forall_const, Nat.reduceLT, Nat.reduceEqDiff, Nat.reduceSub, Nat.reduceMul, Nat.reduceMod, Nat.reduceDiv, Nat.reducePow, UInt8.reduceToNat, Int.reduceEq, Int.reduceLT, Int.reduceLE, ↓reduceIte, Nat.reduceEqDiff, Nat.reduceAdd, Int.reduceToNat, reduceCtorEq, Nat.reduceLeDiff, ↓u_strings_IndexRune]
    rw [bl_strN]
    refine w_loop (fun q e H => ∃ k : Nat, q = 2 - k ∧ k ≤ 2 ∧ e = [(175, .op 0 0 [])] ∧ H = [.sit [a, b] k]) 2 ?_ ?_
    · exact ⟨0, rfl, by omega, rfl, rfl⟩
    · rintro q e H ⟨k, rfl, hk, rfl, rfl⟩
      rcases (by omega : k = 0 ∨ k = 1 ∨ k = 2) with rfl | rfl | rfl
      · simp -dsimp (disch := first | assumption | omega) only [↓vmPre, vmPost, vmWrd, vmDat, eq_self, forall_const, Nat.reduceLT, Nat.reduceEqDiff, Nat.reduceSub, Nat.reduceMul, Nat.reduceMod, Nat.reduceDiv, Nat.reducePow, UInt8.reduceToNat, Int.reduceEq, Int.reduceLT, Int.reduceLE, ↓reduceIte, Nat.reduceEqDiff, Nat.reduceAdd, Int.reduceToNat, reduceCtorEq, Nat.reduceLeDiff, ↓u_strings_IndexRune, d1, d2]
        exact Rnd_keep 1 (by omega) (by simp) ⟨1, rfl, by omega, rfl, rfl⟩
      · simp -dsimp (disch := first | assumption | omega) only [↓vmPre, vmPost, vmWrd, vmDat, eq_self, forall_const, Nat.reduceLT, Nat.reduceEqDiff, Nat.reduceSub, Nat.reduceMul, Nat.reduceMod, Nat.reduceDiv, Nat.reducePow, UInt8.reduceToNat, Int.reduceEq, Int.reduceLT, Int.reduceLE, ↓reduceIte, Nat.reduceEqDiff, Nat.reduceAdd, Int.reduceToNat, reduceCtorEq, Nat.reduceLeDiff, ↓u_strings_IndexRune, d3, d4]
        exact Rnd_keep 0 (by omega) (by simp) ⟨2, rfl, by omega, rfl, rfl⟩
      · simp -dsimp (disch := first | assumption | omega) only [↓vmPre, vmPost, vmWrd, vmDat, eq_self, forall_const, Nat.reduceLT, Nat.reduceEqDiff, Nat.reduceSub, Nat.reduceMul, Nat.reduceMod, Nat.reduceDiv, Nat.reducePow, UInt8.reduceToNat, Int.reduceEq, Int.reduceLT, Int.reduceLE, ↓reduceIte, Nat.reduceEqDiff, Nat.reduceAdd, Int.reduceToNat, reduceCtorEq, Nat.reduceLeDiff, ↓u_strings_IndexRune]
  · simp -dsimp (disch := first | assumption | omega) only [↓vmPre, vmPost, vmWrd, vmDat, eq_self, forall_const, Nat.reduceLT, Nat.reduceEqDiff, Nat.reduceSub, Nat.reduceMul, Nat.reduceMod, Nat.reduceDiv, Nat.reducePow, UInt8.reduceToNat, Int.reduceEq, Int.reduceLT, Int.reduceLE, ↓reduceIte, Nat.reduceEqDiff, Nat.reduceAdd, Int.reduceToNat, reduceCtorEq, Nat.reduceLeDiff, ↓u_strings_IndexRune]
    refine (validRuneV r (by omega) (by omega)).calls rfl ?_
    rintro _ rfl
    cases hv : Lib.validRune (r : Int) with
    | false =>
      simp -dsimp (disch := first | assumption | omega) only [↓vmPre, vmPost, vmWrd, vmDat, eq_self, forall_const, Nat.reduceLT, Nat.reduceEqDiff, Nat.reduceSub, Nat.reduceMul, Nat.reduceMod, Nat.reduceDiv, Nat.reducePow, UInt8.reduceToNat, Int.reduceEq, Int.reduceLT, Int.reduceLE, ↓reduceIte, Nat.reduceEqDiff, Nat.reduceAdd, Int.reduceToNat, reduceCtorEq, Nat.reduceLeDiff, ↓u_strings_IndexRune]
    | true =>
      obtain ⟨L, x, he, l1, l3, hx⟩ := encHi r h0
      simp -dsimp (disch := first | assumption | omega) only [↓vmPre, vmPost, vmWrd, vmDat, eq_self, forall_const, Nat.reduceLT, Nat.reduceEqDiff, Nat.reduceSub, Nat.reduceMul, Nat.reduceMod, Nat.reduceDiv, Nat.reducePow, UInt8.reduceToNat, Int.reduceEq, Int.reduceLT, Int.reduceLE, ↓reduceIte, Nat.reduceEqDiff, Nat.reduceAdd, Int.reduceToNat, reduceCtorEq, Nat.reduceLeDiff, ↓u_strings_IndexRune, he, bl_strN, List.length_append, Nat.add_sub_cancel]
      refine w_loop (fun q e H => e = [(0, ts [a, b]), (7, .val (.string (str (L ++ [x])))), (8, i64 (L.length : Int)), (9, i64 (L.length : Int))] ∧ H = []) 0 ⟨rfl, rfl⟩ ?_
      rintro q e H ⟨rfl, rfl⟩
      by_cases h2 : L.length = 1
      · obtain ⟨y, rfl⟩ := List.length_eq_one_iff.1 h2
        have hbx : ¬ b.toNat = x.toNat := by omega
        simp -dsimp (disch := first | assumption | omega) only [↓vmPre, vmPost, vmWrd, vmDat, eq_self, forall_const, Nat.reduceLT, Nat.reduceEqDiff, Nat.reduceSub, Nat.reduceMul, Nat.reduceMod, Nat.reduceDiv, Nat.reducePow, UInt8.reduceToNat, Int.reduceEq, Int.reduceLT, Int.reduceLE, ↓reduceIte, Nat.reduceEqDiff, Nat.reduceAdd, Int.reduceToNat, reduceCtorEq, Nat.reduceLeDiff, ↓u_strings_IndexRune, bl_strN, hbx]
        refine (sIndexByteV [] x).calls rfl ?_
        rintro _ rfl
        simp -dsimp (disch := first | assumption | omega) only [↓vmPre, vmPost, vmWrd, vmDat, eq_self, forall_const, Nat.reduceLT, Nat.reduceEqDiff, Nat.reduceSub, Nat.reduceMul, Nat.reduceMod, Nat.reduceDiv, Nat.reducePow, UInt8.reduceToNat, Int.reduceEq, Int.reduceLT, Int.reduceLE, ↓reduceIte, Nat.reduceEqDiff, Nat.reduceAdd, Int.reduceToNat, reduceCtorEq, Nat.reduceLeDiff, ↓u_strings_IndexRune, ixb_nil]
      · simp -dsimp (disch := first | assumption | omega) only [↓vmPre, vmPost, vmWrd, vmDat, eq_self, forall_const, Nat.reduceLT, Nat.reduceEqDiff, Nat.reduceSub, Nat.reduceMul, Nat.reduceMod, Nat.reduceDiv, Nat.reducePow, UInt8.reduceToNat, Int.reduceEq, Int.reduceLT, Int.reduceLE, ↓reduceIte, Nat.reduceEqDiff, Nat.reduceAdd, Int.reduceToNat, reduceCtorEq, Nat.reduceLeDiff, ↓u_strings_IndexRune, bl_strN]
end Go.Proofs.YtijidndhlgbjhaaDoor
