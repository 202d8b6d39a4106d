/- digest.Parse, and the document's. -/
import Derived.Test.YtknphdcjopaaoaaDoorVhRef
namespace Go.Proofs.YtknphdcjopaaoaaDoor
open Go.RowKit
set_option linter.unusedVariables false
set_option linter.unusedSimpArgs false

/-- What a digit stands for; 16: it is none. -/
def hv (c : UInt8) : Nat := if 48 ≤ c.toNat ∧ c.toNat ≤ 57 then c.toNat - 48 else if 97 ≤ c.toNat ∧ c.toNat ≤ 102 then c.toNat - 87 else 16
theorem hv_index : ∀ n, n < 256 → Lib.indexByte digTab (UInt8.ofNat n) = if hv (UInt8.ofNat n) < 16 then (hv (UInt8.ofNat n) : Int) else -1 := by decide +kernel
theorem hv_at (c : UInt8) : Lib.indexByte digTab c = if hv c < 16 then (hv c : Int) else -1 := by
  have h := hv_index c.toNat c.toNat_lt
  rwa [UInt8.ofNat_toNat] at h
theorem hv_dig : ∀ n, n < 16 → hv (dig n) = n := by decide
/-- The bytes that digits stand for, two by two. -/
def pairs : List UInt8 → List UInt8
  | a :: b :: l => UInt8.ofNat (hv a * 16 + hv b) :: pairs l
  | _ => []
def okHex (s : List UInt8) : Bool := decide (s.length = 40) && s.all fun c => decide (hv c < 16)
theorem pairs_len : ∀ {n : Nat} {s : List UInt8}, s.length = 2 * n → (pairs s).length = n
  | 0, s, h => by rw [List.length_eq_zero_iff.1 (by omega : s.length = 0)]; rfl
  | n + 1, [], h => by simp at h
  | n + 1, [a], h => by simp at h; omega
  | n + 1, a :: b :: s, h => by
    rw [pairs, List.length_cons, pairs_len (n := n) (by simp at h; omega)]
theorem pairs_snoc : ∀ {n : Nat} {s : List UInt8} {a b : UInt8}, s.length = 2 * n → pairs (s ++ [a, b]) = pairs s ++ [UInt8.ofNat (hv a * 16 + hv b)]
  | 0, s, a, b, h => by rw [List.length_eq_zero_iff.1 (by omega : s.length = 0)]; rfl
  | n + 1, [], a, b, h => by simp at h
  | n + 1, [x], a, b, h => by simp at h; omega
  | n + 1, x :: y :: s, a, b, h => by
    rw [List.cons_append, List.cons_append, pairs, pairs, pairs_snoc (n := n) (by simp at h; omega), List.cons_append]
theorem take_two {s : List UInt8} {i : Nat} (h : 2 * i + 1 < s.length) : s.take (2 * (i + 1)) = s.take (2 * i) ++ [s[2 * i], s[2 * i + 1]] := by
  have e : 2 * (i + 1) = 2 * i + 1 + 1 := by omega
  rw [e, List.take_succ_eq_append_getElem h, List.take_succ_eq_append_getElem (by omega), List.append_assoc]; rfl
/-- Zeros. -/
def zer (n : Nat) : List UInt8 := List.replicate n 0
theorem zer_by : (zer 20).map by8 = List.replicate 20 (TV.val (.int .u8 ((0 : Nat) : Int))) := by simp [zer, by8]
def parsed (s : List UInt8) : List UInt8 := if okHex s then pairs s else zer 20
theorem set_fill {l : List UInt8} {n : Nat} {b : UInt8} (h : 0 < n) : ((l ++ zer n).map by8).set l.length (by8 b) = ((l ++ [b]) ++ zer (n - 1)).map by8 := by
  obtain ⟨m, rfl⟩ : ∃ m, n = m + 1 := ⟨n - 1, by omega⟩
  rw [← List.map_set, List.set_append_right _ _ (Nat.le_refl _), Nat.sub_self, Nat.add_sub_cancel]
  simp [zer, List.replicate_succ]

theorem indexV (l : List UInt8) (c : UInt8) : VPure Tryd.prog 36 [.val (.string (str l)), by8 c] (fun x => x = .val (.int .i64 (Lib.indexByte l c))) := by
  refine VCalls.toPureV (go_strings_IndexByte (by simp) ?_)
  simp -dsimp (disch := first | assumption | omega) only [↓vmPre, vmPost, vmWrd, vmDat, eq_self, forall_const, Nat.reduceLT, Nat.reduceEqDiff, Nat.reduceSub, Nat.reduceMul, Nat.reduceMod, Nat.reduceDiv, Nat.reducePow, UInt8.reduceToNat, Int.reduceEq, Int.reduceLT, Int.reduceLE, ↓reduceIte, Nat.reduceEqDiff, Nat.reduceAdd, Int.reduceToNat, reduceCtorEq, Nat.reduceLeDiff, ↓u_strings_IndexByte]
  refine (sIndexByteL l c).calls rfl ?_
  rintro x rfl
  simp -dsimp (disch := first | assumption | omega) only [↓vmPre, vmPost, vmWrd, vmDat, eq_self, forall_const, Nat.reduceLT, Nat.reduceEqDiff, Nat.reduceSub, Nat.reduceMul, Nat.reduceMod, Nat.reduceDiv, Nat.reducePow, UInt8.reduceToNat, Int.reduceEq, Int.reduceLT, Int.reduceLE, ↓reduceIte, Nat.reduceEqDiff, Nat.reduceAdd, Int.reduceToNat, reduceCtorEq, Nat.reduceLeDiff, ↓u_strings_IndexByte]

theorem or16 {a b : Nat} (ha : a < 16) (hb : b < 16) : a * 2 ^ 4 ||| b = a * 16 + b := by
  have h := Nat.two_pow_add_eq_or_of_lt (i := 4) (b := b) (by omega) a
  rw [Nat.mul_comm] at h
  rw [← h]
theorem okHex_all {s : List UInt8} (h : s.length = 40) : okHex s = true ↔ ∀ c ∈ s, hv c < 16 := by
  unfold okHex
  rw [Bool.and_eq_true, List.all_eq_true]
  simp [h]
theorem parseV (s : List UInt8) (hs : s.length ≤ 1000000) : VPure Tryd.prog 15 [.val (.string (str s))] (fun r => r = .tup [.arr 20 1 ((parsed s).map by8), if okHex s then .val .nilIface else eno 12]) := by
  refine VCalls.toPureV (go_digest_Parse (by simp) ?_)
  by_cases h40 : s.length = 40
  case neg =>
    have hok : okHex s = false := by unfold okHex; rw [Bool.and_eq_false_iff]; left; simpa using h40
    unfold parsed
    rw [hok, if_neg (by simp), if_neg (by simp), zer_by]
    simp -dsimp (disch := first | assumption | omega) only [↓vmPre, vmPost, vmWrd, vmDat, eq_self, forall_const, Nat.reduceLT, Nat.reduceEqDiff, Nat.reduceSub, Nat.reduceMul, Nat.reduceMod, Nat.reduceDiv, Nat.reducePow, UInt8.reduceToNat, Int.reduceEq, Int.reduceLT, Int.reduceLE, ↓reduceIte, Nat.reduceEqDiff, Nat.reduceAdd, Int.reduceToNat, reduceCtorEq, Nat.reduceLeDiff, ↓u_digest_Parse, bl_strH]
    rfl
  simp -dsimp (disch := first | assumption | omega) only [↓vmPre, vmPost, vmWrd, vmDat, eq_self, forall_const, Nat.reduceLT, Nat.reduceEqDiff, Nat.reduceSub, Nat.reduceMul, Nat.reduceMod, Nat.reduceDiv, Nat.reducePow, UInt8.reduceToNat, Int.reduceEq, Int.reduceLT, Int.reduceLE, ↓reduceIte, Nat.reduceEqDiff, Nat.reduceAdd, Int.reduceToNat, reduceCtorEq, Nat.reduceLeDiff, ↓u_digest_Parse, bl_strH]
  refine w_loop (fun q e H => ∃ i : Nat, q = 20 - i ∧ i ≤ 20 ∧ (∀ c ∈ s.take (2 * i), hv c < 16) ∧ e = [(0, .val (.string (str s))), (2, .op 0 0 []), (4, .op 1 0 []), (13, i64 (i : Int))] ∧
    H = [.obj 0 (.arr 20 1 ((zer 20).map by8)), .obj 0 (.arr 20 1 ((pairs (s.take (2 * i)) ++ zer (20 - i)).map by8))]) 20 ?_ ?_
  · exact ⟨0, by simp, by simp, by simp, rfl, rfl⟩
  · rintro q e H ⟨i, rfl, hi, hall, rfl, rfl⟩
    by_cases h : i < 20
    · have h1 : 2 * i < s.length := by omega
      have h2 : 2 * i + 1 < s.length := by omega
      have hg1 : s[2 * i]? = some s[2 * i] := List.getElem?_eq_getElem h1
      have hg2 : s[2 * i + 1]? = some s[2 * i + 1] := List.getElem?_eq_getElem h2
      have htw := take_two h2
      have hpl : (pairs (s.take (2 * i))).length = i := pairs_len (by rw [List.length_take]; omega)
      have hps := pairs_snoc (n := i) (s := s.take (2 * i)) (a := s[2 * i]) (b := s[2 * i + 1]) (by rw [List.length_take]; omega)
      rw [← htw] at hps
      have hm1 := List.getElem_mem h1
      have hm2 := List.getElem_mem h2
      have hmem : ∀ c ∈ s.take (2 * (i + 1)), c ∈ s.take (2 * i) ∨ c = s[2 * i] ∨ c = s[2 * i + 1] := by
        intro c hc
        rw [htw, List.mem_append] at hc
        rcases hc with hc | hc
        · exact .inl hc
        · simp only [List.mem_cons, List.not_mem_nil, or_false] at hc; exact .inr hc
      generalize s[2 * i] = a at *
      generalize s[2 * i + 1] = b at *
      generalize hP : pairs (s.take (2 * i)) = P at *
      have hsf := set_fill (l := P) (n := 20 - i) (b := UInt8.ofNat (hv a * 16 + hv b)) (by omega)
      rw [hpl] at hsf
      have hget : (P ++ zer (20 - i))[i]? = some 0 := by
        rw [List.getElem?_append_right (by omega), hpl, Nat.sub_self]
        unfold zer; rw [List.getElem?_replicate, if_pos (by omega)]
      have hlp : (P ++ zer (20 - i)).length = 20 := by rw [List.length_append, hpl, zer, List.length_replicate]; omega
      simp -dsimp (disch := first | assumption | omega) only [↓vmPre, vmPost, vmWrd, vmDat, eq_self, forall_const, Nat.reduceLT, Nat.reduceEqDiff, Nat.reduceSub, Nat.reduceMul, Nat.reduceMod, Nat.reduceDiv, Nat.reducePow, UInt8.reduceToNat, Int.reduceEq, Int.reduceLT, Int.reduceLE, ↓reduceIte, Nat.reduceEqDiff, Nat.reduceAdd, Int.reduceToNat, reduceCtorEq, Nat.reduceLeDiff, ↓u_digest_Parse, bl_strH, hg1, hg2]
      refine vex_is (.val (.int .i64 (Lib.indexByte digTab a))) ⟨(indexV digTab a).calls rfl (fun x hx => ⟨hx, rfl⟩), ?_⟩
      rw [hv_at a]
      simp -dsimp (disch := first | assumption | omega) only [↓vmPre, vmPost, vmWrd, vmDat, eq_self, forall_const, Nat.reduceLT, Nat.reduceEqDiff, Nat.reduceSub, Nat.reduceMul, Nat.reduceMod, Nat.reduceDiv, Nat.reducePow, UInt8.reduceToNat, Int.reduceEq, Int.reduceLT, Int.reduceLE, ↓reduceIte, Nat.reduceEqDiff, Nat.reduceAdd, Int.reduceToNat, reduceCtorEq, Nat.reduceLeDiff, ↓u_digest_Parse, bl_strH, hg1, hg2]
      refine (indexV digTab b).calls rfl ?_
      rintro x rfl
      rw [hv_at b]
      by_cases ha : hv a < 16
      · rw [if_pos ha]
        by_cases hb : hv b < 16
        · rw [if_pos hb]
          have ho := or16 ha hb
          simp -dsimp (disch := first | assumption | omega) only [↓vmPre, vmPost, vmWrd, vmDat, eq_self, forall_const, Nat.reduceLT, Nat.reduceEqDiff, Nat.reduceSub, Nat.reduceMul, Nat.reduceMod, Nat.reduceDiv, Nat.reducePow, UInt8.reduceToNat, Int.reduceEq, Int.reduceLT, Int.reduceLE, ↓reduceIte, Nat.reduceEqDiff, Nat.reduceAdd, Int.reduceToNat, reduceCtorEq, Nat.reduceLeDiff, ↓u_digest_Parse, ho, hget, hsf]
          refine Rnd_keep (20 - (i + 1)) (by omega) (by simp) ⟨i + 1, rfl, by omega, fun c hc => ?_, rfl, ?_⟩
          · rcases hmem c hc with hc | rfl | rfl
            · exact hall c hc
            · exact ha
            · exact hb
          · rw [hps, show 20 - (i + 1) = 20 - i - 1 from by omega]
        · rw [if_neg hb]
          have hok : okHex s = false := by
            cases hq : okHex s with
            | false => rfl
            | true => exact absurd ((okHex_all h40).1 hq b hm2) hb
          unfold parsed
          rw [hok, if_neg (by simp), if_neg (by simp), zer_by]
          simp -dsimp (disch := first | assumption | omega) only [↓vmPre, vmPost, vmWrd, vmDat, eq_self, forall_const, Nat.reduceLT, Nat.reduceEqDiff, Nat.reduceSub, Nat.reduceMul, Nat.reduceMod, Nat.reduceDiv, Nat.reducePow, UInt8.reduceToNat, Int.reduceEq, Int.reduceLT, Int.reduceLE, ↓reduceIte, Nat.reduceEqDiff, Nat.reduceAdd, Int.reduceToNat, reduceCtorEq, Nat.reduceLeDiff, ↓u_digest_Parse]
          rfl
      · rw [if_neg ha]
        have hok : okHex s = false := by
          cases hq : okHex s with
          | false => rfl
          | true => exact absurd ((okHex_all h40).1 hq a hm1) ha
        unfold parsed
        rw [hok, if_neg (by simp), if_neg (by simp), zer_by]
        simp -dsimp (disch := first | assumption | omega) only [↓vmPre, vmPost, vmWrd, vmDat, eq_self, forall_const, Nat.reduceLT, Nat.reduceEqDiff, Nat.reduceSub, Nat.reduceMul, Nat.reduceMod, Nat.reduceDiv, Nat.reducePow, UInt8.reduceToNat, Int.reduceEq, Int.reduceLT, Int.reduceLE, ↓reduceIte, Nat.reduceEqDiff, Nat.reduceAdd, Int.reduceToNat, reduceCtorEq, Nat.reduceLeDiff, ↓u_digest_Parse]
        rfl
    · have hi2 : i = 20 := by omega
      subst hi2
      have htl : s.take (2 * 20) = s := List.take_of_length_le (by omega)
      rw [htl] at hall
      have hok : okHex s = true := (okHex_all h40).2 hall
      have hpl : (pairs s).length = 20 := pairs_len (by omega)
      unfold parsed
      rw [hok, if_pos rfl, if_pos rfl, htl]
      simp -dsimp (disch := first | assumption | omega) only [↓vmPre, vmPost, vmWrd, vmDat, eq_self, forall_const, Nat.reduceLT, Nat.reduceEqDiff, Nat.reduceSub, Nat.reduceMul, Nat.reduceMod, Nat.reduceDiv, Nat.reducePow, UInt8.reduceToNat, Int.reduceEq, Int.reduceLT, Int.reduceLE, ↓reduceIte, Nat.reduceEqDiff, Nat.reduceAdd, Int.reduceToNat, reduceCtorEq, Nat.reduceLeDiff, ↓u_digest_Parse]
      simp [zer]

/-! The document's. -/
/-- .. with half a byte at the end. -/
def halves : List UInt8 → List UInt8
  | a :: b :: l => UInt8.ofNat (hv a * 16 + hv b) :: halves l
  | [a] => [UInt8.ofNat (hv a)]
  | [] => []
theorem halves_even : ∀ {n : Nat} {s : List UInt8}, s.length = 2 * n → halves s = pairs s
  | 0, s, h => by rw [List.length_eq_zero_iff.1 (by omega : s.length = 0)]; rfl
  | n + 1, [], h => by simp at h
  | n + 1, [a], h => by simp at h; omega
  | n + 1, a :: b :: s, h => by rw [halves, pairs, halves_even (n := n) (by simp at h; omega)]
theorem halves_odd : ∀ {n : Nat} {s : List UInt8} {a : UInt8}, s.length = 2 * n → halves (s ++ [a]) = pairs s ++ [UInt8.ofNat (hv a)]
  | 0, s, a, h => by rw [List.length_eq_zero_iff.1 (by omega : s.length = 0)]; rfl
  | n + 1, [], a, h => by simp at h
  | n + 1, [x], a, h => by simp at h; omega
  | n + 1, x :: y :: s, a, h => by rw [List.cons_append, List.cons_append, halves, pairs, halves_odd (n := n) (by simp at h; omega), List.cons_append]
theorem okHex_not {s : List UInt8} {c : UInt8} (h40 : s.length = 40) (hm : c ∈ s) (hc : ¬ hv c < 16) : okHex s = false := by
  cases hq : okHex s with
  | false => rfl
  | true => exact absurd ((okHex_all h40).1 hq c hm) hc
theorem hv_num {c : UInt8} (h1 : 48 ≤ c.toNat) (h2 : c.toNat ≤ 57) : hv c = c.toNat - 48 := by unfold hv; rw [if_pos ⟨h1, h2⟩]
theorem hv_let {c : UInt8} (h1 : 97 ≤ c.toNat) (h2 : c.toNat ≤ 102) : hv c = c.toNat - 87 := by unfold hv; rw [if_neg (by omega), if_pos ⟨h1, h2⟩]
theorem hv_bad {c : UInt8} (h1 : ¬ (48 ≤ c.toNat ∧ c.toNat ≤ 57)) (h2 : ¬ (97 ≤ c.toNat ∧ c.toNat ≤ 102)) : hv c = 16 := by unfold hv; rw [if_neg h1, if_neg h2]
/-- The next digit is laid in. -/
theorem half_step {s : List UInt8} {i : Nat} (h40 : s.length = 40) (h : i < 40) (hall : ∀ c ∈ s.take i, hv c < 16) {n : Nat} (hn : hv s[i] = n) (hn16 : n < 16) :
    ∃ old : UInt8, (halves (s.take i) ++ zer (20 - (i + 1) / 2))[i / 2]? = some old ∧ ((halves (s.take i) ++ zer (20 - (i + 1) / 2)).map by8).set (i / 2) (.val (.int .u8 (((old.toNat * 16 % 256 + n) % 256 : Nat) : Int))) = (halves (s.take (i + 1)) ++ zer (20 - (i + 1 + 1) / 2)).map by8 := by
  have hsucc := List.take_succ_eq_append_getElem (l := s) (i := i) (by omega)
  rcases Nat.mod_two_eq_zero_or_one i with hp | hp
  · obtain ⟨k, rfl⟩ : ∃ k, i = 2 * k := ⟨i / 2, by omega⟩
    have hl : (s.take (2 * k)).length = 2 * k := by rw [List.length_take]; omega
    have hpl : (pairs (s.take (2 * k))).length = k := pairs_len hl
    have e1 : 20 - (2 * k + 1) / 2 = 20 - k := by omega
    have e2 : 2 * k / 2 = k := by omega
    have e3 : 20 - (2 * k + 1 + 1) / 2 = 20 - k - 1 := by omega
    rw [halves_even hl, hsucc, halves_odd hl, e1, e2, e3, hn]
    refine ⟨0, ?_, ?_⟩
    · rw [List.getElem?_append_right (by omega), hpl, Nat.sub_self]
      unfold zer; rw [List.getElem?_replicate, if_pos (by omega)]
    · have hsf := set_fill (l := pairs (s.take (2 * k))) (n := 20 - k) (b := UInt8.ofNat n) (by omega)
      rw [hpl] at hsf
      have e4 : ((0 : UInt8).toNat * 16 % 256 + n) % 256 = n := by
        have : (0 : UInt8).toNat = 0 := rfl
        rw [this]; omega
      rw [e4, by8_of (by omega), hsf]
  · obtain ⟨k, rfl⟩ : ∃ k, i = 2 * k + 1 := ⟨i / 2, by omega⟩
    have hl0 : (s.take (2 * k)).length = 2 * k := by rw [List.length_take]; omega
    have hpl0 : (pairs (s.take (2 * k))).length = k := pairs_len hl0
    have ht0 := List.take_succ_eq_append_getElem (l := s) (i := 2 * k) (by omega)
    have hl : (s.take (2 * (k + 1))).length = 2 * (k + 1) := by rw [List.length_take]; omega
    have htw := take_two (s := s) (i := k) (by omega)
    have hm : s[2 * k] ∈ s.take (2 * k + 1) := by rw [ht0]; exact List.mem_append_right _ (List.mem_singleton.2 rfl)
    have hx := hall _ hm
    have e1 : 20 - (2 * k + 1 + 1) / 2 = 19 - k := by omega
    have e2 : (2 * k + 1) / 2 = k := by omega
    have e3 : 20 - (2 * k + 1 + 1 + 1) / 2 = 19 - k := by omega
    have e5 : s.take (2 * k + 1 + 1) = s.take (2 * (k + 1)) := rfl
    rw [e5, halves_even hl, htw, pairs_snoc hl0, ht0, halves_odd hl0, e1, e2, e3, hn]
    refine ⟨UInt8.ofNat (hv s[2 * k]), ?_, ?_⟩
    · rw [List.getElem?_append_left (by simp; omega), List.getElem?_append_right (by omega), hpl0, Nat.sub_self]; rfl
    · have e4 : ((UInt8.ofNat (hv s[2 * k])).toNat * 16 % 256 + n) % 256 = hv s[2 * k] * 16 + n := by
        rw [UInt8.toNat_ofNat', Nat.mod_eq_of_lt (show hv s[2 * k] < 2 ^ 8 by omega)]; omega
      rw [e4, by8_of (by omega), ← List.map_set]
      congr 1
      rw [List.append_assoc, List.set_append_right _ _ (by omega), hpl0, Nat.sub_self, List.append_assoc]
      rfl
theorem div2 {i : Nat} (h : i ≤ 40) : binV 3 .quo (.int .i64 (i : Int)) (.int .i64 ((2 : Nat) : Int)) = some (.int .i64 ((i / 2 : Nat) : Int)) := b_quoN (by omega) (by omega)
theorem refParseV (s : List UInt8) (hs : s.length ≤ 1000000) : VPure Tryd.prog 16 [.val (.string (str s))] (fun r => r = .tup [.arr 20 1 ((parsed s).map by8), tb (okHex s)]) := by
  refine VCalls.toPureV (go_ref2_Parse (by simp) ?_)
  by_cases h40 : s.length = 40
  case neg =>
    have hok : okHex s = false := by unfold okHex; rw [Bool.and_eq_false_iff]; left; simpa using h40
    unfold parsed
    rw [hok, if_neg (by simp), zer_by]
    simp -dsimp (disch := first | assumption | omega) only [↓vmPre, vmPost, vmWrd, vmDat, eq_self, forall_const, Nat.reduceLT, Nat.reduceEqDiff, Nat.reduceSub, Nat.reduceMul, Nat.reduceMod, Nat.reduceDiv, Nat.reducePow, UInt8.reduceToNat, Int.reduceEq, Int.reduceLT, Int.reduceLE, ↓reduceIte, Nat.reduceEqDiff, Nat.reduceAdd, Int.reduceToNat, reduceCtorEq, Nat.reduceLeDiff, ↓u_ref2_Parse, bl_strH]
    rfl
  simp -dsimp (disch := first | assumption | omega) only [↓vmPre, vmPost, vmWrd, vmDat, eq_self, forall_const, Nat.reduceLT, Nat.reduceEqDiff, Nat.reduceSub, Nat.reduceMul, Nat.reduceMod, Nat.reduceDiv, Nat.reducePow, UInt8.reduceToNat, Int.reduceEq, Int.reduceLT, Int.reduceLE, ↓reduceIte, Nat.reduceEqDiff, Nat.reduceAdd, Int.reduceToNat, reduceCtorEq, Nat.reduceLeDiff, ↓u_ref2_Parse, bl_strH]
  refine w_loop (fun q e H => ∃ i : Nat, q = 40 - i ∧ i ≤ 40 ∧ (∀ c ∈ s.take i, hv c < 16) ∧ e = [(0, .val (.string (str s))), (2, .op 0 0 []), (4, .op 1 0 []), (5, i64 (i : Int))] ∧
    H = [.obj 0 (.arr 20 1 ((zer 20).map by8)), .obj 0 (.arr 20 1 ((halves (s.take i) ++ zer (20 - (i + 1) / 2)).map by8))]) 40 ?_ ?_
  · exact ⟨0, by simp, by simp, by simp, rfl, rfl⟩
  · rintro q e H ⟨i, rfl, hi, hall, rfl, rfl⟩
    by_cases h : i < 40
    · have hg1 : s[i]? = some s[i] := List.getElem?_eq_getElem (by omega)
      have hsucc := List.take_succ_eq_append_getElem (l := s) (i := i) (by omega)
      have hm := List.getElem_mem (l := s) (n := i) (by omega)
      have hall2 : hv s[i] < 16 → ∀ c ∈ s.take (i + 1), hv c < 16 := by
        intro hx c hc
        rw [hsucc, List.mem_append, List.mem_singleton] at hc
        rcases hc with hc | rfl
        · exact hall c hc
        · exact hx
      have hst := fun n => half_step h40 h hall (n := n)
      have hbad := fun hc => okHex_not h40 hm hc
      have hd2 := div2 (i := i) (by omega)
      have hlt := s[i].toNat_lt
      have hl2 : i / 2 < 20 := by omega
      generalize s[i] = c at *
      by_cases h1 : 48 ≤ c.toNat ∧ c.toNat ≤ 57
      · obtain ⟨h1, h2⟩ := h1
        have hc := hv_num h1 h2
        obtain ⟨old, g1, g2⟩ := hst _ hc (by omega)
        have hol := old.toNat_lt
        simp -dsimp (disch := first | assumption | omega) only [↓vmPre, vmPost, vmWrd, vmDat, eq_self, forall_const, Nat.reduceLT, Nat.reduceEqDiff, Nat.reduceSub, Nat.reduceMul, Nat.reduceMod, Nat.reduceDiv, Nat.reducePow, UInt8.reduceToNat, Int.reduceEq, Int.reduceLT, Int.reduceLE, ↓reduceIte, Nat.reduceEqDiff, Nat.reduceAdd, Int.reduceToNat, reduceCtorEq, Nat.reduceLeDiff, ↓u_ref2_Parse, bl_strH, hg1, b_sub8, hd2, b_mul8, b_add8, g1, g2]
        exact Rnd_keep (40 - (i + 1)) (by omega) (by simp) ⟨i + 1, rfl, by omega, hall2 (by omega), rfl, rfl⟩
      · by_cases h3 : 97 ≤ c.toNat ∧ c.toNat ≤ 102
        · obtain ⟨h3, h4⟩ := h3
          have hc := hv_let h3 h4
          obtain ⟨old, g1, g2⟩ := hst _ hc (by omega)
          have e9 : (c.toNat - 97 + 10) % 256 = c.toNat - 87 := by omega
          simp -dsimp (disch := first | assumption | omega) only [↓vmPre, vmPost, vmWrd, vmDat, eq_self, forall_const, Nat.reduceLT, Nat.reduceEqDiff, Nat.reduceSub, Nat.reduceMul, Nat.reduceMod, Nat.reduceDiv, Nat.reducePow, UInt8.reduceToNat, Int.reduceEq, Int.reduceLT, Int.reduceLE, ↓reduceIte, Nat.reduceEqDiff, Nat.reduceAdd, Int.reduceToNat, reduceCtorEq, Nat.reduceLeDiff, ↓u_ref2_Parse, bl_strH, hg1, b_sub8, hd2, b_mul8, b_add8, e9, g1, g2]
          exact Rnd_keep (40 - (i + 1)) (by omega) (by simp) ⟨i + 1, rfl, by omega, hall2 (by omega), rfl, rfl⟩
        · have hc := hv_bad h1 h3
          have hok := hbad (by omega)
          unfold parsed
          rw [hok, if_neg (by simp), zer_by]
          rcases (by omega : c.toNat < 48 ∨ (57 < c.toNat ∧ c.toNat < 97) ∨ 102 < c.toNat) with h5 | ⟨h5, h6⟩ | h5
          · simp -dsimp (disch := first | assumption | omega) only [↓vmPre, vmPost, vmWrd, vmDat, eq_self, forall_const, Nat.reduceLT, Nat.reduceEqDiff, Nat.reduceSub, Nat.reduceMul, Nat.reduceMod, Nat.reduceDiv, Nat.reducePow, UInt8.reduceToNat, Int.reduceEq, Int.reduceLT, Int.reduceLE, ↓reduceIte, Nat.reduceEqDiff, Nat.reduceAdd, Int.reduceToNat, reduceCtorEq, Nat.reduceLeDiff, ↓u_ref2_Parse, bl_strH, hg1]
            rfl
          · simp -dsimp (disch := first | assumption | omega) only [↓vmPre, vmPost, vmWrd, vmDat, eq_self, forall_const, Nat.reduceLT, Nat.reduceEqDiff, Nat.reduceSub, Nat.reduceMul, Nat.reduceMod, Nat.reduceDiv, Nat.reducePow, UInt8.reduceToNat, Int.reduceEq, Int.reduceLT, Int.reduceLE, ↓reduceIte, Nat.reduceEqDiff, Nat.reduceAdd, Int.reduceToNat, reduceCtorEq, Nat.reduceLeDiff, ↓u_ref2_Parse, bl_strH, hg1]
            rfl
          · simp -dsimp (disch := first | assumption | omega) only [↓vmPre, vmPost, vmWrd, vmDat, eq_self, forall_const, Nat.reduceLT, Nat.reduceEqDiff, Nat.reduceSub, Nat.reduceMul, Nat.reduceMod, Nat.reduceDiv, Nat.reducePow, UInt8.reduceToNat, Int.reduceEq, Int.reduceLT, Int.reduceLE, ↓reduceIte, Nat.reduceEqDiff, Nat.reduceAdd, Int.reduceToNat, reduceCtorEq, Nat.reduceLeDiff, ↓u_ref2_Parse, bl_strH, hg1]
            rfl
    · have hi2 : i = 40 := by omega
      subst hi2
      have htl : s.take 40 = s := List.take_of_length_le (by omega)
      rw [htl] at hall
      have hok : okHex s = true := (okHex_all h40).2 hall
      have hpl : (pairs s).length = 20 := pairs_len (by omega)
      unfold parsed
      rw [hok, if_pos rfl, htl, halves_even (n := 20) (by omega)]
      simp -dsimp (disch := first | assumption | omega) only [↓vmPre, vmPost, vmWrd, vmDat, eq_self, forall_const, Nat.reduceLT, Nat.reduceEqDiff, Nat.reduceSub, Nat.reduceMul, Nat.reduceMod, Nat.reduceDiv, Nat.reducePow, UInt8.reduceToNat, Int.reduceEq, Int.reduceLT, Int.reduceLE, ↓reduceIte, Nat.reduceEqDiff, Nat.reduceAdd, Int.reduceToNat, reduceCtorEq, Nat.reduceLeDiff, ↓u_ref2_Parse]
      simp [zer, tb]
end Go.Proofs.YtknphdcjopaaoaaDoor
