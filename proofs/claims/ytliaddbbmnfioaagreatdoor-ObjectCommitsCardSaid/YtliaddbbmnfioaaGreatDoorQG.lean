/- What the proof of ObjectCommitsCard stands on (texts merged; names shortened by a program): part 7. -/
import Derived.Test.YtliaddbbmnfioaaGreatDoorQF
import Derived.Test.YtliaddbbmnfioaaGreatDoorQE
import Derived.Test.YtliaddbbmnfioaaGreatDoorQD
namespace Go.Proofs.YtliaddbbmnfioaaGreatDoor
open Go.RowKit
variable [Bf]
set_option linter.unusedSectionVars false
set_option linter.unusedVariables false
set_option linter.unusedSimpArgs false
def hv (c : UInt8) : Nat := if 48 ≤ c.toNat ∧ c.toNat ≤ 57 then c.toNat - 48 else if 97 ≤ c.toNat ∧ c.toNat ≤ 102 then c.toNat - 87 else 16
theorem AsF : ∀ n, n < 256 → Lib.indexByte AhK (UInt8.ofNat n) = if hv (UInt8.ofNat n) < 16 then (hv (UInt8.ofNat n) : Int) else -1 := by decide +kernel
theorem AzY (c : UInt8) : Lib.indexByte AhK c = if hv c < 16 then (hv c : Int) else -1 := by
 have h := AsF c.toNat c.toNat_lt
 rwa [UInt8.ofNat_toNat] at h
theorem Anm : ∀ n, n < 16 → hv (dig n) = n := by decide
def O3 : List UInt8 → List UInt8
 | a :: b :: l => UInt8.ofNat (hv a * 16 + hv b) :: O3 l
 | _ => []
def DR (s : List UInt8) : Bool := decide (s.length = 40) && s.all fun c => decide (hv c < 16)
theorem Qd : ∀ {n : Nat} {s : List UInt8}, s.length = 2 * n → (O3 s).length = n
 | 0, s, h => by rw [List.length_eq_zero_iff.1 (by omega : s.length = 0)]; rfl
 | n + 1, [], h => by simp at h
 | n + 1, [a], h => by simp at h; omega
 | n + 1, a :: b :: s, h => by
  rw [O3, List.length_cons, Qd (n := n) (by simp at h; omega)]
theorem AfN : ∀ {n : Nat} {s : List UInt8} {a b : UInt8}, s.length = 2 * n → O3 (s ++ [a, b]) = O3 s ++ [UInt8.ofNat (hv a * 16 + hv b)]
 | 0, s, a, b, h => by rw [List.length_eq_zero_iff.1 (by omega : s.length = 0)]; rfl
 | n + 1, [], a, b, h => by simp at h
 | n + 1, [x], a, b, h => by simp at h; omega
 | n + 1, x :: y :: s, a, b, h => by
  rw [List.cons_append, List.cons_append, O3, O3, AfN (n := n) (by simp at h; omega), List.cons_append]
theorem AnT {s : List UInt8} {i : Nat} (h : 2 * i + 1 < s.length) : s.take (2 * (i + 1)) = s.take (2 * i) ++ [s[2 * i], s[2 * i + 1]] := by
 have e : 2 * (i + 1) = 2 * i + 1 + 1 := by omega
 rw [e, List.take_succ_eq_append_getElem h, List.take_succ_eq_append_getElem (by omega), List.append_assoc]; rfl
def zer (n : Nat) : List UInt8 := List.replicate n 0
theorem Akr : (zer 20).map by8 = List.replicate 20 (TV.val (.int .u8 ((0 : Nat) : Int))) := by simp [zer, by8]
def Ar (s : List UInt8) : List UInt8 := if DR s then O3 s else zer 20
theorem AnA {l : List UInt8} {n : Nat} {b : UInt8} (h : 0 < n) : ((l ++ zer n).map by8).set l.length (by8 b) = ((l ++ [b]) ++ zer (n - 1)).map by8 := by
 obtain ⟨m, rfl⟩ : ∃ m, n = m + 1 := ⟨n - 1, by omega⟩
 rw [← List.map_set, List.set_append_right _ _ (Nat.le_refl _), Nat.sub_self, Nat.add_sub_cancel]
 simp [zer, List.replicate_succ]

theorem AvL (l : List UInt8) (c : UInt8) : Bj Tryz.prog 136 [.val (.string (str l)), by8 c] (fun x => x = .val (.int .i64 (Lib.indexByte l c))) := by
 refine Aw.toPureV (AbR (by simp) ?_)
 simp -dsimp (disch := first | assumption | omega) only [↓Ai, Ae, Ag, Ah, eq_self, Nat.reduceEqDiff, ↓reduceIte, Nat.reduceAdd, reduceCtorEq, ↓SC]
 refine (Ams l c).calls rfl ?_
 rintro x rfl
 simp -dsimp (disch := first | assumption | omega) only [↓Ai, Ae, Ag, Ah, eq_self, ↓reduceIte, ↓SC]

theorem BqB {a b : Nat} (ha : a < 16) (hb : b < 16) : a * 2 ^ 4 ||| b = a * 16 + b := by
 have h := Nat.two_pow_add_eq_or_of_lt (i := 4) (b := b) (by omega) a
 rw [Nat.mul_comm] at h
 rw [← h]
theorem Wy {s : List UInt8} (h : s.length = 40) : DR s = true ↔ ∀ c ∈ s, hv c < 16 := by
 unfold DR
 rw [Bool.and_eq_true, List.all_eq_true]
 simp [h]
theorem Az0 (s : List UInt8) (hs : s.length ≤ 1000000) : Bj Tryz.prog 105 [.val (.string (str s))] (fun r => r = .tup [.arr 20 1 ((Ar s).map by8), if DR s then .val .nilIface else eno 12]) := by
 refine Aw.toPureV (Ah0 (by simp) ?_)
 by_cases h40 : s.length = 40
 case neg =>
  have hok : DR s = false := by unfold DR; rw [Bool.and_eq_false_iff]; left; simpa using h40
  unfold Ar
  rw [hok, if_neg (by simp), if_neg (by simp), Akr]
  simp -dsimp (disch := first | assumption | omega) only [↓Ai, Ae, Ag, Ah, eq_self, Nat.reduceEqDiff, ↓reduceIte, reduceCtorEq, ↓He, OO]
  rfl
 simp -dsimp (disch := first | assumption | omega) only [↓Ai, Ae, Ag, Ah, eq_self, Nat.reduceEqDiff, ↓reduceIte, reduceCtorEq, ↓He, OO]
 refine E9 (fun q e H => ∃ i : Nat, q = 20 - i ∧ i ≤ 20 ∧ (∀ c ∈ s.take (2 * i), hv c < 16) ∧ e = [(0, .val (.string (str s))), (2, .op 0 0 []), (4, .op 1 0 []), (13, i64 (i : Int))] ∧
  H = [.obj 0 (.arr 20 1 ((zer 20).map by8)), .obj 0 (.arr 20 1 ((O3 (s.take (2 * i)) ++ zer (20 - i)).map by8))]) 20 ?_ ?_
 ·exact ⟨0, by simp, by simp, by simp, rfl, rfl⟩
 ·rintro q e H ⟨i, rfl, hi, hall, rfl, rfl⟩
  by_cases h : i < 20
  ·have h1 : 2 * i < s.length := by omega
   have h2 : 2 * i + 1 < s.length := by omega
   have hg1 : s[2 * i]? = some s[2 * i] := List.getElem?_eq_getElem h1
   have hg2 : s[2 * i + 1]? = some s[2 * i + 1] := List.getElem?_eq_getElem h2
   have htw := AnT h2
   have hpl : (O3 (s.take (2 * i))).length = i := Qd (by rw [List.length_take]; omega)
   have hps := AfN (n := i) (s := s.take (2 * i)) (a := s[2 * i]) (b := s[2 * i + 1]) (by rw [List.length_take]; omega)
   rw [← htw] at hps
   have hm1 := List.getElem_mem h1
   have hm2 := List.getElem_mem h2
   have hmem : ∀ c ∈ s.take (2 * (i + 1)), c ∈ s.take (2 * i) ∨ c = s[2 * i] ∨ c = s[2 * i + 1] := by
    intro c hc
    rw [htw, List.mem_append] at hc
    rcases hc with hc | hc
    ·exact .inl hc
    ·simp only [List.mem_cons, List.not_mem_nil, or_false] at hc; exact .inr hc
   generalize s[2 * i] = a at *
   generalize s[2 * i + 1] = b at *
   generalize hP : O3 (s.take (2 * i)) = P at *
   have hsf := AnA (l := P) (n := 20 - i) (b := UInt8.ofNat (hv a * 16 + hv b)) (by omega)
   rw [hpl] at hsf
   have hget : (P ++ zer (20 - i))[i]? = some 0 := by
    rw [List.getElem?_append_right (by omega), hpl, Nat.sub_self]
    unfold zer; rw [List.getElem?_replicate, if_pos (by omega)]
   have hlp : (P ++ zer (20 - i)).length = 20 := by rw [List.length_append, hpl, zer, List.length_replicate]; omega
   simp -dsimp (disch := first | assumption | omega) only [↓Ai, Ae, Ag, Ah, eq_self, Nat.reduceEqDiff, ↓reduceIte, reduceCtorEq, ↓He, OO, hg1]
   refine Av7 (.val (.int .i64 (Lib.indexByte AhK a))) ⟨(AvL AhK a).calls rfl (fun x hx => ⟨hx, rfl⟩), ?_⟩
   rw [AzY a]
   simp -dsimp (disch := first | assumption | omega) only [↓Ai, Ae, Ag, Ah, eq_self, Nat.reduceEqDiff, ↓reduceIte, reduceCtorEq, OO, hg2]
   refine (AvL AhK b).calls rfl ?_
   rintro x rfl
   rw [AzY b]
   by_cases ha : hv a < 16
   ·rw [if_pos ha]
    by_cases hb : hv b < 16
    ·rw [if_pos hb]
     have ho := BqB ha hb
     simp -dsimp (disch := first | assumption | omega) only [↓Ai, Ae, Ag, Ah, eq_self, Nat.reduceEqDiff, Nat.reducePow, ↓reduceIte, Nat.reduceAdd, reduceCtorEq, ho, hget, hsf]
     refine Ce (20 - (i + 1)) (by omega) (by simp) ⟨i + 1, rfl, by omega, fun c hc => ?_, rfl, ?_⟩
     ·rcases hmem c hc with hc | rfl | rfl
      ·exact hall c hc
      ·exact ha
      ·exact hb
     ·rw [hps, show 20 - (i + 1) = 20 - i - 1 from by omega]
    ·rw [if_neg hb]
     have hok : DR s = false := by
      cases hq : DR s with
      | false => rfl
      | true => exact absurd ((Wy h40).1 hq b hm2) hb
     unfold Ar
     rw [hok, if_neg (by simp), if_neg (by simp), Akr]
     simp -dsimp (disch := first | assumption | omega) only [↓Ai, Ae, Ag, Ah, eq_self, Nat.reduceEqDiff, ↓reduceIte, reduceCtorEq, ↓He]
     rfl
   ·rw [if_neg ha]
    have hok : DR s = false := by
     cases hq : DR s with
     | false => rfl
     | true => exact absurd ((Wy h40).1 hq a hm1) ha
    unfold Ar
    rw [hok, if_neg (by simp), if_neg (by simp), Akr]
    simp -dsimp (disch := first | assumption | omega) only [↓Ai, Ae, Ag, Ah, eq_self, Nat.reduceEqDiff, ↓reduceIte, reduceCtorEq, ↓He]
    rfl
  ·have hi2 : i = 20 := by omega
   subst hi2
   have htl : s.take (2 * 20) = s := List.take_of_length_le (by omega)
   rw [htl] at hall
   have hok : DR s = true := (Wy h40).2 hall
   have hpl : (O3 s).length = 20 := Qd (by omega)
   unfold Ar
   rw [hok, if_pos rfl, if_pos rfl, htl]
   simp -dsimp (disch := first | assumption | omega) only [↓Ai, Ae, Ag, Ah, eq_self, Nat.reduceLT, Nat.reduceEqDiff, Nat.reduceSub, ↓reduceIte, reduceCtorEq, ↓He]
   simp [zer]
def AeB : List UInt8 → List UInt8
 | a :: b :: l => UInt8.ofNat (hv a * 16 + hv b) :: AeB l
 | [a] => [UInt8.ofNat (hv a)]
 | [] => []
theorem YE : ∀ {n : Nat} {s : List UInt8}, s.length = 2 * n → AeB s = O3 s
 | 0, s, h => by rw [List.length_eq_zero_iff.1 (by omega : s.length = 0)]; rfl
 | n + 1, [], h => by simp at h
 | n + 1, [a], h => by simp at h; omega
 | n + 1, a :: b :: s, h => by rw [AeB, O3, YE (n := n) (by simp at h; omega)]
theorem Afm : ∀ {n : Nat} {s : List UInt8} {a : UInt8}, s.length = 2 * n → AeB (s ++ [a]) = O3 s ++ [UInt8.ofNat (hv a)]
 | 0, s, a, h => by rw [List.length_eq_zero_iff.1 (by omega : s.length = 0)]; rfl
 | n + 1, [], a, h => by simp at h
 | n + 1, [x], a, h => by simp at h; omega
 | n + 1, x :: y :: s, a, h => by rw [List.cons_append, List.cons_append, AeB, O3, Afm (n := n) (by simp at h; omega), List.cons_append]
theorem Aqz {s : List UInt8} {c : UInt8} (h40 : s.length = 40) (hm : c ∈ s) (hc : ¬ hv c < 16) : DR s = false := by
 cases hq : DR s with
 | false => rfl
 | true => exact absurd ((Wy h40).1 hq c hm) hc
theorem Ay0 {c : UInt8} (h1 : 48 ≤ c.toNat) (h2 : c.toNat ≤ 57) : hv c = c.toNat - 48 := by unfold hv; rw [if_pos ⟨h1, h2⟩]
theorem ABa {c : UInt8} (h1 : 97 ≤ c.toNat) (h2 : c.toNat ≤ 102) : hv c = c.toNat - 87 := by unfold hv; rw [if_neg (by omega), if_pos ⟨h1, h2⟩]
theorem Azq {c : UInt8} (h1 : ¬ (48 ≤ c.toNat ∧ c.toNat ≤ 57)) (h2 : ¬ (97 ≤ c.toNat ∧ c.toNat ≤ 102)) : hv c = 16 := by unfold hv; rw [if_neg h1, if_neg h2]
theorem AqJ {s : List UInt8} {i : Nat} (h40 : s.length = 40) (h : i < 40) (hall : ∀ c ∈ s.take i, hv c < 16) {n : Nat} (hn : hv s[i] = n) (hn16 : n < 16) :
  ∃ old : UInt8, (AeB (s.take i) ++ zer (20 - (i + 1) / 2))[i / 2]? = some old ∧ ((AeB (s.take i) ++ zer (20 - (i + 1) / 2)).map by8).set (i / 2) (.val (.int .u8 (((old.toNat * 16 % 256 + n) % 256 : Nat) : Int))) = (AeB (s.take (i + 1)) ++ zer (20 - (i + 1 + 1) / 2)).map by8 := by
 have hsucc := List.take_succ_eq_append_getElem (l := s) (i := i) (by omega)
 rcases Nat.mod_two_eq_zero_or_one i with hp | hp
 ·obtain ⟨k, rfl⟩ : ∃ k, i = 2 * k := ⟨i / 2, by omega⟩
  have hl : (s.take (2 * k)).length = 2 * k := by rw [List.length_take]; omega
  have hpl : (O3 (s.take (2 * k))).length = k := Qd hl
  have e1 : 20 - (2 * k + 1) / 2 = 20 - k := by omega
  have e2 : 2 * k / 2 = k := by omega
  have e3 : 20 - (2 * k + 1 + 1) / 2 = 20 - k - 1 := by omega
  rw [YE hl, hsucc, Afm hl, e1, e2, e3, hn]
  refine ⟨0, ?_, ?_⟩
  ·rw [List.getElem?_append_right (by omega), hpl, Nat.sub_self]
   unfold zer; rw [List.getElem?_replicate, if_pos (by omega)]
  ·have hsf := AnA (l := O3 (s.take (2 * k))) (n := 20 - k) (b := UInt8.ofNat n) (by omega)
   rw [hpl] at hsf
   have e4 : ((0 : UInt8).toNat * 16 % 256 + n) % 256 = n := by
    have : (0 : UInt8).toNat = 0 := rfl
    rw [this]; omega
   rw [e4, Ano (by omega), hsf]
 ·obtain ⟨k, rfl⟩ : ∃ k, i = 2 * k + 1 := ⟨i / 2, by omega⟩
  have hl0 : (s.take (2 * k)).length = 2 * k := by rw [List.length_take]; omega
  have hpl0 : (O3 (s.take (2 * k))).length = k := Qd hl0
  have ht0 := List.take_succ_eq_append_getElem (l := s) (i := 2 * k) (by omega)
  have hl : (s.take (2 * (k + 1))).length = 2 * (k + 1) := by rw [List.length_take]; omega
  have htw := AnT (s := s) (i := k) (by omega)
  have hm : s[2 * k] ∈ s.take (2 * k + 1) := by rw [ht0]; exact List.mem_append_right _ (List.mem_singleton.2 rfl)
  have hx := hall _ hm
  have e1 : 20 - (2 * k + 1 + 1) / 2 = 19 - k := by omega
  have e2 : (2 * k + 1) / 2 = k := by omega
  have e3 : 20 - (2 * k + 1 + 1 + 1) / 2 = 19 - k := by omega
  have e5 : s.take (2 * k + 1 + 1) = s.take (2 * (k + 1)) := rfl
  rw [e5, YE hl, htw, AfN hl0, ht0, Afm hl0, e1, e2, e3, hn]
  refine ⟨UInt8.ofNat (hv s[2 * k]), ?_, ?_⟩
  ·rw [List.getElem?_append_left (by simp; omega), List.getElem?_append_right (by omega), hpl0, Nat.sub_self]; rfl
  ·have e4 : ((UInt8.ofNat (hv s[2 * k])).toNat * 16 % 256 + n) % 256 = hv s[2 * k] * 16 + n := by
    rw [UInt8.toNat_ofNat', Nat.mod_eq_of_lt (show hv s[2 * k] < 2 ^ 8 by omega)]; omega
   rw [e4, Ano (by omega), ← List.map_set]
   congr 1
   rw [List.append_assoc, List.set_append_right _ _ (by omega), hpl0, Nat.sub_self, List.append_assoc]
   rfl
theorem Bqm {i : Nat} (h : i ≤ 40) : ET 3 .quo (.int .i64 (i : Int)) (.int .i64 ((2 : Nat) : Int)) = some (.int .i64 ((i / 2 : Nat) : Int)) := ArY (by omega) (by omega)
theorem AlK (s : List UInt8) (hs : s.length ≤ 1000000) : Bj Tryz.prog 77 [.val (.string (str s))] (fun r => r = .tup [.arr 20 1 ((Ar s).map by8), tb (DR s)]) := by
 refine Aw.toPureV (AjU (by simp) ?_)
 by_cases h40 : s.length = 40
 case neg =>
  have hok : DR s = false := by unfold DR; rw [Bool.and_eq_false_iff]; left; simpa using h40
  unfold Ar
  rw [hok, if_neg (by simp), Akr]
  simp -dsimp (disch := first | assumption | omega) only [↓Ai, Ae, Ag, Ah, eq_self, Nat.reduceEqDiff, ↓reduceIte, reduceCtorEq, ↓GI, OO]
  rfl
 simp -dsimp (disch := first | assumption | omega) only [↓Ai, Ae, Ag, Ah, eq_self, Nat.reduceEqDiff, ↓reduceIte, reduceCtorEq, ↓GI, OO]
 refine E9 (fun q e H => ∃ i : Nat, q = 40 - i ∧ i ≤ 40 ∧ (∀ c ∈ s.take i, hv c < 16) ∧ e = [(0, .val (.string (str s))), (2, .op 0 0 []), (4, .op 1 0 []), (5, i64 (i : Int))] ∧
  H = [.obj 0 (.arr 20 1 ((zer 20).map by8)), .obj 0 (.arr 20 1 ((AeB (s.take i) ++ zer (20 - (i + 1) / 2)).map by8))]) 40 ?_ ?_
 ·exact ⟨0, by simp, by simp, by simp, rfl, rfl⟩
 ·rintro q e H ⟨i, rfl, hi, hall, rfl, rfl⟩
  by_cases h : i < 40
  ·have hg1 : s[i]? = some s[i] := List.getElem?_eq_getElem (by omega)
   have hsucc := List.take_succ_eq_append_getElem (l := s) (i := i) (by omega)
   have hm := List.getElem_mem (l := s) (n := i) (by omega)
   have hall2 : hv s[i] < 16 → ∀ c ∈ s.take (i + 1), hv c < 16 := by
    intro hx c hc
    rw [hsucc, List.mem_append, List.mem_singleton] at hc
    rcases hc with hc | rfl
    ·exact hall c hc
    ·exact hx
   have hst := fun n => AqJ h40 h hall (n := n)
   have hbad := fun hc => Aqz h40 hm hc
   have hd2 := Bqm (i := i) (by omega)
   have hlt := s[i].toNat_lt
   have hl2 : i / 2 < 20 := by omega
   generalize s[i] = c at *
   by_cases h1 : 48 ≤ c.toNat ∧ c.toNat ≤ 57
   ·obtain ⟨h1, h2⟩ := h1
    have hc := Ay0 h1 h2
    obtain ⟨old, g1, g2⟩ := hst _ hc (by omega)
    have hol := old.toNat_lt
    simp -dsimp (disch := first | assumption | omega) only [↓Ai, Ae, Ag, Ah, eq_self, Nat.reduceEqDiff, ↓reduceIte, Nat.reduceAdd, reduceCtorEq, ↓GI, OO, hg1, Zd, hd2, AvV, Af8, g1, g2]
    exact Ce (40 - (i + 1)) (by omega) (by simp) ⟨i + 1, rfl, by omega, hall2 (by omega), rfl, rfl⟩
   ·by_cases h3 : 97 ≤ c.toNat ∧ c.toNat ≤ 102
    ·obtain ⟨h3, h4⟩ := h3
     have hc := ABa h3 h4
     obtain ⟨old, g1, g2⟩ := hst _ hc (by omega)
     have e9 : (c.toNat - 97 + 10) % 256 = c.toNat - 87 := by omega
     simp -dsimp (disch := first | assumption | omega) only [↓Ai, Ae, Ag, Ah, eq_self, Nat.reduceEqDiff, ↓reduceIte, Nat.reduceAdd, reduceCtorEq, ↓GI, OO, hg1, Zd, hd2, AvV, Af8, e9, g1, g2]
     exact Ce (40 - (i + 1)) (by omega) (by simp) ⟨i + 1, rfl, by omega, hall2 (by omega), rfl, rfl⟩
    ·have hc := Azq h1 h3
     have hok := hbad (by omega)
     unfold Ar
     rw [hok, if_neg (by simp), Akr]
     rcases (by omega : c.toNat < 48 ∨ (57 < c.toNat ∧ c.toNat < 97) ∨ 102 < c.toNat) with h5 | ⟨h5, h6⟩ | h5
     ·simp -dsimp (disch := first | assumption | omega) only [↓Ai, Ae, Ag, Ah, eq_self, Nat.reduceEqDiff, ↓reduceIte, reduceCtorEq, ↓GI, OO, hg1]
      rfl
     ·simp -dsimp (disch := first | assumption | omega) only [↓Ai, Ae, Ag, Ah, eq_self, Nat.reduceEqDiff, ↓reduceIte, reduceCtorEq, ↓GI, OO, hg1]
      rfl
     ·simp -dsimp (disch := first | assumption | omega) only [↓Ai, Ae, Ag, Ah, eq_self, Nat.reduceEqDiff, ↓reduceIte, reduceCtorEq, ↓GI, OO, hg1]
      rfl
  ·have hi2 : i = 40 := by omega
   subst hi2
   have htl : s.take 40 = s := List.take_of_length_le (by omega)
   rw [htl] at hall
   have hok : DR s = true := (Wy h40).2 hall
   have hpl : (O3 s).length = 20 := Qd (by omega)
   unfold Ar
   rw [hok, if_pos rfl, htl, YE (n := 20) (by omega)]
   simp -dsimp (disch := first | assumption | omega) only [↓Ai, Ae, Ag, Ah, eq_self, Nat.reduceLT, Nat.reduceEqDiff, Nat.reduceSub, Nat.reduceDiv, ↓reduceIte, Nat.reduceAdd, reduceCtorEq, ↓GI]
   simp [zer, tb]
end Go.Proofs.YtliaddbbmnfioaaGreatDoor


namespace Go.Proofs.YtliaddbbmnfioaaGreatDoor
open Go.RowKit
variable [Bf] [Ak] [Au] [AO] [Gt]
set_option linter.unusedSectionVars false
set_option linter.unusedVariables false
set_option linter.unusedSimpArgs false

theorem AiZ (c : UInt8) : ∀ l : List UInt8, Lib.index l [c] = Lib.indexByte l c
 | [] => rfl
 | b :: l => by
  rw [Lib.index, Lib.indexByte, AiZ c l]
  by_cases e : b = c
  ·subst e; simp
  ·have h1 : ([c].isPrefixOf (b :: l)) = false := by simp [List.isPrefixOf, Ne.symm e]
   have h2 : (b == c) = false := by simpa using e
   rw [h1, h2]
theorem AyE (s : List UInt8) : Lib.cut s [10] = (match U5 10 s with | some i => (s.take i, s.drop (i + 1), true) | none => (s, [], false)) := by
 unfold Lib.cut
 rw [AiZ, Ajy]
 cases U5 10 s with
 | none => simp
 | some i => simp
theorem AvF {H : List Ob} {id : Nat} {x : Ob} (h : H[id]? = some x) : H.set id x = H := by
 apply List.ext_getElem?
 intro i
 rw [List.getElem?_set]
 by_cases e : id = i
 ·subst e
  obtain ⟨h1, h2⟩ := List.getElem?_eq_some_iff.1 h
  rw [if_pos rfl, if_pos h1, h]
 ·rw [if_neg e]
theorem Ay3 {s w : List UInt8} (hs : s.length ≤ 1000000) (hw : w.length ≤ 100) {β : Bool} {id v : Nat} {H : List Ob} (ho : H[id]? = some (.obj v (.agg [ts s, tb β]))) {K : TV → List Ob → Prop}
  (hK : K (.tup [ts (mv w s), tb (!mb w s)]) (H.set id (.obj v (.agg [ts (mr w s), tb β])))) : Aw Tryz.prog 79 [.op id v [], ts w] H K := by
 refine AaS (by simp) ?_
 have hid : id < H.length := (List.getElem?_eq_some_iff.1 ho).1
 simp -dsimp (disch := first | assumption | omega | (simp only [Ad]; done) | (simp only [Ad]; omega)) only [↓Ai, Ae, Ag, Ah, eq_self, Nat.reduceEqDiff, ↓reduceIte, Nat.reduceAdd, reduceCtorEq, ↓ZP, ↓U8, ho]
 refine (Ats s [10] hs).calls rfl fun x hx => ?_
 subst hx
 rw [AyE]
 have hsame := AvF ho
 unfold mv mr mb AdS at hK
 have hcp := fun l => AiF l (w ++ [32])
 cases hc : U5 10 s with
 | none =>
  rw [hc] at hK
  simp only [Option.isNone_none, Bool.not_true] at hK
  rw [hsame] at hK
  simp only
  simp -dsimp (disch := first | assumption | omega | (simp only [Ad]; done) | (simp only [Ad]; omega)) only [↓Ai, Ae, Ag, Ah, eq_self, Nat.reduceEqDiff, ↓reduceIte, reduceCtorEq, ↓IX, Uk]
  refine (hcp s).calls rfl fun x hx => ?_
  subst hx
  simp -dsimp (disch := first | assumption | omega | (simp only [Ad]; done) | (simp only [Ad]; omega)) only [↓Ai, Ae, Ag, Ah, eq_self, Nat.reduceEqDiff, ↓reduceIte, reduceCtorEq, ↓Fj, ↓Hg]
  exact hK
 | some i =>
  rw [hc] at hK
  simp only at hK ⊢
  simp -dsimp (disch := first | assumption | omega | (simp only [Ad]; done) | (simp only [Ad]; omega)) only [↓Ai, Ae, Ag, Ah, eq_self, Nat.reduceEqDiff, ↓reduceIte, reduceCtorEq, ↓IX, Uk]
  refine (hcp (s.take i)).calls rfl fun x hx => ?_
  subst hx
  unfold Lib.trimPrefix Lib.hasPrefix
  by_cases hp : (w ++ [32]).isPrefixOf (s.take i) = true
  ·rw [if_pos hp] at hK ⊢
   rw [hp]
   simp only [Option.isNone_some, Bool.not_false] at hK
   simp -dsimp (disch := first | assumption | omega | (simp only [Ad]; done) | (simp only [Ad]; omega)) only [↓Ai, Ae, Ag, Ah, eq_self, Nat.reduceEqDiff, ↓reduceIte, reduceCtorEq, ↓Fj, ↓Hg, ho]
   exact hK
  ·rw [if_neg hp] at hK ⊢
   have hp2 : (w ++ [32]).isPrefixOf (s.take i) = false := Bool.eq_false_iff.2 hp
   rw [hp2]
   simp only [Option.isNone_none, Bool.not_true] at hK
   rw [hsame] at hK
   simp -dsimp (disch := first | assumption | omega | (simp only [Ad]; done) | (simp only [Ad]; omega)) only [↓Ai, Ae, Ag, Ah, eq_self, Nat.reduceEqDiff, ↓reduceIte, reduceCtorEq, ↓Fj, ↓Hg]
   exact hK
theorem AzG {s w : List UInt8} (hs : s.length ≤ 1000000) (hw : w.length ≤ 100) {β : Bool} {id v : Nat} {H : List Ob} (ho : H[id]? = some (.obj v (.agg [ts s, tb β]))) {K : TV → List Ob → Prop}
  (hK : K (ts (mv w s)) (H.set id (.obj v (.agg [ts (mr w s), tb (β || mb w s)])))) : Aw Tryz.prog 72 [.op id v [], ts w] H K := by
 refine AaH (by simp) ?_
 have hid : id < H.length := (List.getElem?_eq_some_iff.1 ho).1
 simp -dsimp (disch := first | assumption | omega | (simp only [Ad]; done) | (simp only [Ad]; omega)) only [↓Ai, Ae, Ag, Ah, eq_self, Nat.reduceEqDiff, ↓reduceIte, Nat.reduceAdd, reduceCtorEq, ↓ZQ, ↓UG]
 refine Afv (Ay3 hs hw ho ?_)
 have ho2 : (H.set id (.obj v (.agg [ts (mr w s), tb β])))[id]? = some (.obj v (.agg [ts (mr w s), tb β])) := by rw [List.getElem?_set, if_pos rfl, if_pos hid]
 have hset : ∀ x : Ob, (H.set id (.obj v (.agg [ts (mr w s), tb β]))).set id x = H.set id x := fun x => List.set_set ..
 generalize H.set id (.obj v (.agg [ts (mr w s), tb β])) = H1 at *
 cases hb : mb w s with
 | false =>
  rw [hb] at hK
  cases β with
  | false =>
   simp -dsimp (disch := first | assumption | omega | (simp only [Ad]; done) | (simp only [Ad]; omega)) only [↓Ai, Ae, Ag, Ah, eq_self, Nat.reduceEqDiff, ↓reduceIte, Nat.reduceAdd, reduceCtorEq, ↓Du, ↓En, ho2, hset]
   exact hK
  | true =>
   simp -dsimp (disch := first | assumption | omega | (simp only [Ad]; done) | (simp only [Ad]; omega)) only [↓Ai, Ae, Ag, Ah, eq_self, Nat.reduceEqDiff, ↓reduceIte, Nat.reduceAdd, reduceCtorEq, ↓Du, ↓En, ho2, hset]
   exact hK
 | true =>
  rw [hb] at hK
  cases β with
  | false =>
   simp -dsimp (disch := first | assumption | omega | (simp only [Ad]; done) | (simp only [Ad]; omega)) only [↓Ai, Ae, Ag, Ah, eq_self, Nat.reduceEqDiff, ↓reduceIte, Nat.reduceAdd, reduceCtorEq, ↓Du, ↓En, ho2, hset]
   exact hK
  | true =>
   simp -dsimp (disch := first | assumption | omega | (simp only [Ad]; done) | (simp only [Ad]; omega)) only [↓Ai, Ae, Ag, Ah, eq_self, Nat.reduceEqDiff, ↓reduceIte, Nat.reduceAdd, reduceCtorEq, ↓Du, ↓En, ho2, hset]
   exact hK
theorem idV {s x : List UInt8} (hx : x.length ≤ 1000000) {β : Bool} {id v : Nat} {H : List Ob} (ho : H[id]? = some (.obj v (.agg [ts s, tb β]))) {K : TV → List Ob → Prop}
  (hK : K (.arr 20 1 ((Ar x).map by8)) (H.set id (.obj v (.agg [ts s, tb (β || !DR x)])) ++ [.obj 0 (.arr 20 1 ((Ar x).map by8))] ++ [.obj 0 (.arr 20 1 ((Ar x).map by8))])) : Aw Tryz.prog 71 [.op id v [], ts x] H K := by
 refine AdZ (by simp) ?_
 have hid : id < H.length := (List.getElem?_eq_some_iff.1 ho).1
 have hpl : ((Ar x).map by8).length = 20 := by
  unfold Ar
  split
  ·rename_i h
   unfold DR at h
   simp at h
   rw [List.length_map, Qd (n := 20) (by omega)]
  ·simp [zer]
 simp -dsimp (disch := first | assumption | omega | (simp only [Ad]; done) | (simp only [Ad]; omega)) only [↓Ai, Ae, Ag, Ah, eq_self, Nat.reduceEqDiff, ↓reduceIte, Nat.reduceAdd, reduceCtorEq, ↓Abs, ↓Yu]
 refine (Az0 x hx).calls rfl fun r hr => ?_
 subst hr
 cases hb : DR x <;> rw [hb] at hK <;> cases β
 all_goals
  simp only [if_true, Bool.false_eq_true, if_false]
  simp -dsimp (disch := first | assumption | omega | (simp only [Ad]; done) | (simp only [Ad]; omega)) only [↓Ai, Ae, Ag, Ah, eq_self, Nat.reduceEqDiff, ↓reduceIte, Nat.reduceAdd, reduceCtorEq, ↓YK, ↓AbL, ho]
  exact hK
theorem Ap1 {s w : List UInt8} (hs : s.length ≤ 1000000) (hw : w.length ≤ 100) {β : Bool} {id v : Nat} {H : List Ob} (ho : H[id]? = some (.obj v (.agg [ts s, tb β]))) {K : TV → List Ob → Prop}
  (hK : ∀ (q : Per) (ok : Bool), (ok = true → DC q ∧ Dv q = mv w s) → (ok = false → ∀ p, DC p → Dv p ≠ mv w s) →
   K (Iw q) (H.set id (.obj v (.agg [ts (mr w s), tb (β || mb w s || !ok)])) ++ [.obj 0 (Iw q)] ++ [.obj 0 (Iw q)])) : Aw Tryz.prog 74 [.op id v [], ts w] H K := by
 refine Yj (by simp) ?_
 have hid : id < H.length := (List.getElem?_eq_some_iff.1 ho).1
 have hml := Aee w s
 simp -dsimp (disch := first | assumption | omega | (simp only [Ad]; done) | (simp only [Ad]; omega)) only [↓Ai, Ae, Ag, Ah, eq_self, Nat.reduceEqDiff, ↓reduceIte, Nat.reduceAdd, reduceCtorEq, ↓Xn, ↓SH]
 refine Afv (AzG hs hw (by rw [List.getElem?_append_left hid]; exact ho) ?_)
 rw [List.set_append_left _ _ hid]
 have ho2 : (H.set id (.obj v (.agg [ts (mr w s), tb (β || mb w s)])))[id]? = some (.obj v (.agg [ts (mr w s), tb (β || mb w s)])) := by rw [List.getElem?_set, if_pos rfl, if_pos hid]
 have hset : ∀ x : Ob, (H.set id (.obj v (.agg [ts (mr w s), tb (β || mb w s)]))).set id x = H.set id x := fun x => List.set_set ..
 have hln : (H.set id (.obj v (.agg [ts (mr w s), tb (β || mb w s)]))).length = H.length := List.length_set ..
 have hrp := Amz (mv w s) (by omega)
 generalize mv w s = x at *
 generalize (β || mb w s) = β1 at *
 generalize mr w s = rest at *
 generalize H.set id (.obj v (.agg [ts rest, tb β1])) = H1 at *
 rw [← hln] at hid ⊢
 simp -dsimp (disch := first | assumption | omega | (simp only [Ad]; done) | (simp only [Ad]; omega)) only [↓Ai, Ae, Ag, Ah, eq_self, ↓reduceIte]
 refine hrp.calls rfl fun r hr => ?_
 obtain ⟨q, ok, rfl, h1, h2⟩ : ∃ (q : Per) (ok : Bool), r = .tup [Iw q, tb ok] ∧ (ok = true → DC q ∧ Dv q = x) ∧ (ok = false → ∀ p, DC p → Dv p ≠ x) := by
  by_cases h : ∃ p, DC p ∧ Dv p = x
  ·obtain ⟨p, hp, e⟩ := h
   exact ⟨p, true, hr.1 p hp e, fun _ => ⟨hp, e⟩, fun h => (by cases h)⟩
  ·have h' : ∀ p, DC p → Dv p ≠ x := fun p hp e => h ⟨p, hp, e⟩
   obtain ⟨q, _, hq⟩ := hr.2 h'
   exact ⟨q, false, hq, fun h => (by cases h), fun _ => h'⟩
 have hK2 := hK q ok h1 h2
 clear hr hrp h1 h2 hK
 cases ok <;> cases β1
 all_goals
  simp -dsimp (disch := first | assumption | omega | (simp only [Ad]; done) | (simp only [Ad]; omega)) only [↓Ai, Ae, Ag, Ah, eq_self, Nat.reduceEqDiff, ↓reduceIte, Nat.reduceAdd, reduceCtorEq, ↓SA, ↓XJ, ho2, hset]
  exact hK2
theorem ApT {s : List UInt8} {β : Bool} {id v : Nat} {H : List Ob} (ho : H[id]? = some (.obj v (.agg [ts s, tb β]))) {K : TV → List Ob → Prop}
  (hK : K (ts (Lib.trimPrefix s [10])) (H.set id (.obj v (.agg [ts s, tb (β || !Lib.hasPrefix s [10] || !XV (Lib.trimPrefix s [10]))])))) : Aw Tryz.prog 75 [.op id v []] H K := by
 refine WX (by simp) ?_
 have hid : id < H.length := (List.getElem?_eq_some_iff.1 ho).1
 simp -dsimp (disch := first | assumption | omega | (simp only [Ad]; done) | (simp only [Ad]; omega)) only [↓Ai, Ae, Ag, Ah, eq_self, ↓reduceIte, reduceCtorEq, ↓Um, ↓Rz, ho]
 refine (AiF s [10]).calls rfl fun x hx => ?_
 subst hx
 generalize Lib.trimPrefix s [10] = m at *
 generalize Lib.hasPrefix s [10] = b at *
 have hm := An6 m
 generalize XV m = g at *
 cases β <;> cases b
 case false.true =>
  simp -dsimp (disch := first | assumption | omega | (simp only [Ad]; done) | (simp only [Ad]; omega)) only [↓Ai, Ae, Ag, Ah, eq_self, Nat.reduceEqDiff, ↓reduceIte, Nat.reduceAdd, reduceCtorEq, ↓Hq, ho]
  refine hm.calls rfl fun x hx => ?_
  subst hx
  cases g
  all_goals
   simp -dsimp (disch := first | assumption | omega | (simp only [Ad]; done) | (simp only [Ad]; omega)) only [↓Ai, Ae, Ag, Ah, eq_self, Nat.reduceEqDiff, ↓reduceIte, Nat.reduceAdd, reduceCtorEq, ↓IA, ho]
   exact hK
 all_goals
  simp -dsimp (disch := first | assumption | omega | (simp only [Ad]; done) | (simp only [Ad]; omega)) only [↓Ai, Ae, Ag, Ah, eq_self, Nat.reduceEqDiff, ↓reduceIte, Nat.reduceAdd, reduceCtorEq, ↓Hq, ↓IA, ho]
  simpa using hK
end Go.Proofs.YtliaddbbmnfioaaGreatDoor


namespace Go.Proofs.YtliaddbbmnfioaaGreatDoor
open Go.RowKit
variable [Bf]
set_option linter.unusedSectionVars false
set_option linter.unusedVariables false
set_option linter.unusedSimpArgs false
def Buf (H : List Ob) (r : TV) (l : List UInt8) : Option Nat → Prop
 | none => r = .val (.slice none 0 0) ∧ l = []
 | some j => ∃ v, r = .os 1 j v [] 0 l.length l.length ∧ H[j]? = some (.bld v 5 l)
theorem Buf.wd {H : List Ob} {r : TV} {l : List UInt8} {J : Option Nat} (h : Buf H r l J) : AC r = 1 := by
 cases J with
 | none => rw [h.1]; rfl
 | some j => obtain ⟨v, e, _⟩ := h; rw [e]; rfl
def ArP : List (Nat × Nat) → TV → Bool
 | [], _ => true
 | (i, d) :: p, .agg cs => decide (BG (cs.take i) = d) && (match cs[i]? with | some c => ArP p c | none => false)
 | _ :: _, _ => false
theorem Ahm {i d : Nat} {p : List (Nat × Nat)} {x : TV} (h : ArP ((i, d) :: p) x = true) : ∃ cs c, x = .agg cs ∧ BG (cs.take i) = d ∧ cs[i]? = some c ∧ ArP p c = true := by
 cases x with
 | agg cs =>
  simp only [ArP, Bool.and_eq_true, decide_eq_true_eq] at h
  obtain ⟨h1, h2⟩ := h
  cases hc : cs[i]? with
  | none => rw [hc] at h2; cases h2
  | some c => rw [hc] at h2; exact ⟨cs, c, rfl, h1, hc, h2⟩
 | _ => simp [ArP] at h
theorem AlT : ∀ {p : List (Nat × Nat)} {x r : TV}, ArP p x = true → JD p x = some r → setP p x r = some x
 | [], x, r, _, hg => by rw [Yg] at hg; cases hg; rw [Ii, if_pos rfl]
 | (i, d) :: p, x, r, h, hg => by
  obtain ⟨cs, c, rfl, hd, hc, h'⟩ := Ahm h
  rw [Ku, if_pos hd, hc] at hg
  rw [Je, if_pos hd, hc, Option.bind_some, AlT h' hg, Option.map_some]
  obtain ⟨hi, rfl⟩ := List.getElem?_eq_some_iff.1 hc
  rw [List.set_getElem_self]
theorem Ag6 : ∀ {p : List (Nat × Nat)} {x r b : TV}, ArP p x = true → JD p x = some r → AC b = AC r → ∃ x', setP p x b = some x' ∧ ArP p x' = true ∧ JD p x' = some b ∧ ∀ c, AC c = AC b → setP p x' c = setP p x c
 | [], x, r, b, _, hg, hw => by
  rw [Yg] at hg; cases hg
  refine ⟨b, by rw [Ii, if_pos hw], rfl, rfl, fun c hc => by rw [Ii, Ii, if_pos hc, if_pos (hc.trans hw)]⟩
 | (i, d) :: p, x, r, b, h, hg, hw => by
  obtain ⟨cs, c, rfl, hd, hc, h'⟩ := Ahm h
  rw [Ku, if_pos hd, hc] at hg
  obtain ⟨c', h1, h2, h3, h4⟩ := Ag6 h' hg hw
  have hi : i < cs.length := (List.getElem?_eq_some_iff.1 hc).1
  have hti : (cs.set i c').take i = cs.take i := by rw [List.take_set_of_le (Nat.le_refl _)]
  refine ⟨.agg (cs.set i c'), by rw [Je, if_pos hd, hc, Option.bind_some, h1]; rfl, ?_, ?_, fun y hy => ?_⟩
  ·simp [ArP, hti, hd, List.getElem?_set_self hi, h2]
  ·rw [Ku, hti, if_pos hd, List.getElem?_set_self hi]; exact h3
  ·rw [Je, Je, hti, if_pos hd, if_pos hd, List.getElem?_set_self hi, hc, Option.bind_some, Option.bind_some, h4 y hy]
   cases setP p c y with
   | none => rfl
   | some z => simp [List.set_set]
theorem Ag5 : ∀ {p : List (Nat × Nat)} {x a r b : TV}, ArP p x = true → JD p x = some (.agg [a, r]) → AC a = 1 → AC r = 1 → AC b = 1 → setP (p ++ [(1, 1)]) x b = setP p x (.agg [a, b])
 | [], x, a, r, b, _, hg, ha, hr, hb => by
  rw [Yg] at hg; cases hg
  have w1 : AC (.agg [a, b]) = AC (.agg [a, r]) := by simp [AC, BG, hb, hr]
  have h1 : BG ([a, r].take 1) = 1 := by simp [BG, ha]
  rw [Ii, if_pos w1, List.nil_append, Je, if_pos h1]
  simp [Ii, hb, hr]
 | (i, d) :: p, x, a, r, b, h, hg, ha, hr, hb => by
  obtain ⟨cs, c, rfl, hd, hc, h'⟩ := Ahm h
  rw [Ku, if_pos hd, hc] at hg
  rw [List.cons_append, Je, Je, if_pos hd, if_pos hd, hc, Option.bind_some, Option.bind_some, Ag5 h' hg ha hr hb]
theorem Aso {P : Program} {s id ver : Nat} {p0 p : List (Nat × Nat)} {x r : TV} {l : List UInt8} {J : Option Nat} {H : List Ob} {e : Env} {c : Af} {Q : VEx → Env → List Ob → Prop} (hs : get e s = .op id ver p0) (ho : H[id]? = some (.obj ver x))
  (hg : JD (p0 ++ p) x = some r) (hb : Buf H r l J) (hset : ∀ b, AC b = 1 → ∃ x', setP (p0 ++ p) x b = some x') (hself : setP (p0 ++ p) x r = some x)
  (h : ∀ H' x' j v, setP (p0 ++ p) x (.os 1 j v [] 0 l.length l.length) = some x' → H'[id]? = some (.obj ver x') → H'[j]? = some (.bld v 5 l) → (∀ i, i < H.length → i ≠ id → H'[i]? = H[i]?) → H.length ≤ H'.length → (J = some j ∨ J = none ∧ j = H.length) → vwp P c Q e H') :
  vwp P (.ownT s p 5 c) Q e H := by
 rw [Av0, hs]
 simp only [ho, true_and]
 rw [hg]
 have hid : id < H.length := (List.getElem?_eq_some_iff.1 ho).1
 cases J with
 | none =>
  obtain ⟨rfl, rfl⟩ := hb
  obtain ⟨x', hx⟩ := hset (.os 1 H.length 0 [] 0 0 0) rfl
  simp only [hx]
  refine h _ x' H.length 0 hx ?_ ?_ ?_ ?_ (.inr ⟨rfl, rfl⟩)
  ·rw [List.getElem?_append_left (by simpa using hid), List.getElem?_set_self hid]
  ·rw [List.getElem?_append_right (by simp)]; simp
  ·intro i hi hne
   rw [List.getElem?_append_left (by simpa using hi), List.getElem?_set_ne (Ne.symm hne)]
  ·simp
 | some j =>
  obtain ⟨v, rfl, hj⟩ := hb
  exact h H x j v hself ho hj (fun _ _ _ => rfl) (Nat.le_refl _) (.inl rfl)

theorem AsE {id ver q m : Nat} {T : TypeId} {J : Option Nat} {p : List (Nat × Nat)} {x a r : TV} {l s : List UInt8} {H : List Ob} {K : TV → List Ob → Prop} (ho : H[id]? = some (.obj ver x)) (hp : ArP p x = true) (hg : JD p x = some (.agg [a, r])) (ha : Ac8 id ver p a) (hb : Buf H r l J)
  (hq : H[q]? = some (.fact id ver T m)) (hT : Aid T m (DT p)) (hlen : l.length + s.length ≤ 140737488355328)
  (hk : ∀ H' x' r' j, setP p x (.agg [.op id ver p, r']) = some x' → H'[id]? = some (.obj ver x') → Buf H' r' (l ++ s) (some j) → (∀ i, i < H.length → i ≠ id → J ≠ some i → H'[i]? = H[i]?) → H.length ≤ H'.length → (J = some j ∨ J = none ∧ j = H.length) → K (.tup [i64 (s.length : Int), .val .nilIface]) H') :
  Aw Tryz.prog 61 [.op id ver p, .val (.string (str s))] H K := by
 refine Qk (by simp) ?_
 have wa := OI ha
 have wr := hb.wd
 have hgr : JD (p ++ [(1, 1)]) x = some r := by
  rw [Aj2, hg, Option.bind_some, Ku, if_pos (by simp [BG, wa])]; rfl
 rw [Gw]
 refine Aso (p0 := p) (p := [(1, 1)]) rfl ho hgr hb ?_ ?_ ?_
 ·intro b wb
  rw [Ag5 hp hg wa wr wb]
  obtain ⟨x', h1, _⟩ := Ag6 (b := .agg [a, b]) hp hg (by simp [AC, BG, wb, wr])
  exact ⟨x', h1⟩
 ·rw [Ag5 hp hg wa wr wr]; exact AlT hp hg
 intro H1 x1 j v hs1 ho1 hj1 hfr hl1 hJ
 rw [Ag5 hp hg wa wr rfl] at hs1
 obtain ⟨x1', e1, hp1, hg1, hov⟩ := Ag6 (b := .agg [a, .os 1 j v [] 0 l.length l.length]) hp hg (by simp [AC, BG, wr])
 rw [hs1] at e1; cases e1
 obtain ⟨x2, hs2, _⟩ := Ag6 (b := .agg [.op id ver p, .os 1 j v [] 0 l.length l.length]) hp1 hg1 (by simp [AC, BG, wa])
 have hne : id ≠ j := fun e => by rw [e] at ho1; rw [hj1] at ho1; cases ho1
 have hqid : q ≠ id := fun e => by rw [e] at hq; rw [ho] at hq; cases hq
 have hq1 : H1[q]? = some (.fact id ver T m) := by rw [hfr q ((List.getElem?_eq_some_iff.1 hq).1) hqid]; exact hq
 simp -dsimp (disch := first | assumption | omega) only [↓Ai, Ae, Ag, Ah, eq_self, Nat.reduceEqDiff, ↓reduceIte, Nat.reduceAdd, reduceCtorEq, ↓G9]
 refine Ai7 ho1 hg1 rfl ha hq1 hT hs2 rfl ?_
 have hid : id < H1.length := (List.getElem?_eq_some_iff.1 ho1).1
 have hjl : j < H1.length := (List.getElem?_eq_some_iff.1 hj1).1
 obtain ⟨g1, x'', g2, g3⟩ := AjF (b' := .os 1 j (v + 1) [] 0 (l ++ s).length (l ++ s).length) wa (by rfl) (by rfl) (by rfl) (by rfl) hg1 hs2
 have f1 : (H1.set id (.obj ver x2))[id]? = some (.obj ver x2) := by simp [hid]
 have f2 : (H1.set id (.obj ver x2))[j]? = some (.bld v 5 l) := by rw [List.getElem?_set_ne hne]; exact hj1
 have f3 : ((H1.set id (.obj ver x2)).set j (.bld (v + 1) 5 (l ++ s)))[id]? = some (.obj ver x2) := by rw [List.getElem?_set_ne (Ne.symm hne)]; exact f1
 have f4 : ((H1.set id (.obj ver x2)).set j (.bld (v + 1) 5 (l ++ s))).set id (.obj ver x'') = (H1.set id (.obj ver x'')).set j (.bld (v + 1) 5 (l ++ s)) := by
  rw [List.set_comm _ _ hne, List.set_set, List.set_comm _ _ hne.symm]
 have e1 : (l ++ s).length = l.length + s.length := by simp
 rw [e1] at g2
 rw [hov _ (by simp [AC, BG, wa])] at g3
 have hk' := hk ((H1.set id (.obj ver x'')).set j (.bld (v + 1) 5 (l ++ s))) x'' _ j g3 (by rw [List.getElem?_set_ne (Ne.symm hne)]; simp [hid]) ⟨v + 1, rfl, by simp [hjl]⟩ (fun i hi h1 h2 => by
  have hij : j ≠ i := by
   rcases hJ with e | ⟨_, e⟩
   ·exact fun h => h2 (h ▸ e)
   ·omega
  rw [List.getElem?_set_ne hij, List.getElem?_set_ne (Ne.symm h1), hfr i hi h1]) (by simpa using hl1) hJ
 have bls : bl (str s) = s := by simp [bl, str]
 simp -dsimp (disch := first | assumption | omega) only [↓Ai, Ae, Ag, Ah, eq_self, Nat.reduceEqDiff, ↓reduceIte, reduceCtorEq, ↓G9, f1, f2, f3, f4, g1, g2, bls, hlen]
 exact hk'
end Go.Proofs.YtliaddbbmnfioaaGreatDoor


namespace Go.Proofs.YtliaddbbmnfioaaGreatDoor
open Go.RowKit
variable [Bf]
set_option linter.unusedSectionVars false
set_option linter.unusedVariables false
set_option linter.unusedSimpArgs false
structure LO (H : List Ob) (l : List UInt8) : Prop where
 ex : ∃ a r, H[0]? = some (.obj 0 (.agg [a, r])) ∧ Ac8 0 0 [] a ∧ Buf H r l (some 2)
 fact : H[1]? = some (.fact 0 0 118 2)
theorem LO.len {H : List Ob} {l : List UInt8} (O : LO H l) : 3 ≤ H.length := by
 obtain ⟨⟨a, r, h1, h2, v, rfl, h3⟩, h4⟩ := O
 have := (List.getElem?_eq_some_iff.1 h3).1; omega
theorem loV {H : List Ob} {l s : List UInt8} {K : TV → List Ob → Prop} (O : LO H l) (hlen : l.length + s.length ≤ 140737488355328)
  (hk : ∀ H', LO H' (l ++ s) → H.length ≤ H'.length → K (.tup [i64 (s.length : Int), .val .nilIface]) H') :
  Aw Tryz.prog 61 [.op 0 0 [], ts s] H K := by
 obtain ⟨⟨a, r, h2, ha, hb⟩, hf⟩ := O
 have wa := OI ha
 refine AsE (q := 1) h2 rfl rfl ha hb hf AAa hlen ?_
 intro H' x' r' j hs ho hb' hfr hl hJ
 have hx : x' = .agg [.op 0 0 [], r'] := by
  rw [Ii, if_pos (by simp [AC, BG, hb'.wd, wa, hb.wd])] at hs
  exact (Option.some.inj hs).symm
 subst hx
 have hj : j = 2 := by
  rcases hJ with h | ⟨h, _⟩
  ·exact (Option.some.inj h).symm
  ·cases h
 subst hj
 have hf' := hfr 1 (List.getElem?_eq_some_iff.1 hf).1 (by omega) (by simp)
 exact hk H' ⟨⟨_, _, ho, .inr rfl, hb'⟩, hf'.trans hf⟩ hl
def Dy : List (List UInt8) → List UInt8
 | a :: b :: r => (a ++ [32] ++ b ++ [10]) ++ Dy r
 | _ => []
theorem AiM {a b : List UInt8} : ∀ {k : Nat} {p : List (List UInt8)}, p.length = 2 * k → Dy (p ++ [a, b]) = Dy p ++ (a ++ [32] ++ b ++ [10])
 | 0, p, h => by
  have : p = [] := List.eq_nil_of_length_eq_zero h
  subst this
  simp [Dy]
 | k + 1, x :: y :: p, h => by
  have := AiM (a := a) (b := b) (k := k) (p := p) (by simp at h; omega)
  simp only [List.cons_append, Dy, this]
  simp
 | k + 1, [x], h => by simp at h; omega
 | k + 1, [], h => by simp at h
theorem AhV : ∀ {l : List (List UInt8)} {M : Nat}, (∀ x ∈ l, x.length ≤ M) → (Dy l).length ≤ l.length * (M + 2)
 | [], M, h => by simp [Dy]
 | [a], M, h => by simp [Dy]
 | a :: b :: r, M, h => by
  have h1 := h a (by simp)
  have h2 := h b (by simp)
  have := AhV (l := r) (M := M) (fun x hx => h x (by simp [hx]))
  simp only [Dy, List.length_append, List.length_cons, List.length_nil]
  have e : (r.length + 1 + 1) * (M + 2) = r.length * (M + 2) + (M + 2) + (M + 2) := by rw [Nat.add_mul, Nat.add_mul]; omega
  rw [e]
  omega
theorem AzV (l : List (List UInt8)) {k : Nat} (hk : l.length = 2 * k) (hk2 : k ≤ 1000) (hl : ∀ x ∈ l, x.length ≤ 1000000) : Bj Tryz.prog 29 [.sl 1 (l.map ts)] (fun r => r = ts (Dy l)) := by
 refine Aw.toPureV (Ahi (by simp) ?_)
 simp -dsimp (disch := first | assumption | omega | (simp only [Ad]; done) | (simp only [Ad]; omega)) only [↓Ai, Ae, Ag, Ah, eq_self, Nat.reduceEqDiff, ↓reduceIte, Nat.reduceAdd, reduceCtorEq, ↓Va]
 refine E9 (fun q e H => ∃ i : Nat, q = k - i ∧ i ≤ k ∧ LO H (Dy (l.take (2 * i))) ∧ e = [(0, .sl 1 (l.map ts)), (3, .op 0 0 []), (4, i64 ((2 * i : Nat) : Int))]) k ?_ ?_
 ·exact ⟨0, rfl, by omega, ⟨⟨_, _, rfl, .inl rfl, _, rfl, rfl⟩, rfl⟩, rfl⟩
 ·rintro q e H ⟨i, rfl, hi, O, rfl⟩
  by_cases h : i < k
  ·have h1 : 2 * i < l.length := by omega
   have h2 : 2 * i + 1 < l.length := by omega
   have g1 : l[2 * i]? = some l[2 * i] := List.getElem?_eq_getElem h1
   have g2 : l[2 * i + 1]? = some l[2 * i + 1] := List.getElem?_eq_getElem h2
   have b1 := hl _ (List.mem_of_getElem? g1)
   have b2 := hl _ (List.mem_of_getElem? g2)
   have e2 : l.take (2 * (i + 1)) = l.take (2 * i) ++ [l[2 * i], l[2 * i + 1]] := by
    rw [show 2 * (i + 1) = 2 * i + 1 + 1 by omega, List.take_succ_eq_append_getElem h2, List.take_succ_eq_append_getElem h1, List.append_assoc]
    rfl
   have hsn := AiM (a := l[2 * i]) (b := l[2 * i + 1]) (k := i) (p := l.take (2 * i)) (by simp; omega)
   rw [← e2] at hsn
   have hll := AhV (l := l.take (2 * i)) (M := 1000000) (fun x hx => hl x (List.mem_of_mem_take hx))
   have hll2 : (l.take (2 * i)).length ≤ 2000 := by simp; omega
   generalize l[2 * i] = a at *
   generalize l[2 * i + 1] = b at *
   have hab : (a ++ [32] ++ b ++ [10]).length ≤ 2000002 := by simp; omega
   simp -dsimp (disch := first | assumption | omega | (simp only [Ad]; done) | (simp only [Ad]; omega)) only [↓Ai, Ae, Ag, Ah, eq_self, Nat.reduceEqDiff, ↓reduceIte, reduceCtorEq, ↓Va, g1, g2, Uk]
   refine Afv (loV O (by omega) fun H' O' hle => ?_)
   rw [← hsn] at O'
   simp -dsimp (disch := first | assumption | omega | (simp only [Ad]; done) | (simp only [Ad]; omega)) only [↓Ai, Ae, Ag, Ah, eq_self, Nat.reduceEqDiff, ↓reduceIte, Nat.reduceAdd, reduceCtorEq]
   exact Ce (k - (i + 1)) (by omega) O'.len ⟨i + 1, rfl, by omega, O', rfl⟩
  ·have hik : i = k := by omega
   subst hik
   have ht : l.take (2 * i) = l := List.take_of_length_le (by omega)
   rw [ht] at O
   obtain ⟨⟨a, r, h2, ha, hb⟩, hf⟩ := O
   have wa := OI ha
   obtain ⟨v, rfl, hj⟩ := hb
   have hbs := Aru
   have hll := AhV (l := l) (M := 1000000) hl
   have hll2 : (Dy l).length ≤ 9223372036854775807 := by omega
   simp -dsimp (disch := first | assumption | omega | (simp only [Ad]; done) | (simp only [Ad]; omega)) only [↓Ai, Ae, Ag, Ah, eq_self, Nat.reduceEqDiff, ↓reduceIte, reduceCtorEq, ↓Va, hbs, h2, hj]
end Go.Proofs.YtliaddbbmnfioaaGreatDoor


namespace Go.Proofs.YtliaddbbmnfioaaGreatDoor
open Go.RowKit
variable [Bf] [Ak] [Au] [AO] [Gt] [Ep]
set_option linter.unusedSectionVars false
set_option linter.unusedVariables false
set_option linter.unusedSimpArgs false
structure BqI where
 id : List UInt8
 kind : Int
 name : List UInt8
 who : Per
 msg : List UInt8
end Go.Proofs.YtliaddbbmnfioaaGreatDoor


namespace Go.Proofs.YtliaddbbmnfioaaGreatDoor
open Go.RowKit
variable [Bf]
set_option linter.unusedSectionVars false
set_option linter.unusedVariables false
set_option linter.unusedSimpArgs false

theorem AlO : ∀ (l : List UInt8), O3 (BX l) = l
 | [] => rfl
 | x :: l => by
  have e : BX (x :: l) = dig (x.toNat / 16) :: dig (x.toNat % 16) :: BX l := rfl
  have hx := x.toNat_lt
  rw [e, O3, AlO l, Anm _ (by omega), Anm _ (by omega)]
  have : x.toNat / 16 * 16 + x.toNat % 16 = x.toNat := by omega
  rw [this, UInt8.ofNat_toNat]
theorem AkG {l : List UInt8} (h : l.length = 20) : DR (BX l) = true := by
 rw [Wy (by rw [Ic]; omega)]
 intro c hc
 obtain ⟨x, _, hc⟩ := List.mem_flatMap.1 hc
 have hx := x.toNat_lt
 simp only [List.mem_cons, List.not_mem_nil, or_false] at hc
 rcases hc with rfl | rfl
 ·rw [Anm _ (by omega)]; omega
 ·rw [Anm _ (by omega)]; omega
theorem Ajh {l : List UInt8} (h : l.length = 20) : Ar (BX l) = l := by
 unfold Ar; rw [AkG h, if_pos rfl, AlO]
theorem Dj {s : List UInt8} : (Ar s).length = 20 := by
 unfold Ar
 split
 ·rename_i h
  unfold DR at h
  rw [Bool.and_eq_true, decide_eq_true_eq] at h
  exact Qd (by omega)
 ·simp [zer]
theorem AoX : ∀ n, n < 256 → hv (UInt8.ofNat n) < 16 → dig (hv (UInt8.ofNat n)) = UInt8.ofNat n := by decide +kernel
theorem AvZ {c : UInt8} (h : hv c < 16) : dig (hv c) = c := by
 have := AoX c.toNat c.toNat_lt
 rw [UInt8.ofNat_toNat] at this
 exact this h
theorem AlL : ∀ {n : Nat} {s : List UInt8}, s.length = 2 * n → (∀ c ∈ s, hv c < 16) → BX (O3 s) = s
 | 0, s, h, _ => by rw [List.length_eq_zero_iff.1 (by omega : s.length = 0)]; rfl
 | n + 1, [], h, _ => by simp at h
 | n + 1, [a], h, _ => by simp at h; omega
 | n + 1, a :: b :: s, h, ha => by
  have h1 := ha a (by simp)
  have h2 := ha b (by simp)
  have ih := AlL (n := n) (s := s) (by simp at h; omega) (fun c hc => ha c (by simp [hc]))
  have e : BX (UInt8.ofNat (hv a * 16 + hv b) :: O3 s) = dig ((UInt8.ofNat (hv a * 16 + hv b)).toNat / 16) :: dig ((UInt8.ofNat (hv a * 16 + hv b)).toNat % 16) :: BX (O3 s) := rfl
  rw [O3, e, ih, UInt8.toNat_ofNat']
  have e1 : (hv a * 16 + hv b) % 2 ^ 8 / 16 = hv a := by omega
  have e2 : (hv a * 16 + hv b) % 2 ^ 8 % 16 = hv b := by omega
  rw [e1, e2, AvZ h1, AvZ h2]
theorem Ai6 {s : List UInt8} (h : DR s = true) : BX (Ar s) = s := by
 unfold Ar
 rw [if_pos h]
 unfold DR at h
 simp only [Bool.and_eq_true, decide_eq_true_eq, List.all_eq_true] at h
 exact AlL (n := 20) (by omega) h.2
theorem Abk (l : List UInt8) : 10 ∉ BX l := by
 intro h
 obtain ⟨x, _, hc⟩ := List.mem_flatMap.1 h
 have hx := x.toNat_lt
 have key : ∀ n, n < 16 → (10 : UInt8) ≠ dig n := by decide
 simp only [List.mem_cons, List.not_mem_nil, or_false] at hc
 rcases hc with hc | hc
 ·exact key _ (by omega) hc
 ·exact key _ (by omega) hc
theorem Anc {p q : Per} (hp : DC p) (hq : DC q) (h : Dv p = Dv q) : p = q := by
 obtain ⟨a1, a2, a3, a4⟩ := AjW hp
 obtain ⟨b1, b2, b3, b4⟩ := AjW hq
 rw [h, b1] at a1
 simp only [Prod.mk.injEq, and_true] at a1
 obtain ⟨e1, e2⟩ := a1
 rw [← e2, b2] at a2
 simp only [Prod.mk.injEq, and_true] at a2
 obtain ⟨e3, e4⟩ := a2
 rw [← e4, b3] at a3
 simp only [Prod.mk.injEq, and_true] at a3
 obtain ⟨e5, e6⟩ := a3
 rw [← e5, b4] at a4
 have e7 := Option.some.inj a4
 unfold GX at e6
 obtain ⟨e8, e9⟩ := List.cons.inj e6
 obtain ⟨_, _, p1, p2, p3, p4⟩ := hp
 obtain ⟨_, _, q1, q2, q3, q4⟩ := hq
 have z1 := Ajn (show p.zone.natAbs ≤ 840 by omega)
 have z2 := Ajn (show q.zone.natAbs ≤ 840 by omega)
 rw [← e9, z2] at z1
 have z3 := Option.some.inj z1
 have z4 : q.zone.natAbs = p.zone.natAbs := by
  have y1 := Ahd (z := p.zone.natAbs)
  have y2 := Ahd (z := q.zone.natAbs)
  rw [← z3] at y1
  omega
 obtain ⟨pn, pm, pt, pz⟩ := p
 obtain ⟨qn, qm, qt, qz⟩ := q
 simp only at *
 have hz : pz = qz := by
  unfold AeA at e8
  split at e8 <;> split at e8 <;> first | omega | cases e8
 have ht : pt = qt := by omega
 rw [e1, e3, hz, ht]
theorem AoV {r : List UInt8} : Lib.hasPrefix r [10] = true → r = 10 :: Lib.trimPrefix r [10] := by
 intro h
 unfold Lib.trimPrefix
 rw [if_pos h]
 unfold Lib.hasPrefix at h
 rw [List.isPrefixOf_iff_prefix] at h
 obtain ⟨t, rfl⟩ := h
 rfl
theorem AnB {m : List UInt8} : Lib.hasPrefix (10 :: m) [10] = true ∧ Lib.trimPrefix (10 :: m) [10] = m := by
 have h : Lib.hasPrefix (10 :: m) [10] = true := by simp [Lib.hasPrefix, List.isPrefixOf]
 exact ⟨h, by unfold Lib.trimPrefix; rw [if_pos h]; rfl⟩
end Go.Proofs.YtliaddbbmnfioaaGreatDoor


namespace Go.Proofs.YtliaddbbmnfioaaGreatDoor
open Go.RowKit
variable [Bf]
set_option linter.unusedSectionVars false
set_option linter.unusedVariables false
set_option linter.unusedSimpArgs false
structure Akq where
 tree : List UInt8
 pars : List (List UInt8)
 author : Per
 comm : Per
 msg : List UInt8
def BJ : List UInt8 := [116, 114, 101, 101]
def BO : List UInt8 := [112, 97, 114, 101, 110, 116]
def AQ : List UInt8 := [97, 117, 116, 104, 111, 114]
def Aq : List UInt8 := [99, 111, 109, 109, 105, 116, 116, 101, 114]
abbrev JB (l : List UInt8) : TV := .arr 20 1 (l.map by8)
abbrev cmT (c : Akq) : TV := .agg [JB c.tree, .sl 20 (c.pars.map JB), Iw c.author, Iw c.comm, ts c.msg]
def AgR (c : Akq) : Prop := c.tree.length = 20 ∧ (∀ x ∈ c.pars, x.length = 20) ∧ c.pars.length ≤ 8 ∧ c.pars.Nodup ∧ DC c.author ∧ DC c.comm ∧ XV c.msg = true
def GG : List (List UInt8) → List UInt8
 | [] => []
 | v :: l => BO ++ 32 :: (v ++ 10 :: GG l)
def NR (a d m : List UInt8) : List UInt8 := AQ ++ 32 :: (a ++ 10 :: (Aq ++ 32 :: (d ++ 10 :: (10 :: m))))
def AvP (x : List UInt8) (ps : List (List UInt8)) (a d m : List UInt8) : List UInt8 := BJ ++ 32 :: (x ++ 10 :: (GG ps ++ NR a d m))
def cmB (c : Akq) : List UInt8 := AvP (BX c.tree) (c.pars.map BX) (Dv c.author) (Dv c.comm) c.msg
theorem Aba {v : List UInt8} : ∀ {l : List (List UInt8)} {r : List UInt8}, GG (l ++ [v]) ++ r = GG l ++ (BO ++ 32 :: (v ++ 10 :: r))
 | [], r => by simp [GG]
 | x :: l, r => by
  have := Aba (v := v) (l := l) (r := r)
  simp only [List.cons_append, GG, List.append_assoc] at this ⊢
  rw [this]
theorem AlZ (l : List (List UInt8)) : l.length ≤ (GG l).length := by
 induction l with
 | nil => simp [GG]
 | cons a l ih => simp [GG]; omega
theorem Ayy {w s : List UInt8} (h : mb w s = true) : AdS w s = none := by
 unfold mb at h; simpa using h
theorem AkR : ∀ {l m : List (List UInt8)} {r q : List UInt8}, (∀ x ∈ l, 10 ∉ x) → (∀ x ∈ m, 10 ∉ x) → mb BO r = true → mb BO q = true → GG l ++ r = GG m ++ q → l = m ∧ r = q
 | [], [], r, q, _, _, _, _, e => ⟨rfl, e⟩
 | [], v :: m, r, q, _, hm, hr, _, e => by
  exfalso
  simp only [GG, List.nil_append, List.append_assoc, List.cons_append] at e
  have := (Lr (w := BO) (v := v) (r := GG m ++ q) (by decide) (hm v (by simp))).1
  rw [← e, hr] at this; cases this
 | v :: l, [], r, q, hl, _, _, hq, e => by
  exfalso
  simp only [GG, List.nil_append, List.append_assoc, List.cons_append] at e
  have := (Lr (w := BO) (v := v) (r := GG l ++ r) (by decide) (hl v (by simp))).1
  rw [e, hq] at this; cases this
 | u :: l, v :: m, r, q, hl, hm, hr, hq, e => by
  simp only [GG, List.append_assoc, List.cons_append] at e
  obtain ⟨_, a1, a2⟩ := Lr (w := BO) (v := u) (r := GG l ++ r) (by decide) (hl u (by simp))
  obtain ⟨_, b1, b2⟩ := Lr (w := BO) (v := v) (r := GG m ++ q) (by decide) (hm v (by simp))
  rw [e] at a1 a2
  obtain ⟨h1, h2⟩ := AkR (fun x hx => hl x (by simp [hx])) (fun x hx => hm x (by simp [hx])) hr hq (a2.symm.trans b2)
  exact ⟨by rw [← a1, b1, h1], h2⟩
theorem Ant {a d m : List UInt8} : mb BO (NR a d m) = true := by
 cases h : mb BO (NR a d m) with
 | true => rfl
 | false =>
  have := (UQ h).1
  unfold NR AQ BO at this
  simp at this
structure Av8 (s x : List UInt8) (ps : List (List UInt8)) (t : List UInt8) : Prop where
 head : s = BJ ++ 32 :: (x ++ 10 :: (GG ps ++ t))
 nx : 10 ∉ x
 nps : ∀ p ∈ ps, 10 ∉ p
 stop : mb BO t = true
theorem Av8.one {s x x' t t' : List UInt8} {ps ps' : List (List UInt8)} (h : Av8 s x ps t) (h' : Av8 s x' ps' t') : x = x' ∧ ps = ps' ∧ t = t' := by
 obtain ⟨_, a1, a2⟩ := Lr (w := BJ) (v := x) (r := GG ps ++ t) (by decide) h.nx
 obtain ⟨_, b1, b2⟩ := Lr (w := BJ) (v := x') (r := GG ps' ++ t') (by decide) h'.nx
 rw [← h.head] at a1 a2
 rw [← h'.head] at b1 b2
 obtain ⟨h1, h2⟩ := AkR h.nps h'.nps h.stop h'.stop (a2.symm.trans b2)
 exact ⟨a1.symm.trans b1, h1, h2⟩
theorem AnY {c : Akq} : Av8 (cmB c) (BX c.tree) (c.pars.map BX) (NR (Dv c.author) (Dv c.comm) c.msg) :=
 ⟨rfl, Abk _, fun p hp => by obtain ⟨q, _, rfl⟩ := List.mem_map.1 hp; exact Abk q, Ant⟩
theorem AvK {a d m : List UInt8} (ha : 10 ∉ a) (hd : 10 ∉ d) : mb AQ (NR a d m) = false ∧ mv AQ (NR a d m) = a ∧ mb Aq (mr AQ (NR a d m)) = false ∧ mv Aq (mr AQ (NR a d m)) = d ∧ mr Aq (mr AQ (NR a d m)) = 10 :: m := by
 obtain ⟨a1, b1, c1⟩ := Lr (w := AQ) (v := a) (r := Aq ++ 32 :: (d ++ 10 :: (10 :: m))) (by decide) ha
 obtain ⟨a2, b2, c2⟩ := Lr (w := Aq) (v := d) (r := 10 :: m) (by decide) hd
 unfold NR
 rw [c1]
 exact ⟨a1, b1, a2, b2, c2⟩
theorem AzW {t m : List UInt8} (h1 : mb AQ t = false) (h2 : mb Aq (mr AQ t) = false) (h3 : mr Aq (mr AQ t) = 10 :: m) : t = NR (mv AQ t) (mv Aq (mr AQ t)) m := by
 unfold NR
 rw [← h3, ← (UQ h2).1]
 exact (UQ h1).1
theorem Acl : ∀ {l : List (List UInt8)}, (∀ x ∈ l, DR x = true) → (l.map Ar).map BX = l
 | [], _ => rfl
 | x :: l, h => by
  simp only [List.map_cons]
  rw [Ai6 (h x (by simp)), Acl fun y hy => h y (by simp [hy])]
theorem AbZ : ∀ {l : List (List UInt8)}, (∀ x ∈ l, x.length = 20) → (l.map BX).map Ar = l
 | [], _ => rfl
 | x :: l, h => by
  simp only [List.map_cons]
  rw [Ajh (h x (by simp)), AbZ fun y hy => h y (by simp [hy])]
abbrev ApG : TV := .agg [JB (zer 20), .val (.slice none 0 0), Iw ⟨[], [], 0, 0⟩, Iw ⟨[], [], 0, 0⟩, ts []]
def Azm (b : List UInt8) (r : TV) : Prop := (∀ c, AgR c → cmB c = b → r = .tup [cmT c, .val .nilIface]) ∧ ((∀ c, AgR c → cmB c ≠ b) → r = .tup [ApG, eno 22])
def Ya (s x : List UInt8) (ps : List (List UInt8)) (t : List UInt8) (ok1 ok2 : Bool) (nd : Bool) : Bool :=
 !mb BJ s && DR x && ps.all DR && !mb AQ t && ok1 && !mb Aq (mr AQ t) && ok2 && Lib.hasPrefix (mr Aq (mr AQ t)) [10] && XV (Lib.trimPrefix (mr Aq (mr AQ t)) [10]) && decide (ps.length ≤ 8) && nd
theorem ApX {s x t : List UInt8} {ps : List (List UInt8)} {ok1 ok2 nd : Bool} {q1 q2 : Per} (hx : mb BJ s = false → Av8 s x ps t) (hnd : ps.all DR = true → (nd = true ↔ (ps.map Ar).Nodup))
  (h1 : ok1 = true → DC q1 ∧ Dv q1 = mv AQ t) (h1' : ok1 = false → ∀ p, DC p → Dv p ≠ mv AQ t) (h2 : ok2 = true → DC q2 ∧ Dv q2 = mv Aq (mr AQ t)) (h2' : ok2 = false → ∀ p, DC p → Dv p ≠ mv Aq (mr AQ t)) :
  (Ya s x ps t ok1 ok2 nd = false → ∀ c, AgR c → cmB c ≠ s) ∧
  (Ya s x ps t ok1 ok2 nd = true → AgR ⟨Ar x, ps.map Ar, q1, q2, Lib.trimPrefix (mr Aq (mr AQ t)) [10]⟩ ∧ cmB ⟨Ar x, ps.map Ar, q1, q2, Lib.trimPrefix (mr Aq (mr AQ t)) [10]⟩ = s) ∧
  (∀ c, AgR c → cmB c = s → Ya s x ps t ok1 ok2 nd = true ∧ c = ⟨Ar x, ps.map Ar, q1, q2, Lib.trimPrefix (mr Aq (mr AQ t)) [10]⟩) := by
 have fwd : ∀ c, AgR c → cmB c = s → Ya s x ps t ok1 ok2 nd = true ∧ c = ⟨Ar x, ps.map Ar, q1, q2, Lib.trimPrefix (mr Aq (mr AQ t)) [10]⟩ := by
  rintro c ⟨c1, c2, c3, c4, c5, c6, c7⟩ rfl
  have hb : mb BJ (cmB c) = false := (Lr (w := BJ) (by decide) (Abk c.tree)).1
  obtain ⟨rfl, rfl, rfl⟩ := (hx hb).one (AnY (c := c))
  obtain ⟨e1, e2, e3, e4, e5⟩ := AvK (m := c.msg) (Ag7 c5) (Ag7 c6)
  obtain ⟨g1, g2⟩ := AnB (m := c.msg)
  have hall : (c.pars.map BX).all DR = true := by
   rw [List.all_eq_true]
   intro y hy
   obtain ⟨z, hz, rfl⟩ := List.mem_map.1 hy
   exact AkG (c2 z hz)
  rw [e2] at h1 h1'
  rw [e4] at h2 h2'
  have ho1 : ok1 = true := by
   cases ok1 with
   | true => rfl
   | false => exact absurd rfl (h1' rfl _ c5)
  have ho2 : ok2 = true := by
   cases ok2 with
   | true => rfl
   | false => exact absurd rfl (h2' rfl _ c6)
  have hpp := AbZ c2
  have hnd' : nd = true := (hnd hall).2 (by rw [hpp]; exact c4)
  constructor
  ·unfold Ya
   rw [hb, AkG c1, hall, e1, ho1, e3, ho2, e5, g1, g2, c7, hnd']
   simp [c3]
  ·rw [Ajh c1, hpp, e5, g2, Anc (h1 ho1).1 c5 (h1 ho1).2, Anc (h2 ho2).1 c6 (h2 ho2).2]
 refine ⟨fun h c hc e => ?_, fun h => ?_, fwd⟩
 ·rw [(fwd c hc e).1] at h; cases h
 ·unfold Ya at h
  simp only [Bool.and_eq_true, Bool.not_eq_true', decide_eq_true_eq] at h
  obtain ⟨⟨⟨⟨⟨⟨⟨⟨⟨⟨g1, g2⟩, g3⟩, g4⟩, g5⟩, g6⟩, g7⟩, g8⟩, g9⟩, g10⟩, g11⟩ := h
  have hR := hx g1
  refine ⟨⟨Dj, fun y hy => ?_, by simpa using g10, (hnd g3).1 g11, (h1 g5).1, (h2 g7).1, g9⟩, ?_⟩
  ·obtain ⟨z, _, rfl⟩ := List.mem_map.1 hy; exact Dj
  ·unfold cmB AvP
   simp only
   rw [Ai6 g2, Acl (fun y hy => List.all_eq_true.1 g3 y hy), (h1 g5).2, (h2 g7).2, ← AzW g4 g6 (AoV g8)]
   exact hR.head.symm
end Go.Proofs.YtliaddbbmnfioaaGreatDoor


namespace Go.Proofs.YtliaddbbmnfioaaGreatDoor
open Go.RowKit
variable [Bf]
set_option linter.unusedSectionVars false
set_option linter.unusedVariables false
set_option linter.unusedSimpArgs false

theorem AyB {k l : List UInt8} {x : TV} : ∀ {es : List (List UInt8 × TV)}, AaU k (Aa9 l x es) = if l = k then some x else AaU k es
 | [] => by simp [Aa9, AaU]
 | (q, y) :: es => by
  rw [Aa9]
  by_cases hq : q = l
  ·subst hq
   rw [if_pos rfl, AaU, AaU]
   by_cases h : q = k <;> simp [h]
  ·rw [if_neg hq, AaU, AaU, AyB]
   by_cases h : q = k
   ·subst h; rw [if_pos rfl, if_neg (fun e => hq e.symm), if_pos rfl]
   ·rw [if_neg h, if_neg h]
theorem Ars {k : List UInt8} {x : TV} : ∀ {es : List (List UInt8 × TV)}, (Aa9 k x es)[Aff k es]? = some (k, x)
 | [] => by simp [Aa9, Aff]
 | (q, y) :: es => by
  rw [Aa9, Aff]
  by_cases hq : q = k
  ·subst hq; simp
  ·rw [if_neg hq, if_neg hq, List.getElem?_cons_succ, Ars]
theorem AnS {k : List UInt8} {x y : TV} : ∀ {es : List (List UInt8 × TV)}, (Aa9 k x es).set (Aff k es) (k, y) = Aa9 k y es
 | [] => by simp [Aa9, Aff]
 | (q, z) :: es => by
  rw [Aa9, Aff]
  by_cases hq : q = k
  ·subst hq; simp [Aa9]
  ·rw [if_neg hq, if_neg hq, List.set_cons_succ, AnS, Aa9, if_neg hq]
theorem Arh {k : List UInt8} {x : TV} {es : List (List UInt8 × TV)} : AaU k (Aa9 k x es) = some x := by rw [AyB, if_pos rfl]
def Cnt (es : List (List UInt8 × TV)) (m : List (List UInt8)) : Prop := ∀ l, (AaU l es).getD (i64 ((0 : Nat) : Int)) = i64 ((m.count l : Nat) : Int)
theorem Cnt.add {es : List (List UInt8 × TV)} {m : List (List UInt8)} (h : Cnt es m) (l : List UInt8) : Cnt (Aa9 l (i64 ((m.count l + 1 : Nat) : Int)) es) (m ++ [l]) := by
 intro k
 rw [AyB]
 by_cases hk : l = k
 ·subst hk; simp
 ·rw [if_neg hk, h k]; simp [hk]
theorem AiG {l : List (List UInt8)} {i : Nat} (hi : i < l.length) (h : (l.take i).Nodup) : (l.take (i + 1)).Nodup ↔ l[i] ∉ l.take i := by
 rw [List.take_succ_eq_append_getElem hi, List.nodup_append]
 constructor
 ·rintro ⟨_, _, g⟩ hm
  exact g _ hm _ (by simp) rfl
 ·intro g
  exact ⟨h, by simp, fun a ha b hb => by rw [List.mem_singleton] at hb; subst hb; exact fun e => g (e ▸ ha)⟩
theorem Av1 (l : List (List UInt8)) (h20 : ∀ x ∈ l, x.length = 20) (hl : l.length ≤ 1000000) : Bj Tryz.prog 42 [.sl 20 (l.map JB)] (fun r => r = tb (!decide l.Nodup)) := by
 refine Aw.toPureV (AhE (by simp) ?_)
 simp -dsimp (disch := first | assumption | omega | (simp only [Ad]; done) | (simp only [Ad]; omega)) only [↓Ai, Ae, Ag, Ah, eq_self, Nat.reduceEqDiff, ↓reduceIte, reduceCtorEq, ↓AgX, ↓Acp, ↓Aco, ↓AcG]
 refine E9 (fun q e H => ∃ (i : Nat) (es : List (List UInt8 × TV)), q = l.length - i ∧ i ≤ l.length ∧ (l.take i).Nodup ∧ Cnt es (l.take i) ∧ H[0]? = some (.mpo (.arr 20) es) ∧ e = [(3, .mp 0 0), (7, .sl 20 (l.map JB)), (8, i64 (l.length : Int)), (9, i64 (i : Int))]) l.length ?_ ?_
 ·exact ⟨0, [], by simp, by simp, by simp, fun l => by simp [AaU], rfl, rfl⟩
 ·rintro q e H ⟨i, es, rfl, hi, hnd, hc, hH, rfl⟩
  have hHl : 0 < H.length := (List.getElem?_eq_some_iff.1 hH).1
  have hA : ∀ T : List Ob, (H ++ T)[0]? = some (.mpo (.arr 20) es) := fun T => by rw [List.getElem?_append_left hHl]; exact hH
  by_cases hil : i < l.length
  ·have hg : l[i]? = some l[i] := List.getElem?_eq_getElem hil
   have hx20 := h20 _ (List.mem_of_getElem? hg)
   have hcl := hc l[i]
   have hadd := hc.add l[i]
   have hcount : (l.take i).count l[i] ≤ i := by have := List.count_le_length (a := l[i]) (l := l.take i); rw [List.length_take] at this; omega
   have hnx := AiG hil hnd
   rw [← List.count_eq_zero] at hnx
   have hts := List.take_succ_eq_append_getElem hil
   rw [← hts] at hadd
   have hpre : l.Nodup → (l.take (i + 1)).Nodup := fun h => h.sublist (List.take_sublist _ _)
   generalize l[i] = x at *
   generalize (l.take i).count x = n at *
   simp -dsimp (disch := first | assumption | omega | (simp only [Ad]; done) | (simp only [Ad]; omega)) only [↓Ai, Ae, Ag, Ah, eq_self, Nat.reduceEqDiff, ↓reduceIte, ↓SB, ↓RX, ↓AdI, hg, hA, hcl, Ars, AnS, Arh]
   have hS0 : ∀ (o : Ob) (T : List Ob), (H.set 0 o ++ T)[0]? = some o := fun o T => by rw [List.getElem?_append_left (by simpa using hHl), List.getElem?_set_self hHl]
   by_cases hn : n = 0
   ·subst hn
    simp -dsimp (disch := first | assumption | omega | (simp only [Ad]; done) | (simp only [Ad]; omega)) only [↓Ai, Ae, Ag, Ah, eq_self, Nat.reduceLT, Nat.reduceEqDiff, ↓reduceIte]
    exact Ce (l.length - (i + 1)) (by omega) (by simp) ⟨i + 1, _, rfl, by omega, hnx.2 rfl, hadd, hS0 _ _, rfl⟩
   ·simp -dsimp (disch := first | assumption | omega | (simp only [Ad]; done) | (simp only [Ad]; omega)) only [↓Ai, Ae, Ag, Ah, eq_self, ↓reduceIte, ↓Zm]
    have : ¬ l.Nodup := fun h => hn (hnx.1 (hpre h))
    simp [this]
  ·have hi2 : i = l.length := by omega
   rw [hi2, List.take_length] at hnd
   simp -dsimp (disch := first | assumption | omega | (simp only [Ad]; done) | (simp only [Ad]; omega)) only [↓Ai, Ae, Ag, Ah, eq_self, Nat.reduceEqDiff, ↓reduceIte, ↓SB, ↓RX, ↓Ac9, ↓Zm]
   simp [hnd]
end Go.Proofs.YtliaddbbmnfioaaGreatDoor


namespace Go.Proofs.YtliaddbbmnfioaaGreatDoor
open Go.RowKit
variable [Bf] [Ak] [Au] [AO] [Gt]
set_option linter.unusedSectionVars false
set_option linter.unusedVariables false
set_option linter.unusedSimpArgs false

def An9 (c : Akq) : Prop := c.tree.length = 20 ∧ (∀ x ∈ c.pars, x.length = 20) ∧ c.pars.length ≤ 1000000 ∧ OA c.author ∧ OA c.comm
theorem PO {p : Per} (h : DC p) : (Dv p).length ≤ 200 := by
 obtain ⟨n, m, t, z⟩ := p
 obtain ⟨h1, h2, h3, h4, _⟩ := h
 simp only at h3 h4
 have e1 := Auj t.toNat
 have e2 := Lib.nDigits_le20 t.toNat (by omega)
 have a := h1.1
 have b := h2.1
 simp only at *
 rw [AeG]
 simp only [List.length_append, List.length_cons, List.length_nil, Aa6]
 omega
def ABg (c : Akq) (r : TV) : Prop := (AgR c → r = .tup [slB (cmB c), .val .nilIface]) ∧ (¬ AgR c → r = .tup [.val (.slice none 0 0), eno 22])
theorem Ag3 {p : Per} {r : TV} (hr : ArX p r) : ∃ tx ok, r = .tup [ts tx, tb ok] ∧ (ok = true → DC p ∧ tx = Dv p) ∧ (ok = false → ¬ DC p) := by
 by_cases h : DC p
 ·exact ⟨_, true, hr.1 h, fun _ => ⟨h, rfl⟩, fun h => (by cases h)⟩
 ·exact ⟨_, false, hr.2 h, fun h => (by cases h), fun _ => h⟩
def AjI (l : List (List UInt8)) : List (List UInt8) := l.flatMap fun p => [BO, BX p]
theorem AkM : ∀ l : List (List UInt8), (AjI l).length = 2 * l.length
 | [] => rfl
 | a :: l => by
  have := AkM l
  simp only [AjI, List.flatMap_cons, List.length_append, List.length_cons, List.length_nil] at this ⊢
  omega
theorem AqH : ∀ (l : List (List UInt8)) (r : List (List UInt8)), Dy (AjI l ++ r) = GG (l.map BX) ++ Dy r
 | [], r => rfl
 | p :: l, r => by
  have := AqH l r
  simp only [AjI, List.flatMap_cons, List.cons_append, List.nil_append, Dy, List.map_cons, GG] at this ⊢
  rw [this]
  simp
theorem Ayk {x a d m : List UInt8} {l : List (List UInt8)} : Dy ([BJ, x] ++ AjI l ++ [AQ, a, Aq, d]) ++ [10] ++ m = AvP x (l.map BX) a d m := by
 have := AqH l [AQ, a, Aq, d]
 simp only [List.cons_append, List.nil_append, Dy] at this ⊢
 rw [this]
 simp [AvP, NR]
def AbP (tr : List UInt8) (l : List (List UInt8)) : List (List UInt8) := [BJ, BX tr] ++ AjI l
theorem Aoo {tr p : List UInt8} {l : List (List UInt8)} : (AbP tr (l ++ [p])).map ts = (AbP tr l).map ts ++ [ts BO, ts (BX p)] := by simp [AbP, AjI]
theorem Aln {tr : List UInt8} {l : List (List UInt8)} : (AbP tr l).length = 2 + 2 * l.length := by
 unfold AbP; rw [List.length_append, AkM]; rfl
def AqF (tr : List UInt8) (ps : List (List UInt8)) : List UInt8 := BJ ++ 32 :: (BX tr ++ 10 :: GG (ps.map BX))
theorem AAq {tr : List UInt8} : ([116, 114, 101, 101, 32] : List UInt8) ++ BX tr ++ [10] = AqF tr [] := by simp [AqF, BJ, GG]
theorem Aqo {tr p : List UInt8} {ps : List (List UInt8)} : AqF tr ps ++ [112, 97, 114, 101, 110, 116, 32] ++ BX p ++ [10] = AqF tr (ps ++ [p]) := by
 have := Aba (v := BX p) (l := ps.map BX) (r := [])
 simp only [AqF, List.map_append, List.map_cons, List.map_nil, List.append_nil] at this ⊢
 rw [this]
 simp [BO]
theorem Ajv {tr a d m : List UInt8} {ps : List (List UInt8)} : AqF tr ps ++ [97, 117, 116, 104, 111, 114, 32] ++ a ++ [10, 99, 111, 109, 109, 105, 116, 116, 101, 114, 32] ++ d ++ [10, 10] ++ m = AvP (BX tr) (ps.map BX) a d m := by
 simp [AqF, AvP, NR, AQ, Aq]
theorem AiS : ∀ {ps : List (List UInt8)}, (∀ x ∈ ps, x.length = 20) → (GG (ps.map BX)).length = 48 * ps.length
 | [], _ => rfl
 | p :: ps, h => by
  have := AiS (ps := ps) fun x hx => h x (by simp [hx])
  have h20 := h p (by simp)
  have hh : (BX p).length = 40 := by rw [Ic]; omega
  simp only [List.map_cons, GG, List.length_append, List.length_cons, hh, this, BO, List.length_nil]
  omega
theorem Aha {tr : List UInt8} {ps : List (List UInt8)} (h20 : tr.length = 20) (h : ∀ x ∈ ps, x.length = 20) : (AqF tr ps).length = 46 + 48 * ps.length := by
 have hh : (BX tr).length = 40 := by rw [Ic]; omega
 simp only [AqF, List.length_append, List.length_cons, hh, AiS h, BJ, List.length_nil]
 omega
theorem AwM {a b c d z : TV} : ((((List.replicate 4 z).set 0 a).set 1 b).set 2 c).set 3 d = [a, b, c, d] := by simp [List.replicate]
theorem Aza {a b z : TV} : ((List.replicate 2 z).set 0 a).set 1 b = [a, b] := by simp [List.replicate]
theorem Ale (c : Akq) (hf : An9 c) : Y8 Tryz.prog 13 [cmT c] (ABg c) := by
 refine Aw.toFreshV (AaM (by simp) ?_)
 obtain ⟨tr, ps, au, co, m⟩ := c
 obtain ⟨h20, hps, hpl, ha, hc⟩ := hf
 simp only at *
 have h20' : (tr.map by8).length = 20 := by rw [List.length_map]; exact h20
 have hwa := TA au ha
 have hwc := TA co hc
 have hmm := An6 m
 have htw := Av1 ps hps hpl
 have hhx := AEx tr h20
 have err : ¬ AgR ⟨tr, ps, au, co, m⟩ → ABg ⟨tr, ps, au, co, m⟩ (.tup [.val (.slice none 0 0), eno 22]) := fun h => ⟨fun h' => absurd h' h, fun _ => rfl⟩
 simp -dsimp (disch := first | assumption | omega | (simp only [Ad]; done) | (simp only [Ad]; omega)) only [↓Ai, Ae, Ag, Ah, eq_self, Nat.reduceEqDiff, ↓reduceIte, Nat.reduceAdd, ↓ZK, ↓U1]
 refine hwa.calls rfl fun r hr => ?_
 obtain ⟨ta, oa, rfl, hoa, hoa'⟩ := Ag3 hr
 simp -dsimp (disch := first | assumption | omega | (simp only [Ad]; done) | (simp only [Ad]; omega)) only [↓Ai, Ae, Ag, Ah, eq_self, Nat.reduceEqDiff, ↓reduceIte, Nat.reduceAdd, ↓Un]
 refine hwc.calls rfl fun r hr => ?_
 obtain ⟨tc, oc, rfl, hoc, hoc'⟩ := Ag3 hr
 cases oa
 case false =>
  simp -dsimp (disch := first | assumption | omega | (simp only [Ad]; done) | (simp only [Ad]; omega)) only [↓Ai, Ae, Ag, Ah, eq_self, Nat.reduceEqDiff, ↓reduceIte, ↓Fq, ↓CJ]
  exact err fun h => hoa' rfl h.2.2.2.2.1
 cases oc
 case false =>
  simp -dsimp (disch := first | assumption | omega | (simp only [Ad]; done) | (simp only [Ad]; omega)) only [↓Ai, Ae, Ag, Ah, eq_self, Nat.reduceEqDiff, ↓reduceIte, ↓Fq, ↓CJ]
  exact err fun h => hoc' rfl h.2.2.2.2.2.1
 simp -dsimp (disch := first | assumption | omega | (simp only [Ad]; done) | (simp only [Ad]; omega)) only [↓Ai, Ae, Ag, Ah, eq_self, Nat.reduceEqDiff, ↓reduceIte, Nat.reduceAdd, ↓Fq]
 refine hmm.calls rfl fun r hr => ?_
 subst hr
 cases hm : XV m
 case false =>
  simp -dsimp (disch := first | assumption | omega | (simp only [Ad]; done) | (simp only [Ad]; omega)) only [↓Ai, Ae, Ag, Ah, eq_self, Nat.reduceEqDiff, ↓reduceIte, ↓CJ]
  exact err fun h => absurd (hm ▸ h.2.2.2.2.2.2) (by decide)
 by_cases h8 : ps.length ≤ 8
 case neg =>
  simp -dsimp (disch := first | assumption | omega | (simp only [Ad]; done) | (simp only [Ad]; omega)) only [↓Ai, Ae, Ag, Ah, eq_self, Nat.reduceEqDiff, ↓reduceIte, Nat.reduceAdd, ↓CJ]
  exact err fun h => h8 h.2.2.1
 simp -dsimp (disch := first | assumption | omega | (simp only [Ad]; done) | (simp only [Ad]; omega)) only [↓Ai, Ae, Ag, Ah, eq_self, Nat.reduceEqDiff, ↓reduceIte, Nat.reduceAdd]
 refine htw.calls rfl fun r hr => ?_
 subst hr
 by_cases hnd : ps.Nodup
 case neg =>
  simp -dsimp (disch := first | assumption | omega | (simp only [Ad]; done) | (simp only [Ad]; omega)) only [↓Ai, Ae, Ag, Ah, eq_self, Nat.reduceEqDiff, ↓reduceIte, hnd, ↓CJ]
  exact err fun h => hnd h.2.2.2.1
 simp -dsimp (disch := first | assumption | omega | (simp only [Ad]; done) | (simp only [Ad]; omega)) only [↓Ai, Ae, Ag, Ah, eq_self, Nat.reduceEqDiff, ↓reduceIte, hnd, ↓Vb]
 refine hhx.calls rfl fun r hr => ?_
 subst hr
 simp -dsimp (disch := first | assumption | omega | (simp only [Ad]; done) | (simp only [Ad]; omega)) only [↓Ai, Ae, Ag, Ah, eq_self, Nat.reduceEqDiff, ↓reduceIte, Nat.reduceAdd, Nat.reduceLeDiff, ↓UO, ↓UA]
 refine E9 (fun q e H => ∃ (i v cp : Nat), q = ps.length - i ∧ i ≤ ps.length ∧ H[0]? = some (.obj 0 (cmT ⟨tr, ps, au, co, m⟩)) ∧ H[1]? = some (.obj v (.arr (2 + 2 * i) 1 ((AbP tr (ps.take i)).map ts))) ∧
  e = [(1, .op 0 0 []), (4, ts ta), (6, ts tc), (8, .os 1 1 v [] 0 (2 + 2 * i) cp), (52, .sl 20 (ps.map JB)), (53, i64 (ps.length : Int)), (54, i64 (i : Int))]) ps.length ?_ ?_
 ·exact ⟨0, 0, 2, rfl, by omega, rfl, rfl, rfl⟩
 ·rintro q e H ⟨i, v, cp, rfl, hi, hH0, hH1, rfl⟩
  have hHl : 1 < H.length := (List.getElem?_eq_some_iff.1 hH1).1
  by_cases hil : i < ps.length
  ·have hg : ps[i]? = some ps[i] := List.getElem?_eq_getElem hil
   have hx20 := hps _ (List.mem_of_getElem? hg)
   have hts := List.take_succ_eq_append_getElem hil
   have hsn := Aoo (tr := tr) (l := ps.take i) (p := ps[i])
   rw [← hts] at hsn
   have hhp := AEx ps[i] hx20
   have hwl : (AbP tr (ps.take i)).length = 2 + 2 * i := by rw [Aln, List.length_take, Nat.min_eq_left hi]
   generalize AbP tr (ps.take i) = W at *
   generalize hpi : ps[i] = p at *
   have hp20 : (p.map by8).length = 20 := by rw [List.length_map]; exact hx20
   simp -dsimp (disch := first | assumption | omega | (simp only [Ad]; done) | (simp only [Ad]; omega)) only [↓Ai, Ae, Ag, Ah, eq_self, Nat.reduceEqDiff, ↓reduceIte, hg, ↓IL]
   refine hhp.calls rfl fun r hr => ?_
   subst hr
   have hY1 : ∀ T : List Ob, (H ++ T)[1]? = some (.obj v (.arr (2 + 2 * i) 1 (W.map ts))) := fun T => by rw [List.getElem?_append_left hHl]; exact hH1
   have hwt : (W.map ts).take (2 + 2 * i) = W.map ts := List.take_of_length_le (by rw [List.length_map]; omega)
   simp -dsimp (disch := first | assumption | omega | (simp only [Ad]; done) | (simp only [Ad]; omega)) only [↓Ai, Ae, Ag, Ah, eq_self, Nat.reduceEqDiff, ↓reduceIte, Nat.reduceAdd, Nat.reduceLeDiff, hY1, Aza, hwl, hwt]
   have h01 : ∀ (o : Ob) (T : List Ob), (H.set 1 o ++ T)[0]? = H[0]? := fun o T => by rw [List.getElem?_append_left (by simp; omega), List.getElem?_set_ne (by omega)]
   have h11 : ∀ (o : Ob) (T : List Ob), (H.set 1 o ++ T)[1]? = some o := fun o T => by rw [List.getElem?_append_left (by simp; omega), List.getElem?_set_self hHl]
   rw [List.append_assoc]
   refine Ce (ps.length - (i + 1)) (by omega) (by simp) ⟨i + 1, v + 1, 2 + 2 * i + 2, rfl, by omega, by rw [h01]; exact hH0, ?_, rfl⟩
   rw [h11, hsn]
   rfl
  ·have hi2 : i = ps.length := by omega
   have htt : ps.take i = ps := List.take_of_length_le (by omega)
   rw [htt] at hH1
   have hpl' := hpl
   obtain ⟨hpa, rfl⟩ := hoa rfl
   obtain ⟨hpc, rfl⟩ := hoc rfl
   have hwl : (AbP tr ps).length = 2 + 2 * i := by rw [Aln, hi2]
   have hY1 : ∀ T : List Ob, (H ++ T)[1]? = some (.obj v (.arr (2 + 2 * i) 1 ((AbP tr ps).map ts))) := fun T => by rw [List.getElem?_append_left hHl]; exact hH1
   have hwt : ((AbP tr ps).map ts).take (2 + 2 * i) = (AbP tr ps).map ts := List.take_of_length_le (by rw [List.length_map]; omega)
   have htx := Ayk (x := BX tr) (l := ps) (a := Dv au) (d := Dv co) (m := m)
   rw [show [BJ, BX tr] ++ AjI ps = AbP tr ps from rfl] at htx
   have hWm : ∀ x ∈ AbP tr ps ++ [AQ, Dv au, Aq, Dv co], x.length ≤ 1000000 := by
    have hla := PO hpa
    have hlc := PO hpc
    have hhl : (BX tr).length = 40 := by rw [Ic]; omega
    intro x hx
    simp only [AbP, AjI, List.mem_append, List.mem_cons, List.not_mem_nil, or_false, List.mem_flatMap] at hx
    rcases hx with ((rfl | rfl) | ⟨y, hy, rfl | rfl⟩) | rfl | rfl | rfl | rfl
    ·decide
    ·omega
    ·decide
    ·have := hps y hy
     rw [Ic]; omega
    ·decide
    ·omega
    ·decide
    ·omega
   generalize AbP tr ps = W at *
   simp -dsimp (disch := first | assumption | omega | (simp only [Ad]; done) | (simp only [Ad]; omega)) only [↓Ai, Ae, Ag, Ah, eq_self, Nat.reduceEqDiff, ↓reduceIte, Nat.reduceAdd, Nat.reduceLeDiff, hY1, hwt, hwl, AwM, ↓IL, ↓U0]
   have e4 : W.map ts ++ [TV.val (Value.string (str [97, 117, 116, 104, 111, 114])), ts (Dv au), TV.val (Value.string (str [99, 111, 109, 109, 105, 116, 116, 101, 114])), ts (Dv co)] = (W ++ [AQ, Dv au, Aq, Dv co]).map ts := by
    rw [List.map_append]; rfl
   rw [e4]
   have h01 : ∀ (o : Ob) (T : List Ob), (H.set 1 o ++ T)[0]? = H[0]? := fun o T => by rw [List.getElem?_append_left (by simp; omega), List.getElem?_set_ne (by omega)]
   have h11 : ∀ (o : Ob) (T : List Ob), (H.set 1 o ++ T)[1]? = some o := fun o T => by rw [List.getElem?_append_left (by simp; omega), List.getElem?_set_self hHl]
   have hla := PO hpa
   have hlc := PO hpc
   have hm2 : m.length ≤ 2000 := by unfold XV at hm; simp at hm; exact hm.1
   have hWl : (W ++ [AQ, Dv au, Aq, Dv co]).length = 2 + 2 * i + 4 := by rw [List.length_append, hwl]; rfl
   have hlv := AzV (W ++ [AQ, Dv au, Aq, Dv co]) (k := i + 3) (by omega) (by omega) hWm
   generalize hW4 : W ++ [AQ, Dv au, Aq, Dv co] = W4 at *
   have hg0 := (h01 (.obj (v + 1) (.arr (2 + 2 * i + 4) 1 (W4.map ts))) [Ob.obj 0 (TV.arr 4 1 [TV.val (Value.string (str [97, 117, 116, 104, 111, 114])), ts (Dv au), TV.val (Value.string (str [99, 111, 109, 109, 105, 116, 116, 101, 114])), ts (Dv co)])]).trans hH0
   have hg1 := h11 (.obj (v + 1) (.arr (2 + 2 * i + 4) 1 (W4.map ts))) [Ob.obj 0 (TV.arr 4 1 [TV.val (Value.string (str [97, 117, 116, 104, 111, 114])), ts (Dv au), TV.val (Value.string (str [99, 111, 109, 109, 105, 116, 116, 101, 114])), ts (Dv co)])]
   generalize H.set 1 (.obj (v + 1) (.arr (2 + 2 * i + 4) 1 (W4.map ts))) ++ [Ob.obj 0 (TV.arr 4 1 [TV.val (Value.string (str [97, 117, 116, 104, 111, 114])), ts (Dv au), TV.val (Value.string (str [99, 111, 109, 109, 105, 116, 116, 101, 114])), ts (Dv co)])] = H2 at *
   have hw4 : (W4.map ts).take (2 + 2 * i + 4) = W4.map ts := List.take_of_length_le (by rw [List.length_map]; omega)
   refine ⟨_, hlv.lends (args' := [.sl 1 (W4.map ts)]) (by simp -dsimp (disch := first | assumption | omega | (simp only [Ad]; done) | (simp only [Ad]; omega)) only [Ag, Ah, eq_self, ↓reduceIte, Nat.reduceLeDiff, hg1, hw4, hWl]) fun r hr => ⟨by rw [hr]; rfl, hr, rfl⟩, ?_⟩
   have hLl : (Dy W4 ++ [10] ++ m).length ≤ 1000000 := by
    rw [htx]
    have := Ajv (tr := tr) (ps := ps) (a := Dv au) (d := Dv co) (m := m)
    rw [← this]
    have hcl := Aha (tr := tr) (ps := ps) h20 hps
    simp only [List.length_append, List.length_cons, List.length_nil]
    omega
   have hLl2 : (Dy W4).length ≤ 1000000 := by simp only [List.length_append] at hLl; omega
   generalize Dy W4 = LT at *
   simp -dsimp (disch := first | assumption | omega | (simp only [Ad]; done) | (simp only [Ad]; omega)) only [↓Ai, Ae, Ag, Ah, eq_self, Nat.reduceEqDiff, ↓reduceIte, Nat.reduceAdd, hg0, Uk]
   rw [htx] at hLl ⊢
   have htk : ∀ x : List UInt8, (x.map by8).take x.length = x.map by8 := fun x => List.take_of_length_le (by simp)
   simp -dsimp (disch := first | assumption | omega | (simp only [Ad]; done) | (simp only [Ad]; omega)) only [↓Ai, Ae, Ag, Ah, eq_self, Nat.reduceEqDiff, ↓reduceIte, AL, htk, ↓CJ]
   exact ⟨fun _ => rfl, fun h => absurd ⟨h20, hps, h8, hnd, hpa, hpc, hm⟩ h⟩
end Go.Proofs.YtliaddbbmnfioaaGreatDoor


namespace Go.Proofs.YtliaddbbmnfioaaGreatDoor
open Go.RowKit
variable [Bf]
set_option linter.unusedSectionVars false
set_option linter.unusedVariables false
set_option linter.unusedSimpArgs false

def AyH (c : UInt8) : Bool := c.toNat == 60 || c.toNat == 62 || c.toNat == 10 || c.toNat == 0
theorem An1 {c : UInt8} : AyH c = false ↔ c ≠ 60 ∧ c ≠ 62 ∧ c ≠ 10 ∧ c ≠ 0 := by
 unfold AyH
 have e : ∀ k : UInt8, c = k ↔ c.toNat = k.toNat := fun k => ⟨fun h => by rw [h], fun h => UInt8.toNat_inj.1 h⟩
 simp only [Ne, e]
 simp
 omega
theorem AqZ (s : List UInt8) : Bj Tryz.prog 68 [ts s] (fun x => x = tb (decide (Hy s))) := by
 refine Aw.toPureV (Ajz (by simp) ?_)
 by_cases h60 : s.length ≤ 60
 case neg =>
  have e : decide (Hy s) = false := by
   rw [decide_eq_false_iff_not]
   exact fun h => h60 h.1
  rw [e]
  simp -dsimp (disch := first | assumption | omega | (simp only [Ad]; done) | (simp only [Ad]; omega)) only [↓Ai, Ae, Ag, Ah, eq_self, ↓reduceIte, reduceCtorEq, ↓Ab0, ↓WS, ↓Dt, AL]
 simp -dsimp (disch := first | assumption | omega | (simp only [Ad]; done) | (simp only [Ad]; omega)) only [↓Ai, Ae, Ag, Ah, eq_self, ↓reduceIte, reduceCtorEq, ↓Ab0, ↓WS, ↓Afh, ↓Afp, AL]
 refine E9 (fun q e H => ∃ i : Nat, q = s.length - i ∧ i ≤ s.length ∧ (∀ c ∈ s.take i, AyH c = false) ∧ e = [(0, ts s), (3, i64 (i : Int))] ∧ H = []) s.length ?_ ?_
 ·exact ⟨0, rfl, by omega, by simp, rfl, rfl⟩
 ·rintro q e H ⟨i, rfl, hi, hno, rfl, rfl⟩
  by_cases h : i < s.length
  ·have hg : s[i]? = some s[i] := List.getElem?_eq_getElem h
   have hsucc := List.take_succ_eq_append_getElem h
   generalize s[i] = c at *
   cases hb : AyH c with
   | true =>
    have e : decide (Hy s) = false := by
     rw [decide_eq_false_iff_not]
     intro hp
     have := An1.2 (hp.2.1 c (List.mem_of_getElem? hg))
     rw [hb] at this; cases this
    rw [e]
    by_cases c1 : c.toNat = 60
    ·simp -dsimp (disch := first | assumption | omega | (simp only [Ad]; done) | (simp only [Ad]; omega)) only [↓Ai, Ae, Ag, Ah, eq_self, Nat.reduceEqDiff, ↓reduceIte, reduceCtorEq, ↓Ci, ↓Gz, ↓Dt, AL, hg]
    by_cases c2 : c.toNat = 62
    ·simp -dsimp (disch := first | assumption | omega | (simp only [Ad]; done) | (simp only [Ad]; omega)) only [↓Ai, Ae, Ag, Ah, eq_self, Nat.reduceEqDiff, ↓reduceIte, reduceCtorEq, ↓Ci, ↓Gz, ↓Dt, AL, hg]
    by_cases c3 : c.toNat = 10
    ·simp -dsimp (disch := first | assumption | omega | (simp only [Ad]; done) | (simp only [Ad]; omega)) only [↓Ai, Ae, Ag, Ah, eq_self, Nat.reduceEqDiff, ↓reduceIte, reduceCtorEq, ↓Ci, ↓Gz, ↓Dt, AL, hg]
    have c4 : c.toNat = 0 := by unfold AyH at hb; simp [c1, c2, c3] at hb; exact hb
    simp -dsimp (disch := first | assumption | omega | (simp only [Ad]; done) | (simp only [Ad]; omega)) only [↓Ai, Ae, Ag, Ah, eq_self, Nat.reduceEqDiff, ↓reduceIte, reduceCtorEq, ↓Ci, ↓Gz, ↓Dt, AL, hg]
   | false =>
    have hb' := hb
    unfold AyH at hb'
    simp only [Bool.or_eq_false_iff, beq_eq_false_iff_ne] at hb'
    obtain ⟨⟨⟨c1, c2⟩, c3⟩, c4⟩ := hb'
    simp -dsimp (disch := first | assumption | omega | (simp only [Ad]; done) | (simp only [Ad]; omega)) only [↓Ai, Ae, Ag, Ah, eq_self, Nat.reduceEqDiff, ↓reduceIte, reduceCtorEq, ↓Ci, ↓Gz, AL, hg]
    exact Ce (s.length - (i + 1)) (by omega) (by simp) ⟨i + 1, rfl, by omega, (fun c' hc' => by rw [hsucc] at hc'; rcases List.mem_append.1 hc' with h1 | h1; exact hno c' h1; simp at h1; rw [h1]; exact hb), rfl, rfl⟩
  ·have hi2 : i = s.length := by omega
   subst hi2
   rw [List.take_length] at hno
   have e : Hy s ↔ s[0]? ≠ some 32 ∧ s[s.length - 1]? ≠ some 32 := by
    unfold Hy
    exact ⟨fun h => h.2.2, fun h => ⟨h60, fun c hc => An1.1 (hno c hc), h⟩⟩
   by_cases hz : s.length = 0
   ·have hs : s = [] := List.eq_nil_of_length_eq_zero hz
    subst hs
    have eD : decide (Hy []) = true := by rw [decide_eq_true_eq, e]; simp
    rw [eD]
    simp -dsimp (disch := first | assumption | omega | (simp only [Ad]; done) | (simp only [Ad]; omega)) only [↓Ai, Ae, Ag, Ah, eq_self, Nat.reduceLT, Nat.reduceEqDiff, ↓reduceIte, reduceCtorEq, ↓Ci, ↓Ig, ↓Dt, AL]
   ·have h0 : s[0]? = some s[0] := List.getElem?_eq_getElem (by omega)
    have h1 : s[s.length - 1]? = some s[s.length - 1] := List.getElem?_eq_getElem (by omega)
    generalize s[0] = a at *
    generalize s[s.length - 1] = b at *
    have ea : a = 32 ↔ a.toNat = 32 := ⟨fun h => by rw [h]; rfl, fun h => UInt8.toNat_inj.1 h⟩
    have eb : b = 32 ↔ b.toNat = 32 := ⟨fun h => by rw [h]; rfl, fun h => UInt8.toNat_inj.1 h⟩
    have eD : Hy s ↔ ¬ a.toNat = 32 ∧ ¬ b.toNat = 32 := by
     rw [e, h0, h1]
     simp only [Ne, Option.some.injEq, ea, eb]
    clear e ea eb
    by_cases c1 : a.toNat = 32
    ·have eF : decide (Hy s) = false := by rw [decide_eq_false_iff_not, eD]; exact fun h => h.1 c1
     rw [eF]
     simp -dsimp (disch := first | assumption | omega | (simp only [Ad]; done) | (simp only [Ad]; omega)) only [↓Ai, Ae, Ag, Ah, eq_self, Nat.reduceEqDiff, ↓reduceIte, reduceCtorEq, ↓Ci, ↓Ig, ↓Dt, AL, h0]
    ·by_cases c2 : b.toNat = 32
     ·have eF : decide (Hy s) = false := by rw [decide_eq_false_iff_not, eD]; exact fun h => h.2 c2
      rw [eF]
      simp -dsimp (disch := first | assumption | omega | (simp only [Ad]; done) | (simp only [Ad]; omega)) only [↓Ai, Ae, Ag, Ah, eq_self, Nat.reduceEqDiff, ↓reduceIte, reduceCtorEq, ↓Ci, ↓Ig, ↓Dt, AL, h0, h1]
      simp [c2]
     ·have eF : decide (Hy s) = true := by rw [decide_eq_true_eq, eD]; exact ⟨c1, c2⟩
      rw [eF]
      simp -dsimp (disch := first | assumption | omega | (simp only [Ad]; done) | (simp only [Ad]; omega)) only [↓Ai, Ae, Ag, Ah, eq_self, Nat.reduceEqDiff, ↓reduceIte, reduceCtorEq, ↓Ci, ↓Ig, ↓Dt, AL, h0, h1]
      simp [c2]
theorem Arm (s : List UInt8) : Bj Tryz.prog 34 [ts s] (fun x => x = tb (XV s)) := by
 refine Aw.toPureV (Ahe (by simp) ?_)
 by_cases hl : s.length ≤ 2000
 case neg =>
  have e : XV s = false := by unfold XV; simp [hl]
  rw [e]
  simp -dsimp (disch := first | assumption | omega | (simp only [Ad]; done) | (simp only [Ad]; omega)) only [↓Ai, Ae, Ag, Ah, eq_self, ↓reduceIte, reduceCtorEq, ↓IR, AL]
 simp -dsimp (disch := first | assumption | omega | (simp only [Ad]; done) | (simp only [Ad]; omega)) only [↓Ai, Ae, Ag, Ah, eq_self, ↓reduceIte, reduceCtorEq, ↓IR, AL]
 refine E9 (fun q e H => ∃ i : Nat, q = s.length - i ∧ i ≤ s.length ∧ 0 ∉ s.take i ∧ e = [(0, ts s), (3, i64 (i : Int))] ∧ H = []) s.length ?_ ?_
 ·exact ⟨0, rfl, by omega, by simp, rfl, rfl⟩
 ·rintro q e H ⟨i, rfl, hi, hno, rfl, rfl⟩
  by_cases h : i < s.length
  ·have hg : s[i]? = some s[i] := List.getElem?_eq_getElem h
   have hsucc := List.take_succ_eq_append_getElem h
   generalize s[i] = c at *
   by_cases hc : c.toNat = 0
   ·have hc0 : c = 0 := UInt8.toNat_inj.1 hc
    have e : XV s = false := by unfold XV; simp; intro _; rw [← hc0]; exact List.mem_of_getElem? hg
    rw [e]
    simp -dsimp (disch := first | assumption | omega | (simp only [Ad]; done) | (simp only [Ad]; omega)) only [↓Ai, Ae, Ag, Ah, eq_self, Nat.reduceEqDiff, ↓reduceIte, reduceCtorEq, ↓IR, AL, hg]
   ·simp -dsimp (disch := first | assumption | omega | (simp only [Ad]; done) | (simp only [Ad]; omega)) only [↓Ai, Ae, Ag, Ah, eq_self, Nat.reduceEqDiff, ↓reduceIte, reduceCtorEq, ↓IR, AL, hg]
    exact Ce (s.length - (i + 1)) (by omega) (by simp) ⟨i + 1, rfl, by omega, (by rw [hsucc]; intro hm; rcases List.mem_append.1 hm with h1 | h1; exact hno h1; simp at h1; exact hc (by rw [← h1]; rfl)), rfl, rfl⟩
  ·have hi2 : i = s.length := by omega
   subst hi2
   rw [List.take_length] at hno
   have e : XV s = true := by unfold XV; simp [hl, hno]
   rw [e]
   simp -dsimp (disch := first | assumption | omega | (simp only [Ad]; done) | (simp only [Ad]; omega)) only [↓Ai, Ae, Ag, Ah, eq_self, Nat.reduceEqDiff, ↓reduceIte, reduceCtorEq, ↓IR, AL]
end Go.Proofs.YtliaddbbmnfioaaGreatDoor


namespace Go.Proofs.YtliaddbbmnfioaaGreatDoor
open Go.RowKit
variable [Bf]
set_option linter.unusedSectionVars false
set_option linter.unusedVariables false
set_option linter.unusedSimpArgs false

theorem Avu {b : UInt8} : (∀ y : TV, y ∈ [TV.val (Value.int IntKind.u8 (b.toNat : Int))] → Amu y) = True := by
 refine eq_true ?_
 intro y hy
 obtain rfl := List.mem_singleton.1 hy
 exact Aem b
theorem Axc {a b : TV} : (List.replicate 1 a).set 0 b = [b] := by simp
theorem Auo (n : Nat) : (Lib.decDigits n).length ≤ n + 1 := by
 induction n using Nat.strongRecOn with
 | _ n ih =>
  by_cases h : n < 10
  ·rw [Lib.decDigits_one h]; simp
  ·rw [Lib.decDigits.eq_1 n, dif_neg h, List.length_append]
   have := ih (n / 10) (by omega)
   simp only [List.length_cons, List.length_nil]; omega
theorem Arp (n : Nat) (hn : n ≤ 1099511627776) : Bj Tryz.prog 69 [i64 (n : Int)] (fun r => r = ts (Lib.decDigits n)) := by
 refine Aw.toPureV (Aho (by simp) ?_)
 by_cases h0 : n = 0
 ·subst h0
  simp -dsimp (disch := first | assumption | omega) only [↓Ai, Ae, Ag, Ah, eq_self, ↓reduceIte, reduceCtorEq, ↓OX]
  rw [Lib.decDigits_one (by omega)]
  rfl
 simp -dsimp (disch := first | assumption | omega) only [↓Ai, Ae, Ag, Ah, eq_self, ↓reduceIte, reduceCtorEq, ↓OX]
 have dl := Auo n
 refine E9 (fun q e H => ∃ (m : Nat) (s : List UInt8), q = m ∧ m ≤ n ∧ ((m = 0 ∧ s = Lib.decDigits n) ∨ (0 < m ∧ Lib.decDigits n = Lib.decDigits m ++ s)) ∧ e = [(0, i64 (m : Int)), (3, ts s)] ∧ H = []) n ?_ ?_
 ·exact ⟨n, [], rfl, Nat.le_refl _, .inr ⟨by omega, by simp⟩, rfl, rfl⟩
 ·rintro q e H ⟨m, s, rfl, hmn, hm, rfl, rfl⟩
  have hsl : s.length ≤ n + 1 := by
   rcases hm with ⟨_, rfl⟩ | ⟨_, h⟩
   ·exact dl
   ·rw [h, List.length_append] at dl; omega
  by_cases hpos : 0 < q
  ·have h48 : (48 + q % 10) < 256 := by omega
   have hsl2 : ([UInt8.ofNat (48 + q % 10)] : List UInt8).length + s.length ≤ 9223372036854775807 := by simp only [List.length_cons, List.length_nil]; omega
   simp -dsimp (disch := first | assumption | omega) only [↓Ai, Ae, Ag, Ah, eq_self, Nat.reduceEqDiff, ↓reduceIte, reduceCtorEq, Nat.reduceLeDiff, ↓OX, Axc, Uk, Avu, AnD]
   refine Amo (q / 10) 0 (by omega) (by omega) rfl rfl ⟨q / 10, [UInt8.ofNat (48 + q % 10)] ++ s, rfl, by omega, ?_, rfl, rfl⟩
   have hd : Lib.decDigits n = Lib.decDigits q ++ s := by
    rcases hm with ⟨h, _⟩ | ⟨_, h⟩
    ·omega
    ·exact h
   by_cases h10 : q < 10
   ·refine .inl ⟨by omega, ?_⟩
    rw [hd, Lib.decDigits_one h10, Nat.mod_eq_of_lt h10]
   ·refine .inr ⟨by omega, ?_⟩
    rw [hd, Lib.decDigits, dif_neg h10, List.append_assoc]
  ·simp -dsimp (disch := first | assumption | omega) only [↓Ai, Ae, Ag, Ah, eq_self, Nat.reduceEqDiff, ↓reduceIte, reduceCtorEq, ↓OX]
   rcases hm with ⟨_, rfl⟩ | ⟨h, _⟩
   ·rfl
   ·omega
theorem AEM {a b c d z : TV} : List.take 4 (((((List.replicate 4 z).set 0 a).set 1 b).set 2 c).set 3 d) = [a, b, c, d] := rfl
theorem Ap9 (zn : Nat) : [TV.val (Value.int IntKind.u8 ((UInt8.ofNat (48 + zn / 60 / 10)).toNat : Int)), TV.val (Value.int IntKind.u8 ((UInt8.ofNat (48 + zn / 60 % 10)).toNat : Int)), TV.val (Value.int IntKind.u8 ((UInt8.ofNat (48 + zn % 60 / 10)).toNat : Int)), TV.val (Value.int IntKind.u8 ((UInt8.ofNat (48 + zn % 60 % 10)).toNat : Int))] = (Abx zn).map by8 := rfl
theorem AnP {l : List UInt8} : (∀ y : TV, y ∈ l.map by8 → Amu y) = True := by
 refine eq_true ?_
 intro y hy
 obtain ⟨b, _, rfl⟩ := List.mem_map.1 hy
 exact Aem b
theorem Ajm {l : List UInt8} : (l.map by8).map Ad1 = l := by
 rw [List.map_map]
 conv => rhs; rw [← List.map_id l]
 exact List.map_congr_left fun b _ => AnD b
variable [Ak]
theorem AsH (p : Per) (hp : OA p) : Bj Tryz.prog 33 [Iw p] (ArX p) := by
 refine Aw.toPureV (Ado (by simp) ?_)
 obtain ⟨n, m, t, z⟩ := p
 obtain ⟨⟨ht1, ht2⟩, hz1, hz2⟩ := hp
 unfold ArX DC
 simp only at *
 have hpn := AqZ n
 have hpm := AqZ m
 by_cases h1 : Hy n
 case neg =>
  simp -dsimp (disch := first | assumption | omega | (simp only [Ad]; done) | (simp only [Ad]; omega)) only [↓Ai, Ae, Ag, Ah, eq_self, Nat.reduceEqDiff, ↓reduceIte, ↓Cm, ↓BH]
  refine hpn.calls rfl fun x hx => ?_
  subst hx
  simp -dsimp (disch := first | assumption | omega | (simp only [Ad]; done) | (simp only [Ad]; omega)) only [↓Ai, Ae, Ag, Ah, eq_self, Nat.reduceEqDiff, ↓reduceIte, Nat.reduceAdd, ↓BN]
  refine hpm.calls rfl fun x hx => ?_
  subst hx
  simp -dsimp (disch := first | assumption | omega | (simp only [Ad]; done) | (simp only [Ad]; omega)) only [↓Ai, Ae, Ag, Ah, eq_self, Nat.reduceEqDiff, ↓reduceIte, decide_eq_false h1, ↓Bl, ↓BR]
  exact ⟨fun h => absurd h.1 h1, fun _ => by trivial⟩
 by_cases h2 : Hy m
 case neg =>
  simp -dsimp (disch := first | assumption | omega | (simp only [Ad]; done) | (simp only [Ad]; omega)) only [↓Ai, Ae, Ag, Ah, eq_self, Nat.reduceEqDiff, ↓reduceIte, ↓Cm, ↓BH]
  refine hpn.calls rfl fun x hx => ?_
  subst hx
  simp -dsimp (disch := first | assumption | omega | (simp only [Ad]; done) | (simp only [Ad]; omega)) only [↓Ai, Ae, Ag, Ah, eq_self, Nat.reduceEqDiff, ↓reduceIte, Nat.reduceAdd, ↓BN]
  refine hpm.calls rfl fun x hx => ?_
  subst hx
  simp -dsimp (disch := first | assumption | omega | (simp only [Ad]; done) | (simp only [Ad]; omega)) only [↓Ai, Ae, Ag, Ah, eq_self, Nat.reduceEqDiff, ↓reduceIte, decide_eq_true h1, decide_eq_false h2, ↓Bl, ↓BR]
  exact ⟨fun h => absurd h.2.1 h2, fun _ => by trivial⟩
 by_cases h3 : t < 0
 case pos =>
  simp -dsimp (disch := first | assumption | omega | (simp only [Ad]; done) | (simp only [Ad]; omega)) only [↓Ai, Ae, Ag, Ah, eq_self, Nat.reduceEqDiff, ↓reduceIte, ↓Cm, ↓BH]
  refine hpn.calls rfl fun x hx => ?_
  subst hx
  simp -dsimp (disch := first | assumption | omega | (simp only [Ad]; done) | (simp only [Ad]; omega)) only [↓Ai, Ae, Ag, Ah, eq_self, Nat.reduceEqDiff, ↓reduceIte, Nat.reduceAdd, ↓BN]
  refine hpm.calls rfl fun x hx => ?_
  subst hx
  simp -dsimp (disch := first | assumption | omega | (simp only [Ad]; done) | (simp only [Ad]; omega)) only [↓Ai, Ae, Ag, Ah, eq_self, Nat.reduceEqDiff, ↓reduceIte, Nat.reduceAdd, decide_eq_true h1, decide_eq_true h2, ↓Bl, ↓BR]
  exact ⟨fun h => by omega, fun _ => by trivial⟩
 by_cases h4 : t > 1099511627776
 case pos =>
  simp -dsimp (disch := first | assumption | omega | (simp only [Ad]; done) | (simp only [Ad]; omega)) only [↓Ai, Ae, Ag, Ah, eq_self, Nat.reduceEqDiff, ↓reduceIte, ↓Cm, ↓BH]
  refine hpn.calls rfl fun x hx => ?_
  subst hx
  simp -dsimp (disch := first | assumption | omega | (simp only [Ad]; done) | (simp only [Ad]; omega)) only [↓Ai, Ae, Ag, Ah, eq_self, Nat.reduceEqDiff, ↓reduceIte, Nat.reduceAdd, ↓BN]
  refine hpm.calls rfl fun x hx => ?_
  subst hx
  simp -dsimp (disch := first | assumption | omega | (simp only [Ad]; done) | (simp only [Ad]; omega)) only [↓Ai, Ae, Ag, Ah, eq_self, Nat.reduceEqDiff, ↓reduceIte, Nat.reduceAdd, decide_eq_true h1, decide_eq_true h2, ↓Bl, ↓BR]
  exact ⟨fun h => by omega, fun _ => by trivial⟩
 by_cases h5 : z < -840
 case pos =>
  simp -dsimp (disch := first | assumption | omega | (simp only [Ad]; done) | (simp only [Ad]; omega)) only [↓Ai, Ae, Ag, Ah, eq_self, Nat.reduceEqDiff, ↓reduceIte, ↓Cm, ↓BH]
  refine hpn.calls rfl fun x hx => ?_
  subst hx
  simp -dsimp (disch := first | assumption | omega | (simp only [Ad]; done) | (simp only [Ad]; omega)) only [↓Ai, Ae, Ag, Ah, eq_self, Nat.reduceEqDiff, ↓reduceIte, Nat.reduceAdd, ↓BN]
  refine hpm.calls rfl fun x hx => ?_
  subst hx
  simp -dsimp (disch := first | assumption | omega | (simp only [Ad]; done) | (simp only [Ad]; omega)) only [↓Ai, Ae, Ag, Ah, eq_self, Nat.reduceEqDiff, ↓reduceIte, Nat.reduceAdd, decide_eq_true h1, decide_eq_true h2, ↓Bl, ↓BR]
  exact ⟨fun h => by omega, fun _ => by trivial⟩
 by_cases h6 : z > 840
 case pos =>
  simp -dsimp (disch := first | assumption | omega | (simp only [Ad]; done) | (simp only [Ad]; omega)) only [↓Ai, Ae, Ag, Ah, eq_self, Nat.reduceEqDiff, ↓reduceIte, ↓Cm, ↓BH]
  refine hpn.calls rfl fun x hx => ?_
  subst hx
  simp -dsimp (disch := first | assumption | omega | (simp only [Ad]; done) | (simp only [Ad]; omega)) only [↓Ai, Ae, Ag, Ah, eq_self, Nat.reduceEqDiff, ↓reduceIte, Nat.reduceAdd, ↓BN]
  refine hpm.calls rfl fun x hx => ?_
  subst hx
  simp -dsimp (disch := first | assumption | omega | (simp only [Ad]; done) | (simp only [Ad]; omega)) only [↓Ai, Ae, Ag, Ah, eq_self, Nat.reduceEqDiff, ↓reduceIte, Nat.reduceAdd, decide_eq_true h1, decide_eq_true h2, ↓Bl, ↓BR]
  exact ⟨fun h => by omega, fun _ => by trivial⟩
 have hneg : ∀ k : Nat, k ≤ 840 → unV .neg (.int .i64 (-(k : Int))) = some (.int .i64 (k : Int)) := fun k hk => by
  have e : Op.unary .neg (.int .i64 (-(k : Int))) = .pure (.int .i64 (IntKind.i64.wrap (0 - -(k : Int)))) := rfl
  unfold unV
  rw [e, Int.sub_neg, Int.zero_add, Dp (by omega) (by omega)]
 have ln : n.length ≤ 60 := h1.1
 have lm : m.length ≤ 60 := h2.1
 obtain ⟨tn, rfl⟩ : ∃ tn : Nat, t = (tn : Int) := ⟨t.toNat, by omega⟩
 have ltn := Ann tn
 have hfi := Arp tn (by omega)
 simp -dsimp (disch := first | assumption | omega | (simp only [Ad]; done) | (simp only [Ad]; omega)) only [↓Ai, Ae, Ag, Ah, eq_self, Nat.reduceEqDiff, ↓reduceIte, ↓Cm, ↓BH]
 refine hpn.calls rfl fun x hx => ?_
 subst hx
 simp -dsimp (disch := first | assumption | omega | (simp only [Ad]; done) | (simp only [Ad]; omega)) only [↓Ai, Ae, Ag, Ah, eq_self, Nat.reduceEqDiff, ↓reduceIte, Nat.reduceAdd, ↓BN]
 refine hpm.calls rfl fun x hx => ?_
 subst hx
 by_cases c : z < 0
 ·obtain ⟨zn, rfl⟩ : ∃ zn : Nat, z = -(zn : Int) := ⟨(-z).toNat, by omega⟩
  simp -dsimp (disch := first | assumption | omega | (simp only [Ad]; done) | (simp only [Ad]; omega)) only [↓Ai, Ae, Ag, Ah, eq_self, Nat.reduceEqDiff, ↓reduceIte, Nat.reduceAdd, Nat.reduceLeDiff, decide_eq_true h1, decide_eq_true h2, ↓Bl, ↓KY, ↓KF, ↓KH, hneg zn (by omega), ↓LU, ↓Md, ↓J8]
  have lz := Aa6 zn
  simp only [AEM, Ap9]
  refine ⟨AnP.mpr trivial, ?_⟩
  simp -dsimp (disch := first | assumption | omega | (simp only [Ad]; done) | (simp only [Ad]; omega)) only [↓Ai, Ae, Ag, Ah, eq_self, Nat.reduceEqDiff, ↓reduceIte, Nat.reduceAdd, ↓LC, Uk]
  refine ⟨_, hfi.calls rfl fun r hr => ⟨hr, rfl⟩, ?_⟩
  simp -dsimp (disch := first | assumption | omega | (simp only [Ad]; done) | (simp only [Ad]; omega)) only [↓Ai, Ae, Ag, Ah, eq_self, Nat.reduceEqDiff, ↓reduceIte, Uk, ↓BR]
  refine ⟨fun _ => ?_, ?_⟩
  rotate_left
  ·exact fun h => absurd ⟨h1, h2, by omega, by omega, by omega⟩ h
  rw [AeG, if_pos (by omega), Int.natAbs_neg, Int.natAbs_natCast, Int.toNat_natCast]
 ·obtain ⟨zn, rfl⟩ : ∃ zn : Nat, z = (zn : Int) := ⟨z.toNat, by omega⟩
  simp -dsimp (disch := first | assumption | omega | (simp only [Ad]; done) | (simp only [Ad]; omega)) only [↓Ai, Ae, Ag, Ah, eq_self, Nat.reduceEqDiff, ↓reduceIte, Nat.reduceAdd, Nat.reduceLeDiff, decide_eq_true h1, decide_eq_true h2, ↓Bl, ↓KY, ↓KF, ↓KH, ↓LU, ↓Md, ↓J8]
  have lz := Aa6 zn
  simp only [AEM, Ap9]
  refine ⟨AnP.mpr trivial, ?_⟩
  simp -dsimp (disch := first | assumption | omega | (simp only [Ad]; done) | (simp only [Ad]; omega)) only [↓Ai, Ae, Ag, Ah, eq_self, Nat.reduceEqDiff, ↓reduceIte, Nat.reduceAdd, ↓LC, Uk]
  refine ⟨_, hfi.calls rfl fun r hr => ⟨hr, rfl⟩, ?_⟩
  simp -dsimp (disch := first | assumption | omega | (simp only [Ad]; done) | (simp only [Ad]; omega)) only [↓Ai, Ae, Ag, Ah, eq_self, Nat.reduceEqDiff, ↓reduceIte, Uk, ↓BR]
  refine ⟨fun _ => ?_, ?_⟩
  rotate_left
  ·exact fun h => absurd ⟨h1, h2, by omega, by omega, by omega⟩ h
  rw [AeG, if_neg (by omega), Int.natAbs_natCast, Int.toNat_natCast]
end Go.Proofs.YtliaddbbmnfioaaGreatDoor


namespace Go.Proofs.YtliaddbbmnfioaaGreatDoor
open Go.RowKit
variable [Bf] [Ak] [Au] [AO] [Gt]
set_option linter.unusedSectionVars false
set_option linter.unusedVariables false
set_option linter.unusedSimpArgs false
def Av2 (c : Akq) (r : TV) : Prop := (AgR c → r = .tup [slB (cmB c), i64 ((0 : Nat) : Int)]) ∧ (¬ AgR c → r = .tup [.val (.slice none 0 0), i64 ((22 : Nat) : Int)])
theorem Aeh (c : Akq) (hf : An9 c) : Y8 Tryz.prog 15 [cmT c] (Av2 c) := by
 refine Aw.toFreshV (AdC (by simp) ?_)
 obtain ⟨tr, ps, au, co, m⟩ := c
 obtain ⟨h20, hps, hpl, ha, hc⟩ := hf
 simp only at *
 have h20' : (tr.map by8).length = 20 := by rw [List.length_map]; exact h20
 have hwa := AsH au ha
 have hwc := AsH co hc
 have hmm := Arm m
 have hhx := ApO tr h20
 have err : ¬ AgR ⟨tr, ps, au, co, m⟩ → Av2 ⟨tr, ps, au, co, m⟩ (.tup [.val (.slice none 0 0), i64 ((22 : Nat) : Int)]) := fun h => ⟨fun h' => absurd h' h, fun _ => rfl⟩
 simp -dsimp (disch := first | assumption | omega | (simp only [Ad]; done) | (simp only [Ad]; omega)) only [↓Ai, Ae, Ag, Ah, eq_self, Nat.reduceEqDiff, ↓reduceIte, Nat.reduceAdd, ↓AbS, ↓Xk]
 refine hwa.calls rfl fun r hr => ?_
 obtain ⟨ta, oa, rfl, hoa, hoa'⟩ := Ag3 hr
 simp -dsimp (disch := first | assumption | omega | (simp only [Ad]; done) | (simp only [Ad]; omega)) only [↓Ai, Ae, Ag, Ah, eq_self, Nat.reduceEqDiff, ↓reduceIte, Nat.reduceAdd, ↓WI]
 refine hwc.calls rfl fun r hr => ?_
 obtain ⟨tc, oc, rfl, hoc, hoc'⟩ := Ag3 hr
 simp -dsimp (disch := first | assumption | omega | (simp only [Ad]; done) | (simp only [Ad]; omega)) only [↓Ai, Ae, Ag, Ah, eq_self, Nat.reduceEqDiff, ↓reduceIte, Nat.reduceAdd, ↓WU]
 refine hmm.calls rfl fun r hr => ?_
 subst hr
 by_cases h8 : ps.length ≤ 8
 case neg =>
  simp -dsimp (disch := first | assumption | omega | (simp only [Ad]; done) | (simp only [Ad]; omega)) only [↓Ai, Ae, Ag, Ah, eq_self, Nat.reduceEqDiff, ↓reduceIte, Nat.reduceAdd, ↓CX, ↓Di]
  exact err fun h => h8 h.2.2.1
 cases oa
 case false =>
  simp -dsimp (disch := first | assumption | omega | (simp only [Ad]; done) | (simp only [Ad]; omega)) only [↓Ai, Ae, Ag, Ah, eq_self, Nat.reduceEqDiff, ↓reduceIte, Nat.reduceAdd, ↓CX, ↓Di]
  exact err fun h => hoa' rfl h.2.2.2.2.1
 cases oc
 case false =>
  simp -dsimp (disch := first | assumption | omega | (simp only [Ad]; done) | (simp only [Ad]; omega)) only [↓Ai, Ae, Ag, Ah, eq_self, Nat.reduceEqDiff, ↓reduceIte, Nat.reduceAdd, ↓CX, ↓Di]
  exact err fun h => hoc' rfl h.2.2.2.2.2.1
 cases hm : XV m
 case false =>
  simp -dsimp (disch := first | assumption | omega | (simp only [Ad]; done) | (simp only [Ad]; omega)) only [↓Ai, Ae, Ag, Ah, eq_self, Nat.reduceEqDiff, ↓reduceIte, Nat.reduceAdd, ↓CX, ↓Di]
  exact err fun h => absurd (hm ▸ h.2.2.2.2.2.2) (by decide)
 have hm2 : m.length ≤ 2000 := by unfold XV at hm; simp at hm; exact hm.1
 obtain ⟨hpa, rfl⟩ := hoa rfl
 obtain ⟨hpc, rfl⟩ := hoc rfl
 have hla := PO hpa
 have hlc := PO hpc
 simp -dsimp (disch := first | assumption | omega | (simp only [Ad]; done) | (simp only [Ad]; omega)) only [↓Ai, Ae, Ag, Ah, eq_self, Nat.reduceEqDiff, ↓reduceIte, Nat.reduceAdd, ↓CX, ↓VA]
 refine hhx.calls rfl fun r hr => ?_
 subst hr
 have hhl : (BX tr).length = 40 := by rw [Ic]; omega
 simp -dsimp (disch := first | assumption | omega | (simp only [Ad]; done) | (simp only [Ad]; omega)) only [↓Ai, Ae, Ag, Ah, eq_self, Nat.reduceEqDiff, ↓reduceIte, Uk, ↓WT, ↓Yr]
 have h0 := AAq (tr := tr)
 simp only [List.cons_append, List.nil_append] at h0 ⊢
 rw [h0]
 refine E9 (fun q e H => ∃ (i : Nat), q = ps.length - i ∧ i ≤ ps.length ∧ (ps.take i).Nodup ∧ H = [.obj 0 (cmT ⟨tr, ps, au, co, m⟩)] ∧
  e = [(1, .op 0 0 []), (4, ts (Dv au)), (6, ts (Dv co)), (9, ts (AqF tr (ps.take i))), (10, i64 (i : Int))]) ps.length ?_ ?_
 ·exact ⟨0, rfl, by omega, by simp, rfl, rfl⟩
 ·rintro q e H ⟨i, rfl, hi, hnd, rfl, rfl⟩
  by_cases hil : i < ps.length
  ·have hg : ps[i]? = some ps[i] := List.getElem?_eq_getElem hil
   have hx20 := hps _ (List.mem_of_getElem? hg)
   have hnx := AiG hil hnd
   have hts := List.take_succ_eq_append_getElem hil
   have hpre : ps.Nodup → (ps.take (i + 1)).Nodup := fun h => h.sublist (List.take_sublist _ _)
   have hcs := Aqo (tr := tr) (p := ps[i]) (ps := ps.take i)
   rw [← hts] at hcs
   have hcl := Aha (tr := tr) (ps := ps.take i) h20 (fun x hx => hps x (List.mem_of_mem_take hx))
   have hcl2 : (ps.take i).length ≤ 8 := by simp; omega
   have hhp := ApO ps[i] hx20
   have hun : ∀ l : List UInt8, (l.map by8).map Ad1 = l := fun l => Ajm
   have hhpl : (BX ps[i]).length = 40 := by rw [Ic]; omega
   generalize hpi : ps[i] = p at *
   simp -dsimp (disch := first | assumption | omega | (simp only [Ad]; done) | (simp only [Ad]; omega)) only [↓Ai, Ae, Ag, Ah, eq_self, Nat.reduceEqDiff, ↓reduceIte, Nat.reduceAdd, ↓JG, ↓YT, ↓X5]
   refine E9 (fun q e H => ∃ (k : Nat), q = i - k ∧ k ≤ i ∧ p ∉ ps.take k ∧ H = [.obj 0 (cmT ⟨tr, ps, au, co, m⟩)] ∧
    e = [(1, .op 0 0 []), (4, ts (Dv au)), (6, ts (Dv co)), (9, ts (AqF tr (ps.take i))), (10, i64 (i : Int)), (11, i64 (k : Int))]) i ?_ ?_
   ·exact ⟨0, rfl, by omega, by simp, rfl, rfl⟩
   ·rintro q e H ⟨k, rfl, hk, hnk, rfl, rfl⟩
    by_cases hki : k < i
    ·have hkl : k < ps.length := by omega
     have hgk : ps[k]? = some ps[k] := List.getElem?_eq_getElem hkl
     have hk20 := hps _ (List.mem_of_getElem? hgk)
     have hks := List.take_succ_eq_append_getElem hkl
     have hkm : ps[k] ∈ ps.take i := by rw [List.mem_take_iff_getElem]; exact ⟨k, by omega, rfl⟩
     generalize ps[k] = y at *
     by_cases hyp : y = p
     ·simp -dsimp (disch := first | assumption | omega | (simp only [Ad]; done) | (simp only [Ad]; omega)) only [↓Ai, Ae, Ag, Ah, eq_self, Nat.reduceEqDiff, ↓reduceIte, Nat.reduceAdd, hg, hgk, hyp, beq_self_eq_true, ↓GR, ↓Kt, ↓Di]
      refine err fun h => (hnx.1 (hpre h.2.2.2.1)) ?_
      rw [← hyp]; exact hkm
     ·have hbq : (y == p) = false := by simpa using hyp
      simp -dsimp (disch := first | assumption | omega | (simp only [Ad]; done) | (simp only [Ad]; omega)) only [↓Ai, Ae, Ag, Ah, eq_self, Nat.reduceEqDiff, ↓reduceIte, Nat.reduceAdd, hg, hgk, hbq, ↓GR, ↓Kt]
      refine Ce (i - (k + 1)) (by omega) (by simp) ⟨k + 1, rfl, by omega, ?_, rfl, rfl⟩
      rw [hks]
      simp only [List.mem_append, List.mem_singleton, not_or]
      exact ⟨hnk, fun e => hyp e.symm⟩
    ·have hki2 : k = i := by omega
     subst hki2
     simp -dsimp (disch := first | assumption | omega | (simp only [Ad]; done) | (simp only [Ad]; omega)) only [↓Ai, Ae, Ag, Ah, eq_self, Nat.reduceEqDiff, ↓reduceIte, Nat.reduceAdd, hg, Uk, ↓GR, ↓YH]
     refine hhp.calls rfl fun r hr => ?_
     subst hr
     simp -dsimp (disch := first | assumption | omega | (simp only [Ad]; done) | (simp only [Ad]; omega)) only [↓Ai, Ae, Ag, Ah, eq_self, Nat.reduceEqDiff, ↓reduceIte, Uk, ↓Yp]
     rw [hcs]
     exact Ce (ps.length - (k + 1)) (by omega) (by simp) ⟨k + 1, rfl, by omega, hnx.2 hnk, rfl, rfl⟩
  ·have hi2 : i = ps.length := by omega
   rw [hi2, List.take_length] at hnd
   have hcl := Aha (tr := tr) (ps := ps) h20 hps
   have hce := Ajv (tr := tr) (ps := ps) (a := Dv au) (d := Dv co) (m := m)
   have htt : ps.take i = ps := List.take_of_length_le (by omega)
   rw [htt]
   have hcl3 : (AvP (BX tr) (ps.map BX) (Dv au) (Dv co) m).length ≤ 1000000 := by
    rw [← hce]
    simp only [List.length_append, List.length_cons, List.length_nil]
    omega
   have htk : ∀ x : List UInt8, (x.map by8).take x.length = x.map by8 := fun x => List.take_of_length_le (by simp)
   simp -dsimp (disch := first | assumption | omega | (simp only [Ad]; done) | (simp only [Ad]; omega)) only [↓Ai, Ae, Ag, Ah, eq_self, Nat.reduceEqDiff, ↓reduceIte, Nat.reduceAdd, Uk, hce, ↓JG, ↓X4]
   simp -dsimp (disch := first | assumption | omega | (simp only [Ad]; done) | (simp only [Ad]; omega)) only [↓Ai, Ae, Ag, Ah, eq_self, Nat.reduceEqDiff, ↓reduceIte, AL, htk, ↓Di]
   exact ⟨fun _ => rfl, fun h => absurd ⟨h20, hps, h8, hnd, hpa, hpc, hm⟩ h⟩
end Go.Proofs.YtliaddbbmnfioaaGreatDoor


namespace Go.Proofs.YtliaddbbmnfioaaGreatDoor
open Go.RowKit
variable [Bf] [Ak] [Au] [AO] [Gt]
set_option linter.unusedSectionVars false
set_option linter.unusedVariables false
set_option linter.unusedSimpArgs false
structure RcH (H : List Ob) (rest : List UInt8) (β : Bool) (X : TV) (v : Nat) (ps : List TV) : Prop where
 z : H[0]? = some (.obj 0 ApG)
 f : H[1]? = some (.obj 0 (.agg [ts rest, tb β]))
 c : H[2]? = some (.obj 0 X)
 p : H[5]? = some (.obj v (.arr ps.length 20 ps))
section
variable {H : List Ob} {rest r' : List UInt8} {β β' : Bool} {X X' : TV} {v v' : Nat} {ps ps' : List TV}
theorem RcH.len (h : RcH H rest β X v ps) : 5 < H.length := (List.getElem?_eq_some_iff.1 h.p).1
theorem RcH.app (h : RcH H rest β X v ps) (T : List Ob) : RcH (H ++ T) rest β X v ps := by
 have hl := h.len
 exact ⟨by rw [List.getElem?_append_left (by omega)]; exact h.z, by rw [List.getElem?_append_left (by omega)]; exact h.f, by rw [List.getElem?_append_left (by omega)]; exact h.c, by rw [List.getElem?_append_left (by omega)]; exact h.p⟩
theorem RcH.setF (h : RcH H rest β X v ps) (r' : List UInt8) (β' : Bool) : RcH (H.set 1 (.obj 0 (.agg [ts r', tb β']))) r' β' X v ps := by
 have hl := h.len
 exact ⟨by rw [List.getElem?_set_ne (by omega)]; exact h.z, by rw [List.getElem?_set_self (by omega)], by rw [List.getElem?_set_ne (by omega)]; exact h.c, by rw [List.getElem?_set_ne (by omega)]; exact h.p⟩
theorem RcH.setC (h : RcH H rest β X v ps) (X' : TV) : RcH (H.set 2 (.obj 0 X')) rest β X' v ps := by
 have hl := h.len
 exact ⟨by rw [List.getElem?_set_ne (by omega)]; exact h.z, by rw [List.getElem?_set_ne (by omega)]; exact h.f, by rw [List.getElem?_set_self (by omega)], by rw [List.getElem?_set_ne (by omega)]; exact h.p⟩
theorem RcH.setP (h : RcH H rest β X v ps) (v' : Nat) (ps' : List TV) (n : Nat) (hn : n = ps'.length) : RcH (H.set 5 (.obj v' (.arr n 20 ps'))) rest β X v' ps' := by
 have hl := h.len
 subst hn
 exact ⟨by rw [List.getElem?_set_ne (by omega)]; exact h.z, by rw [List.getElem?_set_ne (by omega)]; exact h.f, by rw [List.getElem?_set_ne (by omega)]; exact h.c, by rw [List.getElem?_set_self (by omega)]⟩
end
theorem Aq9 {a z : TV} : List.take 1 ((List.replicate 1 z).set 0 a) = [a] := by simp [List.replicate]
theorem AvS : ∀ l : List UInt8, S9 (l.map by8) = true
 | [] => rfl
 | b :: l => by rw [List.map_cons, S9, AvS l]; rfl
theorem Anl : ∀ l : List (List UInt8), S9 (l.map JB) = true
 | [] => rfl
 | x :: l => by
  rw [List.map_cons, S9, Anl l]
  show (S9 (x.map by8) && true) = true
  rw [AvS]; rfl
abbrev AwH (x : List UInt8) (v n cp : Nat) : TV := .agg [JB (Ar x), .os 20 5 v [] 0 n cp, Iw ⟨[], [], 0, 0⟩, Iw ⟨[], [], 0, 0⟩, ts []]
theorem AmO (s : List UInt8) (hs : s.length ≤ 1000000) : Y8 Tryz.prog 43 [slB s] (Azm s) := by
 refine Aw.toFreshV (AbC (by simp) ?_)
 have m1 := Aee BJ s
 simp -dsimp (disch := first | assumption | omega | (simp only [Ad]; done) | (simp only [Ad]; omega)) only [↓Ai, Ae, Ag, Ah, eq_self, Nat.reduceEqDiff, ↓reduceIte, Nat.reduceAdd, reduceCtorEq, ↓Aaa, ↓Xt, ↓VZ, ↓WC]
 refine Afv (AzG (w := BJ) hs (by decide) rfl ?_)
 simp -dsimp (disch := first | assumption | omega | (simp only [Ad]; done) | (simp only [Ad]; omega)) only [↓Ai, Ae, Ag, Ah, eq_self, Nat.reduceEqDiff, ↓reduceIte]
 refine Afv (idV (x := mv BJ s) (by omega) rfl ?_)
 have hpl : ((Ar (mv BJ s)).map by8).length = 20 := by rw [List.length_map]; exact Dj
 simp -dsimp (disch := first | assumption | omega | (simp only [Ad]; done) | (simp only [Ad]; omega)) only [↓Ai, Ae, Ag, Ah, eq_self, Nat.reduceEqDiff, ↓reduceIte, Nat.reduceAdd, ↓Vr]
 refine E9 (fun q e H => ∃ (l : List (List UInt8)) (rest : List UInt8) (β : Bool) (v cp : Nat), q = rest.length ∧ mr BJ s = GG l ++ rest ∧ (∀ x ∈ l, 10 ∉ x) ∧ β = (mb BJ s || !DR (mv BJ s) || !(l.all DR)) ∧
  RcH H rest β (AwH (mv BJ s) v l.length cp) v ((l.map Ar).map JB) ∧ e = [(2, .op 0 0 []), (4, .op 1 0 []), (5, .op 2 0 [])]) (mr BJ s).length ?_ ?_
 ·refine ⟨[], mr BJ s, _, 0, 0, rfl, rfl, by simp, ?_, ⟨rfl, rfl, rfl, rfl⟩, rfl⟩
  simp
 ·rintro q e H ⟨l, rest, β, v, cp, rfl, hspl, h10, rfl, R, rfl⟩
  have hrl : l.length + rest.length ≤ 1000000 := by
   have h1 := congrArg List.length hspl
   have h2 := AlZ l
   rw [List.length_append] at h1
   omega
  have hpsl : ((l.map Ar).map JB).length = l.length := by simp
  have m2 := Aee BO rest
  simp -dsimp (disch := first | assumption | omega | (simp only [Ad]; done) | (simp only [Ad]; omega)) only [↓Ai, Ae, Ag, Ah, eq_self, Nat.reduceEqDiff, ↓reduceIte, ↓Xc]
  refine Afv (Ay3 (w := BO) (by omega) (by decide) R.f ?_)
  have R1 := R.setF (mr BO rest) (mb BJ s || !DR (mv BJ s) || !(l.all DR))
  have hH1l : (H.set 1 (.obj 0 (.agg [ts (mr BO rest), tb (mb BJ s || !DR (mv BJ s) || !(l.all DR))]))).length = H.length := List.length_set ..
  generalize H.set 1 (.obj 0 (.agg [ts (mr BO rest), tb (mb BJ s || !DR (mv BJ s) || !(l.all DR))])) = H1 at *
  cases hb : mb BO rest with
  | false =>
   obtain ⟨hmo, hm10⟩ := UQ hb
   have hsn := Aba (v := mv BO rest) (l := l) (r := mr BO rest)
   rw [← hmo, ← hspl] at hsn
   have hlr := congrArg List.length hmo
   simp only [List.length_append, List.length_cons] at hlr
   generalize mv BO rest = x at *
   generalize mr BO rest = rest' at *
   have hxp : ((Ar x).map by8).length = 20 := by rw [List.length_map]; exact Dj
   simp -dsimp (disch := first | assumption | omega | (simp only [Ad]; done) | (simp only [Ad]; omega)) only [↓Ai, Ae, Ag, Ah, eq_self, Nat.reduceEqDiff, Nat.reduceMod, ↓reduceIte, Nat.reduceAdd, R1.c]
   refine Aw.callsP (idV (x := x) (by omega) R1.f ?_)
   refine ⟨?_, ?_⟩
   case refine_2 =>
    change Yh [24] _ _ _
    refine AxL (id := 2) (ver := 0) (p := [(1, 20)]) (by simp [get]) ?_ Abg
    rw [List.append_assoc, List.getElem?_append_left (by rw [List.length_set]; have := R1.len; omega), List.getElem?_set_ne (by omega)]
   have R2 := (R1.setF rest' (mb BJ s || !DR (mv BJ s) || !(l.all DR) || !DR x)).app ([.obj 0 (.arr 20 1 ((Ar x).map by8))] ++ [.obj 0 (.arr 20 1 ((Ar x).map by8))])
   rw [List.append_assoc]
   generalize H1.set 1 (.obj 0 (.agg [ts rest', tb (mb BJ s || !DR (mv BJ s) || !(l.all DR) || !DR x)])) ++ ([Ob.obj 0 (.arr 20 1 ((Ar x).map by8))] ++ [.obj 0 (.arr 20 1 ((Ar x).map by8))]) = H2 at *
   have hpt : ∀ q : List TV, ((l.map Ar).map JB ++ q).take ((l.map Ar).map JB).length = (l.map Ar).map JB := fun q => List.take_left' rfl
   have hY5 : ∀ T : List Ob, (H2 ++ T)[5]? = some (.obj v (.arr ((l.map Ar).map JB).length 20 ((l.map Ar).map JB))) := fun T => (R2.app T).p
   have hY2 : ∀ T : List Ob, (H2 ++ T)[2]? = some (.obj 0 (AwH (mv BJ s) v l.length cp)) := fun T => (R2.app T).c
   have hzl : ((Ar (mv BJ s)).map by8).length = 20 := by rw [List.length_map]; exact Dj
   simp -dsimp (disch := first | assumption | omega | (simp only [Ad]; done) | (simp only [Ad]; omega)) only [↓Ai, Ae, Ag, Ah, eq_self, Nat.reduceEqDiff, ↓reduceIte, Nat.reduceAdd, Nat.reduceLeDiff, hY5, hY2, hpsl, Aq9]
   refine ⟨?_, Abg⟩
   have R6 := ((R2.app [Ob.obj 0 (.arr 1 20 ((List.replicate 1 (.arr 20 1 (List.replicate 20 (.val (.int .u8 ((0 : Nat) : Int)))))).set 0 (JB (Ar x))))]).setP (v + 1) (((l ++ [x]).map Ar).map JB) (l.length + 1) (by simp)).setC (AwH (mv BJ s) (v + 1) (l.length + 1) (l.length + 1))
   have e1 : ((l ++ [x]).map Ar).map JB = (l.map Ar).map JB ++ [TV.arr 20 1 ((Ar x).map by8)] := by simp
   have e2 : (l ++ [x]).length = l.length + 1 := by simp
   refine Ce rest'.length (by omega) (by simp; have := R2.len; omega) ⟨l ++ [x], rest', _, v + 1, l.length + 1, rfl, hsn.symm, ?_, ?_, by rw [e1, e2]; rw [e1] at R6; exact R6, rfl⟩
   ·intro y hy
    rcases List.mem_append.1 hy with hy | hy
    ·exact h10 y hy
    ·rw [List.mem_singleton] at hy; subst hy; exact hm10
   ·simp [List.all_append, Bool.or_assoc, Bool.not_and]
  | true =>
   have hmr : mr BO rest = rest := by unfold mr; rw [Ayy hb]
   rw [hmr] at R1
   simp -dsimp (disch := first | assumption | omega | (simp only [Ad]; done) | (simp only [Ad]; omega)) only [↓Ai, Ae, Ag, Ah, eq_self, Nat.reduceEqDiff, ↓reduceIte, ↓XH]
   refine Afv (Ap1 (w := AQ) (s := rest) (by omega) (by decide) R1.f fun q1 ok1 h1 h1' => ?_)
   have m3 := Aee AQ rest
   generalize hB1 : (mb BJ s || !DR (mv BJ s) || !l.all DR || mb AQ rest || !ok1) = B1
   have R3 := (R1.setF (mr AQ rest) B1).app ([.obj 0 (Iw q1)] ++ [.obj 0 (Iw q1)])
   rw [List.append_assoc]
   generalize H1.set 1 (.obj 0 (.agg [ts (mr AQ rest), tb B1])) ++ ([Ob.obj 0 (Iw q1)] ++ [.obj 0 (Iw q1)]) = H3 at *
   simp -dsimp (disch := first | assumption | omega | (simp only [Ad]; done) | (simp only [Ad]; omega)) only [↓Ai, Ae, Ag, Ah, eq_self, Nat.reduceEqDiff, ↓reduceIte]
   refine Afv (Ap1 (w := Aq) (s := mr AQ rest) (by omega) (by decide) R3.f fun q2 ok2 h2 h2' => ?_)
   have m4 := Aee Aq (mr AQ rest)
   generalize hB2 : (B1 || mb Aq (mr AQ rest) || !ok2) = B2
   have R4 := (R3.setF (mr Aq (mr AQ rest)) B2).app ([.obj 0 (Iw q2)] ++ [.obj 0 (Iw q2)])
   rw [List.append_assoc]
   generalize H3.set 1 (.obj 0 (.agg [ts (mr Aq (mr AQ rest)), tb B2])) ++ ([Ob.obj 0 (Iw q2)] ++ [.obj 0 (Iw q2)]) = H4 at *
   have hzl : ((Ar (mv BJ s)).map by8).length = 20 := by rw [List.length_map]; exact Dj
   have R5 := fun X => R4.setC X
   have hS : ∀ a b : Ob, (H4.set 2 a).set 2 b = H4.set 2 b := fun a b => List.set_set ..
   have hS2 : ∀ a : Ob, (H4.set 2 a)[2]? = some a := fun a => List.getElem?_set_self (by have := R4.len; omega)
   simp -dsimp (disch := first | assumption | omega | (simp only [Ad]; done) | (simp only [Ad]; omega)) only [↓Ai, Ae, Ag, Ah, eq_self, Nat.reduceEqDiff, ↓reduceIte, Nat.reduceAdd, R4.c, hS, hS2, ↓XF]
   refine Afv (ApT (s := mr Aq (mr AQ rest)) (R5 _).f ?_)
   generalize hB3 : (B2 || !Lib.hasPrefix (mr Aq (mr AQ rest)) [10] || !XV (Lib.trimPrefix (mr Aq (mr AQ rest)) [10])) = B3
   generalize hmm : Lib.trimPrefix (mr Aq (mr AQ rest)) [10] = msg
   have R6 := fun X => (R5 X).setF (mr Aq (mr AQ rest)) B3
   have R7 := fun X X' => (R6 X).setC X'
   have hS3 : ∀ a b c : Ob, (((H4.set 2 a).set 1 b).set 2 c) = ((H4.set 2 c).set 1 b) := fun a b c => by rw [List.set_comm _ _ (by omega : (1 : Nat) ≠ 2), List.set_set]
   simp -dsimp (disch := first | assumption | omega | (simp only [Ad]; done) | (simp only [Ad]; omega)) only [↓Ai, Ae, Ag, Ah, eq_self, Nat.reduceEqDiff, ↓reduceIte, Nat.reduceAdd, (R6 _).c, hS3]
   have R8 := R6 (.agg [JB (Ar (mv BJ s)), .os 20 5 v [] 0 l.length cp, Iw q1, Iw q2, ts msg])
   have htw := Av1 (l.map Ar) (fun y hy => by obtain ⟨z, _, rfl⟩ := List.mem_map.1 hy; exact Dj) (by simp; omega)
   have hgood : Ya s (mv BJ s) l rest ok1 ok2 (decide (l.map Ar).Nodup) = (!B3 && decide (l.length ≤ 8) && decide (l.map Ar).Nodup) := by
    rw [← hB3, ← hB2, ← hB1]
    simp only [Ya, Bool.not_or, Bool.not_not, Bool.and_assoc, hmm]
   have hRead : mb BJ s = false → Av8 s (mv BJ s) l rest := fun h => ⟨by rw [← hspl]; exact (UQ h).1, (UQ h).2, h10, hb⟩
   have fin := ApX (s := s) (x := mv BJ s) (t := rest) (ps := l) (ok1 := ok1) (ok2 := ok2) (nd := decide (l.map Ar).Nodup) (q1 := q1) (q2 := q2) hRead (fun _ => by simp) h1 h1' h2 h2'
   rw [hgood, hmm] at fin
   have bad : (!B3 && decide (l.length ≤ 8) && decide (l.map Ar).Nodup) = false → Azm s (.tup [ApG, eno 22]) := fun h => ⟨fun c hc e => absurd e (fin.1 h c hc), fun _ => rfl⟩
   have hpt : ((l.map Ar).map JB).take l.length = (l.map Ar).map JB := List.take_of_length_le (by simp)
   clear hgood R6 R5 R4 R3 R1 hB3 hB2 hB1 h1 h1' h2 h2' hRead hS hS2
   generalize (H4.set 2 (Ob.obj 0 (.agg [JB (Ar (mv BJ s)), .os 20 5 v [] 0 l.length cp, Iw q1, Iw q2, ts msg]))).set 1 (.obj 0 (.agg [ts (mr Aq (mr AQ rest)), tb B3])) = H7 at *
   have h7l := R8.len
   have h70 : ∀ a : Ob, (H7.set 0 a)[0]? = some a := fun a => List.getElem?_set_self (by omega)
   have h75 : ∀ a : Ob, (H7.set 0 a)[5]? = H7[5]? := fun a => List.getElem?_set_ne (by omega)
   cases B3 with
   | true =>
    simp -dsimp (disch := first | assumption | omega | (simp only [Ad]; done) | (simp only [Ad]; omega)) only [↓Ai, Ae, Ag, Ah, eq_self, Nat.reduceEqDiff, ↓reduceIte, Nat.reduceAdd, R8.f, R8.z, h70, ↓Gu, ↓Fb]
    exact bad rfl
   | false =>
    by_cases h8 : l.length ≤ 8
    case neg =>
     simp -dsimp (disch := first | assumption | omega | (simp only [Ad]; done) | (simp only [Ad]; omega)) only [↓Ai, Ae, Ag, Ah, eq_self, Nat.reduceEqDiff, ↓reduceIte, Nat.reduceAdd, R8.f, R8.z, R8.c, h70, ↓Gu, ↓Fb]
     exact bad (by simp [h8])
    simp -dsimp (disch := first | assumption | omega | (simp only [Ad]; done) | (simp only [Ad]; omega)) only [↓Ai, Ae, Ag, Ah, eq_self, Nat.reduceEqDiff, ↓reduceIte, Nat.reduceAdd, R8.f, R8.c, ↓Gu]
    refine htw.lends (args' := [.sl 20 ((l.map Ar).map JB)]) (by simp -dsimp (disch := first | assumption | omega | (simp only [Ad]; done) | (simp only [Ad]; omega)) only [Ag, Ah, eq_self, ↓reduceIte, R8.p, hpsl]) fun r hr => ⟨by rw [hr]; rfl, ?_⟩
    subst hr
    by_cases hnd : (l.map Ar).Nodup
    case neg =>
     simp -dsimp (disch := first | assumption | omega | (simp only [Ad]; done) | (simp only [Ad]; omega)) only [↓Ai, Ae, Ag, Ah, eq_self, Nat.reduceEqDiff, ↓reduceIte, Nat.reduceAdd, hnd, R8.z, h70, ↓Fb]
     exact bad (by simp [hnd])
    simp -dsimp (disch := first | assumption | omega | (simp only [Ad]; done) | (simp only [Ad]; omega)) only [↓Ai, Ae, Ag, Ah, eq_self, Nat.reduceEqDiff, ↓reduceIte, Nat.reduceAdd, hnd, R8.z, R8.c, h70, h75, R8.p, hpsl, ↓Fb]
    rw [if_pos (Anl _)]
    have hg := fin.2.1 (by simp [h8, hnd])
    exact ⟨fun c hc e => by rw [(fin.2.2 c hc e).2], fun h => absurd hg.2 (h _ hg.1)⟩
end Go.Proofs.YtliaddbbmnfioaaGreatDoor


namespace Go.Proofs.YtliaddbbmnfioaaGreatDoor
open Go.RowKit
variable [Bf]
set_option linter.unusedSectionVars false
set_option linter.unusedVariables false
set_option linter.unusedSimpArgs false

theorem ApC {w s : List UInt8} (h : ¬ (w ++ [32]) <+: s) : AdS w s = none := by
 cases hn : AdS w s with
 | none => rfl
 | some x =>
  exfalso
  obtain ⟨e, _⟩ := AmI (v := x.1) (r := x.2) hn
  exact h ⟨x.1 ++ 10 :: x.2, by rw [e]; simp⟩
theorem AsD {w t : List UInt8} (hw : 10 ∉ w) : AdS w (w ++ 32 :: t) = (match U5 10 t with | some j => some (t.take j, t.drop (j + 1)) | none => none) := by
 cases hc : U5 10 t with
 | some j =>
  obtain ⟨h1, h2, h3⟩ := Abb hc
  have e : t = t.take j ++ 10 :: t.drop (j + 1) := by
   conv => lhs; rw [← List.take_append_drop j t, List.drop_eq_getElem_cons h1]
   rw [List.getElem?_eq_getElem h1] at h2
   rw [Option.some.inj h2]
  conv => lhs; rw [e]
  rw [AqQ hw h3]
 | none =>
  have h10 := AiJ hc
  cases hn : AdS w (w ++ 32 :: t) with
  | none => rfl
  | some x =>
   exfalso
   obtain ⟨e, _⟩ := AmI (v := x.1) (r := x.2) hn
   have e2 : (32 :: t) = 32 :: (x.1 ++ 10 :: x.2) := List.append_cancel_left e
   have e3 := List.tail_eq_of_cons_eq e2
   exact h10 (by rw [e3]; simp)
theorem Anf (s w : List UInt8) (hs : s.length ≤ 1000000) (hwl : w.length ≤ 100) (hw : 10 ∉ w) : Bj Tryz.prog 76 [ts s, ts w] (fun x => x = .tup [ts (mv w s), ts (mr w s), tb (!mb w s)]) := by
 refine Aw.toPureV (AlN (by simp) ?_)
 unfold mv mr mb
 by_cases hl : s.length < w.length + 1
 ·rw [ApC (fun h => by have := h.length_le; simp at this; omega)]
  simp -dsimp (disch := first | assumption | omega | (simp only [Ad]; done) | (simp only [Ad]; omega)) only [↓Ai, Ae, Ag, Ah, eq_self, Nat.reduceEqDiff, ↓reduceIte, Nat.reduceAdd, reduceCtorEq, ↓Yt, ↓QC, ↓QI, ↓RD, AL]
  rfl
 by_cases hp : (w ++ [32]) <+: s
 case neg =>
  rw [ApC hp]
  have hne : ¬ s.take (w.length + 1) = w ++ [32] := fun e => hp ⟨s.drop (w.length + 1), by rw [← e, List.take_append_drop]⟩
  simp -dsimp (disch := first | assumption | omega | (simp only [Ad]; done) | (simp only [Ad]; omega)) only [↓Ai, Ae, Ag, Ah, eq_self, Nat.reduceEqDiff, ↓reduceIte, Nat.reduceAdd, reduceCtorEq, ↓Yt, ↓QC, ↓QI, ↓RD, AL, Uk, hne]
  rfl
 obtain ⟨t, rfl⟩ := hp
 have hnp := AsD (w := w) (t := t) hw
 have e0 : w ++ 32 :: t = w ++ [32] ++ t := by simp
 rw [e0] at hnp
 rw [hnp]
 have hLl : (w ++ [32]).length = w.length + 1 := by simp
 have htk : (w ++ [32] ++ t).take (w.length + 1) = w ++ [32] := List.take_left' hLl
 have hgt : ∀ i, (w ++ [32] ++ t)[w.length + 1 + i]? = t[i]? := fun i => by rw [List.getElem?_append_right (by omega), hLl, Nat.add_sub_cancel_left]
 have hdr : ∀ i, (w ++ [32] ++ t).drop (w.length + 1 + i) = t.drop i := fun i => by rw [← List.drop_drop, List.drop_left' hLl]
 have hlen : (w ++ [32] ++ t).length = w.length + 1 + t.length := by rw [List.length_append, hLl]
 have hsub : ∀ i, ((w ++ [32] ++ t).take (w.length + 1 + i)).drop (w.length + 1) = t.take i := fun i => by rw [List.take_append, hLl, List.take_of_length_le (by omega), List.drop_left' hLl, Nat.add_sub_cancel_left]
 have hsub2 : ∀ i, ((w ++ [32] ++ t).drop (w.length + 1)).take i = t.take i := fun i => by rw [List.drop_left' hLl]
 clear hnp e0
 generalize w ++ [32] ++ t = s at *
 simp -dsimp (disch := first | assumption | omega | (simp only [Ad]; done) | (simp only [Ad]; omega)) only [↓Ai, Ae, Ag, Ah, eq_self, Nat.reduceEqDiff, ↓reduceIte, Nat.reduceAdd, reduceCtorEq, ↓Yt, ↓QC, ↓QI, ↓AgQ, ↓AgP, AL, Uk, htk]
 refine E9 (fun q e H => ∃ i : Nat, q = t.length - i ∧ i ≤ t.length ∧ 10 ∉ t.take i ∧ e = [(0, ts s), (7, i64 ((w.length + 1 : Nat) : Int)), (8, i64 ((w.length + 1 + i : Nat) : Int))] ∧ H = []) t.length ?_ ?_
 ·exact ⟨0, rfl, by omega, by simp, rfl, rfl⟩
 ·rintro q e H ⟨i, rfl, hi, hno, rfl, rfl⟩
  by_cases h : i < t.length
  ·have hg : t[i]? = some t[i] := List.getElem?_eq_getElem h
   have hsucc := List.take_succ_eq_append_getElem h
   have hg2 : s[w.length + 1 + i]? = some t[i] := by rw [hgt, hg]
   generalize t[i] = c at *
   by_cases hc : c.toNat = 10
   ·have hc10 : c = 10 := UInt8.toNat_inj.1 hc
    have hcut : U5 10 t = some i := by
     have e : t = t.take i ++ 10 :: t.drop (i + 1) := by
      conv => lhs; rw [← List.take_append_drop i t, List.drop_eq_getElem_cons h]
      rw [List.getElem?_eq_getElem h] at hg
      rw [Option.some.inj hg, hc10]
     have := Ahf (c := 10) (l := t.take i) (m := t.drop (i + 1)) hno
     rw [← e, List.length_take, Nat.min_eq_left hi] at this
     exact this
    rw [hcut]
    have hd1 := hdr (i + 1)
    have hs1 := hsub2 i
    have hsb : w.length + 1 + i - (w.length + 1) = i := by omega
    have had : w.length + 1 + i + 1 = w.length + 1 + (i + 1) := by omega
    simp only
    simp -dsimp (disch := first | assumption | omega | (simp only [Ad]; done) | (simp only [Ad]; omega)) only [↓Ai, Ae, Ag, Ah, eq_self, Nat.reduceEqDiff, ↓reduceIte, reduceCtorEq, ↓QF, ↓Zw, ↓RD, AL, hg2, hlen]
    rw [hs1, had, hd1, show List.take (w.length + 1 + t.length - (w.length + 1 + (i + 1))) (t.drop (i + 1)) = t.drop (i + 1) from List.take_of_length_le (by rw [List.length_drop]; omega)]
    rfl
   ·simp -dsimp (disch := first | assumption | omega | (simp only [Ad]; done) | (simp only [Ad]; omega)) only [↓Ai, Ae, Ag, Ah, eq_self, Nat.reduceEqDiff, ↓reduceIte, reduceCtorEq, ↓QF, AL, hg2, hlen]
    exact Ce (t.length - (i + 1)) (by omega) (by simp) ⟨i + 1, rfl, by omega, (by rw [hsucc]; intro hm; rcases List.mem_append.1 hm with h1 | h1; exact hno h1; simp at h1; exact hc (by rw [← h1]; rfl)), rfl, rfl⟩
  ·have hi2 : i = t.length := by omega
   subst hi2
   rw [List.take_length] at hno
   have hcut : U5 10 t = none := by
    cases hc : U5 10 t with
    | none => rfl
    | some j => exact absurd (List.mem_of_getElem? (Abb hc).2.1) hno
   rw [hcut]
   simp -dsimp (disch := first | assumption | omega | (simp only [Ad]; done) | (simp only [Ad]; omega)) only [↓Ai, Ae, Ag, Ah, eq_self, Nat.reduceEqDiff, ↓reduceIte, reduceCtorEq, ↓QF, ↓Zw, ↓RD, AL, hlen]
   rfl
end Go.Proofs.YtliaddbbmnfioaaGreatDoor


namespace Go.Proofs.YtliaddbbmnfioaaGreatDoor
open Go.RowKit
variable [Bf] [Ak] [Au] [AO] [Gt] [Ep]
set_option linter.unusedSectionVars false
set_option linter.unusedVariables false
set_option linter.unusedSimpArgs false

end Go.Proofs.YtliaddbbmnfioaaGreatDoor


namespace Go.Proofs.YtliaddbbmnfioaaGreatDoor
open Go.RowKit
variable [Bf] [Ak] [Au] [AO] [Gt] [Ep]
set_option linter.unusedSectionVars false
set_option linter.unusedVariables false
set_option linter.unusedSimpArgs false

end Go.Proofs.YtliaddbbmnfioaaGreatDoor


namespace Go.Proofs.YtliaddbbmnfioaaGreatDoor
open Go.RowKit
variable [Bf]
set_option linter.unusedSectionVars false
set_option linter.unusedVariables false
set_option linter.unusedSimpArgs false

theorem Apm : ∀ (l : List UInt8) (n k : Nat), n < 10 ^ k → l.all GZ = true → Vm n l < 10 ^ (k + l.length)
 | [], n, k, h, _ => h
 | b :: l, n, k, h, ha => by
  rw [List.all_cons, Bool.and_eq_true] at ha
  have hb : b.toNat - 48 ≤ 9 := by
   have := ha.1
   unfold GZ at this
   simp at this
   omega
  have h10 : n * 10 + (b.toNat - 48) < 10 ^ (k + 1) := by
   rw [Nat.pow_succ]
   have : n + 1 ≤ 10 ^ k := h
   have h2 : (n + 1) * 10 ≤ 10 ^ k * 10 := Nat.mul_le_mul_right 10 this
   generalize 10 ^ k * 10 = z at *
   omega
  have := Apm l (n * 10 + (b.toNat - 48)) (k + 1) h10 ha.2
  rw [List.length_cons, show k + (l.length + 1) = k + 1 + l.length by omega]
  exact this
theorem Al6 {l : List UInt8} (h : l.length ≤ 15) (ha : l.all GZ = true) : Vm 0 l < 1000000000000000 := by
 have h1 := Apm l 0 0 (by decide) ha
 have h2 : 10 ^ (0 + l.length) ≤ 10 ^ 15 := Nat.pow_le_pow_right (by decide) (by omega)
 exact Nat.lt_of_lt_of_le h1 (Nat.le_trans h2 (by decide))
def Afe (s : List UInt8) : Int := if 1 ≤ s.length ∧ s.length ≤ 15 ∧ (1 < s.length → s[0]? ≠ some 48) ∧ s.all GZ = true then (Vm 0 s : Int) else -1
theorem AjR (s : List UInt8) : Bj Tryz.prog 108 [ts s] (fun x => x = i64 (Afe s)) := by
 refine Aw.toPureV (Air (by simp) ?_)
 by_cases h1 : 1 ≤ s.length
 case neg =>
  have e : Afe s = -1 := by unfold Afe; rw [if_neg (fun h => h1 h.1)]
  rw [e]
  simp -dsimp (disch := first | assumption | omega | (simp only [Ad]; done) | (simp only [Ad]; omega)) only [↓Ai, Ae, Ag, Ah, eq_self, Nat.reduceEqDiff, ↓reduceIte, reduceCtorEq, ↓H6, ↓Fg, ↓Dh, AL]
 by_cases h15 : s.length ≤ 15
 case neg =>
  have e : Afe s = -1 := by unfold Afe; rw [if_neg (fun h => h15 h.2.1)]
  rw [e]
  simp -dsimp (disch := first | assumption | omega | (simp only [Ad]; done) | (simp only [Ad]; omega)) only [↓Ai, Ae, Ag, Ah, eq_self, Nat.reduceEqDiff, ↓reduceIte, reduceCtorEq, ↓H6, ↓Fg, ↓Dh, AL]
 have hg0 : s[0]? = some s[0] := List.getElem?_eq_getElem (by omega)
 generalize s[0] = z at *
 by_cases hl : 1 < s.length
 ·by_cases hz : z.toNat = 48
  ·have e : Afe s = -1 := by
    unfold Afe
    rw [if_neg]
    rintro ⟨_, _, h3, _⟩
    exact h3 hl (by rw [hg0, show z = 48 from UInt8.toNat_inj.1 hz])
   rw [e]
   simp -dsimp (disch := first | assumption | omega | (simp only [Ad]; done) | (simp only [Ad]; omega)) only [↓Ai, Ae, Ag, Ah, eq_self, Nat.reduceEqDiff, ↓reduceIte, reduceCtorEq, ↓H6, ↓Fg, ↓Dh, AL, hg0]
  have hnz : 1 < s.length → s[0]? ≠ some 48 := fun _ h => by
   rw [hg0] at h
   exact hz (by rw [Option.some.inj h]; rfl)
  simp -dsimp (disch := first | assumption | omega | (simp only [Ad]; done) | (simp only [Ad]; omega)) only [↓Ai, Ae, Ag, Ah, eq_self, Nat.reduceEqDiff, ↓reduceIte, reduceCtorEq, ↓H6, ↓Fg, ↓TT, ↓TJ, ↓TB, AL, hg0]
  refine E9 (fun q e H => ∃ (i : Nat), q = s.length - i ∧ i ≤ s.length ∧ (s.take i).all GZ = true ∧ e = [(0, ts s), (3, i64 ((Vm 0 (s.take i) : Nat) : Int)), (4, i64 (i : Int))] ∧ H = []) s.length ?_ ?_
  ·exact ⟨0, rfl, by omega, rfl, rfl, rfl⟩
  ·rintro q e H ⟨i, rfl, hi, hall, rfl, rfl⟩
   by_cases h : i < s.length
   ·have hg : s[i]? = some s[i] := List.getElem?_eq_getElem h
    have hsucc := List.take_succ_eq_append_getElem h
    generalize s[i] = b at *
    have hb := b.toNat_lt
    have hnum : Vm 0 (s.take (i + 1)) = Vm 0 (s.take i) * 10 + (b.toNat - 48) := by rw [hsucc, TC]; rfl
    have hlt := Al6 (l := s.take i) (by simp; omega) hall
    have hall2 : GZ b = true → (s.take (i + 1)).all GZ = true := fun hd => by rw [hsucc, List.all_append, hall]; simp [hd]
    have hbad : GZ b = false → Afe s = -1 := fun hd => by
     unfold Afe
     rw [if_neg]
     rintro ⟨_, _, _, ha⟩
     have := List.all_eq_true.1 ha b (List.mem_of_getElem? hg)
     rw [hd] at this; cases this
    generalize Vm 0 (s.take i) = n at *
    by_cases d1 : b.toNat < 48
    ·rw [hbad (by unfold GZ; simp; omega)]
     simp -dsimp (disch := first | assumption | omega | (simp only [Ad]; done) | (simp only [Ad]; omega)) only [↓Ai, Ae, Ag, Ah, eq_self, Nat.reduceEqDiff, ↓reduceIte, reduceCtorEq, ↓CB, ↓Dx, ↓Dh, AL, hg]
    by_cases d2 : b.toNat > 57
    ·rw [hbad (by unfold GZ; simp; omega)]
     simp -dsimp (disch := first | assumption | omega | (simp only [Ad]; done) | (simp only [Ad]; omega)) only [↓Ai, Ae, Ag, Ah, eq_self, Nat.reduceEqDiff, ↓reduceIte, reduceCtorEq, ↓CB, ↓Dx, ↓Dh, AL, hg]
    have hwr : IntKind.i64.wrap ((b.toNat - 48 : Nat) : Int) = ((b.toNat - 48 : Nat) : Int) := Dp (by omega) (by omega)
    simp -dsimp (disch := first | assumption | omega | (simp only [Ad]; done) | (simp only [Ad]; omega)) only [↓Ai, Ae, Ag, Ah, eq_self, Nat.reduceEqDiff, ↓reduceIte, reduceCtorEq, ↓CB, ↓Dx, AL, hg, Zd, hwr]
    exact Ce (s.length - (i + 1)) (by omega) (by simp) ⟨i + 1, rfl, by omega, hall2 (by unfold GZ; simp; omega), by rw [hnum]; rfl, rfl⟩
   ·have hi2 : i = s.length := by omega
    subst hi2
    rw [List.take_length] at hall ⊢
    have e : Afe s = (Vm 0 s : Int) := by unfold Afe; rw [if_pos ⟨h1, h15, hnz, hall⟩]
    rw [e]
    simp -dsimp (disch := first | assumption | omega | (simp only [Ad]; done) | (simp only [Ad]; omega)) only [↓Ai, Ae, Ag, Ah, eq_self, Nat.reduceEqDiff, ↓reduceIte, reduceCtorEq, ↓CB, ↓TF, ↓Dh, AL]
 ·have hnz : 1 < s.length → s[0]? ≠ some 48 := fun h => absurd h hl
  simp -dsimp (disch := first | assumption | omega | (simp only [Ad]; done) | (simp only [Ad]; omega)) only [↓Ai, Ae, Ag, Ah, eq_self, Nat.reduceEqDiff, ↓reduceIte, reduceCtorEq, ↓H6, ↓Fg, ↓TT, ↓TJ, ↓TB, AL]
  refine E9 (fun q e H => ∃ (i : Nat), q = s.length - i ∧ i ≤ s.length ∧ (s.take i).all GZ = true ∧ e = [(0, ts s), (3, i64 ((Vm 0 (s.take i) : Nat) : Int)), (4, i64 (i : Int))] ∧ H = []) s.length ?_ ?_
  ·exact ⟨0, rfl, by omega, rfl, rfl, rfl⟩
  ·rintro q e H ⟨i, rfl, hi, hall, rfl, rfl⟩
   by_cases h : i < s.length
   ·have hg : s[i]? = some s[i] := List.getElem?_eq_getElem h
    have hsucc := List.take_succ_eq_append_getElem h
    generalize s[i] = b at *
    have hb := b.toNat_lt
    have hnum : Vm 0 (s.take (i + 1)) = Vm 0 (s.take i) * 10 + (b.toNat - 48) := by rw [hsucc, TC]; rfl
    have hlt := Al6 (l := s.take i) (by simp; omega) hall
    have hall2 : GZ b = true → (s.take (i + 1)).all GZ = true := fun hd => by rw [hsucc, List.all_append, hall]; simp [hd]
    have hbad : GZ b = false → Afe s = -1 := fun hd => by
     unfold Afe
     rw [if_neg]
     rintro ⟨_, _, _, ha⟩
     have := List.all_eq_true.1 ha b (List.mem_of_getElem? hg)
     rw [hd] at this; cases this
    generalize Vm 0 (s.take i) = n at *
    by_cases d1 : b.toNat < 48
    ·rw [hbad (by unfold GZ; simp; omega)]
     simp -dsimp (disch := first | assumption | omega | (simp only [Ad]; done) | (simp only [Ad]; omega)) only [↓Ai, Ae, Ag, Ah, eq_self, Nat.reduceEqDiff, ↓reduceIte, reduceCtorEq, ↓CB, ↓Dx, ↓Dh, AL, hg]
    by_cases d2 : b.toNat > 57
    ·rw [hbad (by unfold GZ; simp; omega)]
     simp -dsimp (disch := first | assumption | omega | (simp only [Ad]; done) | (simp only [Ad]; omega)) only [↓Ai, Ae, Ag, Ah, eq_self, Nat.reduceEqDiff, ↓reduceIte, reduceCtorEq, ↓CB, ↓Dx, ↓Dh, AL, hg]
    have hwr : IntKind.i64.wrap ((b.toNat - 48 : Nat) : Int) = ((b.toNat - 48 : Nat) : Int) := Dp (by omega) (by omega)
    simp -dsimp (disch := first | assumption | omega | (simp only [Ad]; done) | (simp only [Ad]; omega)) only [↓Ai, Ae, Ag, Ah, eq_self, Nat.reduceEqDiff, ↓reduceIte, reduceCtorEq, ↓CB, ↓Dx, AL, hg, Zd, hwr]
    exact Ce (s.length - (i + 1)) (by omega) (by simp) ⟨i + 1, rfl, by omega, hall2 (by unfold GZ; simp; omega), by rw [hnum]; rfl, rfl⟩
   ·have hi2 : i = s.length := by omega
    subst hi2
    rw [List.take_length] at hall ⊢
    have e : Afe s = (Vm 0 s : Int) := by unfold Afe; rw [if_pos ⟨h1, h15, hnz, hall⟩]
    rw [e]
    simp -dsimp (disch := first | assumption | omega | (simp only [Ad]; done) | (simp only [Ad]; omega)) only [↓Ai, Ae, Ag, Ah, eq_self, Nat.reduceEqDiff, ↓reduceIte, reduceCtorEq, ↓CB, ↓TF, ↓Dh, AL]
end Go.Proofs.YtliaddbbmnfioaaGreatDoor


namespace Go.Proofs.YtliaddbbmnfioaaGreatDoor
open Go.RowKit
variable [Bf]
set_option linter.unusedSectionVars false
set_option linter.unusedVariables false
set_option linter.unusedSimpArgs false

theorem Agq {c : UInt8} {s : List UInt8} {i j : Nat} (hi : s[i]? = some c) (hi2 : c ∉ s.take i) (hj : s[j]? = some c) (hj2 : c ∉ s.take j) : i = j := by
 rcases Nat.lt_trichotomy i j with h | h | h
 ·refine absurd (List.mem_of_getElem? (i := i) ?_) hj2
  rw [List.getElem?_take, if_pos h]; exact hi
 ·exact h
 ·refine absurd (List.mem_of_getElem? (i := j) ?_) hi2
  rw [List.getElem?_take, if_pos h]; exact hj
theorem Atm : ∀ n : Nat, 1 ≤ n → (Lib.decDigits n)[0]? ≠ some 48 := by
 intro n
 induction n using Nat.strongRecOn with
 | _ n ih =>
  intro hn
  by_cases h : n < 10
  ·rw [Lib.decDigits_one h]
   intro e
   simp only [List.getElem?_cons_zero, Option.some.injEq] at e
   have := congrArg UInt8.toNat e
   rw [UInt8.toNat_ofNat'] at this
   simp at this
   omega
  ·have hne := AnE (n / 10)
   have h1 : 1 ≤ (Lib.decDigits (n / 10)).length := by
    cases hd : Lib.decDigits (n / 10) with
    | nil => exact absurd hd hne
    | cons a l => simp
   rw [Lib.decDigits.eq_1 n, dif_neg h, List.getElem?_append_left (by omega)]
   exact ih _ (by omega) (by omega)
theorem Ajb : ∀ (k n : Nat), n < 10 ^ (k + 1) → (Lib.decDigits n).length ≤ k + 1
 | 0, n, h => by rw [Lib.decDigits_one (by simpa using h)]; simp
 | k + 1, n, h => by
  by_cases c : n < 10
  ·rw [Lib.decDigits_one c]; simp
  ·rw [Lib.decDigits.eq_1 n, dif_neg c, List.length_append]
   have := Ajb k (n / 10) (Nat.div_lt_of_lt_mul (by rw [Nat.mul_comm, ← Nat.pow_succ]; exact h))
   simp
   exact this
theorem ArD {n : Nat} (h : n ≤ 1099511627776) : (Lib.decDigits n).length ≤ 13 := Ajb 12 n (Nat.lt_of_le_of_lt h (by decide))
theorem Avx {n : Nat} (h : n ≤ 1099511627776) : Afe (Lib.decDigits n) = (n : Int) := by
 obtain ⟨h1, h2⟩ := Akh n
 have hl := ArD h
 have hne := AnE n
 have h0 : 1 ≤ (Lib.decDigits n).length := by
  cases hd : Lib.decDigits n with
  | nil => exact absurd hd hne
  | cons a l => simp
 have hz : 1 < (Lib.decDigits n).length → (Lib.decDigits n)[0]? ≠ some 48 := fun hlt => Atm n (by
  by_cases hn : n = 0
  ·subst hn
   rw [Lib.decDigits_one (by omega)] at hlt
   simp at hlt
  ·omega)
 unfold Afe
 rw [if_pos ⟨h0, by omega, hz, h1⟩, h2]
theorem An4 {a b : Nat} (ha : a < 10) (hb : b < 10) : Afe [49, UInt8.ofNat (48 + a), UInt8.ofNat (48 + b)] = ((100 + a * 10 + b : Nat) : Int) := by
 obtain ⟨a1, a2⟩ := AaC ha
 obtain ⟨b1, b2⟩ := AaC hb
 generalize UInt8.ofNat (48 + a) = x at *
 generalize UInt8.ofNat (48 + b) = y at *
 have e : Vm 0 [49, x, y] = ((0 * 10 + ((49 : UInt8).toNat - 48)) * 10 + (x.toNat - 48)) * 10 + (y.toNat - 48) := rfl
 have e49 : (49 : UInt8).toNat = 49 := rfl
 have hd : GZ 49 = true := by decide
 unfold Afe
 rw [if_pos ⟨by simp, by simp, fun _ => by simp, by simp [hd, a1, b1]⟩, e, a2, b2, e49]
 omega
structure ADW (p : Per) (s : List UInt8) (o sh : Nat) : Prop where
 at1 : s[o]? = some 60
 no1 : 60 ∉ s.take o
 at2 : s[sh]? = some 62
 no2 : 62 ∉ (s.drop o).take (sh - o)
 le : o < sh
 one : 1 ≤ o
 len : s.length = sh + 2 + (Lib.decDigits p.time.toNat).length + 6
 name : s.take (o - 1) = p.name
 mail : (s.drop (o + 1)).take (sh - (o + 1)) = p.mail
 time : (s.drop (sh + 2)).take (s.length - 6 - (sh + 2)) = Lib.decDigits p.time.toNat
 sign : s[s.length - 5]? = some (AeA p.zone)
 hrs : (s.drop (s.length - 4)).take 2 = [UInt8.ofNat (48 + p.zone.natAbs / 60 / 10), UInt8.ofNat (48 + p.zone.natAbs / 60 % 10)]
 mins : s.drop (s.length - 2) = [UInt8.ofNat (48 + p.zone.natAbs % 60 / 10), UInt8.ofNat (48 + p.zone.natAbs % 60 % 10)]
theorem Art {a r : List UInt8} {c : UInt8} {k : Nat} (h : a.length = k) : (a ++ c :: r)[k]? = some c := by
 subst h
 rw [List.getElem?_append_right (Nat.le_refl _), Nat.sub_self]; rfl
theorem AuG {p : Per} (hp : DC p) : ADW p (Dv p) (p.name.length + 1) (p.name.length + 2 + p.mail.length) := by
 obtain ⟨h1, h2, _⟩ := hp
 generalize hd : Lib.decDigits p.time.toNat = d
 have e1 : Dv p = (p.name ++ [32]) ++ (60 :: (p.mail ++ 62 :: 32 :: (d ++ 32 :: GX p))) := by rw [← hd]; simp [Dv]
 have e2 : Dv p = (p.name ++ [32, 60] ++ p.mail) ++ (62 :: 32 :: (d ++ 32 :: GX p)) := by rw [← hd]; simp [Dv]
 have e3 : Dv p = (p.name ++ [32, 60] ++ p.mail ++ [62, 32]) ++ (d ++ 32 :: GX p) := by rw [← hd]; simp [Dv]
 have e4 : Dv p = (p.name ++ [32, 60] ++ p.mail ++ [62, 32] ++ d ++ [32]) ++ (AeA p.zone :: Abx p.zone.natAbs) := by rw [← hd]; simp [Dv, GX]
 have e5 : Dv p = (p.name ++ [32, 60] ++ p.mail ++ [62, 32] ++ d ++ [32, AeA p.zone]) ++ ([UInt8.ofNat (48 + p.zone.natAbs / 60 / 10), UInt8.ofNat (48 + p.zone.natAbs / 60 % 10)] ++ [UInt8.ofNat (48 + p.zone.natAbs % 60 / 10), UInt8.ofNat (48 + p.zone.natAbs % 60 % 10)]) := by rw [← hd]; simp [Dv, GX, Abx]
 have e6 : Dv p = (p.name ++ [32, 60] ++ p.mail ++ [62, 32] ++ d ++ [32, AeA p.zone] ++ [UInt8.ofNat (48 + p.zone.natAbs / 60 / 10), UInt8.ofNat (48 + p.zone.natAbs / 60 % 10)]) ++ [UInt8.ofNat (48 + p.zone.natAbs % 60 / 10), UInt8.ofNat (48 + p.zone.natAbs % 60 % 10)] := by rw [← hd]; simp [Dv, GX, Abx]
 have e7 : Dv p = p.name ++ ([32, 60] ++ (p.mail ++ (62 :: 32 :: (d ++ 32 :: GX p)))) := by rw [← hd]; simp [Dv]
 have e8 : Dv p = (p.name ++ [32, 60]) ++ (p.mail ++ (62 :: 32 :: (d ++ 32 :: GX p))) := by rw [← hd]; simp [Dv]
 have hlen : (Dv p).length = p.name.length + 2 + p.mail.length + 2 + d.length + 6 := by
  rw [e5]
  simp only [List.length_append, List.length_cons, List.length_nil]
 refine ⟨?_, ?_, ?_, ?_, by omega, by omega, by rw [hd]; exact hlen, ?_, ?_, ?_, ?_, ?_, ?_⟩
 ·rw [e1]; exact Art (by simp)
 ·rw [e1, List.take_left' (by simp)]
  intro hm
  rcases List.mem_append.1 hm with hm | hm
  ·exact (h1.2.1 _ hm).1 rfl
  ·simp at hm
 ·rw [e2]; exact Art (by simp; omega)
 ·rw [e1, List.drop_left' (by simp), show p.name.length + 2 + p.mail.length - (p.name.length + 1) = p.mail.length + 1 by omega, List.take_succ_cons, List.take_left' rfl]
  intro hm
  rcases List.mem_cons.1 hm with hm | hm
  ·cases hm
  ·exact (h2.2.1 _ hm).2.1 rfl
 ·rw [Nat.add_sub_cancel, e7, List.take_left' rfl]
 ·rw [e8, List.drop_left' (by simp), show p.name.length + 2 + p.mail.length - (p.name.length + 1 + 1) = p.mail.length by omega, List.take_left' rfl]
 ·rw [hlen, e3, List.drop_left' (by simp; omega), List.take_left' (by omega), hd]
 ·rw [hlen, e4]; exact Art (by simp; omega)
 ·rw [hlen, e5, List.drop_left' (by simp; omega)]; rfl
 ·rw [hlen, e6, List.drop_left' (by simp; omega)]
end Go.Proofs.YtliaddbbmnfioaaGreatDoor


namespace Go.Proofs.YtliaddbbmnfioaaGreatDoor
open Go.RowKit
variable [Bf] [Ak] [Au] [AO] [Gt]
set_option linter.unusedSectionVars false
set_option linter.unusedVariables false
set_option linter.unusedSimpArgs false

theorem Aym {p : Per} {s : List UInt8} {i j : Nat} (hp : DC p) (e : Dv p = s) (h1 : 60 ∉ s.take i) (h2 : i = s.length ∨ s[i]? = some 60) (hij : i ≤ j) (h3 : 62 ∉ (s.drop i).take (j - i)) (h4 : j = s.length ∨ s[j]? = some 62) : ADW p s i j := by
 subst e
 have L := AuG hp
 have hi : i = p.name.length + 1 := by
  rcases h2 with h2 | h2
  ·exfalso
   rw [h2, List.take_length] at h1
   exact h1 (List.mem_of_getElem? L.at1)
  ·exact Agq h2 h1 L.at1 L.no1
 have hj : j = p.name.length + 2 + p.mail.length := by
  have hle := L.le
  have a2 : ((Dv p).drop i)[p.name.length + 2 + p.mail.length - i]? = some 62 := by
   rw [List.getElem?_drop, show i + (p.name.length + 2 + p.mail.length - i) = p.name.length + 2 + p.mail.length by omega]
   exact L.at2
  have n2 := L.no2
  rw [← hi] at n2
  rcases h4 with h4 | h4
  ·exfalso
   rw [h4, List.take_of_length_le (by simp)] at h3
   exact h3 (List.mem_of_getElem? a2)
  ·have b2 : ((Dv p).drop i)[j - i]? = some 62 := by
    rw [List.getElem?_drop, show i + (j - i) = j by omega]
    exact h4
   have := Agq b2 h3 a2 n2
   omega
 rw [hi, hj]
 exact L
theorem Am3 (l : List UInt8) : -1 ≤ Afe l ∧ Afe l ≤ 1000000000000000 := by
 unfold Afe
 split
 ·rename_i h
  have := Al6 h.2.1 h.2.2.2
  omega
 ·omega
theorem Agm (s : List UInt8) (hs : s.length ≤ 1000000) : Bj Tryz.prog 78 [ts s] (Ahu s) := by
 refine Aw.toPureV (Ae2 (by simp) ?_)
 simp -dsimp (disch := first | assumption | omega | (simp only [Ad]; done) | (simp only [Ad]; omega)) only [↓Ai, Ae, Ag, Ah, eq_self, Nat.reduceEqDiff, ↓reduceIte, reduceCtorEq, ↓AdH, ↓Yw, ↓YV, ↓YM]
 refine E9 (fun q e H => ∃ i : Nat, q = s.length - i ∧ i ≤ s.length ∧ 60 ∉ s.take i ∧ e = [(0, ts s), (2, .op 0 0 []), (4, .op 1 0 []), (5, i64 (i : Int))] ∧ H = [.obj 0 (Iw ⟨[], [], 0, 0⟩), .obj 0 (Iw ⟨[], [], 0, 0⟩)]) s.length ?_ ?_
 ·exact ⟨0, rfl, by omega, by simp, rfl, rfl⟩
 ·rintro q e H ⟨i, rfl, hi, hno, rfl, rfl⟩
  by_cases hgo : i < s.length ∧ s[i]? ≠ some 60
  ·obtain ⟨h, hne⟩ := hgo
   have hg : s[i]? = some s[i] := List.getElem?_eq_getElem h
   have hsucc := List.take_succ_eq_append_getElem h
   generalize s[i] = c at *
   have hc : ¬ c.toNat = 60 := fun e => hne (by rw [hg, show c = 60 from UInt8.toNat_inj.1 e])
   simp -dsimp (disch := first | assumption | omega | (simp only [Ad]; done) | (simp only [Ad]; omega)) only [↓Ai, Ae, Ag, Ah, eq_self, Nat.reduceEqDiff, ↓reduceIte, Nat.reduceAdd, reduceCtorEq, ↓Hm, AL, hg]
   exact Ce (s.length - (i + 1)) (by omega) (by simp) ⟨i + 1, rfl, by omega, (by rw [hsucc]; intro hm; rcases List.mem_append.1 hm with h1 | h1; exact hno h1; simp at h1; exact hc (by rw [← h1]; rfl)), rfl, rfl⟩
  ·have hend : i = s.length ∨ s[i]? = some 60 := by
    by_cases h : i < s.length
    ·exact .inr (Classical.byContradiction fun hn => hgo ⟨h, hn⟩)
    ·exact .inl (by omega)
   clear hgo
   have go2 : vwp Tryz.prog H8 (Ak4 Ih fun x H' => Cj (Jm H' (Ane H' 2) x) (Ahu s)) [(0, ts s), (2, .op 0 0 []), (4, .op 1 0 []), (5, i64 (i : Int)), (21, .val (.bool false))] [.obj 0 (Iw ⟨[], [], 0, 0⟩), .obj 0 (Iw ⟨[], [], 0, 0⟩)] := by
    simp -dsimp (disch := first | assumption | omega | (simp only [Ad]; done) | (simp only [Ad]; omega)) only [↓Ai, Ae, Ag, Ah, eq_self, Nat.reduceEqDiff, ↓reduceIte, reduceCtorEq, ↓X9, ↓YI]
    refine E9 (fun q e H => ∃ j : Nat, q = s.length - j ∧ i ≤ j ∧ j ≤ s.length ∧ 62 ∉ (s.drop i).take (j - i) ∧ e = [(0, ts s), (2, .op 0 0 []), (4, .op 1 0 []), (5, i64 (i : Int)), (6, i64 (j : Int))] ∧ H = [.obj 0 (Iw ⟨[], [], 0, 0⟩), .obj 0 (Iw ⟨[], [], 0, 0⟩)]) (s.length - i) ?_ ?_
    ·exact ⟨i, rfl, by omega, hi, by simp, rfl, rfl⟩
    ·rintro q e H ⟨j, rfl, hij, hj, hno2, rfl, rfl⟩
     by_cases hgo : j < s.length ∧ s[j]? ≠ some 62
     ·obtain ⟨h, hne⟩ := hgo
      have hg : s[j]? = some s[j] := List.getElem?_eq_getElem h
      have hsucc : (s.drop i).take (j + 1 - i) = (s.drop i).take (j - i) ++ [s[j]] := by
       rw [show j + 1 - i = (j - i) + 1 by omega, List.take_add_one, List.getElem?_drop, show i + (j - i) = j by omega, hg]
       rfl
      generalize s[j] = c at *
      have hc : ¬ c.toNat = 62 := fun e => hne (by rw [hg, show c = 62 from UInt8.toNat_inj.1 e])
      simp -dsimp (disch := first | assumption | omega | (simp only [Ad]; done) | (simp only [Ad]; omega)) only [↓Ai, Ae, Ag, Ah, eq_self, Nat.reduceEqDiff, ↓reduceIte, Nat.reduceAdd, reduceCtorEq, ↓Ho, AL, hg]
      exact Ce (s.length - (j + 1)) (by omega) (by simp) ⟨j + 1, rfl, by omega, by omega, (by rw [hsucc]; intro hm; rcases List.mem_append.1 hm with h1 | h1; exact hno2 h1; simp at h1; exact hc (by rw [← h1]; rfl)), rfl, rfl⟩
     ·have hend2 : j = s.length ∨ s[j]? = some 62 := by
       by_cases h : j < s.length
       ·exact .inr (Classical.byContradiction fun hn => hgo ⟨h, hn⟩)
       ·exact .inl (by omega)
      clear hgo
      have Aid : ∀ p, DC p → Dv p = s → ADW p s i j := fun p hp e => Aym hp e hno hend hij hno2 hend2
      have go3 : vwp Tryz.prog H9 (Ak4 Ih fun x H' => Cj (Jm H' (Ane H' 2) x) (Ahu s)) [(0, ts s), (2, .op 0 0 []), (4, .op 1 0 []), (5, i64 (i : Int)), (6, i64 (j : Int)), (34, .val (.bool false))] [.obj 0 (Iw ⟨[], [], 0, 0⟩), .obj 0 (Iw ⟨[], [], 0, 0⟩)] := by
       by_cases b1 : i < 1
       ·simp -dsimp (disch := first | assumption | omega | (simp only [Ad]; done) | (simp only [Ad]; omega)) only [↓Ai, Ae, Ag, Ah, eq_self, Nat.reduceEqDiff, ↓reduceIte, Nat.reduceAdd, reduceCtorEq, ↓DX, ↓DY, ↓Bg, AL]
        refine ⟨fun p hp e => absurd (Aid p hp e).one (by omega), fun _ => ⟨⟨[], [], 0, 0⟩, ⟨⟨by decide, by decide⟩, by decide, by decide⟩, rfl⟩⟩
       by_cases b2 : j ≥ s.length
       ·simp -dsimp (disch := first | assumption | omega | (simp only [Ad]; done) | (simp only [Ad]; omega)) only [↓Ai, Ae, Ag, Ah, eq_self, Nat.reduceEqDiff, ↓reduceIte, Nat.reduceAdd, reduceCtorEq, ↓DX, ↓DY, ↓Bg, AL]
        refine ⟨fun p hp e => absurd (Aid p hp e).len (by omega), fun _ => ⟨⟨[], [], 0, 0⟩, ⟨⟨by decide, by decide⟩, by decide, by decide⟩, rfl⟩⟩
       by_cases b3 : s.length < j + 9
       ·simp -dsimp (disch := first | assumption | omega | (simp only [Ad]; done) | (simp only [Ad]; omega)) only [↓Ai, Ae, Ag, Ah, eq_self, Nat.reduceEqDiff, ↓reduceIte, Nat.reduceAdd, reduceCtorEq, ↓DX, ↓DY, ↓Bg, AL]
        refine ⟨fun p hp e => ?_, fun _ => ⟨⟨[], [], 0, 0⟩, ⟨⟨by decide, by decide⟩, by decide, by decide⟩, rfl⟩⟩
        have L := Aid p hp e
        have hl := L.len
        have h0 : 1 ≤ (Lib.decDigits p.time.toNat).length := by
         cases hd : Lib.decDigits p.time.toNat with
         | nil => exact absurd hd (AnE _)
         | cons a l => simp
        omega
       have hij1 : i + 1 ≤ j := by
        rcases hend with h | h
        ·omega
        ·rcases hend2 with h' | h'
         ·omega
         ·have : i ≠ j := fun e => by rw [e, h'] at h; cases h
          omega
       generalize hN : s.length = N at *
       simp -dsimp (disch := first | assumption | omega | (simp only [Ad]; done) | (simp only [Ad]; omega)) only [↓Ai, Ae, Ag, Ah, eq_self, Nat.reduceEqDiff, ↓reduceIte, Nat.reduceAdd, reduceCtorEq, ↓DX, ↓DY, ↓Yk, ↓X7, ↓ZU, AL, hN]
       refine (AjR ((s.drop (j + 2)).take (N - 6 - (j + 2)))).calls rfl fun r hr => ?_
       subst hr
       have h22 : N - 2 - (N - 4) = 2 := by omega
       have hNN : N - (N - 2) = 2 := by omega
       have htk2 : (s.drop (N - 2)).take 2 = s.drop (N - 2) := List.take_of_length_le (by rw [List.length_drop]; omega)
       have hc1 : ∀ t, ET t .add (.string (str [49])) (.string (str ((s.drop (N - 4)).take 2))) = some (.string (str (49 :: (s.drop (N - 4)).take 2))) := fun t => Uk (by simp; omega)
       have hc2 : ∀ t, ET t .add (.string (str [49])) (.string (str (s.drop (N - 2)))) = some (.string (str (49 :: s.drop (N - 2)))) := fun t => Uk (by rw [List.length_drop]; simp; omega)
       simp -dsimp (disch := first | assumption | omega | (simp only [Ad]; done) | (simp only [Ad]; omega)) only [↓Ai, Ae, Ag, Ah, eq_self, Nat.reduceEqDiff, ↓reduceIte, Nat.reduceAdd, reduceCtorEq, ↓ZT, AL, hN, h22, hc1]
       refine (AjR (49 :: (s.drop (N - 4)).take 2)).calls rfl fun r hr => ?_
       subst hr
       simp -dsimp (disch := first | assumption | omega | (simp only [Ad]; done) | (simp only [Ad]; omega)) only [↓Ai, Ae, Ag, Ah, eq_self, Nat.reduceEqDiff, ↓reduceIte, reduceCtorEq, ↓ZA, AL, hN, hNN, htk2, hc2]
       refine (AjR (49 :: s.drop (N - 2))).calls rfl fun r hr => ?_
       subst hr
       have bt := Am3 ((s.drop (j + 2)).take (N - 6 - (j + 2)))
       have bh := Am3 (49 :: (s.drop (N - 4)).take 2)
       have bm := Am3 (49 :: s.drop (N - 2))
       have hL : ∀ p, DC p → Dv p = s → (p.name = s.take (i - 1) ∧ p.mail = (s.drop (i + 1)).take (j - (i + 1)) ∧ p.time = Afe ((s.drop (j + 2)).take (N - 6 - (j + 2)))
         ∧ Afe (49 :: (s.drop (N - 4)).take 2) = ((100 + p.zone.natAbs / 60 : Nat) : Int) ∧ Afe (49 :: s.drop (N - 2)) = ((100 + p.zone.natAbs % 60 : Nat) : Int) ∧ s[N - 5]? = some (AeA p.zone)) := fun p hp e => by
        have L := Aid p hp e
        obtain ⟨_, _, q1, q2, q3, q4⟩ := hp
        have a := L.time
        have b := L.hrs
        have c := L.mins
        have d := L.sign
        rw [hN] at a b c d
        refine ⟨L.name.symm, L.mail.symm, ?_, ?_, ?_, d⟩
        ·rw [a, Avx (by omega)]; omega
        ·rw [b, An4 (by omega) (by omega)]; omega
        ·rw [c, An4 (by omega) (by omega)]; omega
       generalize Afe ((s.drop (j + 2)).take (N - 6 - (j + 2))) = tt at *
       generalize Afe (49 :: (s.drop (N - 4)).take 2) = hh at *
       generalize Afe (49 :: s.drop (N - 2)) = mm at *
       generalize hn1 : s.take (i - 1) = nm at *
       generalize hn2 : (s.drop (i + 1)).take (j - (i + 1)) = ml at *
       have bad2 : hh < 0 ∨ mm < 0 → Ahu s (.tup [Iw ⟨nm, ml, tt, 0⟩, tb false]) := fun hb => by
        refine ⟨fun p hp e => ?_, fun _ => ⟨_, ⟨⟨by simp only; omega, by simp only; omega⟩, (show (-9223372036854775808 : Int) ≤ 0 by omega), (show (0 : Int) ≤ 9223372036854775807 by omega)⟩, rfl⟩⟩
        obtain ⟨_, _, _, e4, e5, _⟩ := hL p hp e
        omega
       by_cases c1 : hh < 0
       ·simp -dsimp (disch := first | assumption | omega | (simp only [Ad]; done) | (simp only [Ad]; omega)) only [↓Ai, Ae, Ag, Ah, eq_self, Nat.reduceEqDiff, ↓reduceIte, Nat.reduceAdd, reduceCtorEq, ↓Hl, ↓Bg]
        exact bad2 (.inl c1)
       by_cases c2 : mm < 0
       ·simp -dsimp (disch := first | assumption | omega | (simp only [Ad]; done) | (simp only [Ad]; omega)) only [↓Ai, Ae, Ag, Ah, eq_self, Nat.reduceEqDiff, ↓reduceIte, Nat.reduceAdd, reduceCtorEq, ↓Hl, ↓Bg]
        exact bad2 (.inr c2)
       simp -dsimp (disch := first | assumption | omega | (simp only [Ad]; done) | (simp only [Ad]; omega)) only [↓Ai, Ae, Ag, Ah, eq_self, Nat.reduceEqDiff, ↓reduceIte, Nat.reduceAdd, reduceCtorEq, ↓Hl, ↓ZB]
       have hgc : s[N - 5]? = some s[N - 5] := List.getElem?_eq_getElem (by omega)
       generalize s[N - 5] = c at *
       have hvv : ∀ p, DC p → Dv p = s → (hh - 100) * 60 + mm - 100 = ((p.zone.natAbs : Nat) : Int) := fun p hp e => by
        obtain ⟨_, _, _, e4, e5, _⟩ := hL p hp e
        omega
       by_cases hc45 : c.toNat = 45
       ·obtain ⟨q, hq⟩ : ∃ q : Per, q = ⟨nm, ml, tt, -((hh - 100) * 60 + mm - 100)⟩ := ⟨_, rfl⟩
        have key : ∀ p, DC p → Dv p = s → p = q := fun p hp e => by
         obtain ⟨e1, e2, e3, _, _, e6⟩ := hL p hp e
         have hv := hvv p hp e
         rw [hgc, show c = 45 from UInt8.toNat_inj.1 hc45] at e6
         have e7 := Option.some.inj e6
         unfold AeA at e7
         split at e7
         ·obtain ⟨pn, pm, pt, pz⟩ := p
          simp only at *
          rw [hq, e1, e2, e3, hv]
          congr 1
          omega
         ·cases e7
        have hneg : unV .neg (.int .i64 ((hh - ((100 : Nat) : Int)) * ((60 : Nat) : Int) + mm - ((100 : Nat) : Int))) = some (.int .i64 (-((hh - 100) * 60 + mm - 100))) := by
         have e : Op.unary .neg (.int .i64 ((hh - ((100 : Nat) : Int)) * ((60 : Nat) : Int) + mm - ((100 : Nat) : Int))) = .pure (.int .i64 (IntKind.i64.wrap (0 - ((hh - ((100 : Nat) : Int)) * ((60 : Nat) : Int) + mm - ((100 : Nat) : Int))))) := rfl
         unfold unV
         rw [e, Int.zero_sub, Dp (by omega) (by omega)]
         rfl
        simp -dsimp (disch := first | assumption | omega | (simp only [Ad]; done) | (simp only [Ad]; omega)) only [↓Ai, Ae, Ag, Ah, eq_self, Nat.reduceEqDiff, ↓reduceIte, Nat.reduceAdd, reduceCtorEq, ↓MX, AL, hgc, hneg]
        rw [show TV.agg [TV.val (Value.string (str nm)), TV.val (Value.string (str ml)), i64 tt, TV.val (Value.int IntKind.i64 (-((hh - 100) * 60 + mm - 100)))] = Iw q by rw [hq]]
        have hfit : OA q := by subst hq; exact ⟨⟨by simp only; omega, by simp only; omega⟩, by simp only; omega, by simp only; omega⟩
        have fin : ∀ β : Bool, (β = true ↔ DC q ∧ Dv q = s) → Ahu s (.tup [Iw q, tb β]) := fun β hβ => by
         refine ⟨fun p hp e => ?_, fun h => ?_⟩
         ·obtain rfl := key p hp e
          rw [hβ.2 ⟨hp, e⟩]
         ·refine ⟨q, hfit, ?_⟩
          cases β with
          | false => rfl
          | true => exact absurd (hβ.1 rfl).2 (h q (hβ.1 rfl).1)
        clear hq
        simp -dsimp (disch := first | assumption | omega | (simp only [Ad]; done) | (simp only [Ad]; omega)) only [↓Ai, Ae, Ag, Ah, eq_self, Nat.reduceEqDiff, ↓reduceIte, Nat.reduceAdd, reduceCtorEq, ↓MS]
        refine (AsH q hfit).calls rfl fun r hr => ?_
        by_cases hok : DC q
        ·rw [hr.1 hok]
         by_cases heq : Dv q = s
         ·simp -dsimp (disch := first | assumption | omega | (simp only [Ad]; done) | (simp only [Ad]; omega)) only [↓Ai, Ae, Ag, Ah, eq_self, Nat.reduceEqDiff, ↓reduceIte, Nat.reduceAdd, reduceCtorEq, heq, ↓Bg]
          exact fin true ⟨fun _ => ⟨hok, heq⟩, fun _ => rfl⟩
         ·simp -dsimp (disch := first | assumption | omega | (simp only [Ad]; done) | (simp only [Ad]; omega)) only [↓Ai, Ae, Ag, Ah, eq_self, Nat.reduceEqDiff, ↓reduceIte, Nat.reduceAdd, reduceCtorEq, heq, ↓Bg]
          exact fin false ⟨fun h => (by cases h), fun h => absurd h.2 heq⟩
        ·rw [hr.2 hok]
         simp -dsimp (disch := first | assumption | omega | (simp only [Ad]; done) | (simp only [Ad]; omega)) only [↓Ai, Ae, Ag, Ah, eq_self, Nat.reduceEqDiff, ↓reduceIte, Nat.reduceAdd, reduceCtorEq, ↓Bg]
         exact fin false ⟨fun h => (by cases h), fun h => absurd h.1 hok⟩
       ·obtain ⟨q, hq⟩ : ∃ q : Per, q = ⟨nm, ml, tt, (hh - 100) * 60 + mm - 100⟩ := ⟨_, rfl⟩
        have key : ∀ p, DC p → Dv p = s → p = q := fun p hp e => by
         obtain ⟨e1, e2, e3, _, _, e6⟩ := hL p hp e
         have hv := hvv p hp e
         rw [hgc] at e6
         have e7 := Option.some.inj e6
         unfold AeA at e7
         split at e7
         ·exact absurd (by rw [e7]; rfl) hc45
         ·obtain ⟨pn, pm, pt, pz⟩ := p
          simp only at *
          rw [hq, e1, e2, e3, hv]
          congr 1
          omega
        simp -dsimp (disch := first | assumption | omega | (simp only [Ad]; done) | (simp only [Ad]; omega)) only [↓Ai, Ae, Ag, Ah, eq_self, Nat.reduceEqDiff, ↓reduceIte, reduceCtorEq, ↓MX, AL, hgc]
        rw [show TV.agg [TV.val (Value.string (str nm)), TV.val (Value.string (str ml)), i64 tt, TV.val (Value.int IntKind.i64 ((hh - ((100 : Nat) : Int)) * ((60 : Nat) : Int) + mm - ((100 : Nat) : Int)))] = Iw q by rw [hq]; rfl]
        have hfit : OA q := by subst hq; exact ⟨⟨by simp only; omega, by simp only; omega⟩, by simp only; omega, by simp only; omega⟩
        have fin : ∀ β : Bool, (β = true ↔ DC q ∧ Dv q = s) → Ahu s (.tup [Iw q, tb β]) := fun β hβ => by
         refine ⟨fun p hp e => ?_, fun h => ?_⟩
         ·obtain rfl := key p hp e
          rw [hβ.2 ⟨hp, e⟩]
         ·refine ⟨q, hfit, ?_⟩
          cases β with
          | false => rfl
          | true => exact absurd (hβ.1 rfl).2 (h q (hβ.1 rfl).1)
        clear hq
        simp -dsimp (disch := first | assumption | omega | (simp only [Ad]; done) | (simp only [Ad]; omega)) only [↓Ai, Ae, Ag, Ah, eq_self, Nat.reduceEqDiff, ↓reduceIte, Nat.reduceAdd, reduceCtorEq, ↓MS]
        refine (AsH q hfit).calls rfl fun r hr => ?_
        by_cases hok : DC q
        ·rw [hr.1 hok]
         by_cases heq : Dv q = s
         ·simp -dsimp (disch := first | assumption | omega | (simp only [Ad]; done) | (simp only [Ad]; omega)) only [↓Ai, Ae, Ag, Ah, eq_self, Nat.reduceEqDiff, ↓reduceIte, Nat.reduceAdd, reduceCtorEq, heq, ↓Bg]
          exact fin true ⟨fun _ => ⟨hok, heq⟩, fun _ => rfl⟩
         ·simp -dsimp (disch := first | assumption | omega | (simp only [Ad]; done) | (simp only [Ad]; omega)) only [↓Ai, Ae, Ag, Ah, eq_self, Nat.reduceEqDiff, ↓reduceIte, Nat.reduceAdd, reduceCtorEq, heq, ↓Bg]
          exact fin false ⟨fun h => (by cases h), fun h => absurd h.2 heq⟩
        ·rw [hr.2 hok]
         simp -dsimp (disch := first | assumption | omega | (simp only [Ad]; done) | (simp only [Ad]; omega)) only [↓Ai, Ae, Ag, Ah, eq_self, Nat.reduceEqDiff, ↓reduceIte, Nat.reduceAdd, reduceCtorEq, ↓Bg]
         exact fin false ⟨fun h => (by cases h), fun h => absurd h.1 hok⟩
      rcases hend2 with hend2 | hend2
      ·have hlt : ¬ j < s.length := by omega
       simp -dsimp (disch := first | assumption | omega | (simp only [Ad]; done) | (simp only [Ad]; omega)) only [↓Ai, Ae, Ag, Ah, eq_self, Nat.reduceEqDiff, ↓reduceIte, reduceCtorEq, ↓Ho, AL]
       exact go3
      ·obtain ⟨hl, _⟩ := List.getElem?_eq_some_iff.1 hend2
       simp -dsimp (disch := first | assumption | omega | (simp only [Ad]; done) | (simp only [Ad]; omega)) only [↓Ai, Ae, Ag, Ah, eq_self, Nat.reduceEqDiff, UInt8.reduceToNat, ↓reduceIte, reduceCtorEq, ↓Ho, AL, hend2]
       exact go3
   rcases hend with hend | hend
   ·have hlt : ¬ i < s.length := by omega
    simp -dsimp (disch := first | assumption | omega | (simp only [Ad]; done) | (simp only [Ad]; omega)) only [↓Ai, Ae, Ag, Ah, eq_self, Nat.reduceEqDiff, ↓reduceIte, reduceCtorEq, ↓Hm, AL]
    exact go2
   ·obtain ⟨hl, _⟩ := List.getElem?_eq_some_iff.1 hend
    simp -dsimp (disch := first | assumption | omega | (simp only [Ad]; done) | (simp only [Ad]; omega)) only [↓Ai, Ae, Ag, Ah, eq_self, Nat.reduceEqDiff, UInt8.reduceToNat, ↓reduceIte, reduceCtorEq, ↓Hm, AL, hend]
    exact go2
end Go.Proofs.YtliaddbbmnfioaaGreatDoor


namespace Go.Proofs.YtliaddbbmnfioaaGreatDoor
open Go.RowKit
variable [Bf] [Ak] [Au] [AO] [Gt]
set_option linter.unusedSectionVars false
set_option linter.unusedVariables false
set_option linter.unusedSimpArgs false

theorem Ak3 : ∀ {l m : List (List UInt8)} {r q : List UInt8}, (∀ x ∈ l, 10 ∉ x) → (∀ x ∈ m, 10 ∉ x) → mb BO q = true → GG m ++ q = GG l ++ r → ∃ l', m = l ++ l'
 | [], m, r, q, _, _, _, _ => ⟨m, rfl⟩
 | u :: l, [], r, q, hl, _, hq, e => by
  exfalso
  simp only [GG, List.nil_append, List.append_assoc, List.cons_append] at e
  have := (Lr (w := BO) (v := u) (r := GG l ++ r) (by decide) (hl u (by simp))).1
  rw [← e, hq] at this; cases this
 | u :: l, v :: m, r, q, hl, hm, hq, e => by
  simp only [GG, List.append_assoc, List.cons_append] at e
  obtain ⟨_, a1, a2⟩ := Lr (w := BO) (v := u) (r := GG l ++ r) (by decide) (hl u (by simp))
  obtain ⟨_, b1, b2⟩ := Lr (w := BO) (v := v) (r := GG m ++ q) (by decide) (hm v (by simp))
  rw [← e] at a1 a2
  obtain ⟨l', h2⟩ := Ak3 (fun x hx => hl x (by simp [hx])) (fun x hx => hm x (by simp [hx])) hq (b2.symm.trans a2)
  exact ⟨l', by rw [← a1, b1, h2, List.cons_append]⟩
theorem An8 {c : Akq} {s : List UInt8} (hc : AgR c) (e : cmB c = s) : mb BJ s = false ∧ DR (mv BJ s) = true := by
 subst e
 obtain ⟨a, b, _⟩ := Lr (w := BJ) (v := BX c.tree) (r := GG (c.pars.map BX) ++ NR (Dv c.author) (Dv c.comm) c.msg) (by decide) (Abk c.tree)
 exact ⟨a, by rw [show mv BJ (cmB c) = BX c.tree from b]; exact AkG hc.1⟩
theorem Awo {c : Akq} {s r x : List UInt8} {l : List (List UInt8)} (hc : AgR c) (e : cmB c = s) (hs : mr BJ s = GG l ++ r) (h10 : ∀ y ∈ l, 10 ∉ y) (hx : x ∈ l) : DR x = true := by
 subst e
 obtain ⟨_, _, d⟩ := Lr (w := BJ) (v := BX c.tree) (r := GG (c.pars.map BX) ++ NR (Dv c.author) (Dv c.comm) c.msg) (by decide) (Abk c.tree)
 have d' : mr BJ (cmB c) = GG (c.pars.map BX) ++ NR (Dv c.author) (Dv c.comm) c.msg := d
 rw [d'] at hs
 obtain ⟨l', hl'⟩ := Ak3 h10 (fun p hp => by obtain ⟨q, _, rfl⟩ := List.mem_map.1 hp; exact Abk q) Ant hs
 have hm : x ∈ c.pars.map BX := by rw [hl']; exact List.mem_append_left _ hx
 obtain ⟨y, hy, rfl⟩ := List.mem_map.1 hm
 exact AkG (hc.2.1 y hy)
theorem Awy {c : Akq} {s x t : List UInt8} {l : List (List UInt8)} (hc : AgR c) (e : cmB c = s) (hR : Av8 s x l t) : mb AQ t = false ∧ mb Aq (mr AQ t) = false ∧ ∃ m, mr Aq (mr AQ t) = 10 :: m := by
 subst e
 obtain ⟨_, _, rfl⟩ := hR.one AnY
 obtain ⟨_, _, _, _, c5, c6, _⟩ := hc
 obtain ⟨e1, e2, e3, e4, e5⟩ := AvK (m := c.msg) (Ag7 c5) (Ag7 c6)
 exact ⟨e1, e3, _, e5⟩
def AnI (s : List UInt8) (r : TV) : Prop := (∀ c, AgR c → cmB c = s → r = .tup [cmT c, tb true]) ∧ ((∀ c, AgR c → cmB c ≠ s) → ∃ x Y q1 q2 m, x.length = 20 ∧ (Y = .val (.slice none 0 0) ∨ ∃ ps : List (List UInt8), Y = .sl 20 (ps.map JB)) ∧ r = .tup [.agg [JB x, Y, Iw q1, Iw q2, ts m], tb false])
theorem AnC {s x m : List UInt8} {Y : TV} {q1 q2 : Per} (h : ∀ c, AgR c → cmB c ≠ s) (hx : x.length = 20) (hY : Y = .val (.slice none 0 0) ∨ ∃ ps : List (List UInt8), Y = .sl 20 (ps.map JB)) : AnI s (.tup [.agg [JB x, Y, Iw q1, Iw q2, ts m], tb false]) :=
 ⟨fun c hc e => absurd e (h c hc), fun _ => ⟨x, Y, q1, q2, m, hx, hY, rfl⟩⟩
structure RrH (H : List Ob) (X : TV) (y : List UInt8) (v : Nat) (ps : List TV) : Prop where
 z : H[0]? = some (.obj 0 ApG)
 c : H[1]? = some (.obj 0 X)
 i : H[2]? = some (.obj 0 (JB y))
 p : H[3]? = some (.obj v (.arr ps.length 20 ps))
section
variable {H : List Ob} {y y' : List UInt8} {X X' : TV} {v v' : Nat} {ps ps' : List TV}
theorem RrH.len (h : RrH H X y v ps) : 3 < H.length := (List.getElem?_eq_some_iff.1 h.p).1
theorem RrH.app (h : RrH H X y v ps) (T : List Ob) : RrH (H ++ T) X y v ps := by
 have hl := h.len
 exact ⟨by rw [List.getElem?_append_left (by omega)]; exact h.z, by rw [List.getElem?_append_left (by omega)]; exact h.c, by rw [List.getElem?_append_left (by omega)]; exact h.i, by rw [List.getElem?_append_left (by omega)]; exact h.p⟩
theorem RrH.setC (h : RrH H X y v ps) (X' : TV) : RrH (H.set 1 (.obj 0 X')) X' y v ps := by
 have hl := h.len
 exact ⟨by rw [List.getElem?_set_ne (by omega)]; exact h.z, by rw [List.getElem?_set_self (by omega)], by rw [List.getElem?_set_ne (by omega)]; exact h.i, by rw [List.getElem?_set_ne (by omega)]; exact h.p⟩
theorem RrH.setI (h : RrH H X y v ps) (y' : List UInt8) : RrH (H.set 2 (.obj 0 (JB y'))) X y' v ps := by
 have hl := h.len
 exact ⟨by rw [List.getElem?_set_ne (by omega)]; exact h.z, by rw [List.getElem?_set_ne (by omega)]; exact h.c, by rw [List.getElem?_set_self (by omega)], by rw [List.getElem?_set_ne (by omega)]; exact h.p⟩
theorem RrH.setP (h : RrH H X y v ps) (v' : Nat) (ps' : List TV) (n : Nat) (hn : n = ps'.length) : RrH (H.set 3 (.obj v' (.arr n 20 ps'))) X y v' ps' := by
 have hl := h.len
 subst hn
 exact ⟨by rw [List.getElem?_set_ne (by omega)]; exact h.z, by rw [List.getElem?_set_ne (by omega)]; exact h.c, by rw [List.getElem?_set_ne (by omega)]; exact h.i, by rw [List.getElem?_set_self (by omega)]⟩
end
abbrev AvN (x : List UInt8) (v n cp : Nat) : TV := .agg [JB (Ar x), .os 20 3 v [] 0 n cp, Iw ⟨[], [], 0, 0⟩, Iw ⟨[], [], 0, 0⟩, ts []]
theorem Anr {s : List UInt8} {r : TV} (hr : Ahu s r) : ∃ (q : Per) (ok : Bool), r = .tup [Iw q, tb ok] ∧ OA q ∧ (ok = true → DC q ∧ Dv q = s) ∧ (ok = false → ∀ p, DC p → Dv p ≠ s) := by
 by_cases h : ∃ p, DC p ∧ Dv p = s
 ·obtain ⟨p, hp, e⟩ := h
  refine ⟨p, true, hr.1 p hp e, ?_, fun _ => ⟨hp, e⟩, fun h => (by cases h)⟩
  obtain ⟨_, _, q1, q2, q3, q4⟩ := hp
  exact ⟨⟨by omega, by omega⟩, by omega, by omega⟩
 ·have h' : ∀ p, DC p → Dv p ≠ s := fun p hp e => h ⟨p, hp, e⟩
  obtain ⟨q, hfq, hq⟩ := hr.2 h'
  exact ⟨q, false, hq, hfq, fun h => (by cases h), fun _ => h'⟩
set_option maxHeartbeats 2000000 in
theorem Alu (s : List UInt8) (hs : s.length ≤ 1000000) : Bj Tryz.prog 44 [slB s] (AnI s) := by
 refine Aw.toPureV (Ae4 (by simp) ?_)
 have m1 := Aee BJ s
 have l1 := Anf s BJ hs (by decide) (by decide)
 have hpr := AlK (mv BJ s) (by omega)
 have hpl : ((Ar (mv BJ s)).map by8).length = 20 := by rw [List.length_map]; exact Dj
 simp -dsimp (disch := first | assumption | omega | (simp only [Ad]; done) | (simp only [Ad]; omega)) only [↓Ai, Ae, Ag, Ah, eq_self, Nat.reduceEqDiff, ↓reduceIte, reduceCtorEq, ↓AcJ, ↓XY, ↓YD, ↓Yd]
 refine l1.calls rfl fun r hr => ?_
 subst hr
 simp -dsimp (disch := first | assumption | omega | (simp only [Ad]; done) | (simp only [Ad]; omega)) only [↓Ai, Ae, Ag, Ah, eq_self, Nat.reduceEqDiff, ↓reduceIte, reduceCtorEq, ↓YA]
 refine hpr.calls rfl fun r hr => ?_
 subst hr
 have z20 : (zer 20).length = 20 := rfl
 cases hb1 : mb BJ s
 case true =>
  simp -dsimp (disch := first | assumption | omega | (simp only [Ad]; done) | (simp only [Ad]; omega)) only [↓Ai, Ae, Ag, Ah, eq_self, Nat.reduceEqDiff, ↓reduceIte, Nat.reduceAdd, reduceCtorEq, ↓GL, ↓Bz]
  exact AnC (x := zer 20) (q1 := ⟨[], [], 0, 0⟩) (q2 := ⟨[], [], 0, 0⟩) (m := []) (fun c hc e => by rw [(An8 hc e).1] at hb1; cases hb1) z20 (.inl rfl)
 cases hb2 : DR (mv BJ s)
 case false =>
  simp -dsimp (disch := first | assumption | omega | (simp only [Ad]; done) | (simp only [Ad]; omega)) only [↓Ai, Ae, Ag, Ah, eq_self, Nat.reduceEqDiff, ↓reduceIte, Nat.reduceAdd, reduceCtorEq, ↓GL, ↓Bz]
  exact AnC (x := zer 20) (q1 := ⟨[], [], 0, 0⟩) (q2 := ⟨[], [], 0, 0⟩) (m := []) (fun c hc e => by rw [(An8 hc e).2] at hb2; cases hb2) z20 (.inl rfl)
 simp -dsimp (disch := first | assumption | omega | (simp only [Ad]; done) | (simp only [Ad]; omega)) only [↓Ai, Ae, Ag, Ah, eq_self, Nat.reduceEqDiff, ↓reduceIte, Nat.reduceAdd, reduceCtorEq, ↓GL, ↓YW, ↓Ym]
 refine E9 (fun q e H => ∃ (l : List (List UInt8)) (rest y : List UInt8) (v cp : Nat), q = rest.length ∧ mr BJ s = GG l ++ rest ∧ (∀ x ∈ l, 10 ∉ x) ∧ l.all DR = true ∧ y.length = 20 ∧
  RrH H (AvN (mv BJ s) v l.length cp) y v ((l.map Ar).map JB) ∧ e = [(0, slB s), (2, .op 0 0 []), (4, .op 1 0 []), (5, ts rest), (8, .op 2 0 [])]) (mr BJ s).length ?_ ?_
 ·exact ⟨[], mr BJ s, Ar (mv BJ s), 0, 0, rfl, rfl, by simp, rfl, Dj, ⟨rfl, rfl, rfl, rfl⟩, rfl⟩
 ·rintro q e H ⟨l, rest, y, v, cp, rfl, hspl, h10, hall, hy20, R, rfl⟩
  have hrl : l.length + rest.length ≤ 1000000 := by
   have h1 := congrArg List.length hspl
   have h2 := AlZ l
   rw [List.length_append] at h1
   omega
  have hpsl : ((l.map Ar).map JB).length = l.length := by simp
  have hpt : ((l.map Ar).map JB).take l.length = (l.map Ar).map JB := List.take_of_length_le (by simp)
  have hyl : (y.map by8).length = 20 := by rw [List.length_map]; exact hy20
  have m2 := Aee BO rest
  have l2 := Anf rest BO (by omega) (by decide) (by decide)
  simp -dsimp (disch := first | assumption | omega | (simp only [Ad]; done) | (simp only [Ad]; omega)) only [↓Ai, Ae, Ag, Ah, eq_self, Nat.reduceEqDiff, ↓reduceIte, reduceCtorEq, ↓ZN]
  refine l2.calls rfl fun r hr => ?_
  subst hr
  cases hb : mb BO rest with
  | false =>
   obtain ⟨hmo, hm10⟩ := UQ hb
   have hsn := Aba (v := mv BO rest) (l := l) (r := mr BO rest)
   rw [← hmo, ← hspl] at hsn
   have hlr := congrArg List.length hmo
   simp only [List.length_append, List.length_cons] at hlr
   generalize mv BO rest = x at *
   generalize mr BO rest = rest' at *
   have h10' : ∀ y ∈ l ++ [x], 10 ∉ y := by
    intro y hy
    rcases List.mem_append.1 hy with hy | hy
    ·exact h10 y hy
    ·rw [List.mem_singleton] at hy; subst hy; exact hm10
   have hRl := R.len
   have hxp : ((Ar x).map by8).length = 20 := by rw [List.length_map]; exact Dj
   have hpx := AlK x (by omega)
   simp -dsimp (disch := first | assumption | omega | (simp only [Ad]; done) | (simp only [Ad]; omega)) only [↓Ai, Ae, Ag, Ah, eq_self, Nat.reduceEqDiff, ↓reduceIte, reduceCtorEq, ↓NY, ↓ZM, ↓ZH]
   refine hpx.calls rfl fun r hr => ?_
   subst hr
   have R2 := R.setI (Ar x)
   have hH2 : ∀ o : Ob, (H.set 2 o).length = H.length := fun o => List.length_set ..
   cases hbx : DR x with
   | false =>
    simp -dsimp (disch := first | assumption | omega | (simp only [Ad]; done) | (simp only [Ad]; omega)) only [↓Ai, Ae, Ag, Ah, eq_self, Nat.reduceEqDiff, ↓reduceIte, Nat.reduceAdd, reduceCtorEq, R.i, R.c, R.z, R.p, hpsl, List.getElem?_set_self, ↓Bz]
    exact AnC (x := Ar (mv BJ s)) (q1 := ⟨[], [], 0, 0⟩) (q2 := ⟨[], [], 0, 0⟩) (m := []) (fun c hc e => by rw [Awo hc e hsn.symm h10' (by simp)] at hbx; cases hbx) Dj (.inr ⟨l.map Ar, rfl⟩)
   | true =>
    have hY3 : ∀ T : List Ob, (H.set 2 (Ob.obj 0 (JB (Ar x))) ++ T)[3]? = H[3]? := fun T => by rw [List.getElem?_append_left (by rw [List.length_set]; omega), List.getElem?_set_ne (by omega)]
    have hY1 : ∀ T : List Ob, (H.set 2 (Ob.obj 0 (JB (Ar x))) ++ T)[1]? = H[1]? := fun T => by rw [List.getElem?_append_left (by rw [List.length_set]; omega), List.getElem?_set_ne (by omega)]
    simp -dsimp (disch := first | assumption | omega | (simp only [Ad]; done) | (simp only [Ad]; omega)) only [↓Ai, Ae, Ag, Ah, eq_self, Nat.reduceEqDiff, ↓reduceIte, Nat.reduceAdd, reduceCtorEq, Nat.reduceLeDiff, R.i, R.c, R.p, hY3, hpsl, Aq9, List.getElem?_set_self]
    have R6 := (((R.setI (Ar x)).setP (v + 1) (((l ++ [x]).map Ar).map JB) (l.length + 1) (by simp)).setC (AvN (mv BJ s) (v + 1) (l.length + 1) (l.length + 1))).app [Ob.obj 0 (.arr 1 20 ((List.replicate 1 (.arr 20 1 (List.replicate 20 (.val (.int .u8 ((0 : Nat) : Int)))))).set 0 (JB (Ar x))))]
    have e1 : ((l ++ [x]).map Ar).map JB = (l.map Ar).map JB ++ [TV.arr 20 1 ((Ar x).map by8)] := by simp
    have e2 : (l ++ [x]).length = l.length + 1 := by simp
    refine Ce rest'.length (by omega) (by simp; omega) ⟨l ++ [x], rest', Ar x, v + 1, l.length + 1, rfl, hsn.symm, h10', by simp [hall, hbx], Dj, by rw [e1, e2]; rw [e1] at R6; exact R6, rfl⟩
  | true =>
   have l3 := Anf rest AQ (by omega) (by decide) (by decide)
   have m3 := Aee AQ rest
   have m4 := Aee Aq (mr AQ rest)
   have l4 := Anf (mr AQ rest) Aq (by omega) (by decide) (by decide)
   simp -dsimp (disch := first | assumption | omega | (simp only [Ad]; done) | (simp only [Ad]; omega)) only [↓Ai, Ae, Ag, Ah, eq_self, Nat.reduceEqDiff, ↓reduceIte, reduceCtorEq, ↓NY, ↓YO]
   refine l3.calls rfl fun r hr => ?_
   subst hr
   simp -dsimp (disch := first | assumption | omega | (simp only [Ad]; done) | (simp only [Ad]; omega)) only [↓Ai, Ae, Ag, Ah, eq_self, Nat.reduceEqDiff, ↓reduceIte, reduceCtorEq, ↓YJ]
   refine l4.calls rfl fun r hr => ?_
   subst hr
   have hRead : Av8 s (mv BJ s) l rest := ⟨by rw [← hspl]; exact (UQ hb1).1, (UQ hb1).2, h10, hb⟩
   by_cases hgo : mb AQ rest = false ∧ mb Aq (mr AQ rest) = false ∧ ∃ m, mr Aq (mr AQ rest) = 10 :: m
   case neg =>
    have hno : ∀ c, AgR c → cmB c ≠ s := fun c hc e => hgo (Awy hc e hRead)
    have hRl := R.len
    have fin : AnI s (.tup [.agg [JB (Ar (mv BJ s)), .sl 20 ((l.map Ar).map JB), Iw ⟨[], [], 0, 0⟩, Iw ⟨[], [], 0, 0⟩, ts []], tb false]) := AnC hno Dj (.inr ⟨l.map Ar, rfl⟩)
    clear l1 l2 l3 l4 hpr hspl h10 hall hRead hno
    cases b3 : mb AQ rest <;> cases b4 : mb Aq (mr AQ rest)
    case false.false =>
     have hnm : ¬ ∃ m, mr Aq (mr AQ rest) = 10 :: m := fun h => hgo ⟨b3, b4, h⟩
     cases ht : mr Aq (mr AQ rest) with
     | nil =>
      simp -dsimp (disch := first | assumption | omega | (simp only [Ad]; done) | (simp only [Ad]; omega)) only [↓Ai, Ae, Ag, Ah, eq_self, Nat.reduceLT, Nat.reduceEqDiff, ↓reduceIte, Nat.reduceAdd, reduceCtorEq, AL, R.c, R.z, R.p, hpsl, List.getElem?_set_self, ↓DV, ↓Bz]
      exact fin
     | cons c m =>
      have hc : ¬ c.toNat = 10 := fun e => hnm ⟨m, by rw [ht, show c = 10 from UInt8.toNat_inj.1 e]⟩
      simp -dsimp (disch := first | assumption | omega | (simp only [Ad]; done) | (simp only [Ad]; omega)) only [↓Ai, Ae, Ag, Ah, eq_self, Nat.reduceEqDiff, ↓reduceIte, Nat.reduceAdd, reduceCtorEq, AL, hc, R.c, R.z, R.p, hpsl, List.getElem?_set_self, ↓DV, ↓Bz]
      exact fin
    all_goals
     simp -dsimp (disch := first | assumption | omega | (simp only [Ad]; done) | (simp only [Ad]; omega)) only [↓Ai, Ae, Ag, Ah, eq_self, Nat.reduceEqDiff, ↓reduceIte, Nat.reduceAdd, reduceCtorEq, R.c, R.z, R.p, hpsl, List.getElem?_set_self, ↓DV, ↓Bz]
     exact fin
   obtain ⟨g1, g2, m, g3⟩ := hgo
   simp -dsimp (disch := first | assumption | omega | (simp only [Ad]; done) | (simp only [Ad]; omega)) only [↓Ai, Ae, Ag, Ah, eq_self, Nat.reduceEqDiff, UInt8.reduceToNat, ↓reduceIte, reduceCtorEq, g1, g2, g3, AL, ↓DV, ↓ZE]
   have hr1 := Agm (mv AQ rest) (by omega)
   have hr2 := Agm (mv Aq (mr AQ rest)) (by omega)
   refine hr1.calls rfl fun r hr => ?_
   obtain ⟨q1, ok1, rfl, hf1, h1, h1'⟩ := Anr hr
   simp -dsimp (disch := first | assumption | omega | (simp only [Ad]; done) | (simp only [Ad]; omega)) only [↓Ai, Ae, Ag, Ah, eq_self, Nat.reduceEqDiff, ↓reduceIte, Nat.reduceAdd, reduceCtorEq, R.c, ↓ZF]
   refine hr2.calls rfl fun r hr => ?_
   obtain ⟨q2, ok2, rfl, hf2, h2, h2'⟩ := Anr hr
   have hRl := R.len
   have R3 := fun X => R.setC X
   have hS : ∀ a b : Ob, (H.set 1 a).set 1 b = H.set 1 b := fun a b => List.set_set ..
   simp -dsimp (disch := first | assumption | omega | (simp only [Ad]; done) | (simp only [Ad]; omega)) only [↓Ai, Ae, Ag, Ah, eq_self, Nat.reduceEqDiff, ↓reduceIte, Nat.reduceAdd, reduceCtorEq, Nat.reduceLeDiff, (R3 _).c, hS, AL, ↓ZR, ↓ZV]
   have R4 := R3 (.agg [JB (Ar (mv BJ s)), .os 20 3 v [] 0 l.length cp, Iw q1, Iw q2, ts m])
   generalize H.set 1 (Ob.obj 0 (.agg [JB (Ar (mv BJ s)), .os 20 3 v [] 0 l.length cp, Iw q1, Iw q2, ts m])) = H4 at *
   have hRl4 := R4.len
   have hfit : An9 ⟨Ar (mv BJ s), l.map Ar, q1, q2, m⟩ := ⟨Dj, fun y hy => by obtain ⟨z, _, rfl⟩ := List.mem_map.1 hy; exact Dj, by simp; omega, hf1, hf2⟩
   have hmm : m = Lib.trimPrefix (mr Aq (mr AQ rest)) [10] := by rw [g3]; exact AnB.2.symm
   have fin := ApX (s := s) (x := mv BJ s) (t := rest) (ps := l) (ok1 := ok1) (ok2 := ok2) (nd := decide (l.map Ar).Nodup) (q1 := q1) (q2 := q2) (fun _ => hRead) (fun _ => by simp) h1 h1' h2 h2'
   rw [← hmm] at fin
   have hw := Aeh ⟨Ar (mv BJ s), l.map Ar, q1, q2, m⟩ hfit
   have key : ∀ β : Bool, (β = true ↔ ok1 = true ∧ ok2 = true ∧ AgR ⟨Ar (mv BJ s), l.map Ar, q1, q2, m⟩ ∧ cmB ⟨Ar (mv BJ s), l.map Ar, q1, q2, m⟩ = s) →
     AnI s (.tup [.agg [JB (Ar (mv BJ s)), .sl 20 ((l.map Ar).map JB), Iw q1, Iw q2, ts m], tb β]) := fun β hβ => by
    refine ⟨fun c hc e => ?_, fun h => ⟨Ar (mv BJ s), _, q1, q2, m, Dj, .inr ⟨l.map Ar, rfl⟩, ?_⟩⟩
    ·obtain ⟨f1, rfl⟩ := fin.2.2 c hc e
     unfold Ya at f1
     simp only [Bool.and_eq_true] at f1
     rw [hβ.2 ⟨f1.1.1.1.1.1.1.2, f1.1.1.1.1.2, hc, e⟩]
    ·cases β with
     | false => rfl
     | true => exact absurd (hβ.1 rfl).2.2.2 (h _ (hβ.1 rfl).2.2.1)
   clear fin h1 h1' h2 h2' l1 l2 l3 l4 hpr hr1 hr2 hRead hall h10 hspl R3 R g3
   refine hw.lends (args' := [cmT ⟨Ar (mv BJ s), l.map Ar, q1, q2, m⟩]) (by simp -dsimp (disch := first | assumption | omega | (simp only [Ad]; done) | (simp only [Ad]; omega)) only [Ag, Ah, eq_self, ↓reduceIte, R4.p, hpsl]) fun r hr => ?_
   have hun : ∀ l : List UInt8, (l.map by8).map Ad1 = l := fun l => Ajm
   by_cases hT : AgR ⟨Ar (mv BJ s), l.map Ar, q1, q2, m⟩
   ·rw [hr.1 hT]
    by_cases heq : cmB ⟨Ar (mv BJ s), l.map Ar, q1, q2, m⟩ = s
    ·rw [heq]
     cases ok1 <;> cases ok2
     case true.true =>
      simp -dsimp (disch := first | assumption | omega | (simp only [Ad]; done) | (simp only [Ad]; omega)) only [↓Ai, Ae, Ag, Ah, eq_self, Nat.reduceEqDiff, Nat.reduceMod, ↓reduceIte, Nat.reduceAdd, reduceCtorEq, hun, hpsl, R4.c, R4.p, R4.z, List.getElem?_set_self, ↓Eo, ↓Bz]
      refine ⟨key true ⟨fun _ => ⟨rfl, rfl, hT, heq⟩, fun _ => rfl⟩, ?_⟩
      change Yh [123, 125] _ _ _; exact Aan (by simp [get]) (Aan (by simp [get]) Abg)
     all_goals
      simp -dsimp (disch := first | assumption | omega | (simp only [Ad]; done) | (simp only [Ad]; omega)) only [↓Ai, Ae, Ag, Ah, eq_self, Nat.reduceEqDiff, Nat.reduceMod, ↓reduceIte, Nat.reduceAdd, reduceCtorEq, hpsl, R4.c, R4.p, R4.z, List.getElem?_set_self, ↓Eo, ↓Bz]
      refine ⟨key false ⟨fun h => (by cases h), fun h => (by have h1 := h.1; have h2 := h.2.1; first | cases h1; done | cases h2; done)⟩, ?_⟩
      change Yh [123, 125] _ _ _; exact Aan (by simp [get]) (Aan (by simp [get]) Abg)
    ·generalize cmB ⟨Ar (mv BJ s), l.map Ar, q1, q2, m⟩ = T at *
     cases ok1 <;> cases ok2
     all_goals
      simp -dsimp (disch := first | assumption | omega | (simp only [Ad]; done) | (simp only [Ad]; omega)) only [↓Ai, Ae, Ag, Ah, eq_self, Nat.reduceEqDiff, Nat.reduceMod, ↓reduceIte, Nat.reduceAdd, reduceCtorEq, hun, heq, hpsl, R4.c, R4.p, R4.z, List.getElem?_set_self, ↓Eo, ↓Bz]
      refine ⟨key false ⟨fun h => (by cases h), fun h => absurd h.2.2.2 heq⟩, ?_⟩
      change Yh [123, 125] _ _ _; exact Aan (by simp [get]) (Aan (by simp [get]) Abg)
   ·rw [hr.2 hT]
    cases ok1 <;> cases ok2
    all_goals
     simp -dsimp (disch := first | assumption | omega | (simp only [Ad]; done) | (simp only [Ad]; omega)) only [↓Ai, Ae, Ag, Ah, eq_self, Nat.reduceEqDiff, Nat.reduceMod, ↓reduceIte, Nat.reduceAdd, reduceCtorEq, hpsl, R4.c, R4.p, R4.z, List.getElem?_set_self, ↓Eo, ↓Bz]
     refine ⟨key false ⟨fun h => (by cases h), fun h => absurd h.2.2.1 hT⟩, ?_⟩
     change Yh [123, 125] _ _ _; exact Aan (by simp [get]) (Aan (by simp [get]) Abg)
end Go.Proofs.YtliaddbbmnfioaaGreatDoor


namespace Go.Proofs.YtliaddbbmnfioaaGreatDoor
open Go.RowKit
variable [Bf]
set_option linter.unusedSectionVars false
set_option linter.unusedVariables false
set_option linter.unusedSimpArgs false

theorem Apv {l m : List UInt8} {k : Nat} (h : l.take k = m.take k) (h1 : k < l.length) (h2 : k < m.length) (e : l[k] = m[k]) : l.take (k + 1) = m.take (k + 1) := by
 rw [List.take_succ_eq_append_getElem h1, List.take_succ_eq_append_getElem h2, h, e]
theorem AEe {x y : UInt8} (h : x ≠ y) : ¬ (x.toNat = y.toNat) := fun e => h (UInt8.toNat_inj.1 e)
theorem same (l m : List UInt8) (hl : l.length ≤ 9223372036854775807) (hm : m.length ≤ 9223372036854775807) : Bj Tryz.prog 11 [slB l, slB m] (fun x => x = tb (decide (l = m))) := by
 refine Aw.toPureV (Ak1 (by simp) ?_)
 by_cases hlen : l.length = m.length
 case neg =>
  have hne : l ≠ m := fun e => hlen (by rw [e])
  simp -dsimp (disch := first | assumption | omega) only [↓Ai, Ae, Ag, Ah, eq_self, Nat.reduceEqDiff, ↓reduceIte, Nat.reduceAdd, reduceCtorEq, ↓Tc, decide_eq_false hne]
 simp -dsimp (disch := first | assumption | omega) only [↓Ai, Ae, Ag, Ah, eq_self, Nat.reduceEqDiff, ↓reduceIte, Nat.reduceAdd, reduceCtorEq, ↓Tc]
 refine E9 (fun n e H => ∃ (k : Nat), n = l.length - k ∧ k ≤ l.length ∧ l.take k = m.take k ∧ e = [(0, slB l), (1, slB m), (5, i64 (k : Int))] ∧ H = []) l.length ?_ ?_
 ·exact ⟨0, by simp, by omega, by simp, rfl, rfl⟩
 ·rintro n e H ⟨k, rfl, hk, ht, rfl, rfl⟩
  by_cases hkl : k < l.length
  ·have hkm : k < m.length := by omega
   have g1 : l[k]? = some l[k] := by simp [hkl]
   have g2 : m[k]? = some m[k] := by simp [hkm]
   by_cases he : l[k] = m[k]
   ·have hx := Apv ht hkl hkm he
    have he' : l[k].toNat = m[k].toNat := by rw [he]
    simp -dsimp (disch := first | assumption | omega) only [↓Ai, Ae, Ag, Ah, eq_self, Nat.reduceEqDiff, ↓reduceIte, reduceCtorEq, ↓Tc, g1, g2]
    exact Ce (l.length - (k + 1)) (by omega) (by simp) ⟨k + 1, rfl, by omega, hx, rfl, rfl⟩
   ·have he' := AEe he
    have hne : l ≠ m := fun e => he (by subst e; rfl)
    simp -dsimp (disch := first | assumption | omega) only [↓Ai, Ae, Ag, Ah, eq_self, Nat.reduceEqDiff, ↓reduceIte, reduceCtorEq, ↓Tc, g1, g2, decide_eq_false hne]
  ·have hke : k = l.length := by omega
   have heq : l = m := by rw [hke, List.take_length, hlen, List.take_length] at ht; exact ht
   simp -dsimp (disch := first | assumption | omega) only [↓Ai, Ae, Ag, Ah, eq_self, Nat.reduceEqDiff, ↓reduceIte, reduceCtorEq, ↓Tc, decide_eq_true heq]
theorem ACE (l : List UInt8) (hl : l.length ≤ 1000000) {H : List Ob} {K : TV → List Ob → Prop} (hk : K (.os 1 H.length 0 [] 0 l.length (l.length + 2)) (H ++ [.obj 0 (.arr (l.length + 2) 1 ((l ++ [71, 72]).map by8))])) :
  Aw Tryz.prog 37 [slB l] H K := by
 refine Ako (by simp) ?_
 have c2 : ((l.length : Int) + 2) = ((l.length + 2 : Nat) : Int) := by omega
 have b1 : ((1 : Nat) : Int) * ((l.length + 2 : Nat) : Int) ≤ 281474976710656 := by omega
 have b2 : ((l.length + 2 : Nat) : Int) ≤ 9223372036854775807 := by omega
 have z : ∀ n : Nat, List.replicate n (TV.val (.int .u8 ((0 : Nat) : Int))) = (List.replicate n (0 : UInt8)).map by8 := fun n => by rw [List.map_replicate]; rfl
 have e1 : List.map by8 l ++ List.drop (min l.length (l.length + 2)) (List.replicate (l.length + 2) (TV.val (.int .u8 ((0 : Nat) : Int)))) = (l ++ [0, 0]).map by8 := by
  rw [z, ← List.map_drop, ← List.map_append, Nat.min_eq_left (by omega), List.drop_replicate, show l.length + 2 - l.length = 2 from by omega]; rfl
 have e2 : ((l ++ [0, 0]).map by8).set l.length (.val (.int .u8 ((71 : Nat) : Int))) = (l ++ [71, 0]).map by8 := by
  rw [List.map_append, List.set_append_right _ _ (by simp), List.map_append]; simp
 have e3 : ((l ++ [71, 0]).map by8).set (l.length + 1) (.val (.int .u8 ((72 : Nat) : Int))) = (l ++ [71, 72]).map by8 := by
  rw [List.map_append, List.set_append_right _ _ (by simp), List.map_append]; simp
 have g1 : ((l ++ [0, 0]).map by8)[l.length]? = some (by8 0) := by simp
 have g2 : ((l ++ [71, 0]).map by8)[l.length + 1]? = some (by8 0) := by simp
 simp -dsimp (disch := first | assumption | omega | (simp only [Ad]; done) | (simp only [Ad]; omega)) only [↓Ai, Ae, Ag, Ah, eq_self, Nat.reduceEqDiff, ↓reduceIte, reduceCtorEq, Nat.reduceLeDiff, ↓Als, e1, e2, e3, g1, g2]
 exact hk
abbrev x85 (l : List UInt8) : List UInt8 := l.map (· ^^^ 85)
theorem As4 {c : List UInt8} {k : Nat} (hk : k < c.length) : (x85 (c.take k) ++ c.drop k).set k (c[k] ^^^ 85) = x85 (c.take (k + 1)) ++ c.drop (k + 1) := by
 have h1 : (x85 (c.take k)).length = k := by simp; omega
 rw [List.set_append_right _ _ (by omega), h1, Nat.sub_self, List.drop_eq_getElem_cons hk, List.set_cons_zero, List.take_succ_eq_append_getElem hk, x85, x85, List.map_append, List.append_assoc]
 rfl
theorem AmR (l : List UInt8) (hl : l.length ≤ 1000000) {H : List Ob} {id ver : Nat} {K : TV → List Ob → Prop} (ho : H[id]? = some (.obj ver (.arr (l.length + 2) 1 ((l ++ [71, 72]).map by8))))
  (hk : K (tb true) (H.set id (.obj ver (.arr (l.length + 2) 1 ((x85 (l ++ [71, 72])).map by8))))) :
  Aw Tryz.prog 39 [.os 1 id ver [] 0 l.length (l.length + 2), slB l] H K := by
 refine Aj5 (by simp) ?_
 have hid : id < H.length := (List.getElem?_eq_some_iff.1 ho).1
 have c2 : ((l.length : Int) + 2) = ((l.length + 2 : Nat) : Int) := by omega
 have g1 : (l ++ [71, 72])[l.length]? = some 71 := by simp
 have g2 : (l ++ [71, 72])[l.length + 1]? = some 72 := by simp
 have hL : (l ++ [71, 72]).length = l.length + 2 := by simp
 have ht : (l ++ [71, 72]).take l.length = l := by simp
 generalize hc : l ++ [71, 72] = c at *
 simp -dsimp (disch := first | assumption | omega | (simp only [Ad]; done) | (simp only [Ad]; omega)) only [↓Ai, Ae, Ag, Ah, eq_self, Nat.reduceEqDiff, ↓reduceIte, Nat.reduceAdd, reduceCtorEq, Nat.reduceLeDiff, ↓TZ]
 refine (same l l (by omega) (by omega)).lends (args' := [slB l, slB l]) (by simp -dsimp (disch := first | assumption | omega) only [Ag, Ah, eq_self, ↓reduceIte, ho, hL, ht]) ?_
 rintro x rfl
 refine ⟨rfl, ?_⟩
 rw [show tb (decide (l = l)) = tb true from by simp]
 simp -dsimp (disch := first | assumption | omega | (simp only [Ad]; done) | (simp only [Ad]; omega)) only [↓Ai, Ae, Ag, Ah, eq_self, Nat.reduceEqDiff, UInt8.reduceToNat, ↓reduceIte, ↓TZ, ho, g1, g2]
 ·refine E9 (fun n e H' => ∃ (k : Nat), n = c.length - k ∧ k ≤ c.length ∧ e = [(6, .os 1 id ver [] 0 (l.length + 2) (l.length + 2)), (7, tb true), (8, i64 (k : Int))] ∧ H' = H.set id (.obj ver (.arr (l.length + 2) 1 ((x85 (c.take k) ++ c.drop k).map by8)))) c.length ?_ ?_
  ·refine ⟨0, by simp, by omega, rfl, ?_⟩
   have e0 : x85 (c.take 0) ++ c.drop 0 = c := by simp
   obtain ⟨h1, h2⟩ := List.getElem?_eq_some_iff.1 ho
   rw [e0, ← h2, List.set_getElem_self]
  ·rintro n e H' ⟨k, rfl, hkl, rfl, rfl⟩
   have gs : ∀ o, (H.set id o)[id]? = some o := fun o => by simp [hid]
   by_cases hkc : k < c.length
   ·have hk2 : k < l.length + 2 := by omega
    have hlen : (x85 (c.take k)).length = k := by simp; omega
    have g3 : (x85 (c.take k) ++ c.drop k)[k]? = some c[k] := by
     rw [List.getElem?_append_right (by omega), hlen, Nat.sub_self, List.getElem?_drop]; simp [hkc]
    have g4 := As4 hkc
    have h85 : ∀ (t : TypeId) (x : UInt8), ET t .xor (.int .u8 (x.toNat : Int)) (.int .u8 ((85 : Nat) : Int)) = some (.int .u8 ((x ^^^ 85).toNat : Int)) := fun t x => Av5 (t := t) (x := x) (y := 85)
    generalize x85 (c.take k) ++ c.drop k = r at *
    generalize c[k] = y at *
    simp -dsimp (disch := first | assumption | omega | (simp only [Ad]; done) | (simp only [Ad]; omega)) only [↓Ai, Ae, Ag, Ah, eq_self, Nat.reduceEqDiff, ↓reduceIte, ↓TZ, gs, g3, g4, h85, AuP]
    exact Ce (c.length - (k + 1)) (by omega) (by simp) ⟨k + 1, rfl, by omega, rfl, rfl⟩
   ·have hke : k = c.length := by omega
    have hk2 : ¬ k < l.length + 2 := by omega
    have e0 : x85 (c.take k) ++ c.drop k = x85 c := by rw [hke, List.take_length, List.drop_length, List.append_nil]
    have e1 : List.drop k c = [] := by rw [hke, List.drop_length]
    simp -dsimp (disch := first | assumption | omega | (simp only [Ad]; done) | (simp only [Ad]; omega)) only [↓Ai, Ae, Ag, Ah, eq_self, Nat.reduceEqDiff, ↓reduceIte, ↓TZ]
    rw [e1, List.append_nil]
    exact hk
end Go.Proofs.YtliaddbbmnfioaaGreatDoor


namespace Go.Proofs.YtliaddbbmnfioaaGreatDoor
open Go.RowKit
variable [Bf]
set_option linter.unusedSectionVars false
set_option linter.unusedVariables false

variable {P : Program}
def Amg (P : Program) (f : FuncId) (args : List TV) (R : TV → Prop) (RP : Value → Prop) : Prop :=
 ∀ (β : Nat → Nat → Option (Nat × Nat)) (F : Nat → Prop) (w : World) (vs : List Value), ((∀ b, F b → b < w.heap.size) ∧ IZ F w) → BU ⟨β, [], F⟩ w args vs →
  Calls P f vs.toArray w fun e w' => ∃ F', YU F w F' w' ∧ ((∃ v x, e = .returned v ∧ R x ∧ Rep ⟨β, [], fun b => F' b ∧ w.heap.size ≤ b⟩ w' x v) ∨ ∃ u, e = .panicked [{ v := u, recovered := false }] ∧ RP u)
theorem Amg.mono {f : FuncId} {args : List TV} {R R' : TV → Prop} {RP RP' : Value → Prop} (h : Amg P f args R RP) (hr : ∀ x, R x → R' x) (hp : ∀ u, RP u → RP' u) : Amg P f args R' RP' :=
 fun β F w vs hF hv => (h β F w vs hF hv).mono fun _ _ ⟨F', h1, h2⟩ => ⟨F', h1, h2.imp (fun ⟨v, x, k1, k2, k3⟩ => ⟨v, x, k1, hr _ k2, k3⟩) fun ⟨u, k1, k2⟩ => ⟨u, k1, hp _ k2⟩⟩

def Ay7 (x x' : TV) : Prop := ∀ (c : Ctx) (w : World) (v : Value), Apk c w x v → Apk c w x' v
inductive AlA : List TV → List TV → Prop
 | nil : AlA [] []
 | cons {x x' : TV} {xs xs' : List TV} : Ay7 x x' → AlA xs xs' → AlA (x :: xs) (x' :: xs')
theorem AlA.rep {c : Ctx} {w : World} {xs xs' : List TV} (h : AlA xs xs') : ∀ {vs : List Value}, BU c w xs vs → BU c w xs' vs := by
 induction h with
 | nil => exact fun h => h
 | cons h1 h2 ih =>
  intro vs hv
  rw [BU.cons] at hv ⊢
  obtain ⟨u, us, rfl, k1, k2⟩ := hv
  exact ⟨u, us, rfl, h1 _ _ _ k1, ih k2⟩
theorem AnL {k : Nat} : Ay7 (.val (.slice none 0 0)) (.sl k []) := fun c w v h => by
 have hv : v = .slice none 0 0 := by
  have h' : Rep c w (.val (.slice none 0 0)) v := .inl h
  rw [Rep.val] at h'; exact h'
 subst hv
 refine .inr (.inr ⟨[.slice none 0 0], ?_, rfl⟩)
 rw [Am]
 exact ⟨by simp, .inl ⟨rfl, none, 0, rfl, by omega⟩⟩
theorem Bj.argL {f : FuncId} {args args' : List TV} {R : TV → Prop} (h : Bj P f args' R) (hc : AlA args args') : Bj P f args R :=
 fun β F w vs hF hv => h β F w vs hF (hc.rep hv)
theorem AlA.tup {xs xs' : List TV} (h : AlA xs xs') : ∀ (c : Ctx) (w : World) (v : Value), Rep c w (.tup xs) v → Rep c w (.tup xs') v := by
 rintro c w v ((h1 | h1 | ⟨us, h1, _⟩) | ⟨ys, vs, h1, h2, h3⟩)
 ·cases h1
 ·cases h1
 ·rw [Am] at h1; exact h1.elim
 ·cases h1
  exact .inr ⟨xs', vs, rfl, h2, h.rep h3⟩
end Go.Proofs.YtliaddbbmnfioaaGreatDoor


namespace Go.Proofs.YtliaddbbmnfioaaGreatDoor
open Go.RowKit
variable [Bf]
set_option linter.unusedSectionVars false
set_option linter.unusedVariables false
set_option linter.unusedSimpArgs false

set_option maxRecDepth 100000 in
theorem AiN {t : TypeId} (ht : Tryz.prog.underlying t = some (.array 20 5)) (hn : Tryz.prog.cellsOf t = 20) : Pg Tryz.prog t (fun l : List UInt8 => JB l) (fun l => l.length = 20) :=
 RS (AlI ht (k := 1) (by kernel_rfl) (by rw [hn]) (Alb Tryz.underlying5) (fun _ _ => rfl)) fun l h => ⟨l, rfl, h.1⟩
def Apr (p : Per) : Prop := OA p ∧ p.name.length ≤ 140737488351232 ∧ p.mail.length ≤ 140737488351232
set_option maxRecDepth 100000 in
theorem AiI : Pg Tryz.prog 26 (fun p : Per => Iw p) Apr := by
 refine RS (Aez Tryz.underlying26 (by kernel_rfl) (Ff (off := 0) (n := 1) rfl (by kernel_rfl) (YB Tryz.underlying9) (Ff (off := 1) (n := 1) rfl (by kernel_rfl) (YB Tryz.underlying9)
  (Ff (off := 2) (n := 1) rfl (by kernel_rfl) (Ajk Tryz.underlying2) (Ff (off := 3) (n := 1) rfl (by kernel_rfl) (Ajk Tryz.underlying3) AhL))))) fun x h => ?_
 obtain ⟨n, m, t, z, u⟩ := x
 exact ⟨⟨n, m, t, z⟩, rfl, ⟨h.2.2.1, h.2.2.2.1⟩, h.1, h.2.1⟩
def AA1 (c : Akq) : Prop := c.tree.length = 20 ∧ (∀ x ∈ c.pars, x.length = 20) ∧ Apr c.author ∧ Apr c.comm ∧ c.msg.length ≤ 140737488351232
set_option maxRecDepth 100000 in
theorem AoG : Pg Tryz.prog 48 (fun c : Akq => cmT c) AA1 := by
 refine RS (Aez Tryz.underlying48 (by kernel_rfl) (Ff (off := 0) (n := 20) rfl (by kernel_rfl) (AiN Tryz.underlying23 (by kernel_rfl)) (Ff (off := 20) (n := 1) rfl (by kernel_rfl)
  (Agb (k := 20) (B := Tryz.prog.bytesOf 23) Tryz.underlying46 (by kernel_rfl) rfl (AiN Tryz.underlying23 (by kernel_rfl)) (fun a _ => rfl) (by decide))
  (Ff (off := 21) (n := 4) rfl (by kernel_rfl) AiI (Ff (off := 25) (n := 4) rfl (by kernel_rfl) AiI (Ff (off := 29) (n := 1) rfl (by kernel_rfl) (YB Tryz.underlying9) AhL)))))) fun x h => ?_
 obtain ⟨i, ps, a, c, m, u⟩ := x
 exact ⟨⟨i, ps, a, c, m⟩, rfl, h.1, h.2.1.1, h.2.2.1, h.2.2.2.1, h.2.2.2.2.1⟩
variable [Dz] [Ak] [Au] [AO] [Gt]
theorem AnX (p : Per) : Bj Tryz.prog 9 [Iw p] (fun r => r = Iw p) := by
 refine Aw.toPureV (AiC (by simp) ?_)
 simp -dsimp (disch := first | assumption | omega | (simp only [Ad]; done) | (simp only [Ad]; omega)) only [↓Ai, Ae, Ag, Ah, eq_self, Nat.reduceEqDiff, ↓reduceIte, Nat.reduceAdd, ↓AjA]
theorem Aqr (p : Per) : Bj Tryz.prog 41 [Iw p, Iw p] (fun r => r = tb true) := by
 refine Aw.toPureV (Afb (by simp) ?_)
 simp -dsimp (disch := first | assumption | omega | (simp only [Ad]; done) | (simp only [Ad]; omega)) only [↓Ai, Ae, Ag, Ah, eq_self, Nat.reduceEqDiff, ↓reduceIte, Nat.reduceAdd, reduceCtorEq, ↓AfP]
abbrev Bqq (c : Akq) (v i cp : Nat) : TV := .agg [JB c.tree, .os 20 5 v [] 0 i cp, Iw c.author, Iw c.comm, ts c.msg]
theorem Aqn (c : Akq) (h20 : c.tree.length = 20) (hps : ∀ x ∈ c.pars, x.length = 20) (hpl : c.pars.length ≤ 1000000) : Bj Tryz.prog 14 [cmT c] (fun r => r = cmT c) := by
 refine Aw.toPureV (Aiu (by simp) ?_)
 obtain ⟨tr, ps, au, co, m⟩ := c
 simp only at *
 have h20' : (tr.map by8).length = 20 := by rw [List.length_map]; exact h20
 simp -dsimp (disch := first | assumption | omega | (simp only [Ad]; done) | (simp only [Ad]; omega)) only [↓Ai, Ae, Ag, Ah, eq_self, Nat.reduceEqDiff, ↓reduceIte, Nat.reduceAdd, ↓AhD, ↓Aeg]
 refine (AnX au).calls rfl fun r hr => ?_
 subst hr
 simp -dsimp (disch := first | assumption | omega | (simp only [Ad]; done) | (simp only [Ad]; omega)) only [↓Ai, Ae, Ag, Ah, eq_self, Nat.reduceEqDiff, ↓reduceIte, Nat.reduceAdd, ↓Aex]
 refine (AnX co).calls rfl fun r hr => ?_
 subst hr
 simp -dsimp (disch := first | assumption | omega | (simp only [Ad]; done) | (simp only [Ad]; omega)) only [↓Ai, Ae, Ag, Ah, eq_self, Nat.reduceEqDiff, ↓reduceIte, Nat.reduceAdd, ↓AeU, ↓Aec, ↓Ael]
 refine E9 (fun q e H => ∃ (i v cp : Nat), q = ps.length - i ∧ i ≤ ps.length ∧ H[0]? = some (.obj 0 (cmT ⟨tr, ps, au, co, m⟩)) ∧ H[1]? = some (.obj 0 ApG) ∧ H[4]? = some (.obj 0 (Bqq ⟨tr, ps, au, co, m⟩ v i cp)) ∧ H[5]? = some (.obj v (.arr i 20 ((ps.take i).map JB))) ∧
  e = [(1, .op 0 0 []), (2, .op 1 0 []), (5, .op 4 0 []), (6, i64 (i : Int))]) ps.length ?_ ?_
 ·exact ⟨0, 0, 0, rfl, by omega, rfl, rfl, rfl, rfl, rfl⟩
 ·rintro q e H ⟨i, v, cp, rfl, hi, hH0, hH1, hH4, hH5, rfl⟩
  have hHl : 5 < H.length := (List.getElem?_eq_some_iff.1 hH5).1
  have hA : ∀ (k : Nat) (T : List Ob), k < H.length → (H ++ T)[k]? = H[k]? := fun k T hk => List.getElem?_append_left hk
  by_cases hil : i < ps.length
  ·have hg : ps[i]? = some ps[i] := List.getElem?_eq_getElem hil
   have hx20 := hps _ (List.mem_of_getElem? hg)
   have hts := List.take_succ_eq_append_getElem hil
   have hsn : (ps.take (i + 1)).map JB = (ps.take i).map JB ++ [JB ps[i]] := by rw [hts, List.map_append]; rfl
   have hwl : ((ps.take i).map JB).length = i := by rw [List.length_map, List.length_take, Nat.min_eq_left hi]
   have hwt : ((ps.take i).map JB).take i = (ps.take i).map JB := List.take_of_length_le (by omega)
   have hp20 : (ps[i].map by8).length = 20 := by rw [List.length_map]; exact hx20
   generalize ps[i] = p at *
   simp -dsimp (disch := first | assumption | omega | (simp only [Ad]; done) | (simp only [Ad]; omega)) only [↓Ai, Ae, Ag, Ah, eq_self, Nat.reduceEqDiff, ↓reduceIte, Nat.reduceAdd, Nat.reduceLeDiff, hg, hH0, hH4, hH5, hA, hwl, Aq9, ↓TG, ↓Aek]
   refine Ce (ps.length - (i + 1)) (by omega) (by simp; omega) ⟨i + 1, v + 1, i + 1, rfl, by omega, ?_, ?_, ?_, ?_, rfl⟩
   ·rw [List.getElem?_append_left (by simp; omega), List.getElem?_set_ne (by omega), List.getElem?_set_ne (by omega)]; exact hH0
   ·rw [List.getElem?_append_left (by simp; omega), List.getElem?_set_ne (by omega), List.getElem?_set_ne (by omega)]; exact hH1
   ·rw [List.getElem?_append_left (by simp; omega), List.getElem?_set_self (by simp; omega)]
   ·rw [List.getElem?_append_left (by simp; omega), List.getElem?_set_ne (by omega), List.getElem?_set_self (by omega), hsn]
  ·have hi2 : i = ps.length := by omega
   have htt : ps.take i = ps := List.take_of_length_le (by omega)
   have hwl : (ps.map JB).length = i := by rw [List.length_map, hi2]
   have hwt : (ps.map JB).take i = ps.map JB := List.take_of_length_le (by omega)
   rw [htt] at hH5
   simp -dsimp (disch := first | assumption | omega | (simp only [Ad]; done) | (simp only [Ad]; omega)) only [↓Ai, Ae, Ag, Ah, eq_self, Nat.reduceEqDiff, ↓reduceIte, Nat.reduceAdd, hH0, hH1, hH4, hH5, hwl, List.getElem?_set_self, ↓TG, ↓Ae5, ↓AhN]
theorem AxH {c : Akq} (h : AgR c) : (cmB c).length ≤ 4000 := by
 obtain ⟨tr, ps, au, co, m⟩ := c
 obtain ⟨h20, hps, h8, _, hpa, hpc, hm⟩ := h
 simp only at *
 have hla := PO hpa
 have hlc := PO hpc
 have hm2 : m.length ≤ 2000 := by unfold XV at hm; simp at hm; exact hm.1
 have hcl := Aha (tr := tr) (ps := ps) h20 hps
 have hce := Ajv (tr := tr) (ps := ps) (a := Dv au) (d := Dv co) (m := m)
 show (AvP (BX tr) (ps.map BX) (Dv au) (Dv co) m).length ≤ 4000
 rw [← hce]
 simp only [List.length_append, List.length_cons, List.length_nil]
 omega
theorem Agh (b : List UInt8) (hb : b.length ≤ 500000) : Bj Tryz.prog 16 [slB b] (fun r => r = tb true) := by
 refine Aw.toPureV (AdW (by simp) ?_)
 have htk2 : ((b ++ [71, 72]).map by8).take b.length = b.map by8 := by rw [List.map_append, List.take_append_of_le_length (by simp), List.take_of_length_le (by simp)]
 have hrd := Alu b (by omega)
 have hun : ∀ l : List UInt8, (l.map by8).map Ad1 = l := fun l => Ajm
 simp -dsimp (disch := first | assumption | omega | (simp only [Ad]; done) | (simp only [Ad]; omega)) only [↓Ai, Ae, Ag, Ah, eq_self, ↓reduceIte, reduceCtorEq, ↓AbI, ↓Vs]
 refine Afv (ACE b (by omega) ?_)
 simp -dsimp (disch := first | assumption | omega | (simp only [Ad]; done) | (simp only [Ad]; omega)) only [↓Ai, Ae, Ag, Ah, eq_self, ↓reduceIte, reduceCtorEq, ↓Xb]
 refine (AmO b (by omega)).lends (args' := [slB b]) (by simp -dsimp (disch := first | assumption | omega | (simp only [Ad]; done) | (simp only [Ad]; omega)) only [Ag, Ah, eq_self, ↓reduceIte, Nat.reduceAdd, htk2]) fun r hr => ?_
 by_cases h : ∃ c, AgR c ∧ cmB c = b
 ·obtain ⟨c, hc, e⟩ := h
  rw [hr.1 c hc e]
  obtain ⟨tr, ps, au, co, m⟩ := c
  have h20 : (tr.map by8).length = 20 := by rw [List.length_map]; exact hc.1
  have hps := hc.2.1
  have hp8 := hc.2.2.1
  simp only at hps hp8
  have hrr := hrd.mono fun r hr => hr.1 _ hc e
  clear hr hrd hc e
  simp -dsimp (disch := first | assumption | omega | (simp only [Ad]; done) | (simp only [Ad]; omega)) only [↓Ai, Ae, Ag, Ah, eq_self, Nat.reduceEqDiff, ↓reduceIte, Nat.reduceAdd, reduceCtorEq, ↓Jr]
  refine AzO.calls rfl fun r hr => ?_
  subst hr
  simp -dsimp (disch := first | assumption | omega | (simp only [Ad]; done) | (simp only [Ad]; omega)) only [↓Ai, Ae, Ag, Ah, eq_self, Nat.reduceEqDiff, ↓reduceIte, reduceCtorEq, ↓Jn]
  refine Afv (AmR b (by omega) rfl ?_)
  simp -dsimp (disch := first | assumption | omega | (simp only [Ad]; done) | (simp only [Ad]; omega)) only [↓Ai, Ae, Ag, Ah, eq_self, Nat.reduceEqDiff, ↓reduceIte, reduceCtorEq, ↓Jt]
  refine hrr.calls rfl fun r hr => ?_
  subst hr
  simp -dsimp (disch := first | assumption | omega | (simp only [Ad]; done) | (simp only [Ad]; omega)) only [↓Ai, Ae, Ag, Ah, eq_self, Nat.reduceEqDiff, ↓reduceIte, Nat.reduceAdd, reduceCtorEq, ↓Jj, ↓JZ, ↓VW]
  refine (Aqr au).calls rfl fun r hr => ?_
  subst hr
  simp -dsimp (disch := first | assumption | omega | (simp only [Ad]; done) | (simp only [Ad]; omega)) only [↓Ai, Ae, Ag, Ah, eq_self, Nat.reduceEqDiff, ↓reduceIte, Nat.reduceAdd, ↓YC]
  refine (Aqr co).calls rfl fun r hr => ?_
  subst hr
  simp -dsimp (disch := first | assumption | omega | (simp only [Ad]; done) | (simp only [Ad]; omega)) only [↓Ai, Ae, Ag, Ah, eq_self, Nat.reduceEqDiff, ↓reduceIte, Nat.reduceAdd, beq_self_eq_true, ↓Ye, ↓XX, ↓Yy]
  refine E9 (fun q e H => ∃ i : Nat, q = ps.length - i ∧ i ≤ ps.length ∧ H = [.obj 0 (.arr (b.length + 2) 1 ((x85 (b ++ [71, 72])).map by8)), .obj 0 (cmT ⟨tr, ps, au, co, m⟩), .obj 0 (cmT ⟨tr, ps, au, co, m⟩)] ∧
   e = [(4, .op 1 0 []), (8, .op 2 0 []), (12, i64 (i : Int))]) ps.length ?_ ?_
  ·exact ⟨0, rfl, by omega, rfl, rfl⟩
  ·rintro q e H ⟨i, rfl, hi, rfl, rfl⟩
   by_cases hil : i < ps.length
   ·have hg : ps[i]? = some ps[i] := List.getElem?_eq_getElem hil
    have hx20 := hps _ (List.mem_of_getElem? hg)
    have hp20 : (ps[i].map by8).length = 20 := by rw [List.length_map]; exact hx20
    generalize ps[i] = p at *
    simp -dsimp (disch := first | assumption | omega | (simp only [Ad]; done) | (simp only [Ad]; omega)) only [↓Ai, Ae, Ag, Ah, eq_self, Nat.reduceEqDiff, ↓reduceIte, Nat.reduceAdd, hg, beq_self_eq_true, ↓Kv, ↓X6]
    exact Ce (ps.length - (i + 1)) (by omega) (by simp) ⟨i + 1, rfl, by omega, rfl, rfl⟩
   ·simp -dsimp (disch := first | assumption | omega | (simp only [Ad]; done) | (simp only [Ad]; omega)) only [↓Ai, Ae, Ag, Ah, eq_self, Nat.reduceEqDiff, ↓reduceIte, Nat.reduceAdd, ↓Kv, ↓XZ, ↓Q5]
 ·have hno : ∀ c, AgR c → cmB c ≠ b := fun c hc e => h ⟨c, hc, e⟩
  rw [hr.2 hno]
  have h20 : ((zer 20).map by8).length = 20 := rfl
  simp -dsimp (disch := first | assumption | omega | (simp only [Ad]; done) | (simp only [Ad]; omega)) only [↓Ai, Ae, Ag, Ah, eq_self, Nat.reduceEqDiff, ↓reduceIte, Nat.reduceAdd, reduceCtorEq, ↓Jr]
  refine AEW.calls rfl fun r hr => ?_
  subst hr
  simp -dsimp (disch := first | assumption | omega | (simp only [Ad]; done) | (simp only [Ad]; omega)) only [↓Ai, Ae, Ag, Ah, eq_self, Nat.reduceEqDiff, ↓reduceIte, reduceCtorEq, ↓Jn]
  refine Afv (AmR b (by omega) rfl ?_)
  simp -dsimp (disch := first | assumption | omega | (simp only [Ad]; done) | (simp only [Ad]; omega)) only [↓Ai, Ae, Ag, Ah, eq_self, Nat.reduceEqDiff, ↓reduceIte, reduceCtorEq, ↓Jt]
  refine hrd.calls rfl fun r hr => ?_
  obtain ⟨x, Y, q1, q2, m, hx, hY, hq⟩ := hr.2 hno
  rw [hq]
  have hx20 : (x.map by8).length = 20 := by rw [List.length_map]; exact hx
  have hw : AC Y = 1 ∧ lays Y = true ∧ GU Y = true ∧ Afd Y = false ∧ DW Y = false := by
   rcases hY with rfl | ⟨ps, rfl⟩ <;> exact ⟨rfl, rfl, rfl, rfl, rfl⟩
  obtain ⟨w1, w2, w3, w4, w5⟩ := hw
  clear hY hq hr
  simp -dsimp (disch := first | assumption | omega | (simp only [Ad]; done) | (simp only [Ad]; omega)) only [↓Ai, Ae, Ag, Ah, eq_self, Nat.reduceEqDiff, ↓reduceIte, Nat.reduceAdd, reduceCtorEq, w1, ↓Jj, ↓JZ, ↓YN]
  change Ag9 (GOp.eqA 20 false) _ [JB (zer 20), JB (zer 20)] _
  simp -dsimp (disch := first | assumption | omega | (simp only [Ad]; done) | (simp only [Ad]; omega)) only [↓Ai, Ae, Ag, Ah, eq_self, Nat.reduceEqDiff, ↓reduceIte, beq_self_eq_true, ↓Q5]
theorem Ao6 (c : Akq) (b : List UInt8) (hc : AA1 c) (hb : b.length ≤ 140737488351232) : Bj Tryz.prog 4 [cmT c, slB b] (fun r => r = tb true) := by
 refine Aw.toPureV (Aav (by simp) ?_)
 obtain ⟨tr, ps, ⟨an, am, at', az⟩, ⟨cn, cm, ct, cz⟩, m⟩ := c
 obtain ⟨h20, hps, ⟨haf, han, ham⟩, ⟨hcf, hcn, hcm⟩, hm⟩ := hc
 simp only at *
 have h20' : (tr.map by8).length = 20 := by rw [List.length_map]; exact h20
 simp -dsimp (disch := first | assumption | omega | (simp only [Ad]; done) | (simp only [Ad]; omega)) only [↓Ai, Ae, Ag, Ah, eq_self, Nat.reduceEqDiff, ↓reduceIte, Nat.reduceAdd, reduceCtorEq, AL, ↓ZG, ↓Tn]
 by_cases hl : m.length + b.length + an.length + cn.length ≤ 20000
 case neg => simp -dsimp (disch := first | assumption | omega | (simp only [Ad]; done) | (simp only [Ad]; omega)) only [↓Ai, Ae, Ag, Ah, eq_self, Nat.reduceEqDiff, ↓reduceIte, ↓Em]
 by_cases hp : ps.length ≤ 100
 case neg => simp -dsimp (disch := first | assumption | omega | (simp only [Ad]; done) | (simp only [Ad]; omega)) only [↓Ai, Ae, Ag, Ah, eq_self, Nat.reduceEqDiff, ↓reduceIte, Nat.reduceAdd, ↓Em]
 have hfit : An9 ⟨tr, ps, ⟨an, am, at', az⟩, ⟨cn, cm, ct, cz⟩, m⟩ := ⟨h20, hps, by show ps.length ≤ 1000000; omega, haf, hcf⟩
 have hwt := Ale _ hfit
 have hrw := Aeh _ hfit
 have hth := Aqn ⟨tr, ps, ⟨an, am, at', az⟩, ⟨cn, cm, ct, cz⟩, m⟩ h20 hps (by show ps.length ≤ 1000000; omega)
 have hrb := Agh b (by omega)
 simp -dsimp (disch := first | assumption | omega | (simp only [Ad]; done) | (simp only [Ad]; omega)) only [↓Ai, Ae, Ag, Ah, eq_self, Nat.reduceEqDiff, ↓reduceIte, Nat.reduceAdd, ↓UI]
 refine hwt.pure.calls rfl fun r hr => ?_
 by_cases hok : AgR ⟨tr, ps, ⟨an, am, at', az⟩, ⟨cn, cm, ct, cz⟩, m⟩
 ·rw [hr.1 hok]
  have hxl := AxH hok
  have hrx := Agh (cmB ⟨tr, ps, ⟨an, am, at', az⟩, ⟨cn, cm, ct, cz⟩, m⟩) (by omega)
  generalize hX : cmB ⟨tr, ps, ⟨an, am, at', az⟩, ⟨cn, cm, ct, cz⟩, m⟩ = X at *
  simp -dsimp (disch := first | assumption | omega | (simp only [Ad]; done) | (simp only [Ad]; omega)) only [↓Ai, Ae, Ag, Ah, eq_self, Nat.reduceEqDiff, ↓reduceIte, ↓IC]
  refine AzO.calls rfl fun r hr => ?_
  subst hr
  simp -dsimp (disch := first | assumption | omega | (simp only [Ad]; done) | (simp only [Ad]; omega)) only [↓Ai, Ae, Ag, Ah, eq_self, Nat.reduceEqDiff, ↓reduceIte, Nat.reduceAdd, ↓IU]
  refine hth.calls rfl fun r hr => ?_
  subst hr
  simp -dsimp (disch := first | assumption | omega | (simp only [Ad]; done) | (simp only [Ad]; omega)) only [↓Ai, Ae, Ag, Ah, eq_self, Nat.reduceEqDiff, ↓reduceIte, Nat.reduceAdd, ↓II]
  refine hrw.pure.calls rfl fun r hr => ?_
  rw [hr.1 hok, hX]
  simp -dsimp (disch := first | assumption | omega | (simp only [Ad]; done) | (simp only [Ad]; omega)) only [↓Ai, Ae, Ag, Ah, eq_self, Nat.reduceEqDiff, ↓reduceIte, ↓Jb]
  refine (same X X (by omega) (by omega)).calls rfl fun r hr => ?_
  subst hr
  simp -dsimp (disch := first | assumption | omega | (simp only [Ad]; done) | (simp only [Ad]; omega)) only [↓Ai, Ae, Ag, Ah, eq_self, Nat.reduceEqDiff, ↓reduceIte, ↓I4, ↓I7]
  refine hrb.calls rfl fun r hr => ?_
  subst hr
  simp -dsimp (disch := first | assumption | omega | (simp only [Ad]; done) | (simp only [Ad]; omega)) only [↓Ai, Ae, Ag, Ah, eq_self, Nat.reduceEqDiff, ↓reduceIte, ↓IJ]
  refine hrx.calls rfl fun r hr => ?_
  subst hr
  simp -dsimp (disch := first | assumption | omega | (simp only [Ad]; done) | (simp only [Ad]; omega)) only [↓Ai, Ae, Ag, Ah, eq_self, Nat.reduceEqDiff, ↓reduceIte, ↓Em]
 ·rw [hr.2 hok]
  simp -dsimp (disch := first | assumption | omega | (simp only [Ad]; done) | (simp only [Ad]; omega)) only [↓Ai, Ae, Ag, Ah, eq_self, Nat.reduceEqDiff, ↓reduceIte, ↓IC]
  refine AEW.calls rfl fun r hr => ?_
  subst hr
  simp -dsimp (disch := first | assumption | omega | (simp only [Ad]; done) | (simp only [Ad]; omega)) only [↓Ai, Ae, Ag, Ah, eq_self, Nat.reduceEqDiff, ↓reduceIte, Nat.reduceAdd, ↓IU]
  refine hth.calls rfl fun r hr => ?_
  subst hr
  simp -dsimp (disch := first | assumption | omega | (simp only [Ad]; done) | (simp only [Ad]; omega)) only [↓Ai, Ae, Ag, Ah, eq_self, Nat.reduceEqDiff, ↓reduceIte, Nat.reduceAdd, ↓II]
  refine hrw.pure.calls rfl fun r hr => ?_
  rw [hr.2 hok]
  simp -dsimp (disch := first | assumption | omega | (simp only [Ad]; done) | (simp only [Ad]; omega)) only [↓Ai, Ae, Ag, Ah, eq_self, Nat.reduceEqDiff, ↓reduceIte, ↓Jb]
  refine ((same [] [] (by simp) (by simp)).argL (.cons AnL (.cons AnL .nil))).calls rfl fun r hr => ?_
  subst hr
  simp -dsimp (disch := first | assumption | omega | (simp only [Ad]; done) | (simp only [Ad]; omega)) only [↓Ai, Ae, Ag, Ah, eq_self, Nat.reduceEqDiff, ↓reduceIte, ↓I4, ↓I7]
  refine hrb.calls rfl fun r hr => ?_
  subst hr
  simp -dsimp (disch := first | assumption | omega | (simp only [Ad]; done) | (simp only [Ad]; omega)) only [↓Ai, Ae, Ag, Ah, eq_self, Nat.reduceEqDiff, ↓reduceIte, reduceCtorEq, ↓IJ, ↓Uw, ↓Em]
end Go.Proofs.YtliaddbbmnfioaaGreatDoor

