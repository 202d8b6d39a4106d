import Derived.Test.YtfgljddikcghhaaDoorVzPut
import Derived.Test.YtfgljddikcghhaaDoorCodeJ
namespace Go.Proofs.YtfgljddikcghhaaDoor
open Go.RowKit
variable [Globs]
set_option linter.unusedSectionVars false
set_option linter.unusedVariables false
set_option linter.unusedSimpArgs false

/-- The bits of bytes. -/
def allB (b : List UInt8) : List Bool := b.flatMap fun b => bitsN 8 b.toNat
section
omit [Globs]
theorem allB_len (b : List UInt8) : (allB b).length = 8 * b.length := by
 have := restB_len b 0 0
 simpa [restB, bitsN, allB] using this
theorem bitsN_at : ∀ (n v i : Nat), i < n → (bitsN n v)[i]? = some (v / 2 ^ i % 2 == 1)
 | n + 1, v, 0, _ => by simp [bitsN]
 | n + 1, v, i + 1, h => by rw [bitsN, List.getElem?_cons_succ, bitsN_at n (v / 2) i (by omega), Nat.div_div_eq_div_mul, Nat.pow_succ, Nat.mul_comm (2 ^ i) 2]
theorem allB_at : ∀ (b : List UInt8) (i : Nat) (c : UInt8), b[i / 8]? = some c → (allB b)[i]? = some (c.toNat / 2 ^ (i % 8) % 2 == 1)
 | [], i, c, h => by simp at h
 | x :: l, i, c, h => by
  unfold allB
  rw [List.flatMap_cons]
  by_cases hi : i < 8
  ·rw [List.getElem?_append_left (by rw [bitsN_len]; exact hi), bitsN_at 8 _ _ hi, Nat.mod_eq_of_lt hi]
   have : i / 8 = 0 := by omega
   rw [this] at h; simp at h; rw [h]
  ·rw [List.getElem?_append_right (by rw [bitsN_len]; omega), bitsN_len]
   have e : i / 8 = (i - 8) / 8 + 1 := by omega
   rw [e, List.getElem?_cons_succ] at h
   have := allB_at l (i - 8) c h
   rw [show (i - 8) % 8 = i % 8 by omega] at this
   exact this
theorem valN_app : ∀ (l : List Bool) (x : Bool), valN (l ++ [x]) = valN l + (if x then 1 else 0) * 2 ^ l.length
 | [], x => by simp [valN]
 | b :: l, x => by
  rw [List.cons_append, valN, valN, valN_app l x, List.length_cons, Nat.pow_succ]
  cases x <;> simp <;> omega
theorem valN_lt : ∀ (l : List Bool), valN l < 2 ^ l.length
 | [] => by simp [valN]
 | b :: l => by
  have := valN_lt l
  rw [valN, List.length_cons, Nat.pow_succ]
  cases b <;> simp <;> omega
end
theorem b_and1 {t : TypeId} {a : Nat} (h : a ≤ 9223372036854775807) : binV t .and (.int .i64 (a : Int)) (.int .i64 ((1 : Nat) : Int)) = some (.int .i64 ((a % 2 : Nat) : Int)) := by
 rw [b_and (by omega) (by omega) (by omega) (by omega), Int.toNat_natCast, Int.toNat_natCast, Nat.and_one_is_mod]
abbrev stm (inn : List UInt8) (at_ : Nat) (o : TV) (m f : Int) (err : Nat) : Ob := .obj 0 (.agg [slB inn, i64 (at_ : Int), o, i64 m, i64 f, i64 (err : Int)])
theorem failV {id e err at_ : Nat} {inn : List UInt8} {o : TV} {m f : Int} {H : List Ob} (hw : width o = 1) (h : H[id]? = some (stm inn at_ o m f err)) : VCalls Tryd.prog 35 [.op id 0 [], i64 (e : Int)] H (fun x H' => H' = H.set id (stm inn at_ o m f (if err = 0 then e else err))) := by
 have hl : id < H.length := (List.getElem?_eq_some_iff.1 h).1
 refine go_ref1_Stream_fail (by simp) ?_
 by_cases he : err = 0
 ·subst he
  rw [if_pos rfl]
  simp -dsimp (disch := first | assumption | omega | (simp only [vmLen]; done) | (simp only [vmLen]; omega)) only [↓vmPre, vmPost, vmWrd, vmDat, eq_self, forall_const, Nat.reduceLT, Nat.reduceEqDiff, Nat.reduceSub, Nat.reduceMul, Nat.reduceMod, Nat.reduceDiv, Nat.reducePow, UInt8.reduceToNat, Int.reduceEq, Int.reduceLT, Int.reduceLE, ↓reduceIte, Nat.reduceAdd, Int.reduceToNat, reduceCtorEq, Nat.reduceLeDiff, ↓u_ref1_Stream_fail, h, hw]
 ·rw [if_neg he]
  simp -dsimp (disch := first | assumption | omega | (simp only [vmLen]; done) | (simp only [vmLen]; omega)) only [↓vmPre, vmPost, vmWrd, vmDat, eq_self, forall_const, Nat.reduceLT, Nat.reduceEqDiff, Nat.reduceSub, Nat.reduceMul, Nat.reduceMod, Nat.reduceDiv, Nat.reducePow, UInt8.reduceToNat, Int.reduceEq, Int.reduceLT, Int.reduceLE, ↓reduceIte, Nat.reduceAdd, Int.reduceToNat, reduceCtorEq, Nat.reduceLeDiff, ↓u_ref1_Stream_fail, h, hw]
  exact (set_same h).symm
theorem sbitsV {id n err at_ : Nat} {inn : List UInt8} {o : TV} {m f : Int} {H : List Ob} (hw : width o = 1) (h : H[id]? = some (stm inn at_ o m f err)) (hn : n ≤ 16) (hi : inn.length ≤ 1000000) (ha : at_ ≤ 8 * inn.length) : VCalls Tryd.prog 34 [.op id 0 [], i64 (n : Int)] H
  (fun x H' => if at_ + n ≤ 8 * inn.length then x = i64 ((valN (((allB inn).drop at_).take n) : Nat) : Int) ∧ H' = H.set id (stm inn (at_ + n) o m f err)
   else x = i64 ((0 : Nat) : Int) ∧ H' = H.set id (stm inn (8 * inn.length) o m f (if err = 0 then 10 else err))) := by
 have hl : id < H.length := (List.getElem?_eq_some_iff.1 h).1
 refine go_ref1_Stream_bits (by simp) ?_
 simp -dsimp (disch := first | assumption | omega | (simp only [vmLen]; done) | (simp only [vmLen]; omega)) only [↓vmPre, vmPost, vmWrd, vmDat, eq_self, forall_const, Nat.reduceLT, Nat.reduceEqDiff, Nat.reduceSub, Nat.reduceMul, Nat.reduceMod, Nat.reduceDiv, Nat.reducePow, UInt8.reduceToNat, Int.reduceEq, Int.reduceLT, Int.reduceLE, ↓reduceIte, Nat.reduceAdd, Int.reduceToNat, reduceCtorEq, Nat.reduceLeDiff, ↓u_ref1_Stream_bits, h]
 refine w_loop (fun q e H' => ∃ k, q = n - k ∧ k ≤ n ∧ at_ + k ≤ 8 * inn.length ∧ e = [(0, .op id 0 []), (1, i64 (n : Int)), (5, i64 ((valN (((allB inn).drop at_).take k) : Nat) : Int)), (6, i64 (k : Int))] ∧ H' = H.set id (stm inn (at_ + k) o m f err)) n ?_ ?_
 ·exact ⟨0, rfl, by omega, by omega, rfl, (set_same h).symm⟩
 ·rintro q e H' ⟨k, rfl, k1, k2, rfl, rfl⟩
  have h' : (H.set id (stm inn (at_ + k) o m f err))[id]? = some (stm inn (at_ + k) o m f err) := by simp [hl]
  by_cases hlt : k < n
  ·by_cases hen : at_ + k < 8 * inn.length
   ·obtain ⟨c, hc⟩ : ∃ c, inn[(at_ + k) / 8]? = some c := ⟨_, List.getElem?_eq_getElem (by omega)⟩
    have hq : c.toNat / 2 ^ ((at_ + k) % 8) ≤ 255 := Nat.le_trans (Nat.div_le_self _ _) (by have := c.toNat_lt; omega)
    have hp : 2 ^ k ≤ 2 ^ 15 := Nat.pow_le_pow_right (by omega) (by omega)
    have hsh : c.toNat / 2 ^ ((at_ + k) % 8) % 2 * 2 ^ k ≤ 1 * 2 ^ 15 := Nat.mul_le_mul (by omega) hp
    have hv : valN (((allB inn).drop at_).take k) ≤ 2 ^ 15 := by
     have h1 := valN_lt (((allB inn).drop at_).take k)
     have h2 : (((allB inn).drop at_).take k).length = k := by rw [List.length_take, List.length_drop, allB_len]; omega
     rw [h2] at h1; omega
    simp -dsimp (disch := first | assumption | omega | (simp only [vmLen]; done) | (simp only [vmLen]; omega)) only [↓vmPre, vmPost, vmWrd, vmDat, eq_self, forall_const, Nat.reduceLT, Nat.reduceEqDiff, Nat.reduceSub, Nat.reduceMul, Nat.reduceMod, Nat.reduceDiv, Nat.reducePow, UInt8.reduceToNat, Int.reduceEq, Int.reduceLT, Int.reduceLE, ↓reduceIte, Nat.reduceAdd, Int.reduceToNat, reduceCtorEq, Nat.reduceLeDiff, ↓u_ref1_Stream_bits, h', hc, b_and1]
    have hbit : ((allB inn).drop at_)[k]? = some (c.toNat / 2 ^ ((at_ + k) % 8) % 2 == 1) := by rw [List.getElem?_drop]; exact allB_at inn (at_ + k) c hc
    have hval : valN (((allB inn).drop at_).take (k + 1)) = valN (((allB inn).drop at_).take k) + c.toNat / 2 ^ ((at_ + k) % 8) % 2 * 2 ^ k := by
     rw [List.take_add_one, hbit, Option.toList_some, valN_app]
     have h2 : (((allB inn).drop at_).take k).length = k := by rw [List.length_take, List.length_drop, allB_len]; omega
     rw [h2]
     rcases Nat.mod_two_eq_zero_or_one (c.toNat / 2 ^ ((at_ + k) % 8)) with h3 | h3 <;> rw [h3] <;> rfl
    exact Rnd_keep (n - (k + 1)) (by omega) (by simp) ⟨k + 1, rfl, by omega, by omega, by rw [hval]; rfl, rfl⟩
   ·simp -dsimp (disch := first | assumption | omega | (simp only [vmLen]; done) | (simp only [vmLen]; omega)) only [↓vmPre, vmPost, vmWrd, vmDat, eq_self, forall_const, Nat.reduceLT, Nat.reduceEqDiff, Nat.reduceSub, Nat.reduceMul, Nat.reduceMod, Nat.reduceDiv, Nat.reducePow, UInt8.reduceToNat, Int.reduceEq, Int.reduceLT, Int.reduceLE, ↓reduceIte, Nat.reduceAdd, Int.reduceToNat, reduceCtorEq, Nat.reduceLeDiff, ↓u_ref1_Stream_bits, h']
    refine (failV (e := 10) hw h').mono fun x H' hx => ?_
    subst hx
    simp -dsimp (disch := first | assumption | omega | (simp only [vmLen]; done) | (simp only [vmLen]; omega)) only [↓vmPre, vmPost, vmWrd, vmDat, eq_self, forall_const, Nat.reduceLT, Nat.reduceEqDiff, Nat.reduceSub, Nat.reduceMul, Nat.reduceMod, Nat.reduceDiv, Nat.reducePow, UInt8.reduceToNat, Int.reduceEq, Int.reduceLT, Int.reduceLE, ↓reduceIte, Nat.reduceAdd, Int.reduceToNat, reduceCtorEq, Nat.reduceLeDiff, ↓u_ref1_Stream_bits]
    rw [show at_ + k = 8 * inn.length by omega]
  ·have hkn : k = n := by omega
   subst hkn
   simp -dsimp (disch := first | assumption | omega | (simp only [vmLen]; done) | (simp only [vmLen]; omega)) only [↓vmPre, vmPost, vmWrd, vmDat, eq_self, forall_const, Nat.reduceLT, Nat.reduceEqDiff, Nat.reduceSub, Nat.reduceMul, Nat.reduceMod, Nat.reduceDiv, Nat.reducePow, UInt8.reduceToNat, Int.reduceEq, Int.reduceLT, Int.reduceLE, ↓reduceIte, Nat.reduceAdd, Int.reduceToNat, reduceCtorEq, Nat.reduceLeDiff, ↓u_ref1_Stream_bits, h']
theorem sputV {id err at_ : Nat} {inn l : List UInt8} {o : TV} {m f : Int} {b : UInt8} {H : List Ob} {J : Option Nat} (h : H[id]? = some (stm inn at_ o m f err)) (hr : Row8 H o l J) (hJ : J ≠ some id) (hl : l.length ≤ 1000000) (hm : -9223372036854775808 ≤ m ∧ m ≤ 9223372036854775807) :
  VCalls Tryd.prog 53 [.op id 0 [], by8 b] H (fun x H' => if err ≠ 0 then H' = H else if m ≤ (l.length : Int) then H' = H.set id (stm inn at_ o m f 11)
   else ∃ o' j, H'[id]? = some (stm inn at_ o' m f err) ∧ Row8 H' o' (l ++ [b]) (some j) ∧ j ≠ id ∧ (J = some j ∨ H.length ≤ j) ∧ (∀ i, i < H.length → i ≠ id → J ≠ some i → H'[i]? = H[i]?) ∧ H.length ≤ H'.length) := by
 have hid : id < H.length := (List.getElem?_eq_some_iff.1 h).1
 refine go_ref1_Stream_put (by simp) ?_
 cases J with
 | none =>
  obtain ⟨rfl, rfl⟩ := hr
  by_cases he : err = 0
  ·subst he
   by_cases hlm : m ≤ 0
   ·simp -dsimp (disch := first | assumption | omega | (simp only [vmLen]; done) | (simp only [vmLen]; omega)) only [↓vmPre, vmPost, vmWrd, vmDat, eq_self, forall_const, Nat.reduceLT, Nat.reduceEqDiff, Nat.reduceSub, Nat.reduceMul, Nat.reduceMod, Nat.reduceDiv, Nat.reducePow, UInt8.reduceToNat, Int.reduceEq, Int.reduceLT, Int.reduceLE, ↓reduceIte, Nat.reduceAdd, Int.reduceToNat, reduceCtorEq, Nat.reduceLeDiff, ↓u_ref1_Stream_put, h]
   ·simp -dsimp (disch := first | assumption | omega | (simp only [vmLen]; done) | (simp only [vmLen]; omega)) only [↓vmPre, vmPost, vmWrd, vmDat, eq_self, forall_const, Nat.reduceLT, Nat.reduceEqDiff, Nat.reduceSub, Nat.reduceMul, Nat.reduceMod, Nat.reduceDiv, Nat.reducePow, UInt8.reduceToNat, Int.reduceEq, Int.reduceLT, Int.reduceLE, ↓reduceIte, Nat.reduceAdd, Int.reduceToNat, reduceCtorEq, Nat.reduceLeDiff, ↓u_ref1_Stream_put, h, one_set, take_one', len_one]
    refine ⟨_, H.length + 1, rfl, ⟨1, rfl, ?_⟩, by omega, .inr (by omega), fun i hi hn _ => ?_, by omega⟩
    ·rw [List.getElem?_append_right (by simp)]; simp
    ·rw [List.append_assoc, List.getElem?_append_left (by simpa using hi), List.getElem?_set_ne (Ne.symm hn)]
  ·simp -dsimp (disch := first | assumption | omega | (simp only [vmLen]; done) | (simp only [vmLen]; omega)) only [↓vmPre, vmPost, vmWrd, vmDat, eq_self, forall_const, Nat.reduceLT, Nat.reduceEqDiff, Nat.reduceSub, Nat.reduceMul, Nat.reduceMod, Nat.reduceDiv, Nat.reducePow, UInt8.reduceToNat, Int.reduceEq, Int.reduceLT, Int.reduceLE, ↓reduceIte, Nat.reduceAdd, Int.reduceToNat, reduceCtorEq, Nat.reduceLeDiff, ↓u_ref1_Stream_put, h]
 | some j =>
  obtain ⟨v, rfl, hj⟩ := hr
  have hne : j ≠ id := fun e => hJ (by rw [e])
  have hne' : id ≠ j := fun e => hne e.symm
  have hjl : j < H.length := (List.getElem?_eq_some_iff.1 hj).1
  by_cases he : err = 0
  ·subst he
   by_cases hlm : m ≤ (l.length : Int)
   ·simp -dsimp (disch := first | assumption | omega | (simp only [vmLen]; done) | (simp only [vmLen]; omega)) only [↓vmPre, vmPost, vmWrd, vmDat, eq_self, forall_const, Nat.reduceLT, Nat.reduceEqDiff, Nat.reduceSub, Nat.reduceMul, Nat.reduceMod, Nat.reduceDiv, Nat.reducePow, UInt8.reduceToNat, Int.reduceEq, Int.reduceLT, Int.reduceLE, ↓reduceIte, Nat.reduceAdd, Int.reduceToNat, reduceCtorEq, Nat.reduceLeDiff, ↓u_ref1_Stream_put, h]
   ·simp -dsimp (disch := first | assumption | omega | (simp only [vmLen]; done) | (simp only [vmLen]; omega)) only [↓vmPre, vmPost, vmWrd, vmDat, eq_self, forall_const, Nat.reduceLT, Nat.reduceEqDiff, Nat.reduceSub, Nat.reduceMul, Nat.reduceMod, Nat.reduceDiv, Nat.reducePow, UInt8.reduceToNat, Int.reduceEq, Int.reduceLT, Int.reduceLE, ↓reduceIte, Nat.reduceAdd, Int.reduceToNat, reduceCtorEq, Nat.reduceLeDiff, ↓u_ref1_Stream_put, h, hj, one_set, take_one', len_one]
    refine ⟨_, j, rfl, ⟨v + 1, by simp, ?_⟩, hne, .inl rfl, fun i hi hn hn2 => ?_, by omega⟩
    ·rw [List.getElem?_append_left (by simpa using hjl), List.getElem?_set_ne hne', List.getElem?_set_self hjl, List.length_append, List.map_append]; rfl
    ·have hij : j ≠ i := fun e => hn2 (by rw [e])
     rw [List.getElem?_append_left (by simpa using hi), List.getElem?_set_ne (Ne.symm hn), List.getElem?_set_ne hij]
  ·simp -dsimp (disch := first | assumption | omega | (simp only [vmLen]; done) | (simp only [vmLen]; omega)) only [↓vmPre, vmPost, vmWrd, vmDat, eq_self, forall_const, Nat.reduceLT, Nat.reduceEqDiff, Nat.reduceSub, Nat.reduceMul, Nat.reduceMod, Nat.reduceDiv, Nat.reducePow, UInt8.reduceToNat, Int.reduceEq, Int.reduceLT, Int.reduceLE, ↓reduceIte, Nat.reduceAdd, Int.reduceToNat, reduceCtorEq, Nat.reduceLeDiff, ↓u_ref1_Stream_put, h]
end Go.Proofs.YtfgljddikcghhaaDoor

