import Derived.Test.YtfgljddikcghhaaDoorCodeI
import Derived.Test.YtfgljddikcghhaaDoorBaseC
namespace Go.Proofs.YtfgljddikcghhaaDoor
open Go.RowKit
variable [Globs]
set_option linter.unusedSectionVars false
set_option linter.unusedVariables false
set_option linter.unusedSimpArgs false

/-- A number's lowest n bits. -/
def bitsN : Nat → Nat → List Bool
 | 0, _ => []
 | n + 1, v => (v % 2 == 1) :: bitsN n (v / 2)
/-- The number of bits. -/
def valN : List Bool → Nat
 | [] => 0
 | b :: l => (if b then 1 else 0) + 2 * valN l
/-- All bits that are left. -/
def restB (inn : List UInt8) (held count : Nat) : List Bool := bitsN count held ++ inn.flatMap fun b => bitsN 8 b.toNat
section
omit [Globs]
theorem bitsN_len : ∀ (n v : Nat), (bitsN n v).length = n
 | 0, _ => rfl
 | n + 1, v => by rw [bitsN, List.length_cons, bitsN_len n]
theorem bitsN_add : ∀ (c k h b : Nat), h < 2 ^ c → bitsN (c + k) (h + b * 2 ^ c) = bitsN c h ++ bitsN k b
 | 0, k, h, b, hh => by
  have : h = 0 := by simpa using hh
  subst this; simp [bitsN]
 | c + 1, k, h, b, hh => by
  have e : h + b * 2 ^ (c + 1) = h + 2 * (b * 2 ^ c) := by rw [Nat.pow_succ]; congr 1; rw [Nat.mul_comm (2 ^ c) 2, ← Nat.mul_assoc, Nat.mul_comm b 2, Nat.mul_assoc]
  rw [show c + 1 + k = (c + k) + 1 by omega, bitsN, bitsN, e]
  have h1 : (h + 2 * (b * 2 ^ c)) % 2 = h % 2 := by omega
  have h2 : (h + 2 * (b * 2 ^ c)) / 2 = h / 2 + b * 2 ^ c := by omega
  rw [h1, h2, bitsN_add c k (h / 2) b (by rw [Nat.pow_succ] at hh; omega)]; rfl
theorem valN_bits : ∀ (n v : Nat), valN (bitsN n v) = v % 2 ^ n
 | 0, v => by simp [bitsN, valN, Nat.mod_one]
 | n + 1, v => by
  rw [bitsN, valN, valN_bits n, Nat.pow_succ, Nat.mul_comm (2 ^ n) 2, Nat.mod_mul]
  rcases Nat.mod_two_eq_zero_or_one v with h | h <;> simp [h]
theorem take_bits : ∀ (n c v : Nat), n ≤ c → (bitsN c v).take n = bitsN n v
 | 0, c, v, _ => by simp [bitsN]
 | n + 1, 0, v, h => by omega
 | n + 1, c + 1, v, h => by rw [bitsN, bitsN, List.take_succ_cons, take_bits n c _ (by omega)]
theorem drop_bits : ∀ (n c v : Nat), n ≤ c → (bitsN c v).drop n = bitsN (c - n) (v / 2 ^ n)
 | 0, c, v, _ => by simp
 | n + 1, 0, v, h => by omega
 | n + 1, c + 1, v, h => by
  rw [bitsN, List.drop_succ_cons, drop_bits n c _ (by omega), Nat.div_div_eq_div_mul, Nat.pow_succ, Nat.mul_comm (2 ^ n) 2, show c + 1 - (n + 1) = c - n by omega]
theorem restB_len (inn : List UInt8) (h c : Nat) : (restB inn h c).length = c + 8 * inn.length := by
 unfold restB
 rw [List.length_append, bitsN_len]
 congr 1
 induction inn with
 | nil => rfl
 | cons b l ih => rw [List.flatMap_cons, List.length_append, bitsN_len, ih, List.length_cons]; omega
theorem or_add {h b c : Nat} (hh : h < 2 ^ c) : h ||| b * 2 ^ c = h + b * 2 ^ c := by
 have := Nat.two_pow_add_eq_or_of_lt hh b
 rw [Nat.mul_comm (2 ^ c) b] at this
 rw [Nat.or_comm, ← this, Nat.add_comm]
theorem restB_more {b : UInt8} {r : List UInt8} {h c : Nat} (hh : h < 2 ^ c) : restB r (h ||| b.toNat * 2 ^ c) (c + 8) = restB (b :: r) h c := by
 unfold restB
 rw [or_add hh, bitsN_add c 8 h b.toNat hh, List.flatMap_cons, List.append_assoc]
theorem more_lt {b : UInt8} {h c : Nat} (hh : h < 2 ^ c) : (h ||| b.toNat * 2 ^ c) < 2 ^ (c + 8) := by
 rw [or_add hh, Nat.pow_add]
 have := b.toNat_lt
 have h1 : b.toNat * 2 ^ c ≤ 255 * 2 ^ c := Nat.mul_le_mul_right _ (by omega)
 omega
theorem restB_val {inn : List UInt8} {h c n : Nat} (hn : n ≤ c) : valN ((restB inn h c).take n) = h % 2 ^ n := by
 unfold restB
 rw [List.take_append_of_le_length (by rw [bitsN_len]; exact hn), take_bits n c h hn, valN_bits]
theorem restB_drop {inn : List UInt8} {h c n : Nat} (hn : n ≤ c) : (restB inn h c).drop n = restB inn (h / 2 ^ n) (c - n) := by
 unfold restB
 rw [List.drop_append_of_le_length (by rw [bitsN_len]; exact hn), drop_bits n c h hn]
end
abbrev u32 (n : Nat) : TV := .val (.int .u32 (n : Int))
abbrev zlibE : Value := .iface 28 (.int .i64 10)
abbrev longE : Value := .iface 28 (.int .i64 11)
/-- The reader. -/
abbrev rdr (inn : List UInt8) (held count : Nat) (o m w : TV) : Ob := .obj 0 (.agg [slB inn, u32 held, i64 (count : Int), o, m, w])
theorem set_same {α : Type} {l : List α} {i : Nat} {x : α} (h : l[i]? = some x) : l.set i x = l := by
 obtain ⟨hl, rfl⟩ := List.getElem?_eq_some_iff.1 h
 simp
theorem alignV {id : Nat} {inn : List UInt8} {held count : Nat} {o m w : TV} {H : List Ob} (h : H[id]? = some (rdr inn held count o m w)) : VCalls Tryd.prog 15 [.op id 0 []] H (fun x H' => H' = H.set id (rdr inn 0 0 o m w)) := by
 have hl : id < H.length := (List.getElem?_eq_some_iff.1 h).1
 refine go_deflate_reader_align (by simp) ?_
 simp -dsimp (disch := first | assumption | omega | (simp only [vmLen]; done) | (simp only [vmLen]; omega)) only [↓vmPre, vmPost, vmWrd, vmDat, eq_self, forall_const, Nat.reduceLT, Nat.reduceEqDiff, Nat.reduceSub, Nat.reduceMul, Nat.reduceMod, Nat.reduceDiv, Nat.reducePow, UInt8.reduceToNat, Int.reduceEq, Int.reduceLT, Int.reduceLE, ↓reduceIte, Nat.reduceAdd, Int.reduceToNat, reduceCtorEq, Nat.reduceLeDiff, ↓u_deflate_reader_align, h]
theorem takeV {id n : Nat} {inn : List UInt8} {held count : Nat} {o m w : TV} {H : List Ob} (h : H[id]? = some (rdr inn held count o m w)) (hn : n ≤ 100000) (hi : inn.length ≤ 1000000) : VCallsP Tryd.prog 16 [.op id 0 [], i64 (n : Int)] H (fun x H' => n ≤ inn.length ∧ x = slB (inn.take n) ∧ H' = H.set id (rdr (inn.drop n) held count o m w)) (fun u H' => inn.length < n ∧ u = zlibE ∧ H' = H) := by
 have hl : id < H.length := (List.getElem?_eq_some_iff.1 h).1
 refine gp_deflate_reader_take (by simp) ?_
 by_cases hh : inn.length < n
 ·simp -dsimp (disch := first | assumption | omega | (simp only [vmLen]; done) | (simp only [vmLen]; omega)) only [↓vmPre, vmPost, vmWrd, vmDat, eq_self, forall_const, Nat.reduceLT, Nat.reduceEqDiff, Nat.reduceSub, Nat.reduceMul, Nat.reduceMod, Nat.reduceDiv, Nat.reducePow, UInt8.reduceToNat, Int.reduceEq, Int.reduceLT, Int.reduceLE, ↓reduceIte, Nat.reduceAdd, Int.reduceToNat, reduceCtorEq, Nat.reduceLeDiff, ↓u_deflate_reader_take, h]
  exact ⟨hh, rfl⟩
 ·simp -dsimp (disch := first | assumption | omega | (simp only [vmLen]; done) | (simp only [vmLen]; omega)) only [↓vmPre, vmPost, vmWrd, vmDat, eq_self, forall_const, Nat.reduceLT, Nat.reduceEqDiff, Nat.reduceSub, Nat.reduceMul, Nat.reduceMod, Nat.reduceDiv, Nat.reducePow, UInt8.reduceToNat, Int.reduceEq, Int.reduceLT, Int.reduceLE, ↓reduceIte, Nat.reduceAdd, Int.reduceToNat, reduceCtorEq, Nat.reduceLeDiff, ↓u_deflate_reader_take, h]
  omega
theorem bitsV {id n : Nat} {inn : List UInt8} {held count : Nat} {o m w : TV} {H : List Ob} (h : H[id]? = some (rdr inn held count o m w)) (hn : n ≤ 16) (hi : inn.length ≤ 1000000) (hc : count ≤ 7) (hh : held < 2 ^ count) : VCallsP Tryd.prog 24 [.op id 0 [], i64 (n : Int)] H
  (fun x H' => ∃ inn' held' count', n ≤ (restB inn held count).length ∧ x = i64 ((valN ((restB inn held count).take n) : Nat) : Int) ∧ H' = H.set id (rdr inn' held' count' o m w) ∧ inn'.length ≤ inn.length ∧ count' ≤ 7 ∧ held' < 2 ^ count' ∧ restB inn' held' count' = (restB inn held count).drop n)
  (fun u H' => (restB inn held count).length < n ∧ u = zlibE ∧ ∃ y, H' = H.set id (.obj 0 y)) := by
 have hl : id < H.length := (List.getElem?_eq_some_iff.1 h).1
 refine gp_deflate_reader_bits (by simp) ?_
 simp -dsimp (disch := first | assumption | omega | (simp only [vmLen]; done) | (simp only [vmLen]; omega)) only [↓vmPre, vmPost, vmWrd, vmDat, eq_self, forall_const, Nat.reduceLT, Nat.reduceEqDiff, Nat.reduceSub, Nat.reduceMul, Nat.reduceMod, Nat.reduceDiv, Nat.reducePow, UInt8.reduceToNat, Int.reduceEq, Int.reduceLT, Int.reduceLE, ↓reduceIte, Nat.reduceAdd, Int.reduceToNat, reduceCtorEq, Nat.reduceLeDiff, ↓u_deflate_reader_bits, h]
 refine w_loop (fun q e H' => ∃ inn1 held1 count1, q = n - count1 ∧ e = [(0, .op id 0 []), (1, i64 (n : Int))] ∧ H' = H.set id (rdr inn1 held1 count1 o m w) ∧ inn1.length ≤ inn.length ∧ count1 ≤ 23 ∧ (count1 < n + 8) ∧ held1 < 2 ^ count1 ∧ restB inn1 held1 count1 = restB inn held count) (n - count) ?_ ?_
 ·exact ⟨inn, held, count, rfl, rfl, (set_same h).symm, Nat.le_refl _, by omega, by omega, hh, rfl⟩
 ·rintro q e H' ⟨inn1, held1, count1, rfl, rfl, rfl, k1, k2, k3, k4, k5⟩
  have h' : (H.set id (rdr inn1 held1 count1 o m w))[id]? = some (rdr inn1 held1 count1 o m w) := by simp [hl]
  by_cases hlt : count1 < n
  ·have hpow : 2 ^ count1 ≤ 2 ^ 15 := Nat.pow_le_pow_right (by omega) (by omega)
   cases inn1 with
   | nil =>
    simp -dsimp (disch := first | assumption | omega | (simp only [vmLen]; done) | (simp only [vmLen]; omega)) only [↓vmPre, vmPost, vmWrd, vmDat, eq_self, forall_const, Nat.reduceLT, Nat.reduceEqDiff, Nat.reduceSub, Nat.reduceMul, Nat.reduceMod, Nat.reduceDiv, Nat.reducePow, UInt8.reduceToNat, Int.reduceEq, Int.reduceLT, Int.reduceLE, ↓reduceIte, Nat.reduceAdd, Int.reduceToNat, reduceCtorEq, Nat.reduceLeDiff, ↓u_deflate_reader_bits, h']
    refine ⟨?_, rfl, _, rfl⟩
    rw [← k5, restB_len]; simp; omega
   | cons b r =>
    have hb := b.toNat_lt
    have hx : b.toNat * 2 ^ count1 < 4294967296 := by
     have : b.toNat * 2 ^ count1 ≤ 255 * 2 ^ 15 := Nat.mul_le_mul (by omega) hpow
     omega
    have hx1 : held1 < 4294967296 := by omega
    simp -dsimp (disch := first | assumption | omega | (simp only [vmLen]; done) | (simp only [vmLen]; omega)) only [↓vmPre, vmPost, vmWrd, vmDat, eq_self, forall_const, Nat.reduceLT, Nat.reduceEqDiff, Nat.reduceSub, Nat.reduceMul, Nat.reduceMod, Nat.reduceDiv, Nat.reducePow, UInt8.reduceToNat, Int.reduceEq, Int.reduceLT, Int.reduceLE, ↓reduceIte, Nat.reduceAdd, Int.reduceToNat, reduceCtorEq, Nat.reduceLeDiff, ↓u_deflate_reader_bits, h', w32_u8, b_shl32, b_or32]
    rw [List.length_cons] at k1
    exact Rnd_keep (n - (count1 + 8)) (by omega) (by simp) ⟨r, held1 ||| b.toNat * 2 ^ count1, count1 + 8, rfl, rfl, rfl, by omega, by omega, by omega, more_lt k4, by rw [restB_more k4, k5]⟩
  ·have hpow : 2 ^ n ≤ 2 ^ 16 := Nat.pow_le_pow_right (by omega) hn
   have hp1 : 1 ≤ 2 ^ n := Nat.one_le_two_pow
   have hx : 1 * 2 ^ n < 4294967296 := by omega
   have hx1 : held1 < 4294967296 := by
    have : 2 ^ count1 ≤ 2 ^ 23 := Nat.pow_le_pow_right (by omega) k2
    omega
   simp -dsimp (disch := first | assumption | omega | (simp only [vmLen]; done) | (simp only [vmLen]; omega)) only [↓vmPre, vmPost, vmWrd, vmDat, eq_self, forall_const, Nat.reduceLT, Nat.reduceEqDiff, Nat.reduceSub, Nat.reduceMul, Nat.reduceMod, Nat.reduceDiv, Nat.reducePow, UInt8.reduceToNat, Int.reduceEq, Int.reduceLT, Int.reduceLE, ↓reduceIte, Nat.reduceAdd, Int.reduceToNat, reduceCtorEq, Nat.reduceLeDiff, ↓u_deflate_reader_bits, h', b_shl32, b_and32, b_sub32, b_shr32, w64_nat]
   have hle : n ≤ count1 := by omega
   refine ⟨inn1, held1 / 2 ^ n, count1 - n, by rw [← k5, restB_len]; omega, ?_, rfl, k1, by omega, ?_, by rw [← k5, restB_drop hle]⟩
   ·rw [← k5, restB_val hle, Nat.one_mul, Nat.and_two_pow_sub_one_eq_mod, w64_nat (by have := Nat.mod_le held1 (2 ^ n); omega)]
   ·rw [Nat.div_lt_iff_lt_mul (by omega), ← Nat.pow_add, Nat.sub_add_cancel hle]; exact k4
end Go.Proofs.YtfgljddikcghhaaDoor

