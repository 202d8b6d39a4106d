import Derived.Test.YtfgljddikcghhaaDoorVzRead
import Derived.Test.YtfgljddikcghhaaDoorCodeJ
namespace Go.Proofs.YtfgljddikcghhaaDoor
open Go.RowKit
variable [Globs]
set_option linter.unusedSectionVars false
set_option linter.unusedVariables false
set_option linter.unusedSimpArgs false

section
variable {t : TypeId} {a b : Nat}
theorem b_add32 (h : a + b < 4294967296) : binV t .add (.int .u32 (a : Int)) (.int .u32 (b : Int)) = some (.int .u32 ((a + b : Nat) : Int)) := by
 rw [show binV t .add (.int .u32 (a : Int)) (.int .u32 (b : Int)) = some (.int .u32 (IntKind.u32.wrap ((a : Int) + b))) from rfl, IntKind.wrap_u32']
 congr 2; omega
theorem b_mul32 (h : a * b < 4294967296) : binV t .mul (.int .u32 (a : Int)) (.int .u32 (b : Int)) = some (.int .u32 ((a * b : Nat) : Int)) := by
 rw [show binV t .mul (.int .u32 (a : Int)) (.int .u32 (b : Int)) = some (.int .u32 (IntKind.u32.wrap ((a : Int) * b))) from rfl, ← Int.natCast_mul, wrap32 h]
end
section
omit [Globs]
/-- Both sums, without their remainders. -/
def rawA : Nat → Nat → List UInt8 → Nat × Nat
 | s, t, [] => (s, t)
 | s, t, b :: r => rawA (s + b.toNat) (t + (s + b.toNat)) r
theorem rawA_snoc : ∀ (l : List UInt8) (s t : Nat) (b : UInt8), rawA s t (l ++ [b]) = ((rawA s t l).1 + b.toNat, (rawA s t l).2 + ((rawA s t l).1 + b.toNat))
 | [], s, t, b => rfl
 | c :: l, s, t, b => by rw [List.cons_append, rawA, rawA_snoc l, rawA]
theorem rawA_app : ∀ (l m : List UInt8) (s t : Nat), rawA s t (l ++ m) = rawA (rawA s t l).1 (rawA s t l).2 m
 | [], m, s, t => rfl
 | c :: l, m, s, t => by rw [List.cons_append, rawA, rawA_app l m, rawA]
theorem rawA_cong : ∀ (l : List UInt8) {s t s' t' : Nat}, s % 65521 = s' % 65521 → t % 65521 = t' % 65521 → (rawA s t l).1 % 65521 = (rawA s' t' l).1 % 65521 ∧ (rawA s t l).2 % 65521 = (rawA s' t' l).2 % 65521
 | [], s, t, s', t', h1, h2 => ⟨h1, h2⟩
 | c :: l, s, t, s', t', h1, h2 => by
  rw [rawA, rawA]
  exact rawA_cong l (by omega) (by omega)
theorem rawA_le : ∀ (l : List UInt8) (s t : Nat), (rawA s t l).1 ≤ s + 255 * l.length ∧ 2 * (rawA s t l).2 ≤ 2 * t + 2 * (l.length * s) + 255 * (l.length * (l.length + 1))
 | [], s, t => by simp [rawA]
 | c :: l, s, t => by
  obtain ⟨h1, h2⟩ := rawA_le l (s + c.toNat) (t + (s + c.toNat))
  have hc := c.toNat_lt
  rw [rawA, List.length_cons]
  generalize rawA (s + c.toNat) (t + (s + c.toNat)) l = p at *
  generalize l.length = n at *
  have e1 : n * (s + c.toNat) ≤ n * s + n * 255 := by rw [Nat.mul_add]; exact Nat.add_le_add_left (Nat.mul_le_mul_left _ (by omega)) _
  have e2 : (n + 1) * s = n * s + s := by rw [Nat.succ_mul]
  have e3 : (n + 1) * (n + 1 + 1) = n * (n + 1) + n + n + 2 := by rw [Nat.succ_mul, Nat.mul_add n (n + 1) 1]; omega
  rw [e2, e3]
  exact ⟨by omega, by omega⟩
def adl (l : List UInt8) : Nat := (rawA 1 0 l).2 % 65521 * 65536 + (rawA 1 0 l).1 % 65521
theorem adl_lt (l : List UInt8) : adl l < 4294967296 := by unfold adl; omega
end
theorem radlerV (l : List UInt8) (hl : l.length ≤ 1000000) : VPure Tryd.prog 20 [slB l] (fun x => x = u32 (adl l)) := by
 refine VCalls.toPureV (go_ref1_Adler (by simp) ?_)
 simp -dsimp (disch := first | assumption | omega) only [↓vmPre, vmPost, vmWrd, vmDat, eq_self, forall_const, Nat.reduceLT, Nat.reduceEqDiff, Nat.reduceSub, Nat.reduceMul, Nat.reduceMod, Nat.reduceDiv, Nat.reducePow, UInt8.reduceToNat, Int.reduceEq, Int.reduceLT, Int.reduceLE, ↓reduceIte, Nat.reduceAdd, Int.reduceToNat, reduceCtorEq, Nat.reduceLeDiff, ↓u_ref1_Adler]
 refine w_loop (fun q e H => ∃ k : Nat, q = l.length - k ∧ k ≤ l.length ∧ e = [(0, slB l), (3, u32 ((rawA 1 0 (l.take k)).1 % 65521)), (4, u32 ((rawA 1 0 (l.take k)).2 % 65521)), (5, i64 (k : Int))] ∧ H = []) l.length ?_ ?_
 ·exact ⟨0, rfl, by omega, rfl, rfl⟩
 ·rintro q e H ⟨k, rfl, hk, rfl, rfl⟩
  by_cases hlt : k < l.length
  ·obtain ⟨b, hb⟩ : ∃ b, l[k]? = some b := ⟨_, List.getElem?_eq_getElem hlt⟩
   have hbl := b.toNat_lt
   have hs : l.take (k + 1) = l.take k ++ [b] := by rw [List.take_add_one, hb]; rfl
   simp -dsimp (disch := first | assumption | omega) only [↓vmPre, vmPost, vmWrd, vmDat, eq_self, forall_const, Nat.reduceLT, Nat.reduceEqDiff, Nat.reduceSub, Nat.reduceMul, Nat.reduceMod, Nat.reduceDiv, Nat.reducePow, UInt8.reduceToNat, Int.reduceEq, Int.reduceLT, Int.reduceLE, ↓reduceIte, Nat.reduceAdd, Int.reduceToNat, reduceCtorEq, Nat.reduceLeDiff, ↓u_ref1_Adler, hb, w32_u8, b_add32]
   refine Rnd_keep (l.length - (k + 1)) (by omega) (by simp) ⟨k + 1, rfl, by omega, ?_, rfl⟩
   rw [hs, rawA_snoc]
   have e1 : ((rawA 1 0 (l.take k)).1 % 65521 + b.toNat) % 65521 = ((rawA 1 0 (l.take k)).1 + b.toNat) % 65521 := by omega
   have e2 : ((rawA 1 0 (l.take k)).2 % 65521 + ((rawA 1 0 (l.take k)).1 + b.toNat) % 65521) % 65521 = ((rawA 1 0 (l.take k)).2 + ((rawA 1 0 (l.take k)).1 + b.toNat)) % 65521 := by omega
   simp only [e1, e2]
   rfl
  ·have hkl : k = l.length := by omega
   subst hkl
   simp -dsimp (disch := first | assumption | omega) only [↓vmPre, vmPost, vmWrd, vmDat, eq_self, forall_const, Nat.reduceLT, Nat.reduceEqDiff, Nat.reduceSub, Nat.reduceMul, Nat.reduceMod, Nat.reduceDiv, Nat.reducePow, UInt8.reduceToNat, Int.reduceEq, Int.reduceLT, Int.reduceLE, ↓reduceIte, Nat.reduceAdd, Int.reduceToNat, reduceCtorEq, Nat.reduceLeDiff, ↓u_ref1_Adler, b_add32, b_mul32]
   rfl
/-- A part that does not reach 32 bits. -/
theorem adlerIn {r c : List UInt8} {s t n : Nat} {Q : VEx → Env → List Ob → Prop} (hcl : c.length = n) (hc : n ≤ 5000) (hs : s < 65521) (ht : t < 65521) (hq : ∀ y, Q .nor [(0, slB r), (3, u32 (rawA s t c).1), (4, u32 (rawA s t c).2), (5, i64 (n : Int)), (16, slB c), (17, i64 (n : Int)), (18, i64 (n : Int)), (19, y)] []) :
  vwp Tryd.prog (.loop [0, 3, 4, 5, 16, 17, 18] c_deflate_Adler_L3) (Blk 2 Q) [(0, slB r), (3, u32 s), (4, u32 t), (5, i64 (n : Int)), (16, slB c), (17, i64 (n : Int)), (18, i64 ((0 : Nat) : Int))] [] := by
 refine w_loop (fun q e H => ∃ k : Nat, q = n - k ∧ k ≤ n ∧ e = [(0, slB r), (3, u32 (rawA s t (c.take k)).1), (4, u32 (rawA s t (c.take k)).2), (5, i64 (n : Int)), (16, slB c), (17, i64 (n : Int)), (18, i64 (k : Int))] ∧ H = []) n ?_ ?_
 ·exact ⟨0, rfl, by omega, rfl, rfl⟩
 ·rintro q e H ⟨k, rfl, hk, rfl, rfl⟩
  by_cases hlt : k < n
  ·obtain ⟨b, hb⟩ : ∃ b, c[k]? = some b := ⟨_, List.getElem?_eq_getElem (by omega)⟩
   have hbl := b.toNat_lt
   have hsn : c.take (k + 1) = c.take k ++ [b] := by rw [List.take_add_one, hb]; rfl
   have hle := rawA_le (c.take (k + 1)) s t
   have hlk : (c.take (k + 1)).length = k + 1 := by rw [List.length_take]; omega
   rw [hlk] at hle
   have m1 : (k + 1) * s ≤ 5000 * 65520 := Nat.mul_le_mul (by omega) (by omega)
   have m2 : (k + 1) * (k + 1 + 1) ≤ 5000 * 5001 := Nat.mul_le_mul (by omega) (by omega)
   rw [hsn, rawA_snoc] at hle
   simp only at hle
   generalize hp : rawA s t (c.take k) = p at *
   simp -dsimp (disch := first | assumption | omega) only [↓vmPre, vmPost, vmWrd, vmDat, eq_self, forall_const, Nat.reduceLT, Nat.reduceEqDiff, Nat.reduceSub, Nat.reduceMul, Nat.reduceMod, Nat.reduceDiv, Nat.reducePow, UInt8.reduceToNat, Int.reduceEq, Int.reduceLT, Int.reduceLE, ↓reduceIte, Nat.reduceAdd, Int.reduceToNat, reduceCtorEq, Nat.reduceLeDiff, ↓u_deflate_Adler, hb, w32_u8, b_add32]
   refine Rnd_keep (n - (k + 1)) (by omega) (by simp) ⟨k + 1, rfl, by omega, ?_, rfl⟩
   rw [hsn, rawA_snoc, hp]
   rfl
  ·have hkl : k = n := by omega
   subst hkl
   simp -dsimp (disch := first | assumption | omega) only [↓vmPre, vmPost, vmWrd, vmDat, eq_self, forall_const, Nat.reduceLT, Nat.reduceEqDiff, Nat.reduceSub, Nat.reduceMul, Nat.reduceMod, Nat.reduceDiv, Nat.reducePow, UInt8.reduceToNat, Int.reduceEq, Int.reduceLT, Int.reduceLE, ↓reduceIte, Nat.reduceAdd, Int.reduceToNat, reduceCtorEq, Nat.reduceLeDiff, ↓u_deflate_Adler]
   exact hq _
set_option maxRecDepth 100000 in
theorem adlerV (l : List UInt8) (hl : l.length ≤ 1000000) : VPure Tryd.prog 17 [slB l] (fun x => x = u32 (adl l)) := by
 refine VCalls.toPureV (go_deflate_Adler (by simp) ?_)
 simp -dsimp (disch := first | assumption | omega) only [↓vmPre, vmPost, vmWrd, vmDat, eq_self, forall_const, Nat.reduceLT, Nat.reduceEqDiff, Nat.reduceSub, Nat.reduceMul, Nat.reduceMod, Nat.reduceDiv, Nat.reducePow, UInt8.reduceToNat, Int.reduceEq, Int.reduceLT, Int.reduceLE, ↓reduceIte, Nat.reduceAdd, Int.reduceToNat, reduceCtorEq, Nat.reduceLeDiff, ↓u_deflate_Adler]
 refine w_loop (fun q e H => ∃ (r : List UInt8) (s t : Nat), q = r.length ∧ r.length ≤ 1000000 ∧ s < 65521 ∧ t < 65521 ∧ (rawA 1 0 l).1 % 65521 = (rawA s t r).1 % 65521 ∧ (rawA 1 0 l).2 % 65521 = (rawA s t r).2 % 65521 ∧ e = [(0, slB r), (3, u32 s), (4, u32 t)] ∧ H = []) l.length ?_ ?_
 ·exact ⟨l, 1, 0, rfl, hl, by omega, by omega, rfl, rfl, rfl, rfl⟩
 ·rintro q e H ⟨r, s, t, rfl, hrl, hs, ht, h1, h2, rfl, rfl⟩
  by_cases h0 : 0 < r.length
  ·have fin : ∀ n, n ≤ r.length → (rawA 1 0 l).1 % 65521 = (rawA ((rawA s t (r.take n)).1 % 65521) ((rawA s t (r.take n)).2 % 65521) (r.drop n)).1 % 65521 ∧ (rawA 1 0 l).2 % 65521 = (rawA ((rawA s t (r.take n)).1 % 65521) ((rawA s t (r.take n)).2 % 65521) (r.drop n)).2 % 65521 := fun n hn => by
    have e1 : rawA s t r = rawA (rawA s t (r.take n)).1 (rawA s t (r.take n)).2 (r.drop n) := by rw [← rawA_app, List.take_append_drop]
    obtain ⟨c1, c2⟩ := rawA_cong (r.drop n) (s := (rawA s t (r.take n)).1) (t := (rawA s t (r.take n)).2) (s' := (rawA s t (r.take n)).1 % 65521) (t' := (rawA s t (r.take n)).2 % 65521) (by omega) (by omega)
    rw [h1, h2, e1, c1, c2]
    exact ⟨rfl, rfl⟩
   by_cases h5 : 5000 < r.length
   ·simp -dsimp (disch := first | assumption | omega) only [↓vmPre, vmPost, vmWrd, vmDat, eq_self, forall_const, Nat.reduceLT, Nat.reduceEqDiff, Nat.reduceSub, Nat.reduceMul, Nat.reduceMod, Nat.reduceDiv, Nat.reducePow, UInt8.reduceToNat, Int.reduceEq, Int.reduceLT, Int.reduceLE, ↓reduceIte, Nat.reduceAdd, Int.reduceToNat, reduceCtorEq, Nat.reduceLeDiff, ↓u_deflate_Adler]
    refine adlerIn (n := 5000) (c := r.take 5000) (by rw [List.length_take]; omega) (by omega) hs ht fun y => ?_
    simp -dsimp (disch := first | assumption | omega) only [↓vmPre, vmPost, vmWrd, vmDat, eq_self, forall_const, Nat.reduceLT, Nat.reduceEqDiff, Nat.reduceSub, Nat.reduceMul, Nat.reduceMod, Nat.reduceDiv, Nat.reducePow, UInt8.reduceToNat, Int.reduceEq, Int.reduceLT, Int.reduceLE, ↓reduceIte, Nat.reduceAdd, Int.reduceToNat, reduceCtorEq, Nat.reduceLeDiff, ↓u_deflate_Adler]
    obtain ⟨f1, f2⟩ := fin 5000 (by omega)
    exact Rnd_keep (r.length - 5000) (by omega) (by simp) ⟨r.drop 5000, _, _, by simp, by simp; omega, Nat.mod_lt _ (by omega), Nat.mod_lt _ (by omega), f1, f2, rfl, rfl⟩
   ·simp -dsimp (disch := first | assumption | omega) only [↓vmPre, vmPost, vmWrd, vmDat, eq_self, forall_const, Nat.reduceLT, Nat.reduceEqDiff, Nat.reduceSub, Nat.reduceMul, Nat.reduceMod, Nat.reduceDiv, Nat.reducePow, UInt8.reduceToNat, Int.reduceEq, Int.reduceLT, Int.reduceLE, ↓reduceIte, Nat.reduceAdd, Int.reduceToNat, reduceCtorEq, Nat.reduceLeDiff, ↓u_deflate_Adler]
    refine adlerIn (n := r.length) (c := r) rfl (by omega) hs ht fun y => ?_
    simp -dsimp (disch := first | assumption | omega) only [↓vmPre, vmPost, vmWrd, vmDat, eq_self, forall_const, Nat.reduceLT, Nat.reduceEqDiff, Nat.reduceSub, Nat.reduceMul, Nat.reduceMod, Nat.reduceDiv, Nat.reducePow, UInt8.reduceToNat, Int.reduceEq, Int.reduceLT, Int.reduceLE, ↓reduceIte, Nat.reduceAdd, Int.reduceToNat, reduceCtorEq, Nat.reduceLeDiff, ↓u_deflate_Adler]
    obtain ⟨f1, f2⟩ := fin r.length (Nat.le_refl _)
    rw [List.take_length] at f1 f2
    exact Rnd_keep 0 (by omega) (by simp) ⟨r.drop r.length, _, _, by simp, by simp, Nat.mod_lt _ (by omega), Nat.mod_lt _ (by omega), f1, f2, rfl, rfl⟩
  ·have hr : r = [] := List.length_eq_zero_iff.1 (by omega)
   subst hr
   have hx : t * 2 ^ 16 < 4294967296 := by omega
   simp -dsimp (disch := first | assumption | omega) only [↓vmPre, vmPost, vmWrd, vmDat, eq_self, forall_const, Nat.reduceLT, Nat.reduceEqDiff, Nat.reduceSub, Nat.reduceMul, Nat.reduceMod, Nat.reduceDiv, Nat.reducePow, UInt8.reduceToNat, Int.reduceEq, Int.reduceLT, Int.reduceLE, ↓reduceIte, Nat.reduceAdd, Int.reduceToNat, reduceCtorEq, Nat.reduceLeDiff, ↓u_deflate_Adler, b_shl32, b_or32]
   rw [Nat.or_comm, or_add (by omega : s < 2 ^ 16)]
   have e1 : adl l = t * 65536 + s := by
    unfold adl
    rw [h1, h2]
    simp only [rawA]
    omega
   rw [e1, Nat.add_comm]
end Go.Proofs.YtfgljddikcghhaaDoor

