/- Adler and CRC in plain numbers. -/
import Derived.Test.YtknphdcjopaaoaaMem
import Derived.Laws.BitsAllLaws
namespace Go.Proofs.Ytknphdcjopaaoaa

def crcStep (s : Nat) : Nat := if s % 2 = 1 then (s / 2) ^^^ 3988292384 else s / 2
def crcIt : Nat → Nat → Nat
  | 0, s => s
  | n + 1, s => crcIt n (crcStep s)
def crcFold : Nat → List UInt8 → Nat
  | s, [] => s
  | s, x :: l => crcFold (crcIt 8 (s ^^^ x.toNat)) l
def crcOf (l : List UInt8) : Nat := crcFold 4294967295 l ^^^ 4294967295

theorem crcStep_lt {s : Nat} (h : s < 4294967296) : crcStep s < 4294967296 := by
  unfold crcStep
  split
  · exact Nat.xor_lt_two_pow (n := 32) (by omega) (by omega)
  · omega

theorem crcStep_mul (s : Nat) : s / 2 ^^^ (s &&& 1) * 3988292384 % 4294967296 = crcStep s := by
  unfold crcStep
  rw [nat_mask1]
  by_cases h : s % 2 = 1
  · rw [h, if_pos rfl]
  · have h0 : s % 2 = 0 := by omega
    rw [h0, if_neg (by omega)]; simp

theorem crcFold_drop (s : Nat) (l : List UInt8) (k : Nat) (h : k < l.length) : crcFold s (l.drop k) = crcFold (crcIt 8 (s ^^^ (l.getD k 0).toNat)) (l.drop (k + 1)) := by
  rw [drop_getD l k 0 h]; rfl

/-- The document's sum, byte by byte. -/
def adStep (p : Nat × Nat) (x : Nat) : Nat × Nat := ((p.1 + x) % 65521, (p.2 + (p.1 + x) % 65521) % 65521)
def adFold : Nat → Nat → List UInt8 → Nat × Nat
  | s, t, [] => (s, t)
  | s, t, x :: l => adFold ((s + x.toNat) % 65521) ((t + (s + x.toNat) % 65521) % 65521) l
def adOf (l : List UInt8) : Nat := (adFold 1 0 l).2 * 65536 + (adFold 1 0 l).1

theorem adFold_drop (s t : Nat) (l : List UInt8) (k : Nat) (h : k < l.length) : adFold s t (l.drop k) = adFold ((s + (l.getD k 0).toNat) % 65521) ((t + (s + (l.getD k 0).toNat) % 65521) % 65521) (l.drop (k + 1)) := by
  rw [drop_getD l k 0 h]; rfl

theorem adFold_lt (l : List UInt8) : ∀ (s t : Nat), s < 65521 → t < 65521 → (adFold s t l).1 < 65521 ∧ (adFold s t l).2 < 65521 := by
  induction l with
  | nil => intro s t hs ht; exact ⟨hs, ht⟩
  | cons x l ih => intro s t _ _; exact ih _ _ (by omega) (by omega)

/-- Sums that are not cut: congruent ones give the same. -/
theorem adFold_mod (l : List UInt8) (hl : l ≠ []) (s t s' t' : Nat) (hs : s % 65521 = s' % 65521) (ht : t % 65521 = t' % 65521) : adFold s t l = adFold s' t' l := by
  cases l with
  | nil => exact absurd rfl hl
  | cons x l =>
    show adFold _ _ l = adFold _ _ l
    have e1 : (s + x.toNat) % 65521 = (s' + x.toNat) % 65521 := by omega
    rw [e1]
    have e2 : (t + (s' + x.toNat) % 65521) % 65521 = (t' + (s' + x.toNat) % 65521) % 65521 := by omega
    rw [e2]

/-- A run of bytes whose sums are not cut. -/
def raw : Nat → Nat → List UInt8 → Nat × Nat
  | s, t, [] => (s, t)
  | s, t, x :: l => raw (s + x.toNat) (t + (s + x.toNat)) l

theorem adFold_raw (l : List UInt8) : ∀ (s t : Nat) (r : List UInt8), adFold (s % 65521) (t % 65521) (l ++ r) = adFold ((raw s t l).1 % 65521) ((raw s t l).2 % 65521) r := by
  induction l with
  | nil => intro s t r; rfl
  | cons x l ih =>
    intro s t r
    show adFold ((s % 65521 + x.toNat) % 65521) ((t % 65521 + (s % 65521 + x.toNat) % 65521) % 65521) (l ++ r) = _
    rw [show (s % 65521 + x.toNat) % 65521 = (s + x.toNat) % 65521 from by omega]
    rw [show (t % 65521 + (s + x.toNat) % 65521) % 65521 = (t + (s + x.toNat)) % 65521 from by omega]
    exact ih _ _ r

theorem raw_drop (s t : Nat) (l : List UInt8) (k : Nat) (h : k < l.length) : raw s t (l.drop k) = raw (s + (l.getD k 0).toNat) (t + (s + (l.getD k 0).toNat)) (l.drop (k + 1)) := by
  rw [drop_getD l k 0 h]; rfl

/-- How great the second sum gets. -/
def tb : Nat → Nat
  | 0 => 65520
  | i + 1 => tb i + (65520 + 255 * (i + 1))
theorem tb_mono (i : Nat) : tb i ≤ tb (i + 1) := by simp only [tb]; omega
theorem tb_two (i : Nat) : 2 * tb i = 131040 + 131040 * i + 255 * (i * (i + 1)) := by
  induction i with
  | zero => rfl
  | succ i ih =>
    simp only [tb]
    have e : (i + 1) * (i + 1 + 1) = i * (i + 1) + 2 * (i + 1) := by
      simp only [Nat.add_mul, Nat.mul_add, Nat.one_mul, Nat.mul_one]; omega
    rw [e]; omega
theorem tb_le (i : Nat) (h : i ≤ 5000) : tb i ≤ 3600000000 := by
  have := tb_two i
  have h2 : i * (i + 1) ≤ 5000 * 5001 := Nat.mul_le_mul h (by omega)
  omega

end Go.Proofs.Ytknphdcjopaaoaa
