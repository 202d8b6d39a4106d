/- SHA-1 in plain numbers: what the program and the document both compute. -/
import Derived.Test.YtknphdcjopaaoaaMem
import Derived.Laws.BitsAllLaws
namespace Go.Proofs.Ytknphdcjopaaoaa
open Go.RowKit

def rot (x n : Nat) : Nat := (x * 2 ^ n % 4294967296) ||| (x / 2 ^ (32 - n))
def sf1 (b c d : Nat) : Nat := (b &&& c) ||| ((4294967295 ^^^ b) &&& d)
def sf2 (b c d : Nat) : Nat := (b ^^^ c) ^^^ d
def sf3 (b c d : Nat) : Nat := ((b &&& c) ||| (b &&& d)) ||| (c &&& d)
def sff (i b c d : Nat) : Nat := if i < 20 then sf1 b c d else if i < 40 then sf2 b c d else if i < 60 then sf3 b c d else sf2 b c d
def skk (i : Nat) : Nat := if i < 20 then 1518500249 else if i < 40 then 1859775393 else if i < 60 then 2400959708 else 3395469782

theorem u32_or_lt {a b : Nat} (ha : a < 4294967296) (hb : b < 4294967296) : a ||| b < 4294967296 := Nat.or_lt_two_pow (n := 32) ha hb
theorem u32_and_lt {a b : Nat} (ha : a < 4294967296) : a &&& b < 4294967296 := Nat.lt_of_le_of_lt Nat.and_le_left ha
theorem u32_xor_lt {a b : Nat} (ha : a < 4294967296) (hb : b < 4294967296) : a ^^^ b < 4294967296 := Nat.xor_lt_two_pow (n := 32) ha hb

theorem rot_lt {x : Nat} (n : Nat) (hx : x < 4294967296) : rot x n < 4294967296 :=
  u32_or_lt (Nat.mod_lt _ (by omega)) (Nat.lt_of_le_of_lt (Nat.div_le_self _ _) hx)
theorem sf1_lt {b c d : Nat} (hb : b < 4294967296) : sf1 b c d < 4294967296 := u32_or_lt (u32_and_lt hb) (u32_and_lt (u32_xor_lt (by omega) hb))
theorem sf2_lt {b c d : Nat} (hb : b < 4294967296) (hc : c < 4294967296) (hd : d < 4294967296) : sf2 b c d < 4294967296 := u32_xor_lt (u32_xor_lt hb hc) hd
theorem sf3_lt {b c d : Nat} (hb : b < 4294967296) (hc : c < 4294967296) : sf3 b c d < 4294967296 := u32_or_lt (u32_or_lt (u32_and_lt hb) (u32_and_lt hb)) (u32_and_lt hc)
theorem sff_lt (i : Nat) {b c d : Nat} (hb : b < 4294967296) (hc : c < 4294967296) (hd : d < 4294967296) : sff i b c d < 4294967296 := by
  unfold sff; split
  · exact sf1_lt hb
  · split
    · exact sf2_lt hb hc hd
    · split
      · exact sf3_lt hb hc
      · exact sf2_lt hb hc hd

/-- Four bytes. -/
def num4 (p : List UInt8) (i : Nat) : Nat := (p.getD i 0).toNat * 16777216 + (p.getD (i + 1) 0).toNat * 65536 + (p.getD (i + 2) 0).toNat * 256 + (p.getD (i + 3) 0).toNat
theorem num4_lt (p : List UInt8) (i : Nat) : num4 p i < 4294967296 := by
  unfold num4
  have := UInt8.toNat_lt (p.getD i 0); have := UInt8.toNat_lt (p.getD (i + 1) 0); have := UInt8.toNat_lt (p.getD (i + 2) 0); have := UInt8.toNat_lt (p.getD (i + 3) 0)
  omega

theorem getD_all {L : List Nat} {M : Nat} (h : ∀ x ∈ L, x < M) (h0 : 0 < M) (j : Nat) : L.getD j 0 < M := by
  rw [List.getD_eq_getElem?_getD]
  cases e : L[j]? with
  | none => exact h0
  | some x => exact h x (List.mem_of_getElem? e)

/-- The schedule's first i words. -/
def wnext (p : List UInt8) (L : List Nat) (i : Nat) : Nat :=
  if i < 16 then num4 p (4 * i) else rot (((L.getD (i - 3) 0 ^^^ L.getD (i - 8) 0) ^^^ L.getD (i - 14) 0) ^^^ L.getD (i - 16) 0) 1
def wl (p : List UInt8) : Nat → List Nat
  | 0 => []
  | i + 1 => wl p i ++ [wnext p (wl p i) i]
@[simp] theorem wl_length (p : List UInt8) (i : Nat) : (wl p i).length = i := by induction i with
  | zero => rfl
  | succ i ih => simp [wl, ih]
theorem wl_lt (p : List UInt8) (i : Nat) : ∀ x ∈ wl p i, x < 4294967296 := by
  induction i with
  | zero => intro x hx; cases hx
  | succ i ih =>
    intro x hx
    simp only [wl, List.mem_append, List.mem_singleton] at hx
    rcases hx with hx | rfl
    · exact ih x hx
    · have hg : ∀ j, (wl p i).getD j 0 < 4294967296 := getD_all ih (by omega)
      unfold wnext; split
      · exact num4_lt _ _
      · exact rot_lt _ (u32_xor_lt (u32_xor_lt (u32_xor_lt (hg _) (hg _)) (hg _)) (hg _))
theorem wl_getD_lt (p : List UInt8) (i j : Nat) : (wl p i).getD j 0 < 4294967296 := getD_all (wl_lt p i) (by omega) j

/-- Five words. -/
structure V5 where
  a : Nat
  b : Nat
  c : Nat
  d : Nat
  e : Nat
def V5.ok (v : V5) : Prop := v.a < 4294967296 ∧ v.b < 4294967296 ∧ v.c < 4294967296 ∧ v.d < 4294967296 ∧ v.e < 4294967296
def V5.list (v : V5) : List Nat := [v.a, v.b, v.c, v.d, v.e]
def u32v (L : List Nat) : List Value := L.map fun (n : Nat) => Value.int .u32 (n : Int)
@[simp] theorem u32v_length (L : List Nat) : (u32v L).length = L.length := by simp [u32v]

def zs32 (n : Nat) : List Value := List.replicate n (.int .u32 0)
theorem u32v_get? (L : List Nat) (j : Nat) (h : j < L.length) : (u32v L)[j]? = some (.int .u32 ((L.getD j 0 : Nat) : Int)) := by simp [u32v, List.getD, h]
theorem wl_cell (p : List UInt8) (k : Nat) (hk : k < 80) : (u32v (wl p k) ++ zs32 (80 - k))[k]? = some (.int .u32 0) := by
  rw [List.getElem?_append_right (by simp), u32v_length, wl_length, Nat.sub_self, zs32, List.getElem?_replicate, if_pos (by omega)]
theorem wl_read (p : List UInt8) (k j : Nat) (hj : j < k) : (u32v (wl p k) ++ zs32 (80 - k))[j]? = some (.int .u32 (((wl p k).getD j 0 : Nat) : Int)) := by
  rw [List.getElem?_append_left (by simpa using hj), u32v_get? _ _ (by simpa using hj)]
theorem wl_set (p : List UInt8) (k x : Nat) (hk : k < 80) (hx : x = wnext p (wl p k) k) : (u32v (wl p k) ++ zs32 (80 - k)).set k (.int .u32 (x : Int)) = u32v (wl p (k + 1)) ++ zs32 (80 - (k + 1)) := by
  subst hx
  rw [List.set_append_right _ _ (by simp)]
  simp only [u32v_length, wl_length, Nat.sub_self]
  rw [show 80 - k = (80 - (k + 1)) + 1 from by omega]
  simp [zs32, List.replicate_succ, wl, u32v]

theorem W_cell (p : List UInt8) (i : Nat) (h : i < 80) : (u32v (wl p 80) ++ zs32 (80 - 80))[i]? = some (.int .u32 (((wl p 80).getD i 0 : Nat) : Int)) := wl_read p 80 i h
def rtemp (i : Nat) (v : V5) (x : Nat) : Nat := ((((rot v.a 5 + sff i v.b v.c v.d) % 4294967296 + v.e) % 4294967296 + skk i) % 4294967296 + x) % 4294967296
def rnd (i : Nat) (v : V5) (x : Nat) : V5 := ⟨rtemp i v x, v.a, rot v.b 30, v.c, v.d⟩
theorem rnd_ok (i : Nat) {v : V5} (x : Nat) (h : v.ok) : (rnd i v x).ok := ⟨Nat.mod_lt _ (by omega), h.1, rot_lt _ h.2.1, h.2.2.1, h.2.2.2.1⟩
def rnds : Nat → V5 → List Nat → V5
  | _, v, [] => v
  | i, v, x :: l => rnds (i + 1) (rnd i v x) l
theorem rnds_ok (l : List Nat) : ∀ (i : Nat) (v : V5), v.ok → (rnds i v l).ok := by
  induction l with
  | nil => intro i v h; exact h
  | cons x l ih => intro i v h; exact ih _ _ (rnd_ok i x h)
theorem rnds_drop (i : Nat) (v : V5) (l : List Nat) (h : i < l.length) : rnds i v (l.drop i) = rnds (i + 1) (rnd i v (l.getD i 0)) (l.drop (i + 1)) := by
  rw [drop_getD l i 0 h]; rfl

def add5 (h v : V5) : V5 := ⟨(h.a + v.a) % 4294967296, (h.b + v.b) % 4294967296, (h.c + v.c) % 4294967296, (h.d + v.d) % 4294967296, (h.e + v.e) % 4294967296⟩
theorem add5_ok (h v : V5) : (add5 h v).ok := ⟨Nat.mod_lt _ (by omega), Nat.mod_lt _ (by omega), Nat.mod_lt _ (by omega), Nat.mod_lt _ (by omega), Nat.mod_lt _ (by omega)⟩
/-- One block of 64 bytes. -/
def blk (h : V5) (p : List UInt8) : V5 := add5 h (rnds 0 h (wl p 80))

/-- Blocks, as long as there are any: the state, and what is left. -/
def blks : Nat → V5 → List UInt8 → V5 × List UInt8
  | 0, h, l => (h, l)
  | f + 1, h, l => if l.length < 64 then (h, l) else blks f (blk h (l.take 64)) (l.drop 64)
def blocks (h : V5) (l : List UInt8) : V5 × List UInt8 := blks l.length h l

theorem blks_fuel : ∀ (f g : Nat) (h : V5) (l : List UInt8), l.length ≤ f → l.length ≤ g → blks f h l = blks g h l := by
  intro f
  induction f with
  | zero =>
    intro g h l hf _
    have : l = [] := List.eq_nil_of_length_eq_zero (by omega)
    subst this
    cases g <;> simp [blks]
  | succ f ih =>
    intro g h l hf hg
    cases g with
    | zero =>
      have : l = [] := List.eq_nil_of_length_eq_zero (by omega)
      subst this; simp [blks]
    | succ g =>
      simp only [blks]
      split
      · rfl
      · exact ih g _ _ (by simp; omega) (by simp; omega)
theorem blocks_short (h : V5) (l : List UInt8) (hl : l.length < 64) : blocks h l = (h, l) := by
  unfold blocks
  cases hn : l.length with
  | zero => rfl
  | succ n => simp only [blks]; rw [if_pos hl]
theorem blocks_long (h : V5) (l : List UInt8) (hl : 64 ≤ l.length) : blocks h l = blocks (blk h (l.take 64)) (l.drop 64) := by
  unfold blocks
  obtain ⟨n, hn⟩ : ∃ n, l.length = n + 1 := ⟨l.length - 1, by omega⟩
  rw [hn]
  simp only [blks]
  rw [if_neg (by omega)]
  exact blks_fuel _ _ _ _ (by simp; omega) (Nat.le_refl _)
theorem blocks_rest_lt (h : V5) (l : List UInt8) : (blocks h l).2.length < 64 := by
  suffices H : ∀ (n : Nat) (h : V5) (l : List UInt8), l.length ≤ n → (blocks h l).2.length < 64 from H _ h l (Nat.le_refl _)
  intro n
  induction n with
  | zero => intro h l hl; rw [blocks_short _ _ (by omega)]; simp; omega
  | succ n ih =>
    intro h l hl
    rcases Nat.lt_or_ge l.length 64 with h1 | h1
    · rw [blocks_short _ _ h1]; exact h1
    · rw [blocks_long _ _ h1]; exact ih _ _ (by simp; omega)
theorem blocks_ok (h : V5) (l : List UInt8) (hh : h.ok) : (blocks h l).1.ok := by
  suffices H : ∀ (n : Nat) (h : V5) (l : List UInt8), h.ok → l.length ≤ n → (blocks h l).1.ok from H _ h l hh (Nat.le_refl _)
  intro n
  induction n with
  | zero => intro h l hh hl; rw [blocks_short _ _ (by omega)]; exact hh
  | succ n ih =>
    intro h l hh hl
    rcases Nat.lt_or_ge l.length 64 with h1 | h1
    · rw [blocks_short _ _ h1]; exact hh
    · rw [blocks_long _ _ h1]; exact ih _ _ (add5_ok _ _) (by simp; omega)
/-- More bytes behind: the blocks of the first part come first. -/
theorem blocks_append (h : V5) (l m : List UInt8) : blocks h (l ++ m) = blocks (blocks h l).1 ((blocks h l).2 ++ m) := by
  suffices H : ∀ (n : Nat) (h : V5) (l : List UInt8), l.length ≤ n → blocks h (l ++ m) = blocks (blocks h l).1 ((blocks h l).2 ++ m) from H _ h l (Nat.le_refl _)
  intro n
  induction n with
  | zero => intro h l hl; rw [blocks_short h l (by omega)]
  | succ n ih =>
    intro h l hl
    rcases Nat.lt_or_ge l.length 64 with h1 | h1
    · rw [blocks_short h l h1]
    · rw [blocks_long h l h1, blocks_long h (l ++ m) (by simp; omega), List.take_append_of_le_length h1, List.drop_append_of_le_length h1]
      exact ih _ _ (by simp; omega)

def H0 : V5 := ⟨1732584193, 4023233417, 2562383102, 271733878, 3285377520⟩
theorem H0_ok : H0.ok := by unfold V5.ok H0; refine ⟨?_, ?_, ?_, ?_, ?_⟩ <;> decide

/-- The byte k of 8, the greatest first. -/
def be8 (n : Nat) : List UInt8 := (List.range 8).map fun k => UInt8.ofNat (n / 2 ^ (56 - 8 * k) % 256)
theorem be8_length (n : Nat) : (be8 n).length = 8 := by simp [be8]
theorem be8_take (n i : Nat) (hi : i < 8) : (be8 n).take (i + 1) = (be8 n).take i ++ [UInt8.ofNat (n / 2 ^ (56 - 8 * i) % 256)] := by
  rw [List.take_succ_eq_append_getElem (by rw [be8_length]; exact hi)]
  congr 2
  simp [be8]
/-- What is put behind n bytes. -/
def padOf (n : Nat) : List UInt8 := 128 :: List.replicate ((119 - n % 64) % 64) 0 ++ be8 (n * 8 % 18446744073709551616)
/-- The 20 bytes of five words. -/
def out20 (v : V5) : List UInt8 := (List.range 20).map fun i => UInt8.ofNat (v.list.getD (i / 4) 0 / 2 ^ (24 - 8 * (i % 4)) % 256)
theorem out20_length (v : V5) : (out20 v).length = 20 := by simp [out20]
theorem out20_take (v : V5) (i : Nat) (hi : i < 20) : (out20 v).take (i + 1) = (out20 v).take i ++ [UInt8.ofNat (v.list.getD (i / 4) 0 / 2 ^ (24 - 8 * (i % 4)) % 256)] := by
  rw [List.take_succ_eq_append_getElem (by rw [out20_length]; exact hi)]
  congr 2
  simp [out20]
def z8 (n : Nat) : List Value := List.replicate n (.int .u8 0)
theorem o20_cell (v : V5) (i : Nat) (hi : i < 20) : (bv ((out20 v).take i) ++ z8 (20 - i))[i]? = some (.int .u8 0) := by
  rw [List.getElem?_append_right (by simp [out20_length]; omega), bv_length, List.length_take, out20_length, z8, List.getElem?_replicate, if_pos (by omega)]
theorem out20_pair (v : V5) (i k : Nat) (hi : i < 5) (hk : k < 4) : (out20 v).take (4 * i + k + 1) = (out20 v).take (4 * i + k) ++ [UInt8.ofNat (v.list.getD i 0 / 2 ^ (24 - 8 * k) % 256)] := by
  have h := out20_take v (4 * i + k) (by omega)
  rw [show (4 * i + k) / 4 = i from by omega, show (4 * i + k) % 4 = k from by omega] at h
  exact h
theorem o20_set (v : V5) (i : Nat) (hi : i < 20) {y : UInt8} (hy : (out20 v).take (i + 1) = (out20 v).take i ++ [y]) {z : Int} (hz : z = (y.toNat : Int)) : (bv ((out20 v).take i) ++ z8 (20 - i)).set i (.int .u8 z) = bv ((out20 v).take (i + 1)) ++ z8 (20 - (i + 1)) := by
  subst hz
  have hl : (bv ((out20 v).take i)).length = i := by simp [out20_length]; omega
  rw [List.set_append_right _ _ (by omega), hl, Nat.sub_self, hy, show 20 - i = (20 - (i + 1)) + 1 from by omega]
  simp [z8, List.replicate_succ, bv]
theorem pad_more {n z j m : Nat} (hz : z = (119 - n % 64) % 64) (hj : j < z) (hm : m = n + 1 + j) : (((m : Int) % 64) != 56) = true := by rw [bne_iff_ne]; omega
theorem pad_done {n z j m : Nat} (hz : z = (119 - n % 64) % 64) (hj : j = z) (hm : m = n + 1 + j) : (((m : Int) % 64) != 56) = false := by rw [bne_eq_false_iff_eq]; omega
/-- The padded text is made of whole blocks. -/
theorem padded (l : List UInt8) : ∃ q, (l ++ padOf l.length).length = 64 * q := by
  have h : (l ++ padOf l.length).length = l.length + (1 + (119 - l.length % 64) % 64 + 8) := by simp [padOf, be8_length]; omega
  rw [h]
  exact ⟨(l.length + (1 + (119 - l.length % 64) % 64 + 8)) / 64, by omega⟩
theorem padOf_le (n : Nat) : (padOf n).length ≤ 73 := by simp [padOf, be8_length]; omega
theorem be8_back (n q : Nat) (hq : q < 8) : (be8 n).take (8 - q) = (be8 n).take (7 - q) ++ [UInt8.ofNat (n / 2 ^ (8 * q) % 256)] := by
  have h := be8_take n (7 - q) (by omega)
  rw [show 7 - q + 1 = 8 - q from by omega, show 56 - 8 * (7 - q) = 8 * q from by omega] at h
  exact h
/-- SHA-1. -/
def sha (l : List UInt8) : List UInt8 := out20 (blocks H0 (l ++ padOf l.length)).1
@[simp] theorem sha_length (l : List UInt8) : (sha l).length = 20 := by simp [sha, out20]

/-- The rounds from i on, out of the state v, come to what all come to out of h. -/
structure RndsAt (p : List UInt8) (h : V5) (i : Nat) (v : V5) : Prop where
  eq : rnds i v ((wl p 80).drop i) = rnds 0 h (wl p 80)
theorem RndsAt.zero (p : List UInt8) (h : V5) : RndsAt p h 0 h := ⟨rfl⟩
theorem RndsAt.succ {p : List UInt8} {h v : V5} {i : Nat} (H : RndsAt p h i v) (hi : i < 80) : RndsAt p h (i + 1) (rnd i v ((wl p 80).getD i 0)) := by
  have e := H.eq; rw [rnds_drop _ _ _ (by rw [wl_length]; exact hi)] at e; exact ⟨e⟩
theorem RndsAt.last {p : List UInt8} {h v : V5} (H : RndsAt p h 80 v) : v = rnds 0 h (wl p 80) := by
  have e := H.eq; rw [List.drop_eq_nil_of_le (by rw [wl_length]; exact Nat.le_refl _)] at e; exact e
/-- The sum of two states, as far as it is made. -/
def mix5 (h v : V5) (k : Nat) : List Nat := (add5 h v).list.take k ++ h.list.drop k
theorem mix5_length (h v : V5) (k : Nat) : (mix5 h v k).length = 5 := by
  simp [mix5, V5.list]; omega
theorem mix5_get (h v : V5) (k : Nat) (hk : k < 5) : (u32v (mix5 h v k))[k]? = some (.int .u32 ((h.list.getD k 0 : Nat) : Int)) := by
  rcases (show k = 0 ∨ k = 1 ∨ k = 2 ∨ k = 3 ∨ k = 4 from by omega) with rfl | rfl | rfl | rfl | rfl <;> rfl
theorem mix5_set (h v : V5) (k : Nat) (hk : k < 5) : (u32v (mix5 h v k)).set k (.int .u32 (((h.list.getD k 0 + v.list.getD k 0) % 4294967296 : Nat) : Int)) = u32v (mix5 h v (k + 1)) := by
  rcases (show k = 0 ∨ k = 1 ∨ k = 2 ∨ k = 3 ∨ k = 4 from by omega) with rfl | rfl | rfl | rfl | rfl <;> rfl
theorem mix5_zero (h v : V5) : mix5 h v 0 = h.list := rfl
theorem mix5_five (h v : V5) : mix5 h v 5 = (add5 h v).list := rfl
theorem list5_get (v : V5) (k : Nat) (hk : k < 5) : (u32v v.list)[k]? = some (.int .u32 ((v.list.getD k 0 : Nat) : Int)) := by
  rcases (show k = 0 ∨ k = 1 ∨ k = 2 ∨ k = 3 ∨ k = 4 from by omega) with rfl | rfl | rfl | rfl | rfl <;> rfl
theorem V5.ok.get {v : V5} (h : v.ok) (k : Nat) : v.list.getD k 0 < 4294967296 := by
  refine getD_all ?_ (by omega) k
  intro x hx
  simp only [V5.list, List.mem_cons, List.not_mem_nil, or_false] at hx
  obtain ⟨h1, h2, h3, h4, h5⟩ := h
  rcases hx with rfl | rfl | rfl | rfl | rfl <;> assumption
theorem sff1 {i b c d : Nat} (h : i < 20) : sff i b c d = sf1 b c d := by unfold sff; rw [if_pos h]
theorem sff2 {i b c d : Nat} (h : 20 ≤ i) (h2 : i < 40) : sff i b c d = sf2 b c d := by unfold sff; rw [if_neg (by omega), if_pos h2]
theorem sff3 {i b c d : Nat} (h : 40 ≤ i) (h2 : i < 60) : sff i b c d = sf3 b c d := by unfold sff; rw [if_neg (by omega), if_neg (by omega), if_pos h2]
theorem sff4 {i b c d : Nat} (h : 60 ≤ i) : sff i b c d = sf2 b c d := by unfold sff; rw [if_neg (by omega), if_neg (by omega), if_neg (by omega)]
theorem skk1 {i : Nat} (h : i < 20) : skk i = 1518500249 := by unfold skk; rw [if_pos h]
theorem skk2 {i : Nat} (h : 20 ≤ i) (h2 : i < 40) : skk i = 1859775393 := by unfold skk; rw [if_neg (by omega), if_pos h2]
theorem skk3 {i : Nat} (h : 40 ≤ i) (h2 : i < 60) : skk i = 2400959708 := by unfold skk; rw [if_neg (by omega), if_neg (by omega), if_pos h2]
theorem skk4 {i : Nat} (h : 60 ≤ i) : skk i = 3395469782 := by unfold skk; rw [if_neg (by omega), if_neg (by omega), if_neg (by omega)]
end Go.Proofs.Ytknphdcjopaaoaa
