/- What the proof of ObjectCommitsCard stands on (texts merged; names shortened by a program): part 6. -/
import Derived.Test.YtliaddbbmnfioaaGreatDoorQE
import Derived.Lib.IndexMore
import Derived.Lib.TrimByte
import Derived.Lib.SlTrimSet
import Derived.Test.YtliaddbbmnfioaaGreatDoorQD
import Derived.Test.YtliaddbbmnfioaaGreatDoorProg
import Derived.KernelRfl
import Derived.Shelf.Strings.SlTrimAscii
import Derived.Laws.RangeAny
import Derived.Lib.TrimU
import Derived.WalkKit
import Derived.Lib.Builder
import Derived.Lib.UnsafeStr
import Derived.Laws.Externs
import Derived.Shelf.RegionOpenPlain
import Derived.Shelf.Lay
import Derived.Lib.Bytealg
import Derived.LaidEql
import Derived.Stop.Asserts
import Derived.RowKitTokens
namespace Go.Proofs.YtliaddbbmnfioaaGreatDoor
open Go.RowKit
variable [Bf]
set_option linter.unusedSectionVars false
set_option linter.unusedVariables false
set_option linter.unusedSimpArgs false
def pV (s : List UInt8) : Option Nat := if s ≠ [] ∧ s.all GZ ∧ Vm 0 s < 1048576 then some (Vm 0 s) else none
def Al2 (s : List UInt8) (r : TV) : Prop := (∀ n, pV s = some n → r = .tup [.val (.int .u64 (n : Int)), .val .nilIface]) ∧ (pV s = none → ∃ m c : Nat, m ≤ 1048575 ∧ (c = 1 ∨ c = 2) ∧ r = .tup [.val (.int .u64 (m : Int)), .ifc 228 (i64 (c : Int))])
theorem Al2.no {s : List UInt8} (h : pV s = none) {m c : Nat} (hc : c = 1 ∨ c = 2) (hm : m ≤ 1048575 := by omega) : Al2 s (.tup [.val (.int .u64 (m : Int)), .ifc 228 (i64 (c : Int))]) :=
 ⟨fun n hn => (by rw [h] at hn; cases hn), fun _ => ⟨m, c, hm, hc, rfl⟩⟩
theorem Al2.yes {s : List UInt8} {n : Nat} (h : pV s = some n) : Al2 s (.tup [.val (.int .u64 (n : Int)), .val .nilIface]) :=
 ⟨fun m hm => (by rw [h] at hm; cases hm; rfl), fun hn => (by rw [h] at hn; cases hn)⟩
theorem AAy {s : List UInt8} {i : Nat} {b : UInt8} (h : s[i]? = some b) (hb : GZ b = false) : pV s = none := by
 unfold pV
 rw [if_neg]
 rintro ⟨_, h2, _⟩
 have := List.all_eq_true.1 h2 b (List.mem_of_getElem? h)
 rw [hb] at this; cases this
theorem AzK {s : List UInt8} {i : Nat} (h : 1048576 ≤ Vm 0 (s.take i)) : pV s = none := by
 unfold pV
 rw [if_neg]
 rintro ⟨_, _, h3⟩
 have : Vm 0 s = Vm (Vm 0 (s.take i)) (s.drop i) := by rw [← TC, List.take_append_drop]
 have h4 := AmK (s.drop i) (Vm 0 (s.take i))
 omega
theorem AyZ (s : List UInt8) (hs : s.length ≤ 1000000) : Bj Tryz.prog 123 [ts s, i64 ((10 : Nat) : Int), i64 ((20 : Nat) : Int)] (Al2 s) := by
 refine Aw.toPureV (Ha (by simp) ?_)
 by_cases h0 : s = []
 ·subst h0
  have hn : pV [] = none := by unfold pV; simp
  simp -dsimp (disch := first | assumption | omega | (simp only [Ad]; done) | (simp only [Ad]; omega)) only [↓Ai, Ae, Ag, Ah, eq_self, Nat.reduceEqDiff, ↓reduceIte, Nat.reduceAdd, reduceCtorEq, ↓CE, ↓BP, ↓Aj]
  exact Al2.no hn (.inr rfl)
 have hw1 : IntKind.u64.wrap ((20 : Nat) : Int) = ((20 : Nat) : Int) := YQ (by omega)
 simp -dsimp (disch := first | assumption | omega | (simp only [Ad]; done) | (simp only [Ad]; omega)) only [↓Ai, Ae, Ag, Ah, eq_self, Nat.reduceLT, Nat.reduceEqDiff, ↓reduceIte, Nat.reduceAdd, reduceCtorEq, Nat.reduceLeDiff, ↓CE, ↓BP, h0, ↓EO, ↓EP, ↓EW, ↓EC, ↓EY, ↓Ew]
 simp -dsimp (disch := first | assumption | omega | (simp only [Ad]; done) | (simp only [Ad]; omega)) only [↓Ai, Ae, Ag, Ah, eq_self, Nat.reduceEqDiff, Nat.reduceSub, Nat.reduceMul, Nat.reducePow, ↓reduceIte, reduceCtorEq, ↓EG, ↓EF, ↓EN, hw1, AnZ, AnN, ↓EX, ↓ED, ↓EU, AL, ↓Ez]
 refine E9 (fun q e H => ∃ (i n : Nat), q = s.length - i ∧ i ≤ s.length ∧ (s.take i).all GZ = true ∧ n = Vm 0 (s.take i) ∧ n < 1048576 ∧ H = [.obj 0 (.arr s.length 1 (s.map by8))] ∧
  e = [(1, i64 ((10 : Nat) : Int)), (8, tb false), (9, ts s), (10, .val (.int .u64 ((1844674407370955162 : Nat) : Int))), (11, .val (.int .u64 ((1048575 : Nat) : Int))), (12, tb false), (13, .val (.int .u64 (n : Int))), (99, .os 1 0 0 [] 0 s.length s.length), (100, i64 (s.length : Int)), (101, i64 (i : Int))]) s.length ?_ ?_
 ·refine ⟨0, 0, ?_, Nat.zero_le _, ?_, ?_, ?_, ?_, ?_⟩
  ·simp
  ·rw [List.take_zero]; rfl
  ·rw [List.take_zero]; rfl
  ·omega
  ·simp
  ·simp [forget, get]
 ·rintro q e H ⟨i, n, rfl, hi, hall, hn, hnl, rfl, rfl⟩
  by_cases c : i < s.length
  ·have hg : s[i]? = some s[i] := List.getElem?_eq_getElem c
   have hsucc := List.take_succ_eq_append_getElem c
   generalize s[i] = b at *
   have hb := b.toNat_lt
   have hnum : Vm 0 (s.take (i + 1)) = n * 10 + (b.toNat - 48) := by rw [hsucc, TC, ← hn]; rfl
   have hw10 : IntKind.u8.wrap ((10 : Nat) : Int) = ((10 : Nat) : Int) := by decide
   have hw10' : IntKind.u64.wrap ((10 : Nat) : Int) = ((10 : Nat) : Int) := by decide
   by_cases hd : 48 ≤ b.toNat ∧ b.toNat ≤ 57
   ·have hisd : GZ b = true := by unfold GZ; simp [hd]
    have h95 : ¬ b.toNat = 95 := by omega
    have hwd : IntKind.u64.wrap ((b.toNat - 48 : Nat) : Int) = ((b.toNat - 48 : Nat) : Int) := YQ (by omega)
    by_cases hc : 1844674407370955162 ≤ n
    ·exact absurd hc (by omega)
    ·have hnl2 := hnl
     clear hnl
     have hn10 : n * 10 < 18446744073709551616 := by omega
     have hadd : ∀ t, ET t .add (.int .u64 ((n * 10 : Nat) : Int)) (.int .u64 ((b.toNat - 48 : Nat) : Int)) = some (.int .u64 (((n * 10 + (b.toNat - 48)) % 18446744073709551616 : Nat) : Int)) := fun t => by
      rw [show ET t .add (.int .u64 ((n * 10 : Nat) : Int)) (.int .u64 ((b.toNat - 48 : Nat) : Int)) = some (.int .u64 (IntKind.u64.wrap (((n * 10 : Nat) : Int) + ((b.toNat - 48 : Nat) : Int)))) from rfl, IntKind.wrap_u64]
      congr 2
     simp -dsimp (disch := first | assumption | omega | (simp only [Ad]; done) | (simp only [Ad]; omega)) only [↓Ai, Ae, Ag, Ah, eq_self, Nat.reduceEqDiff, ↓reduceIte, ↓AA, ↓AB, ↓A8, hg, ↓AZ, ↓AY, h95, ↓Ba, ↓Bc, ↓Az, Zd, ↓A7, hw10, ↓CZ, ↓ES, hw10', Aj9, ↓Eu, hwd, hadd, ↓ER]
     by_cases hbig : 1048576 ≤ n * 10 + (b.toNat - 48)
     ·have hno := AzK (s := s) (i := i + 1) (by rw [hnum]; exact hbig)
      by_cases hwr : (n * 10 + (b.toNat - 48)) % 18446744073709551616 < n * 10
      ·simp -dsimp (disch := first | assumption | omega | (simp only [Ad]; done) | (simp only [Ad]; omega)) only [↓Ai, Ae, Ag, Ah, eq_self, Nat.reduceEqDiff, ↓reduceIte, ↓Aj]
       exact Al2.no hno (.inl rfl)
      ·have hgt : (n * 10 + (b.toNat - 48)) % 18446744073709551616 > 1048575 := by omega
       simp -dsimp (disch := first | assumption | omega | (simp only [Ad]; done) | (simp only [Ad]; omega)) only [↓Ai, Ae, Ag, Ah, eq_self, Nat.reduceEqDiff, ↓reduceIte, ↓Aj]
       exact Al2.no hno (.inl rfl)
     ·have hmod : (n * 10 + (b.toNat - 48)) % 18446744073709551616 = n * 10 + (b.toNat - 48) := Nat.mod_eq_of_lt (by omega)
      rw [hmod]
      simp -dsimp (disch := first | assumption | omega | (simp only [Ad]; done) | (simp only [Ad]; omega)) only [↓Ai, Ae, Ag, Ah, eq_self, Nat.reduceEqDiff, ↓reduceIte]
      exact Ce (s.length - (i + 1)) (by omega) (by simp) ⟨i + 1, n * 10 + (b.toNat - 48), rfl, by omega, by rw [hsucc, List.all_append, hall]; simp [hisd], hnum.symm, by omega, rfl, by simp [forget, get]⟩
   ·have hno := AAy hg (show GZ b = false by unfold GZ; simp; omega)
    by_cases h95 : b.toNat = 95
    ·have hor : (b.toNat ||| 32) = 127 := by rw [h95]; rfl
     simp -dsimp (disch := first | assumption | omega | (simp only [Ad]; done) | (simp only [Ad]; omega)) only [↓Ai, Ae, Ag, Ah, eq_self, Nat.reduceEqDiff, ↓reduceIte, Nat.reduceLeDiff, ↓AA, ↓AB, ↓A8, hg, ↓AZ, ↓AY, h95, ↓Ba, ↓Bc, ↓Az, ↓Be]
     refine (Zt b).calls rfl fun r hr => ?_
     subst hr
     rw [hor]
     simp -dsimp (disch := first | assumption | omega | (simp only [Ad]; done) | (simp only [Ad]; omega)) only [↓Ai, Ae, Ag, Ah, eq_self, Nat.reduceEqDiff, ↓reduceIte, Nat.reduceLeDiff]
     refine (Zt b).calls rfl fun r hr => ?_
     subst hr
     rw [hor]
     simp -dsimp (disch := first | assumption | omega | (simp only [Ad]; done) | (simp only [Ad]; omega)) only [↓Ai, Ae, Ag, Ah, eq_self, Nat.reduceEqDiff, ↓reduceIte, Nat.reduceLeDiff, ↓Aj]
     exact Al2.no hno (.inr rfl)
    ·have hl := AEQ b.toNat hb hd
     simp -dsimp (disch := first | assumption | omega | (simp only [Ad]; done) | (simp only [Ad]; omega)) only [↓Ai, Ae, Ag, Ah, eq_self, Nat.reduceEqDiff, ↓reduceIte, ↓AA, ↓AB, ↓A8, hg, ↓AZ, ↓AY, h95, ↓Ba, ↓Bc]
     by_cases c48 : 48 ≤ b.toNat
     ·have c57 : ¬ b.toNat ≤ 57 := by omega
      simp -dsimp (disch := first | assumption | omega | (simp only [Ad]; done) | (simp only [Ad]; omega)) only [↓Ai, Ae, Ag, Ah, eq_self, Nat.reduceEqDiff, ↓reduceIte, ↓Az, ↓Be]
      refine (Zt b).calls rfl fun r hr => ?_
      subst hr
      have hlw := Zt b
      generalize b.toNat ||| 32 = x at *
      by_cases c97 : 97 ≤ x
      ·simp -dsimp (disch := first | assumption | omega | (simp only [Ad]; done) | (simp only [Ad]; omega)) only [↓Ai, Ae, Ag, Ah, eq_self, Nat.reduceEqDiff, ↓reduceIte]
       refine hlw.calls rfl fun r hr => ?_
       subst hr
       by_cases c122 : x ≤ 122
       ·have h10 := hl c97 c122
        have hmod : (x - 97 + 10) % 256 = x - 97 + 10 := Nat.mod_eq_of_lt (by omega)
        simp -dsimp (disch := first | assumption | omega | (simp only [Ad]; done) | (simp only [Ad]; omega)) only [↓Ai, Ae, Ag, Ah, eq_self, Nat.reduceEqDiff, ↓reduceIte]
        refine hlw.calls rfl fun r hr => ?_
        subst hr
        simp -dsimp (disch := first | assumption | omega | (simp only [Ad]; done) | (simp only [Ad]; omega)) only [↓Ai, Ae, Ag, Ah, eq_self, Nat.reduceEqDiff, ↓reduceIte, Nat.reduceLeDiff, Zd, Af8, hmod, ↓A7, hw10, ↓Aj]
        exact Al2.no hno (.inr rfl)
       ·simp -dsimp (disch := first | assumption | omega | (simp only [Ad]; done) | (simp only [Ad]; omega)) only [↓Ai, Ae, Ag, Ah, eq_self, Nat.reduceEqDiff, ↓reduceIte, ↓Aj]
        exact Al2.no hno (.inr rfl)
      ·simp -dsimp (disch := first | assumption | omega | (simp only [Ad]; done) | (simp only [Ad]; omega)) only [↓Ai, Ae, Ag, Ah, eq_self, Nat.reduceEqDiff, ↓reduceIte, ↓Aj]
       exact Al2.no hno (.inr rfl)
     ·simp -dsimp (disch := first | assumption | omega | (simp only [Ad]; done) | (simp only [Ad]; omega)) only [↓Ai, Ae, Ag, Ah, eq_self, Nat.reduceEqDiff, ↓reduceIte, ↓Az, ↓Be]
      refine (Zt b).calls rfl fun r hr => ?_
      subst hr
      have hlw := Zt b
      generalize b.toNat ||| 32 = x at *
      by_cases c97 : 97 ≤ x
      ·simp -dsimp (disch := first | assumption | omega | (simp only [Ad]; done) | (simp only [Ad]; omega)) only [↓Ai, Ae, Ag, Ah, eq_self, Nat.reduceEqDiff, ↓reduceIte]
       refine hlw.calls rfl fun r hr => ?_
       subst hr
       by_cases c122 : x ≤ 122
       ·have h10 := hl c97 c122
        have hmod : (x - 97 + 10) % 256 = x - 97 + 10 := Nat.mod_eq_of_lt (by omega)
        simp -dsimp (disch := first | assumption | omega | (simp only [Ad]; done) | (simp only [Ad]; omega)) only [↓Ai, Ae, Ag, Ah, eq_self, Nat.reduceEqDiff, ↓reduceIte]
        refine hlw.calls rfl fun r hr => ?_
        subst hr
        simp -dsimp (disch := first | assumption | omega | (simp only [Ad]; done) | (simp only [Ad]; omega)) only [↓Ai, Ae, Ag, Ah, eq_self, Nat.reduceEqDiff, ↓reduceIte, Nat.reduceLeDiff, Zd, Af8, hmod, ↓A7, hw10, ↓Aj]
        exact Al2.no hno (.inr rfl)
       ·simp -dsimp (disch := first | assumption | omega | (simp only [Ad]; done) | (simp only [Ad]; omega)) only [↓Ai, Ae, Ag, Ah, eq_self, Nat.reduceEqDiff, ↓reduceIte, ↓Aj]
        exact Al2.no hno (.inr rfl)
      ·simp -dsimp (disch := first | assumption | omega | (simp only [Ad]; done) | (simp only [Ad]; omega)) only [↓Ai, Ae, Ag, Ah, eq_self, Nat.reduceEqDiff, ↓reduceIte, ↓Aj]
       exact Al2.no hno (.inr rfl)
  ·have hi2 : i = s.length := by omega
   subst hi2
   rw [List.take_length] at hn hall
   have hyes : pV s = some n := by unfold pV; rw [if_pos ⟨h0, hall, by rw [← hn]; exact hnl⟩, hn]
   simp -dsimp (disch := first | assumption | omega | (simp only [Ad]; done) | (simp only [Ad]; omega)) only [↓Ai, Ae, Ag, Ah, eq_self, Nat.reduceEqDiff, ↓reduceIte, ↓AA, ↓AB, ↓EE, ↓Aj]
   exact Al2.yes hyes
variable [Au] [AO]
theorem Aks (s : List UInt8) (hs : s.length ≤ 1000000) : Bj Tryz.prog 89 [ts s, i64 ((10 : Nat) : Int), i64 ((20 : Nat) : Int)] (fun r => (∀ n, pV s = some n → r = .tup [.val (.int .u64 (n : Int)), .val .nilIface]) ∧ (pV s = none → ∃ m : Nat, m ≤ 1048575 ∧ r = .tup [.val (.int .u64 (m : Int)), .ifc 229 .any])) := by
 refine Aw.toPureV (QR (by simp) ?_)
 simp -dsimp (disch := first | assumption | omega | (simp only [Ad]; done) | (simp only [Ad]; omega)) only [↓Ai, Ae, Ag, Ah, eq_self, Nat.reduceEqDiff, ↓reduceIte, Nat.reduceAdd, reduceCtorEq, ↓Cc]
 refine (AyZ s hs).calls rfl fun r hr => ?_
 cases hp : pV s with
 | some n =>
  rw [hr.1 n hp]
  simp -dsimp (disch := first | assumption | omega | (simp only [Ad]; done) | (simp only [Ad]; omega)) only [↓Ai, Ae, Ag, Ah, eq_self, Nat.reduceEqDiff, ↓reduceIte, reduceCtorEq, ↓Cc]
  exact ⟨fun m hm => (by cases hm; rfl), fun h => (by cases h)⟩
 | none =>
  obtain ⟨m, c, hm, hc, rfl⟩ := hr.2 hp
  simp -dsimp (disch := first | assumption | omega | (simp only [Ad]; done) | (simp only [Ad]; omega)) only [↓Ai, Ae, Ag, Ah, eq_self, Nat.reduceEqDiff, ↓reduceIte, reduceCtorEq, ↓Cc]
  refine (AvO _ s _ _ hs c hc).calls rfl fun r hr => ?_
  subst hr
  simp -dsimp (disch := first | assumption | omega | (simp only [Ad]; done) | (simp only [Ad]; omega)) only [↓Ai, Ae, Ag, Ah, eq_self, forall_const, Nat.reduceEqDiff, ↓reduceIte, reduceCtorEq, ↓Cc]
  exact ⟨fun n h => h.elim, m, hm, rfl⟩
end Go.Proofs.YtliaddbbmnfioaaGreatDoor


namespace Go.Proofs.YtliaddbbmnfioaaGreatDoor
open Go.RowKit
variable [Bf]
set_option linter.unusedSectionVars false
set_option linter.unusedVariables false
set_option linter.unusedSimpArgs false

section
omit [Bf]
structure Per where
 name : List UInt8
 mail : List UInt8
 time : Int
 zone : Int
def Hy (s : List UInt8) : Prop := s.length ≤ 60 ∧ (∀ c ∈ s, c ≠ 60 ∧ c ≠ 62 ∧ c ≠ 10 ∧ c ≠ 0) ∧ s[0]? ≠ some 32 ∧ s[s.length - 1]? ≠ some 32
instance (s : List UInt8) : Decidable (Hy s) := by unfold Hy; infer_instance
def DC (p : Per) : Prop := Hy p.name ∧ Hy p.mail ∧ 0 ≤ p.time ∧ p.time ≤ 1099511627776 ∧ -840 ≤ p.zone ∧ p.zone ≤ 840
instance (p : Per) : Decidable (DC p) := by unfold DC; infer_instance
def Abx (z : Nat) : List UInt8 := [UInt8.ofNat (48 + z / 60 / 10), UInt8.ofNat (48 + z / 60 % 10), UInt8.ofNat (48 + z % 60 / 10), UInt8.ofNat (48 + z % 60 % 10)]
def AeA (z : Int) : UInt8 := if z < 0 then 45 else 43
def GX (p : Per) : List UInt8 := AeA p.zone :: Abx p.zone.natAbs
def Dv (p : Per) : List UInt8 := p.name ++ ([32, 60] ++ (p.mail ++ ([62, 32] ++ (Lib.decDigits p.time.toNat ++ ([32] ++ GX p)))))
theorem Av6 {a sep b : List UInt8} (h : ∀ j, j < a.length → Lib.occAt (a ++ (sep ++ b)) sep j = false) : Lib.cut (a ++ (sep ++ b)) sep = (a, b, true) := by
 have hi : Lib.index (a ++ (sep ++ b)) sep = (a.length : Int) := Lib.index_first (by simp) (by simp [Lib.occAt, List.isPrefixOf_iff_prefix]) h
 unfold Lib.cut
 rw [hi, if_pos (by omega)]
 simp only [Int.toNat_natCast, List.take_left]
 rw [← List.drop_drop, List.drop_left, List.drop_left]
theorem Anp {s t : List UInt8} {x : UInt8} {j : Nat} (h : Lib.occAt s (x :: t) j = true) : s[j]? = some x ∧ ∀ y r, t = y :: r → s[j + 1]? = some y := by
 rw [Lib.occAt, List.isPrefixOf_iff_prefix] at h
 obtain ⟨u, hu⟩ := h
 constructor
 ·have := congrArg (·[0]?) hu
  simpa using this.symm
 ·rintro y r rfl
  have := congrArg (·[1]?) hu
  simpa using this.symm
theorem Alo {a t b : List UInt8} {x : UInt8} (h : x ∉ a) : Lib.cut (a ++ ((x :: t) ++ b)) (x :: t) = (a, b, true) := Av6 fun j hj => by
 cases hc : Lib.occAt (a ++ ((x :: t) ++ b)) (x :: t) j with
 | false => rfl
 | true =>
 exfalso
 have := (Anp hc).1
 rw [List.getElem?_append_left hj] at this
 exact h (List.mem_of_getElem? this)
theorem Apd {a b : List UInt8} {x y : UInt8} (h : y ∉ a) (hxy : x ≠ y) : Lib.cut (a ++ ([x, y] ++ b)) [x, y] = (a, b, true) := Av6 fun j hj => by
 cases hc : Lib.occAt (a ++ ([x, y] ++ b)) [x, y] j with
 | false => rfl
 | true =>
 exfalso
 have := (Anp hc).2 y [] rfl
 by_cases hl : j + 1 < a.length
 ·rw [List.getElem?_append_left hl] at this
  exact h (List.mem_of_getElem? this)
 ·have e : j + 1 = a.length := by omega
  rw [e, List.getElem?_append_right (by omega)] at this
  simp at this
  exact hxy this
end
theorem Aq2 (n : Nat) (c : UInt8) (h : c ∈ Lib.decDigits n) : 48 ≤ c.toNat ∧ c.toNat ≤ 57 := by
 have := List.all_eq_true.1 (Akh n).1 c h
 unfold GZ at this
 simpa using this
theorem AjW {p : Per} (h : DC p) : Lib.cut (Dv p) [32, 60] = (p.name, p.mail ++ ([62, 32] ++ (Lib.decDigits p.time.toNat ++ ([32] ++ GX p))), true)
  ∧ Lib.cut (p.mail ++ ([62, 32] ++ (Lib.decDigits p.time.toNat ++ ([32] ++ GX p)))) [62, 32] = (p.mail, Lib.decDigits p.time.toNat ++ ([32] ++ GX p), true)
  ∧ Lib.cut (Lib.decDigits p.time.toNat ++ ([32] ++ GX p)) [32] = (Lib.decDigits p.time.toNat, GX p, true)
  ∧ RZ (Lib.decDigits p.time.toNat) = some p.time.toNat := by
 obtain ⟨h1, h2, h3, h4, _, _⟩ := h
 refine ⟨Apd (fun hm => (h1.2.1 _ hm).1 rfl) (by decide), Alo (fun hm => (h2.2.1 _ hm).2.1 rfl), Alo (fun hm => by have := Aq2 _ _ hm; simp at this), AoA (by omega)⟩
theorem AEv {n : Nat} (h1 : 10000 ≤ n) (h2 : n < 20000) : Lib.decDigits n = [49, UInt8.ofNat (48 + n / 1000 % 10), UInt8.ofNat (48 + n / 100 % 10), UInt8.ofNat (48 + n / 10 % 10), UInt8.ofNat (48 + n % 10)] := by
 rw [Lib.decDigits.eq_1, dif_neg (by omega), Lib.decDigits.eq_1 (n / 10), dif_neg (by omega), Lib.decDigits.eq_1 (n / 10 / 10), dif_neg (by omega), Lib.decDigits.eq_1 (n / 10 / 10 / 10), dif_neg (by omega), Lib.decDigits_one (show n / 10 / 10 / 10 / 10 < 10 by omega)]
 have e0 : n / 10 / 10 / 10 / 10 = 1 := by omega
 have e1 : n / 10 / 10 / 10 % 10 = n / 1000 % 10 := by omega
 have e2 : n / 10 / 10 % 10 = n / 100 % 10 := by omega
 rw [e0, e1, e2]
 rfl
theorem AkE {z : Nat} (h : z ≤ 840) : (Lib.decDigits (10000 + z / 60 * 100 + z % 60)).drop 1 = Abx z := by
 rw [AEv (by omega) (by omega)]
 have e1 : (10000 + z / 60 * 100 + z % 60) / 1000 % 10 = z / 60 / 10 := by omega
 have e2 : (10000 + z / 60 * 100 + z % 60) / 100 % 10 = z / 60 % 10 := by omega
 have e3 : (10000 + z / 60 * 100 + z % 60) / 10 % 10 = z % 60 / 10 := by omega
 have e4 : (10000 + z / 60 * 100 + z % 60) % 10 = z % 60 % 10 := by omega
 rw [e1, e2, e3, e4]
 rfl
theorem AuL {a b c d : Nat} (ha : a < 10) (hb : b < 10) (hc : c < 10) (hd : d < 10) : ([UInt8.ofNat (48 + a), UInt8.ofNat (48 + b), UInt8.ofNat (48 + c), UInt8.ofNat (48 + d)] : List UInt8).all GZ = true ∧ Vm 0 [UInt8.ofNat (48 + a), UInt8.ofNat (48 + b), UInt8.ofNat (48 + c), UInt8.ofNat (48 + d)] = a * 1000 + b * 100 + c * 10 + d := by
 obtain ⟨a1, a2⟩ := AaC ha
 obtain ⟨b1, b2⟩ := AaC hb
 obtain ⟨c1, c2⟩ := AaC hc
 obtain ⟨d1, d2⟩ := AaC hd
 generalize UInt8.ofNat (48 + a) = x at *
 generalize UInt8.ofNat (48 + b) = y at *
 generalize UInt8.ofNat (48 + c) = u at *
 generalize UInt8.ofNat (48 + d) = v at *
 constructor
 ·simp [a1, b1, c1, d1]
 ·have e : Vm 0 [x, y, u, v] = (((0 * 10 + (x.toNat - 48)) * 10 + (y.toNat - 48)) * 10 + (u.toNat - 48)) * 10 + (v.toNat - 48) := rfl
  rw [e, a2, b2, c2, d2]
  omega
theorem Ajn {z : Nat} (h : z ≤ 840) : pV (Abx z) = some (z / 60 * 100 + z % 60) := by
 obtain ⟨h1, h2⟩ := AuL (a := z / 60 / 10) (b := z / 60 % 10) (c := z % 60 / 10) (d := z % 60 % 10) (by omega) (by omega) (by omega) (by omega)
 have e : z / 60 / 10 * 1000 + z / 60 % 10 * 100 + z % 60 / 10 * 10 + z % 60 % 10 = z / 60 * 100 + z % 60 := by omega
 rw [e] at h2
 unfold Abx
 have hl : [UInt8.ofNat (48 + z / 60 / 10), UInt8.ofNat (48 + z / 60 % 10), UInt8.ofNat (48 + z % 60 / 10), UInt8.ofNat (48 + z % 60 % 10)] ≠ [] := List.cons_ne_nil _ _
 generalize [UInt8.ofNat (48 + z / 60 / 10), UInt8.ofNat (48 + z / 60 % 10), UInt8.ofNat (48 + z % 60 / 10), UInt8.ofNat (48 + z % 60 % 10)] = l at *
 unfold pV
 rw [if_pos ⟨hl, h1, by rw [h2]; omega⟩, h2]
theorem Ahd {z : Nat} : (z / 60 * 100 + z % 60) / 100 * 60 + (z / 60 * 100 + z % 60) % 100 = z := by omega
theorem Aa6 (z : Nat) : (Abx z).length = 4 := rfl
theorem AwK {c : UInt8} : ∀ {l : List UInt8}, l.dropWhile (· == c) = l ↔ l[0]? ≠ some c
 | [] => by simp
 | b :: l => by
  by_cases e : b = c
  ·subst e
   simp
   intro h
   have := congrArg List.length h
   have h2 := (List.dropWhile_sublist (· == b) (l := l)).length_le
   simp at this
   omega
  ·simp [e]
theorem ApD {c : UInt8} {l : List UInt8} (h : (l.dropWhile (· == c)).length = l.length) : l.dropWhile (· == c) = l :=
 (List.dropWhile_sublist _).eq_of_length h
theorem ApF {c : UInt8} {l : List UInt8} : Lib.trimB l c = l ↔ l[0]? ≠ some c ∧ l[l.length - 1]? ≠ some c := by
 have hr : l.reverse.dropWhile (· == c) = l.reverse ↔ l[l.length - 1]? ≠ some c := by
  rw [AwK]
  cases l with
  | nil => simp
  | cons b l => rw [List.getElem?_reverse (by simp)]; simp
 unfold Lib.trimB Lib.trimLeftB Lib.trimRightB
 constructor
 ·intro h
  have h1 := (List.dropWhile_sublist (· == c) (l := (l.reverse.dropWhile (· == c)).reverse)).length_le
  have h2 := (List.dropWhile_sublist (· == c) (l := l.reverse)).length_le
  have h3 := congrArg List.length h
  simp at h1 h2 h3
  have h4 := hr.1 (ApD (by simp; omega))
  rw [(hr.2 h4), List.reverse_reverse] at h
  exact ⟨AwK.1 h, h4⟩
 ·rintro ⟨h1, h2⟩
  rw [hr.2 h2, List.reverse_reverse, AwK.2 h1]
end Go.Proofs.YtliaddbbmnfioaaGreatDoor


namespace Go.Proofs.YtliaddbbmnfioaaGreatDoor
open Go.RowKit
variable [Bf]
set_option linter.unusedSectionVars false
set_option linter.unusedVariables false
set_option linter.unusedSimpArgs false
def AdS (w s : List UInt8) : Option (List UInt8 × List UInt8) := match U5 10 s with
 | none => none
 | some i => if (w ++ [32]).isPrefixOf (s.take i) then some ((s.take i).drop (w.length + 1), s.drop (i + 1)) else none
theorem AqQ {w v r : List UInt8} (hw : 10 ∉ w) (hv : 10 ∉ v) : AdS w (w ++ 32 :: (v ++ 10 :: r)) = some (v, r) := by
 have e : w ++ 32 :: (v ++ 10 :: r) = (w ++ 32 :: v) ++ 10 :: r := by simp
 have hc : U5 10 ((w ++ 32 :: v) ++ 10 :: r) = some (w ++ 32 :: v).length := Ahf (by simp [hw, hv])
 unfold AdS
 rw [e, hc]
 simp only [List.take_left]
 rw [if_pos (by rw [List.isPrefixOf_iff_prefix]; exact ⟨v, by simp⟩)]
 congr 1
 refine Prod.ext ?_ ?_
 ·show (w ++ 32 :: v).drop (w.length + 1) = v
  rw [← List.drop_drop, List.drop_left]; rfl
 ·show ((w ++ 32 :: v) ++ 10 :: r).drop ((w ++ 32 :: v).length + 1) = r
  rw [← List.drop_drop, List.drop_left]; rfl
theorem AmI {w s v r : List UInt8} (h : AdS w s = some (v, r)) : s = w ++ 32 :: (v ++ 10 :: r) ∧ 10 ∉ v := by
 unfold AdS at h
 split at h
 ·cases h
 ·rename_i i hc
  split at h
  ·rename_i hp
   obtain ⟨h1, h2, h3⟩ := Abb hc
   rw [List.isPrefixOf_iff_prefix] at hp
   obtain ⟨u, hu⟩ := hp
   simp only [Option.some.injEq, Prod.mk.injEq] at h
   obtain ⟨rfl, rfl⟩ := h
   have hd : (s.take i).drop (w.length + 1) = u := by
    rw [← hu, List.append_assoc, ← List.drop_drop, List.drop_left]; rfl
   rw [hd]
   constructor
   ·have e1 : s = s.take i ++ s.drop i := (List.take_append_drop i s).symm
    have e2 : s.drop i = 10 :: s.drop (i + 1) := by
     rw [List.drop_eq_getElem_cons h1]
     congr 1
     rw [List.getElem?_eq_getElem h1] at h2
     exact Option.some.inj h2
    rw [e2, ← hu] at e1
    simpa using e1
   ·intro hm
    exact h3 (by rw [← hu]; simp [hm])
  ·cases h
def mv (w s : List UInt8) : List UInt8 := match AdS w s with | some x => x.1 | none => []
def mr (w s : List UInt8) : List UInt8 := match AdS w s with | some x => x.2 | none => s
def mb (w s : List UInt8) : Bool := (AdS w s).isNone
theorem UQ {w s : List UInt8} (h : mb w s = false) : s = w ++ 32 :: (mv w s ++ 10 :: mr w s) ∧ 10 ∉ mv w s := by
 unfold mb at h
 unfold mv mr
 cases hn : AdS w s with
 | none => rw [hn] at h; cases h
 | some x => exact AmI hn
theorem Lr {w v r : List UInt8} (hw : 10 ∉ w) (hv : 10 ∉ v) : mb w (w ++ 32 :: (v ++ 10 :: r)) = false ∧ mv w (w ++ 32 :: (v ++ 10 :: r)) = v ∧ mr w (w ++ 32 :: (v ++ 10 :: r)) = r := by
 unfold mb mv mr
 rw [AqQ hw hv]
 exact ⟨rfl, rfl, rfl⟩
theorem Aee (w s : List UInt8) : (mv w s).length ≤ s.length ∧ (mr w s).length ≤ s.length := by
 cases h : mb w s with
 | false =>
  have := congrArg List.length (UQ h).1
  simp at this
  omega
 | true =>
  unfold mb at h
  unfold mv mr
  cases hn : AdS w s with
  | none => simp
  | some x => rw [hn] at h; cases h
end Go.Proofs.YtliaddbbmnfioaaGreatDoor


namespace Go.Proofs.YtliaddbbmnfioaaGreatDoor
open Go.RowKit
variable [Bf]
set_option linter.unusedSectionVars false
set_option linter.unusedVariables false
set_option linter.unusedSimpArgs false
def XV (s : List UInt8) : Bool := decide (s.length ≤ 2000 ∧ 0 ∉ s)
theorem Aup {k : Nat} (h : k < 10) : (10 : UInt8) ≠ UInt8.ofNat (48 + k) := fun e => by
 have := congrArg UInt8.toNat e
 rw [UInt8.toNat_ofNat'] at this
 simp at this
 omega
theorem Ag7 {p : Per} (h : DC p) : 10 ∉ Dv p := by
 obtain ⟨h1, h2, _, _, h5, h6⟩ := h
 unfold Dv GX
 intro hm
 simp only [List.mem_append, List.mem_cons, List.not_mem_nil, or_false] at hm
 rcases hm with hm | (hm | hm) | hm | (hm | hm) | hm | hm | hm | hm
 ·exact (h1.2.1 _ hm).2.2.1 rfl
 ·cases hm
 ·cases hm
 ·exact (h2.2.1 _ hm).2.2.1 rfl
 ·cases hm
 ·cases hm
 ·have := Aq2 _ _ hm; simp at this
 ·cases hm
 ·unfold AeA at hm; split at hm <;> cases hm
 ·unfold Abx at hm
  simp only [List.mem_cons, List.not_mem_nil, or_false] at hm
  rcases hm with hm | hm | hm | hm <;> exact absurd hm (Aup (by omega))
end Go.Proofs.YtliaddbbmnfioaaGreatDoor


namespace Go.Proofs.YtliaddbbmnfioaaGreatDoor
variable [Bf]
set_option linter.unusedSectionVars false
set_option linter.unusedVariables false
set_option linter.defProp false
set_option maxRecDepth 100000

def P8 : Af := .seq (.ops [po_ 4 (.mov (.c (.bool false)))] [0, 1])
 (.seq (.ops [mv_ 5 0,
  mv_ 6 1,
  so_ 7 (.call 125 [.t 5, .t 6]),
  po_ 8 (.bin 3 .geq (.t 7) (ci_ 0)),
  mv_ 4 8] [4])
 (.ret))
def Qu : List VR := [.tmp 4]
theorem Aah : Tryz.f90.body.bind (trC Tryz.prog Tryz.f90.ntmps) = some (er P8) := by kernel_rfl
theorem AaP : trR Tryz.prog Tryz.f90.results.toList = some Qu := by kernel_rfl
def XW := Aa P8.eq_1
theorem X8 {K : TV → Prop} {e : Env} {H : List Ob} : res Qu e H K = res [.tmp 4] e H K := Ac rfl
def PT := (And.intro @XW @X8)
def Zz := DD 9 Tryz.func90 Aah AaP rfl

def Qp : Af := .seq (.ops [mv_ 16 1,
  po_ 17 (.idxS (.t 16) (ci_ 0)),
  po_ 18 (.conv .i32 (.t 17)),
  mv_ 5 18] [0, 5])
 (.seq (.seq (.ops [mv_ 19 5,
  po_ 20 (.bin 21 .geq (.t 19) (.c (.int .i32 ((128 : Nat) : Int))))] [0, 5, 20])
 (.cond (.t 20)
 (.ops [po_ 5 (.mov (.c (.int .i32 ((65533 : Nat) : Int))))] [0, 5])
 (.skip)))
 (.seq (.ops [mv_ 21 0,
  mv_ 22 5,
  so_ 23 (.call 157 [.t 21, .t 22]),
  mv_ 4 23] [4])
 (.ret)))
def PK : Af := .seq (.seq (.ops [mv_ 33 8,
  mv_ 34 0,
  po_ 35 (.lenS (.t 34)),
  po_ 36 (.bin 3 .lss (.t 33) (.t 35))] [0, 6, 8, 36])
 (.cond (.t 36)
 (.skip)
 (.exit 0)))
 (.seq (.block 1 (.seq (.ops [mv_ 39 0,
  mv_ 40 8,
  po_ 41 (.idxS (.t 39) (.t 40)),
  so_ 42 (.call 130 [.t 6, .t 41])] [0, 6, 8, 42])
 (.cond (.t 42)
 (.seq (.ops [mv_ 43 8,
   mv_ 4 43] [4])
  (.ret))
 (.skip))))
 (.ops [mv_ 37 8,
  po_ 38 (.bin 3 .add (.t 37) (ci_ 1)),
  mv_ 8 38] [0, 6, 8]))
def O1 : Af := .block 0 (.loop [0, 6, 8] PK)
def Qa : Af := .seq (.ops [po_ 4 (.mov (.c (.int .i64 (-1))))] [4])
 (.ret)
def Pz : Af := .seq (.seq (.ops [po_ 8 (.mov (ci_ 0))] [0, 6, 8])
 O1)
 Qa
def PV : Af := .cond (.t 32)
 Pz
 (.skip)
def PZ : Af := .seq (.ops [mv_ 32 7] [0, 1, 6, 32])
 PV
def Qs : Af := .seq (.ops [mv_ 28 1,
  so_ 29 (.call 95 [.t 28]),
  mv_ 27 29,
  po_ 30 (.ext 0 (.t 27)),
  po_ 31 (.ext 1 (.t 27)),
  so_ 6 (.alloc (.arr 256 1 [.val (.bool false), .val (.bool false), .val (.bool false), .val (.bool false), .val (.bool false), .val (.bool false), .val (.bool false), .val (.bool false), .val (.bool false), .val (.bool false), .val (.bool false), .val (.bool false), .val (.bool false), .val (.bool false), .val (.bool false), .val (.bool false), .val (.bool false), .val (.bool false), .val (.bool false), .val (.bool false), .val (.bool false), .val (.bool false), .val (.bool false), .val (.bool false), .val (.bool false), .val (.bool false), .val (.bool false), .val (.bool false), .val (.bool false), .val (.bool false), .val (.bool false), .val (.bool false), .val (.bool false), .val (.bool false), .val (.bool false), .val (.bool false), .val (.bool false), .val (.bool false), .val (.bool false), .val (.bool false), .val (.bool false), .val (.bool false), .val (.bool false), .val (.bool false), .val (.bool false), .val (.bool false), .val (.bool false), .val (.bool false), .val (.bool false), .val (.bool false), .val (.bool false), .val (.bool false), .val (.bool false), .val (.bool false), .val (.bool false), .val (.bool false), .val (.bool false), .val (.bool false), .val (.bool false), .val (.bool false), .val (.bool false), .val (.bool false), .val (.bool false), .val (.bool false), .val (.bool false), .val (.bool false), .val (.bool false), .val (.bool false), .val (.bool false), .val (.bool false), .val (.bool false), .val (.bool false), .val (.bool false), .val (.bool false), .val (.bool false), .val (.bool false), .val (.bool false), .val (.bool false), .val (.bool false), .val (.bool false), .val (.bool false), .val (.bool false), .val (.bool false), .val (.bool false), .val (.bool false), .val (.bool false), .val (.bool false), .val (.bool false), .val (.bool false), .val (.bool false), .val (.bool false), .val (.bool false), .val (.bool false), .val (.bool false), .val (.bool false), .val (.bool false), .val (.bool false), .val (.bool false), .val (.bool false), .val (.bool false), .val (.bool false), .val (.bool false), .val (.bool false), .val (.bool false), .val (.bool false), .val (.bool false), .val (.bool false), .val (.bool false), .val (.bool false), .val (.bool false), .val (.bool false), .val (.bool false), .val (.bool false), .val (.bool false), .val (.bool false), .val (.bool false), .val (.bool false), .val (.bool false), .val (.bool false), .val (.bool false), .val (.bool false), .val (.bool false), .val (.bool false), .val (.bool false), .val (.bool false), .val (.bool false), .val (.bool false), .val (.bool false), .val (.bool false), .val (.bool false), .val (.bool false), .val (.bool false), .val (.bool false), .val (.bool false), .val (.bool false), .val (.bool false), .val (.bool false), .val (.bool false), .val (.bool false), .val (.bool false), .val (.bool false), .val (.bool false), .val (.bool false), .val (.bool false), .val (.bool false), .val (.bool false), .val (.bool false), .val (.bool false), .val (.bool false), .val (.bool false), .val (.bool false), .val (.bool false), .val (.bool false), .val (.bool false), .val (.bool false), .val (.bool false), .val (.bool false), .val (.bool false), .val (.bool false), .val (.bool false), .val (.bool false), .val (.bool false), .val (.bool false), .val (.bool false), .val (.bool false), .val (.bool false), .val (.bool false), .val (.bool false), .val (.bool false), .val (.bool false), .val (.bool false), .val (.bool false), .val (.bool false), .val (.bool false), .val (.bool false), .val (.bool false), .val (.bool false), .val (.bool false), .val (.bool false), .val (.bool false), .val (.bool false), .val (.bool false), .val (.bool false), .val (.bool false), .val (.bool false), .val (.bool false), .val (.bool false), .val (.bool false), .val (.bool false), .val (.bool false), .val (.bool false), .val (.bool false), .val (.bool false), .val (.bool false), .val (.bool false), .val (.bool false), .val (.bool false), .val (.bool false), .val (.bool false), .val (.bool false), .val (.bool false), .val (.bool false), .val (.bool false), .val (.bool false), .val (.bool false), .val (.bool false), .val (.bool false), .val (.bool false), .val (.bool false), .val (.bool false), .val (.bool false), .val (.bool false), .val (.bool false), .val (.bool false), .val (.bool false), .val (.bool false), .val (.bool false), .val (.bool false), .val (.bool false), .val (.bool false), .val (.bool false), .val (.bool false), .val (.bool false), .val (.bool false), .val (.bool false), .val (.bool false), .val (.bool false), .val (.bool false), .val (.bool false), .val (.bool false), .val (.bool false), .val (.bool false), .val (.bool false), .val (.bool false), .val (.bool false), .val (.bool false), .val (.bool false), .val (.bool false), .val (.bool false), .val (.bool false), .val (.bool false), .val (.bool false), .val (.bool false), .val (.bool false), .val (.bool false), .val (.bool false), .val (.bool false), .val (.bool false), .val (.bool false), .val (.bool false), .val (.bool false), .val (.bool false), .val (.bool false), .val (.bool false), .val (.bool false), .val (.bool false)])),
  ⟨none, .s (.store 256 (.t 6) (.t 30)), none⟩,
  mv_ 7 31] [0, 1, 6, 7])
 PZ
def PW : Af := .cond (.t 26)
 Qs
 (.skip)
def MN : Af := .seq (.ops [so_ 46 (.nxtS (.t 45)),
  po_ 47 (.ext 0 (.t 46))] [1, 45, 46, 47])
 (.seq (.cond (.t 47)
 (.skip)
 (.exit 2))
 (.block 3 (.seq (.ops [po_ 48 (.ext 1 (.t 46)),
  po_ 49 (.ext 2 (.t 46)),
  mv_ 9 48,
  mv_ 10 49] [1, 9, 10, 45])
 (.seq (.ops [mv_ 50 1,
  mv_ 51 10,
  so_ 52 (.call 157 [.t 50, .t 51]),
  po_ 53 (.bin 3 .geq (.t 52) (ci_ 0))] [1, 9, 45, 53])
 (.cond (.t 53)
 (.seq (.ops [mv_ 54 9,
   mv_ 4 54] [4])
  (.ret))
 (.skip))))))
def NS : Af := .seq (.ops [po_ 4 (.mov (.c (.int .i64 (-1))))] [4])
 (.ret)
def MR : Af := .seq (.seq (.ops [mv_ 44 0,
  so_ 45 (.rngS (.t 44))] [1, 45])
 (.block 2 (.loop [1, 45] MN)))
 NS
def NT : Af := .seq (.seq (.ops [mv_ 24 0,
  po_ 25 (.lenS (.t 24)),
  so_ 26 (.call 158 [.t 25])] [0, 1, 26])
 PW)
 MR
def NM : Af := .seq (.seq (.ops [mv_ 13 1,
  po_ 14 (.lenS (.t 13)),
  po_ 15 (.bin 3 .eql (.t 14) (ci_ 1))] [0, 1, 15])
 (.cond (.t 15)
 Qp
 (.skip)))
 NT
def Nb : Af := .seq (.seq (.ops [mv_ 11 1,
  po_ 12 (.bin 9 .eql (.t 11) (.c (.string (str []))))] [0, 1, 12])
 (.cond (.t 12)
 (.seq (.ops [po_ 4 (.mov (.c (.int .i64 (-1))))] [4])
  (.ret))
 (.skip)))
 NM
def Tz : Af := .seq (.ops [po_ 4 (.mov (ci_ 0))] [0, 1])
 Nb
def TQ : List VR := [.tmp 4]
theorem Aeu : Tryz.f125.body.bind (trC Tryz.prog Tryz.f125.ntmps) = some (er Tz) := by kernel_rfl
theorem AeF : trR Tryz.prog Tryz.f125.results.toList = some TQ := by kernel_rfl
def Yf := Aa Qp.eq_1
def Yq := Aa PK.eq_1
def Yc := Aa O1.eq_1
def YP := Aa Qa.eq_1
def Yn := Aa Pz.eq_1
def YG := Aa PV.eq_1
def XR := Aa PZ.eq_1
def Yx := Aa Qs.eq_1
def Yi := Aa PW.eq_1
def Xq := Aa MN.eq_1
def XB := Aa NS.eq_1
def V4 := Aa MR.eq_1
def V9 := Aa NT.eq_1
def VB := Aa NM.eq_1
def XP := Aa Nb.eq_1
def Abw := Aa Tz.eq_1
theorem Abq {K : TV → Prop} {e : Env} {H : List Ob} : res TQ e H K = res [.tmp 4] e H K := Ac rfl
def Dw := (And.intro (And.intro (And.intro (And.intro (And.intro @Yf @Yq) (And.intro @Yc @YP)) (And.intro (And.intro @Yn @YG) (And.intro @XR @Yx))) (And.intro (And.intro (And.intro @Yi @Xq) (And.intro @XB @V4)) (And.intro (And.intro @V9 @VB) (And.intro @XP @Abw)))) @Abq)
def AcL := DD 55 Tryz.func125 Aeu AeF rfl

def MJ : Af := .seq (.ops [so_ 176 (.nxtS (.t 175)),
  po_ 177 (.ext 0 (.t 176))] [175, 176, 177])
 (.seq (.cond (.t 177)
 (.skip)
 (.exit 9))
 (.block 10 (.seq (.ops [po_ 178 (.ext 1 (.t 176)),
  po_ 179 (.ext 2 (.t 176)),
  mv_ 5 178,
  mv_ 6 179] [5, 6, 175])
 (.seq (.ops [mv_ 180 6,
  po_ 181 (.bin 21 .eql (.t 180) (.c (.int .i32 ((65533 : Nat) : Int))))] [5, 175, 181])
 (.cond (.t 181)
 (.seq (.ops [mv_ 182 5,
   mv_ 4 182] [4])
  (.ret))
 (.skip))))))
def Nl : Af := .seq (.ops [po_ 4 (.mov (.c (.int .i64 (-1))))] [4])
 (.ret)
def Na : Af := .seq (.seq (.ops [mv_ 174 0,
  so_ 175 (.rngS (.t 174))] [175])
 (.block 9 (.loop [175] MJ)))
 Nl
def Nr : Af := .seq (.draw 4 [mv_ 34 0,
  mv_ 35 9,
  po_ 36 (.bin 3 .add (.t 35) (ci_ 1)),
  po_ 37 (.slS (.t 34) (some (.t 36)) none),
  mv_ 38 7,
  mv_ 39 8,
  po_ 40 (.idxS (.t 38) (.t 39)),
  so_ 41 (.call 136 [.t 37, .t 40]),
  mv_ 11 41] [0, 7, 8, 9, 11])
 (.seq (.seq (.ops [mv_ 42 11,
  po_ 43 (.bin 3 .lss (.t 42) (ci_ 0))] [0, 7, 8, 9, 11, 43])
 (.cond (.t 43)
 (.seq (.ops [po_ 4 (.mov (.c (.int .i64 (-1))))] [4])
  (.ret))
 (.skip)))
 (.ops [mv_ 44 9,
  mv_ 45 11,
  po_ 46 (.bin 3 .add (.t 45) (ci_ 1)),
  po_ 47 (.bin 3 .add (.t 44) (.t 46)),
  mv_ 9 47] [0, 7, 8, 9]))
def NZ : Af := .cond (.t 33)
 Nr
 (.skip)
def NG : Af := .seq (.block 4 (.seq (.draw 6 [mv_ 54 0,
  mv_ 55 9,
  mv_ 56 12,
  po_ 57 (.bin 3 .sub (.t 55) (.t 56)),
  po_ 58 (.idxS (.t 54) (.t 57)),
  mv_ 59 7,
  mv_ 60 8,
  mv_ 61 12,
  po_ 62 (.bin 3 .sub (.t 60) (.t 61)),
  po_ 63 (.idxS (.t 59) (.t 62)),
  po_ 64 (.bin 5 .neq (.t 58) (.t 63))] [0, 7, 8, 9, 12, 64])
 (.cond (.t 64)
 (.dead)
 (.skip))))
 (.ops [mv_ 52 12,
  po_ 53 (.bin 3 .add (.t 52) (ci_ 1)),
  mv_ 12 53] [0, 7, 8, 9, 12])
def N7 : Af := .seq (.seq (.ops [mv_ 48 12,
  mv_ 49 7,
  po_ 50 (.lenS (.t 49)),
  po_ 51 (.bin 3 .lss (.t 48) (.t 50))] [0, 7, 8, 9, 12, 51])
 (.cond (.t 51)
 (.skip)
 (.exit 3)))
 NG
def NF : Af := .block 3 (.loop [0, 7, 8, 9, 12] N7)
def Nj : Af := .seq (.ops [po_ 72 (.mov (.c (.bool true))),
  ⟨some 73, .p (.mov (.t 10)), some ⟨72, true⟩⟩,
  ⟨some 74, .p (.mov (.t 9)), some ⟨72, true⟩⟩,
  ⟨some 75, .s (.call 149 [.t 74]), some ⟨72, true⟩⟩,
  ⟨some 76, .p (.bin 3 .gtr (.t 73) (.t 75)), some ⟨72, true⟩⟩,
  po_ 77 (.pick (.t 72) (.t 76) (.c (.bool false))),
  mv_ 78 77,
  ⟨some 79, .p (.mov (.t 9)), some ⟨78, true⟩⟩,
  ⟨some 80, .p (.mov (.t 0)), some ⟨78, true⟩⟩,
  ⟨some 81, .p (.lenS (.t 80)), some ⟨78, true⟩⟩,
  ⟨some 82, .p (.bin 3 .lss (.t 79) (.t 81)), some ⟨78, true⟩⟩,
  po_ 83 (.pick (.t 78) (.t 82) (.c (.bool false))),
  mv_ 84 83,
  ⟨some 85, .p (.mov (.c (.bool false))), some ⟨84, false⟩⟩,
  ⟨some 86, .p (.mov (.t 10)), some ⟨85, true⟩⟩,
  ⟨some 87, .p (.mov (.t 9)), some ⟨85, true⟩⟩,
  ⟨some 88, .p (.bin 3 .shr (.t 87) (.c (.int .u64 ((4 : Nat) : Int)))), some ⟨85, true⟩⟩,
  ⟨some 89, .p (.bin 3 .add (ci_ 4) (.t 88)), some ⟨85, true⟩⟩,
  ⟨some 90, .p (.bin 3 .geq (.t 86) (.t 89)), some ⟨85, true⟩⟩,
  ⟨some 91, .p (.pick (.t 85) (.t 90) (.c (.bool false))), some ⟨84, false⟩⟩,
  ⟨some 92, .p (.mov (.t 91)), some ⟨84, false⟩⟩,
  ⟨some 93, .p (.mov (.t 9)), some ⟨92, true⟩⟩,
  ⟨some 94, .p (.mov (.t 0)), some ⟨92, true⟩⟩,
  ⟨some 95, .p (.lenS (.t 94)), some ⟨92, true⟩⟩,
  ⟨some 96, .p (.bin 3 .lss (.t 93) (.t 95)), some ⟨92, true⟩⟩,
  ⟨some 97, .p (.pick (.t 92) (.t 96) (.c (.bool false))), some ⟨84, false⟩⟩,
  po_ 98 (.pick (.t 84) (.c (.bool true)) (.t 97))] [0, 7, 8, 9, 98])
 (.cond (.t 98)
 (.dead)
 (.skip))
def Lu : Af := .seq (.ops [mv_ 70 9,
  po_ 71 (.bin 3 .add (.t 70) (ci_ 1)),
  mv_ 9 71] [0, 7, 8, 9, 10])
 Nj
def LD : Af := .seq (.ops [mv_ 68 10,
  po_ 69 (.bin 3 .add (.t 68) (ci_ 1)),
  mv_ 10 69] [0, 7, 8, 9, 10])
 Lu
def KR : Af := .seq (.skip)
 LD
def Lc : Af := .seq (.seq (.ops [mv_ 65 9,
  mv_ 66 8,
  po_ 67 (.bin 3 .sub (.t 65) (.t 66)),
  mv_ 4 67] [4])
 (.ret))
 KR
def Mc : Af := .seq (.seq (.ops [po_ 12 (.mov (ci_ 1))] [0, 7, 8, 9, 12])
 NF)
 Lc
def LX : Af := .block 2 (.scope (.seq (.seq (.draw 3 [mv_ 27 0,
  mv_ 28 9,
  po_ 29 (.idxS (.t 27) (.t 28)),
  mv_ 30 7,
  mv_ 31 8,
  po_ 32 (.idxS (.t 30) (.t 31)),
  po_ 33 (.bin 5 .neq (.t 29) (.t 32))] [0, 7, 8, 9, 33])
 NZ)
 Mc))
def LQ : Af := .seq (.seq (.ops [mv_ 23 9,
  mv_ 24 0,
  po_ 25 (.lenS (.t 24)),
  po_ 26 (.bin 3 .lss (.t 23) (.t 25))] [0, 7, 8, 9, 26])
 (.cond (.t 26)
 (.skip)
 (.exit 1)))
 LX
def LG : Af := .seq (.dead)
 (.seq (.ops [mv_ 107 13,
  po_ 108 (.bin 3 .geq (.t 107) (ci_ 0))] [8, 9, 13, 108])
 (.cond (.t 108)
 (.seq (.ops [mv_ 109 9,
   mv_ 110 13,
   po_ 111 (.bin 3 .add (.t 109) (.t 110)),
   mv_ 112 8,
   po_ 113 (.bin 3 .sub (.t 111) (.t 112)),
   mv_ 4 113] [4])
  (.ret))
 (.skip)))
def KT : Af := .seq (.block 8 (.seq (.draw 6 [mv_ 146 0,
  mv_ 147 9,
  mv_ 148 16,
  po_ 149 (.bin 3 .sub (.t 147) (.t 148)),
  po_ 150 (.idxS (.t 146) (.t 149)),
  mv_ 151 7,
  mv_ 152 8,
  mv_ 153 16,
  po_ 154 (.bin 3 .sub (.t 152) (.t 153)),
  po_ 155 (.idxS (.t 151) (.t 154)),
  po_ 156 (.bin 5 .neq (.t 150) (.t 155))] [0, 7, 8, 9, 14, 15, 16, 156])
 (.cond (.t 156)
 (.exit 6)
 (.skip))))
 (.ops [mv_ 144 16,
  po_ 145 (.bin 3 .add (.t 144) (ci_ 1)),
  mv_ 16 145] [0, 7, 8, 9, 14, 15, 16])
def LJ : Af := .seq (.seq (.ops [mv_ 140 16,
  mv_ 141 7,
  po_ 142 (.lenS (.t 141)),
  po_ 143 (.bin 3 .lss (.t 140) (.t 142))] [0, 7, 8, 9, 14, 15, 16, 143])
 (.cond (.t 143)
 (.skip)
 (.exit 7)))
 KT
def Kq : Af := .block 7 (.loop [0, 7, 8, 9, 14, 15, 16] LJ)
def KZ : Af := .seq (.ops [mv_ 157 9,
  mv_ 158 8,
  po_ 159 (.bin 3 .sub (.t 157) (.t 158)),
  mv_ 4 159] [4])
 (.ret)
def J3 : Af := .seq (.seq (.ops [po_ 16 (.mov (ci_ 2))] [0, 7, 8, 9, 14, 15, 16])
 Kq)
 KZ
def Ls : Af := .cond (.t 139)
 J3
 (.skip)
def LH : Af := .ops [mv_ 125 9,
  po_ 126 (.bin 3 .add (.t 125) (ci_ 1)),
  mv_ 9 126] [0, 7, 8, 9, 14, 15]
def LP : Af := .seq (.block 6 (.seq (.ops [mv_ 127 0,
  mv_ 128 9,
  po_ 129 (.idxS (.t 127) (.t 128)),
  mv_ 130 14,
  po_ 131 (.bin 5 .eql (.t 129) (.t 130)),
  mv_ 132 131,
  ⟨some 133, .p (.mov (.t 0)), some ⟨132, true⟩⟩,
  ⟨some 134, .p (.mov (.t 9)), some ⟨132, true⟩⟩,
  ⟨some 135, .p (.bin 3 .sub (.t 134) (ci_ 1)), some ⟨132, true⟩⟩,
  ⟨some 136, .p (.idxS (.t 133) (.t 135)), some ⟨132, true⟩⟩,
  ⟨some 137, .p (.mov (.t 15)), some ⟨132, true⟩⟩,
  ⟨some 138, .p (.bin 5 .eql (.t 136) (.t 137)), some ⟨132, true⟩⟩,
  po_ 139 (.pick (.t 132) (.t 138) (.c (.bool false)))] [0, 7, 8, 9, 14, 15, 139])
 Ls))
 LH
def L8 : Af := .seq (.seq (.ops [mv_ 121 9,
  mv_ 122 0,
  po_ 123 (.lenS (.t 122)),
  po_ 124 (.bin 3 .lss (.t 121) (.t 123))] [0, 7, 8, 9, 14, 15, 124])
 (.cond (.t 124)
 (.skip)
 (.exit 5)))
 LP
def KA : Af := .block 5 (.loop [0, 7, 8, 9, 14, 15] L8)
def Kz : Af := .seq (.skip)
 KA
def J5 : Af := .seq (.ops [mv_ 117 7,
  mv_ 118 8,
  po_ 119 (.bin 3 .sub (.t 118) (ci_ 1)),
  po_ 120 (.idxS (.t 117) (.t 119)),
  mv_ 15 120] [0, 7, 8, 9, 14, 15])
 Kz
def Lp : Af := .scope (.seq (.ops [mv_ 114 7,
  mv_ 115 8,
  po_ 116 (.idxS (.t 114) (.t 115)),
  mv_ 14 116] [0, 7, 8, 9, 14])
 J5)
def JY : Af := .seq (.ops [po_ 4 (.mov (.c (.int .i64 (-1))))] [4])
 (.ret)
def JQ : Af := .seq (.cond (.c (.bool true))
 LG
 Lp)
 JY
def JH : Af := .seq (.skip)
 JQ
def JK : Af := .seq (.seq (.ops [po_ 4 (.mov (.c (.int .i64 (-1))))] [4])
 (.ret))
 JH
def KX : Af := .seq (.block 1 (.loop [0, 7, 8, 9] LQ))
 JK
def Ko : Af := .seq (.ops [po_ 10 (.mov (ci_ 0))] [0, 7, 8, 9])
 KX
def LK : Af := .seq (.ops [mv_ 22 8,
  mv_ 9 22] [0, 7, 8, 9])
 Ko
def Kr : Af := .seq (.ops [mv_ 19 7,
  po_ 20 (.lenS (.t 19)),
  po_ 21 (.bin 3 .sub (.t 20) (ci_ 1)),
  mv_ 8 21] [0, 7, 8])
 LK
def KL : Af := .scope (.seq (.ops [mv_ 17 1,
  po_ 18 (.gen .r2s [.t 17]),
  mv_ 7 18] [0, 7])
 Kr)
def Ll : Af := .cond (.t 183)
 (.seq (.ops [po_ 4 (.mov (.c (.int .i64 (-1))))] [4])
  (.ret))
 KL
def JI : Af := .seq (.ops [mv_ 184 1,
  so_ 185 (.call 175 [.t 184]),
  po_ 186 (.un .not (.t 185)),
  mv_ 183 186] [0, 1, 183])
 Ll
def J9 : Af := .cond (.t 171)
 Na
 JI
def JM : Af := .seq (.ops [mv_ 172 1,
  po_ 173 (.bin 21 .eql (.t 172) (.c (.int .i32 ((65533 : Nat) : Int)))),
  mv_ 171 173] [0, 1, 171])
 J9
def JW : Af := .cond (.t 160)
 (.seq (.ops [mv_ 167 0,
   mv_ 168 1,
   po_ 169 (.conv .u8 (.t 168)),
   so_ 170 (.call 136 [.t 167, .t 169]),
   mv_ 4 170] [4])
  (.ret))
 JM
def KC : Af := .block 0 (.seq (.ops [mv_ 161 1,
  po_ 162 (.bin 21 .leq (.c (.int .i32 ((0 : Nat) : Int))) (.t 161)),
  mv_ 163 162,
  ⟨some 164, .p (.mov (.t 1)), some ⟨163, true⟩⟩,
  ⟨some 165, .p (.bin 21 .lss (.t 164) (.c (.int .i32 ((128 : Nat) : Int)))), some ⟨163, true⟩⟩,
  po_ 166 (.pick (.t 163) (.t 165) (.c (.bool false))),
  mv_ 160 166] [0, 1, 160])
 JW)
def Si : Af := .seq (.ops [po_ 4 (.mov (ci_ 0))] [0, 1])
 KC
def SL : List VR := [.tmp 4]
theorem AcB : Tryz.f157.body.bind (trC Tryz.prog Tryz.f157.ntmps) = some (er Si) := by kernel_rfl
theorem Adw : trR Tryz.prog Tryz.f157.results.toList = some SL := by kernel_rfl
def V3 := Aa MJ.eq_1
def Vj := Aa Nl.eq_1
def Wu := Aa Na.eq_1
def Vk := Aa Nr.eq_1
def VV := Aa NZ.eq_1
def XQ := Aa NG.eq_1
def Xm := Aa N7.eq_1
def VK := Aa NF.eq_1
def Xr := Aa Nj.eq_1
def UV := Aa Lu.eq_1
def U3 := Aa LD.eq_1
def UL := Aa KR.eq_1
def UJ := Aa Lc.eq_1
def Ud := Aa Mc.eq_1
def Uy := Aa LX.eq_1
def UY := Aa LQ.eq_1
def Uj := Aa LG.eq_1
def Ul := Aa KT.eq_1
def Uu := Aa LJ.eq_1
def UZ := Aa Kq.eq_1
def UX := Aa KZ.eq_1
def UU := Aa J3.eq_1
def Uh := Aa Ls.eq_1
def UE := Aa LH.eq_1
def UH := Aa LP.eq_1
def Uo := Aa L8.eq_1
def UN := Aa KA.eq_1
def UM := Aa Kz.eq_1
def UF := Aa J5.eq_1
def U9 := Aa Lp.eq_1
def Uz := Aa JY.eq_1
def Ub := Aa JQ.eq_1
def UD := Aa JH.eq_1
def Ux := Aa JK.eq_1
def UB := Aa KX.eq_1
def U2 := Aa Ko.eq_1
def U4 := Aa LK.eq_1
def UW := Aa Kr.eq_1
def UK := Aa KL.eq_1
def Uf := Aa Ll.eq_1
def Ua := Aa JI.eq_1
def UR := Aa J9.eq_1
def Ue := Aa JM.eq_1
def Ut := Aa JW.eq_1
def Ug := Aa KC.eq_1
def AaX := Aa Si.eq_1
theorem AaT {K : TV → Prop} {e : Env} {H : List Ob} : res SL e H K = res [.tmp 4] e H K := Ac rfl
def BM := (And.intro (And.intro (And.intro (And.intro (And.intro (And.intro @V3 @Vj) (And.intro @Wu @Vk)) (And.intro (And.intro @VV @XQ) (And.intro @Xm @VK))) (And.intro (And.intro (And.intro @Xr @UV) (And.intro @U3 @UL)) (And.intro (And.intro @UJ @Ud) (And.intro @Uy @UY)))) (And.intro (And.intro (And.intro (And.intro @Uj @Ul) (And.intro @Uu @UZ)) (And.intro (And.intro @UX @UU) (And.intro @Uh @UE))) (And.intro (And.intro (And.intro @UH @Uo) (And.intro @UN @UM)) (And.intro (And.intro @UF @U9) (And.intro @Uz @Ub))))) (And.intro (And.intro (And.intro (And.intro @UD @Ux) (And.intro @UB @U2)) (And.intro (And.intro @U4 @UW) (And.intro @UK @Uf))) (And.intro (And.intro (And.intro @Ua @UR) (And.intro @Ue @Ut)) (And.intro (And.intro @Ug @AaX) @AaT))))
def AbJ := DD 187 Tryz.func157 AcB Adw rfl

def Ie : Af := .seq (.ops [po_ 2 (.mov (.c (.bool false)))] [0])
 (.seq (.ops [mv_ 3 0,
  po_ 4 (.bin 3 .gtr (.t 3) (ci_ 8)),
  mv_ 2 4] [2])
 (.ret))
def Hz : List VR := [.tmp 2]
theorem SY : Tryz.f158.body.bind (trC Tryz.prog Tryz.f158.ntmps) = some (er Ie) := by kernel_rfl
theorem RY : trR Tryz.prog Tryz.f158.results.toList = some Hz := by kernel_rfl
def QD := Aa Ie.eq_1
theorem QA {K : TV → Prop} {e : Env} {H : List Ob} : res Hz e H K = res [.tmp 2] e H K := Ac rfl
def Sr := (And.intro @QD @QA)
def Ry := DD 5 Tryz.func158 SY RY rfl

end Go.Proofs.YtliaddbbmnfioaaGreatDoor


namespace Go.Proofs.YtliaddbbmnfioaaGreatDoor
open Go.RowKit
class Gt [Bf] : Prop where
 k : ∃ m, KI 2 = some (.one (.int .i64 m))
variable [Bf]
set_option linter.unusedSectionVars false
set_option linter.unusedVariables false
set_option linter.unusedSimpArgs false
theorem Bj.ofBelowT {f : FuncId} {args rs : List Value} (h : ∀ (F : Nat → Prop) w, IZ F w → Calls Tryz.prog f args.toArray w fun e w' => e = .returned (.tuple rs.toArray) ∧ Below w.heap.size w w') : Bj Tryz.prog f (args.map .val) (fun x => x = .tup (rs.map .val)) := by
 intro β F w vs hF hv
 have hvs : vs = args := by
  clear h hF
  induction args generalizing vs with
  | nil => rw [List.map_nil, BU.nil] at hv; exact hv
  | cons a args ih =>
   rw [List.map_cons] at hv
   obtain ⟨v, us, rfl, h1, h2⟩ := BU.cons.1 hv
   have := Rep.val.1 (Or.inl h1 : Rep _ _ _ _)
   rw [this, ih us h2]
 subst hvs
 refine (h F w hF.2).mono ?_
 rintro e w' ⟨rfl, hb⟩
 have hr : ∀ l : List Value, BU ⟨β, [], F⟩ w' (l.map .val) l := by
  intro l
  induction l with
  | nil => rw [List.map_nil, BU.nil]
  | cons a l ih => exact BU.cons.2 ⟨a, l, rfl, .inr (.inl rfl), ih⟩
 exact ⟨_, _, F, rfl, rfl, .inr ⟨_, _, rfl, rfl, hr rs⟩, ⟨hb.os, hb.tape, hb.output, hb.size, hb.block, fun _ h => h, fun _ _ h => h, fun b hb' => Nat.lt_of_lt_of_le (hF.1 b hb') hb.size⟩⟩
theorem Bj.ofBelow {f : FuncId} {args : List Value} {r : Value} (h : ∀ (F : Nat → Prop) w, IZ F w → Calls Tryz.prog f args.toArray w fun e w' => e = .returned r ∧ Below w.heap.size w w') : Bj Tryz.prog f (args.map .val) (fun x => x = .val r) := by
 intro β F w vs hF hv
 have hvs : vs = args := by
  clear h hF
  induction args generalizing vs with
  | nil => rw [List.map_nil, BU.nil] at hv; exact hv
  | cons a args ih =>
   rw [List.map_cons] at hv
   obtain ⟨v, us, rfl, h1, h2⟩ := BU.cons.1 hv
   have := Rep.val.1 (Or.inl h1 : Rep _ _ _ _)
   rw [this, ih us h2]
 subst hvs
 refine (h F w hF.2).mono ?_
 rintro e w' ⟨rfl, hb⟩
 exact ⟨_, _, F, rfl, rfl, Rep.of_val, ⟨hb.os, hb.tape, hb.output, hb.size, hb.block, fun _ h => h, fun _ _ h => h, fun b hb' => Nat.lt_of_lt_of_le (hF.1 b hb') hb.size⟩⟩
theorem RV {B : Nat} (w : World) : Below B w w := ⟨rfl, rfl, rfl, Nat.le_refl _, fun _ _ => rfl⟩
theorem Aow {B : Nat} (w : World) (n : Nat) : Below B w (w.drewN n) := ⟨rfl, rfl, rfl, Nat.le_refl _, fun _ _ => rfl⟩
theorem Ai8 (w : World) (k : Nat) (os : Array Obj) : Below w.heap.size w (Sort.grow (w.drewN k) os) := ⟨rfl, rfl, rfl, by simp [Sort.grow, World.drewN], fun i hi => by simp [Sort.grow, World.drewN, Array.getElem?_append_left hi]⟩
theorem Ap6 (l : List UInt8) : (str l).data.toList = l := by simp [str]
theorem Ais (l : List UInt8) : (str l).size = l.length := by show l.toArray.size = _; simp
theorem Apo [Gt] {F : Nat → Prop} {w : World} (hg : IZ F w) : ∃ m, w.cell? ⟨2, 0, none⟩ = some (.int .i64 m) := by
 obtain ⟨m, hm⟩ := Gt.k
 obtain ⟨_, t, fr, hh⟩ := hg _ _ hm
 exact ⟨m, by simp [World.cell?, hh, GV.cells]⟩
theorem Ats [Gt] (s p : List UInt8) (hs : s.length ≤ 1000000) : Bj Tryz.prog 109 [ts s, ts p] (fun x => x = .tup [ts (Lib.cut s p).1, ts (Lib.cut s p).2.1, tb (Lib.cut s p).2.2]) := by
 have h := Bj.ofBelowT (f := 109) (args := [.string (str s), .string (str p)]) (rs := [.string (str (Lib.cut s p).1), .string (str (Lib.cut s p).2.1), .bool (Lib.cut s p).2.2]) (fun F w hg => by
  obtain ⟨m, hm⟩ := Apo hg
  have h1 := Tryz.strings_Cut (str s) (str p) m w (by rw [Ais]; omega) hm
  rw [Ap6, Ap6] at h1
  refine h1.mono ?_
  rintro e w' ⟨rfl, n, rfl⟩
  exact ⟨rfl, Aow _ _⟩)
 exact h
theorem AiF (s p : List UInt8) : Bj Tryz.prog 107 [ts s, ts p] (fun x => x = .tup [ts (Lib.trimPrefix s p), tb (Lib.hasPrefix s p)]) := by
 have h := Bj.ofBelowT (f := 107) (args := [.string (str s), .string (str p)]) (rs := [.string (str (Lib.trimPrefix s p)), .bool (Lib.hasPrefix s p)]) (fun F w hg => by
  have h1 := Tryz.strings_CutPrefix (str s) (str p) w
  rw [Ap6, Ap6] at h1
  refine h1.mono ?_
  rintro e w' ⟨rfl, rfl⟩
  exact ⟨rfl, RV _⟩)
 exact h
theorem Aju (c : UInt8) : ∀ s : List UInt8, 0 ≤ Lib.indexByte s c ↔ c ∈ s
 | [] => by simp [Lib.indexByte]
 | b :: l => by
  have ih := Aju c l
  have hg := Lib.indexByte_ge l c
  rw [Lib.indexByte]
  by_cases e : b = c
  ·simp [e]
  ·rw [if_neg (by simpa using e)]
   have e2 : (c ∈ b :: l) ↔ c ∈ l := by simp [Ne.symm e]
   rw [e2, ← ih]
   by_cases h : (Lib.indexByte l c == -1) = true
   ·rw [if_pos h]
    have h3 : Lib.indexByte l c = -1 := by simpa using h
    rw [h3]
   ·rw [if_neg h]
    have h3 : Lib.indexByte l c ≠ -1 := fun e => h (by rw [e]; rfl)
    omega
theorem Alf (s : List UInt8) (c : UInt8) : Bj Tryz.prog 60 [ts s, ts [c]] (fun x => x = tb (decide (c ∈ s))) := by
 have h := Bj.ofBelow (f := 60) (args := [.string (str s), .string (str [c])]) (r := .bool (decide (c ∈ s))) (fun F w _ => by
  have h1 := Tryz.strings_Contains_one (str s) c w
  rw [Ap6] at h1
  refine h1.mono ?_
  rintro e w' ⟨rfl, rfl⟩
  exact ⟨by simp only [Aju], RV _⟩)
 exact h
theorem AvH (s : List UInt8) (c : UInt8) (hc : c.toNat < 128) (hs : s.length ≤ 1000000) : Bj Tryz.prog 59 [ts s, ts [c]] (fun x => x = ts (Lib.trimB s c)) := by
 have h := Bj.ofBelow (f := 59) (args := [.string (str s), .string (str [c])]) (r := .string (str (Lib.trimB s c))) (fun F w _ => by
  have h1 := Tryz.strings_Trim_one (str s) c hc w (by rw [Ais]; omega)
  rw [Ap6] at h1
  refine h1.mono ?_
  rintro e w' ⟨rfl, rfl | rfl⟩
  ·exact ⟨rfl, RV _⟩
  ·exact ⟨rfl, rfl, rfl, rfl, Nat.le_refl _, fun _ _ => rfl⟩)
 exact h
section
variable [Ak]
theorem AkD {F : Nat → Prop} {w : World} (h : IZ F w) : Lib.TabIs Tryz.prog w "internal/strconv.uint64pow10" .u64 Lib.pow10Tab := by
 obtain ⟨_, t, fr, h1⟩ := h 3 _ Ak.k
 have h2 : Tryz.prog.globalNamed "internal/strconv.uint64pow10" = some 3 := by kernel_rfl
 have h3 : AU.cells.toArray = (Lib.pow10Tab.map fun z => Value.int .u64 z).toArray := by kernel_rfl
 unfold Lib.TabIs World.var?
 rw [h2, Option.bind_some, h1, h3]
theorem Az6 (n : Int) (h0 : -9223372036854775808 ≤ n) (h1 : n ≤ 9223372036854775807) : Bj Tryz.prog 57 [i64 n] (fun x => x = ts (Lib.itoa n)) := by
 have h := Bj.ofBelow (f := 57) (args := [.int .i64 n]) (r := .string (str (Lib.itoa n))) (fun F w hg => by
  refine (Tryz.strconv_Itoa n h0 h1 w (AkD hg)).mono ?_
  rintro e w' ⟨rfl, k, os, rfl⟩
  exact ⟨rfl, Ai8 _ _ _⟩)
 exact h
theorem Aon (n : Int) (h0 : -9223372036854775808 ≤ n) (h1 : n ≤ 9223372036854775807) : Bj Tryz.prog 58 [i64 n, i64 ((10 : Nat) : Int)] (fun x => x = ts (Lib.itoa n)) := by
 have h := Bj.ofBelow (f := 58) (args := [.int .i64 n, .int .i64 10]) (r := .string (str (Lib.itoa n))) (fun F w hg => by
  refine (Tryz.strconv_FormatInt_10 n h0 h1 w (AkD hg)).mono ?_
  rintro e w' ⟨rfl, k, os, rfl⟩
  exact ⟨rfl, Ai8 _ _ _⟩)
 exact h
end
end Go.Proofs.YtliaddbbmnfioaaGreatDoor


namespace Go.Proofs.YtliaddbbmnfioaaGreatDoor
open Go.RowKit
variable [Bf]
set_option linter.unusedSectionVars false
set_option linter.unusedVariables false
set_option linter.unusedSimpArgs false

theorem Ao0 (r : Int) (h0 : -2147483648 ≤ r) (h1 : r ≤ 2147483647) : Bj Tryz.prog 175 [.val (.int .i32 r)] (fun x => x = tb (Lib.validRune r)) := by
 have h := Bj.ofBelow (f := 175) (args := [.int .i32 r]) (r := .bool (Lib.validRune r)) (fun F w _ => by
  refine (Tryz.utf8_ValidRune r w).mono ?_
  rintro e w' ⟨rfl, rfl⟩
  exact ⟨rfl, RV _⟩)
 exact h
theorem Amx (s : List UInt8) (c : UInt8) : Bj Tryz.prog 136 [ts s, by8 c] (fun x => x = i64 (Lib.indexByte s c)) := by
 have h := Bj.ofBelow (f := 136) (args := [.string (str s), .int .u8 c.toNat]) (r := .int .i64 (Lib.indexByte s c)) (fun F w _ => by
  have h1 := Tryz.strings_IndexByte (str s) c.toNat w
  have e2 : ((c.toNat : Int)).toNat.toUInt8 = c := by rw [Int.toNat_natCast]; simp
  rw [Ap6, e2] at h1
  refine h1.mono ?_
  rintro e w' ⟨rfl, rfl⟩
  exact ⟨rfl, RV _⟩)
 exact h
theorem ArT (l : List UInt8) (k : Nat) (c : UInt8) (hk : l[k]? = some c) (hc : c.toNat < 128) : (Utf8.decode (str l) k).1 = c.toNat ∧ (Utf8.decode (str l) k).2 = 1 := by
 obtain ⟨hl, rfl⟩ := List.getElem?_eq_some_iff.1 hk
 have h : k < (str l).size := by rw [Ais]; exact hl
 have e : ((str l)[k]'h) = l[k] := rfl
 have := decode_ascii (str l) k h (by rw [e]; exact hc)
 rw [this, e]; exact ⟨rfl, rfl⟩
theorem u8N {n : Nat} (h : n < 256) : (UInt8.ofNat n).toNat = n := by rw [UInt8.toNat_ofNat']; omega
theorem ADe (r : Nat) (h0 : 128 ≤ r) : ∃ (L : List UInt8) (x : UInt8), Utf8.encode (r : Int) = str (L ++ [x]) ∧ 1 ≤ L.length ∧ L.length ≤ 3 ∧ 128 ≤ x.toNat := by
 have key : ∀ c : Nat, 128 ≤ c → ∃ (L : List UInt8) (x : UInt8), (if c < 0x80 then (⟨#[UInt8.ofNat c]⟩ : ByteArray)
   else if c < 0x800 then ⟨#[UInt8.ofNat (0xC0 + c / 64), UInt8.ofNat (0x80 + c % 64)]⟩
   else if c < 0x10000 then ⟨#[UInt8.ofNat (0xE0 + c / 4096), UInt8.ofNat (0x80 + c / 64 % 64), UInt8.ofNat (0x80 + c % 64)]⟩
   else ⟨#[UInt8.ofNat (0xF0 + c / 262144), UInt8.ofNat (0x80 + c / 4096 % 64), UInt8.ofNat (0x80 + c / 64 % 64), UInt8.ofNat (0x80 + c % 64)]⟩) = str (L ++ [x]) ∧ 1 ≤ L.length ∧ L.length ≤ 3 ∧ 128 ≤ x.toNat := by
  intro c hc
  have hx : 128 ≤ (UInt8.ofNat (0x80 + c % 64)).toNat := by rw [u8N (by omega)]; omega
  rw [if_neg (by omega)]
  by_cases h1 : c < 0x800
  ·rw [if_pos h1]; exact ⟨[_], _, rfl, by simp, by simp, hx⟩
  ·rw [if_neg h1]
   by_cases h2 : c < 0x10000
   ·rw [if_pos h2]; exact ⟨[_, _], _, rfl, by simp, by simp, hx⟩
   ·rw [if_neg h2]; exact ⟨[_, _, _], _, rfl, by simp, by simp, hx⟩
 unfold Utf8.encode
 refine key _ ?_
 split
 ·simpa using h0
 ·decide
theorem ArK {c : UInt8} {l : List UInt8} (h : c ∉ l) : Lib.indexByte l c = -1 := by
 have h1 := Lib.indexByte_ge l c
 have h2 : ¬ 0 ≤ Lib.indexByte l c := fun e => h ((Aju c l).1 e)
 omega
set_option maxRecDepth 100000 in
theorem AmA (m : List UInt8) (hm : ∀ x ∈ m, x.toNat < 128) (hl : m.length ≤ 1000) (r : Nat) (h0 : 128 ≤ r) (h1 : r ≤ 1114111) : Bj Tryz.prog 157 [ts m, .val (.int .i32 (r : Int))] (fun x => x = i64 (-1)) := by
 refine Aw.toPureV (AbJ (by simp) ?_)
 by_cases hr : r = 65533
 ·subst hr
  simp -dsimp (disch := first | assumption | omega) only [↓Ai, Ae, Ag, Ah, eq_self, Nat.reduceLT, Nat.reduceEqDiff, ↓reduceIte, Nat.reduceAdd, reduceCtorEq, ↓BM]
  rw [AL]
  refine E9 (fun q e H => ∃ k : Nat, q = m.length - k ∧ k ≤ m.length ∧ e = [(175, .op 0 0 [])] ∧ H = [.sit m k]) m.length ?_ ?_
  ·exact ⟨0, rfl, by omega, rfl, rfl⟩
  ·rintro q e H ⟨k, rfl, hk, rfl, rfl⟩
   by_cases hp : k < m.length
   ·obtain ⟨c, hc⟩ : ∃ c, m[k]? = some c := ⟨_, List.getElem?_eq_getElem hp⟩
    obtain ⟨d1, d2⟩ := ArT m k c hc (hm c (List.mem_of_getElem? hc))
    have hc7 := hm c (List.mem_of_getElem? hc)
    simp -dsimp (disch := first | assumption | omega) only [↓Ai, Ae, Ag, Ah, eq_self, Nat.reduceEqDiff, ↓reduceIte, ↓BM, d1, d2]
    exact Ce (m.length - (k + 1)) (by omega) (by simp) ⟨k + 1, rfl, by omega, rfl, rfl⟩
   ·simp -dsimp (disch := first | assumption | omega) only [↓Ai, Ae, Ag, Ah, eq_self, Nat.reduceEqDiff, ↓reduceIte, ↓BM]
 ·simp -dsimp (disch := first | assumption | omega) only [↓Ai, Ae, Ag, Ah, eq_self, Nat.reduceEqDiff, ↓reduceIte, Nat.reduceAdd, reduceCtorEq, ↓BM]
  refine (Ao0 r (by omega) (by omega)).calls rfl ?_
  rintro _ rfl
  cases hv : Lib.validRune (r : Int) with
  | false =>
   simp -dsimp (disch := first | assumption | omega) only [↓Ai, Ae, Ag, Ah, eq_self, Nat.reduceEqDiff, ↓reduceIte, reduceCtorEq, ↓BM]
  | true =>
   obtain ⟨L, x, he, l1, l3, hx⟩ := ADe r h0
   simp -dsimp (disch := first | assumption | omega) only [↓Ai, Ae, Ag, Ah, eq_self, Nat.reduceEqDiff, ↓reduceIte, reduceCtorEq, ↓BM, he, AL]
   refine E9 (fun q e H => e = [(0, ts m), (7, .val (.string (str (L ++ [x])))), (8, i64 (L.length : Int)), (9, i64 (L.length : Int))] ∧ H = []) 0 ⟨rfl, rfl⟩ ?_
   rintro q e H ⟨rfl, rfl⟩
   by_cases h2 : L.length < m.length
   ·obtain ⟨y, hy⟩ : ∃ y, m[L.length]? = some y := ⟨_, List.getElem?_eq_getElem h2⟩
    have hy7 := hm y (List.mem_of_getElem? hy)
    have hyx : ¬ y.toNat = x.toNat := by omega
    have hno : Lib.indexByte (m.drop (L.length + 1)) x = -1 := ArK fun h => by have := hm x (List.mem_of_mem_drop h); omega
    have hgx : (L ++ [x])[L.length]? = some x := by simp
    simp -dsimp (disch := first | assumption | omega) only [↓Ai, Ae, Ag, Ah, eq_self, Nat.reduceEqDiff, ↓reduceIte, reduceCtorEq, ↓BM, AL, hy, hyx, hgx]
    refine (Amx (m.drop (L.length + 1)) x).calls rfl ?_
    rintro _ rfl
    rw [hno]
    simp -dsimp (disch := first | assumption | omega) only [↓Ai, Ae, Ag, Ah, eq_self, Nat.reduceEqDiff, ↓reduceIte, reduceCtorEq, ↓BM]
   ·simp -dsimp (disch := first | assumption | omega) only [↓Ai, Ae, Ag, Ah, eq_self, Nat.reduceEqDiff, ↓reduceIte, reduceCtorEq, ↓BM, AL]
theorem Ald (n b0 b1 b2 b3 : Nat) : (2 ≤ (Lib.decodeN n b0 b1 b2 b3).2 → 1 < n ∧ b1 / 64 = 2) ∧ (3 ≤ (Lib.decodeN n b0 b1 b2 b3).2 → 2 < n ∧ b2 / 64 = 2) ∧ (4 ≤ (Lib.decodeN n b0 b1 b2 b3).2 → 3 < n ∧ b3 / 64 = 2) ∧ (Lib.decodeN n b0 b1 b2 b3).2 ≤ 4 := by
 unfold Lib.decodeN
 by_cases h0 : b0 < 128
 ·rw [if_pos h0]; simp
 rw [if_neg h0]
 by_cases h1 : b0 / 32 = 6 ∧ (1 < n ∧ b1 / 64 = 2)
 ·rw [if_pos h1]; obtain ⟨_, h2, h3⟩ := h1; split <;> simp [h2, h3]
 rw [if_neg h1]
 by_cases h4 : b0 / 16 = 14 ∧ (1 < n ∧ b1 / 64 = 2) ∧ (2 < n ∧ b2 / 64 = 2)
 ·rw [if_pos h4]; obtain ⟨_, ⟨h2, h3⟩, h5, h6⟩ := h4; split <;> simp [h2, h3, h5, h6]
 rw [if_neg h4]
 by_cases h7 : b0 / 8 = 30 ∧ (1 < n ∧ b1 / 64 = 2) ∧ (2 < n ∧ b2 / 64 = 2) ∧ (3 < n ∧ b3 / 64 = 2)
 ·rw [if_pos h7]; obtain ⟨_, ⟨h2, h3⟩, ⟨h5, h6⟩, h8, h9⟩ := h7; split <;> simp [h2, h3, h5, h6, h8, h9]
 rw [if_neg h7]; simp
theorem ACt {l : List UInt8} {i : Nat} (h : i < l.length) : (str l).get! i = l[i] := by
 have h' : i < (str l).size := by rw [Ais]; exact h
 have e : (str l).get! i = (str l)[i]'h' := by
  simp [ByteArray.get!, getElem!_pos, h']
  rfl
 rw [e]; rfl
theorem Ami {l : List UInt8} {pos j : Nat} (hj : pos < j) (hj2 : j < pos + (Utf8.decode (str l) pos).2) : ∃ c, l[j]? = some c ∧ 128 ≤ c.toNat := by
 rw [Lib.decode_at, Ais] at hj2
 obtain ⟨h1, h2, h3, h4⟩ := Ald (l.length - pos) ((str l).get! pos).toNat ((str l).get! (pos + 1)).toNat ((str l).get! (pos + 2)).toNat ((str l).get! (pos + 3)).toNat
 generalize (Lib.decodeN (l.length - pos) ((str l).get! pos).toNat ((str l).get! (pos + 1)).toNat ((str l).get! (pos + 2)).toNat ((str l).get! (pos + 3)).toNat).2 = k at *
 rcases (by omega : j = pos + 1 ∨ j = pos + 2 ∨ j = pos + 3) with rfl | rfl | rfl
 ·obtain ⟨q1, q2⟩ := h1 (by omega)
  rw [ACt (by omega)] at q2
  exact ⟨_, List.getElem?_eq_getElem (by omega), by omega⟩
 ·obtain ⟨q1, q2⟩ := h2 (by omega)
  rw [ACt (by omega)] at q2
  exact ⟨_, List.getElem?_eq_getElem (by omega), by omega⟩
 ·obtain ⟨q1, q2⟩ := h3 (by omega)
  rw [ACt (by omega)] at q2
  exact ⟨_, List.getElem?_eq_getElem (by omega), by omega⟩
theorem Asq (l : List UInt8) (k : Nat) (c : UInt8) (hk : l[k]? = some c) (hc : 128 ≤ c.toNat) : 128 ≤ (Utf8.decode (str l) k).1 ∧ (Utf8.decode (str l) k).1 ≤ 1114111 ∧ 1 ≤ (Utf8.decode (str l) k).2 := by
 obtain ⟨hl, rfl⟩ := List.getElem?_eq_some_iff.1 hk
 have h : k < (str l).size := by rw [Ais]; exact hl
 have e : ((str l)[k]'h) = l[k] := rfl
 obtain ⟨h1, h2⟩ := decode_high (str l) k h (by rw [e]; exact hc)
 exact ⟨h1, Lib.rune_le _ _, h2⟩
theorem Ags (m : List UInt8) : ∀ l : List UInt8, 0 ≤ Lib.indexAny l m ↔ ∃ x ∈ l, x ∈ m
 | [] => by simp [Lib.indexAny]
 | b :: l => by
  have ih := Ags m l
  have hg := Lib.indexAny_ge m l
  unfold Lib.indexAny
  by_cases hb : b ∈ m
  ·simp [hb]
  ·have hb' : m.contains b = false := by simpa using hb
   rw [if_neg (by rw [hb']; simp)]
   by_cases h : Lib.indexAny l m = -1
   ·rw [h]
    have : ¬ ∃ x ∈ l, x ∈ m := by rw [← ih, h]; omega
    simp [hb, this]
   ·have h' : 0 ≤ Lib.indexAny l m := by omega
    have h2 : (Lib.indexAny l m == -1) = false := by simpa using h
    rw [h2]
    have := ih.1 h'
    simp [hb, this]
    omega
theorem Am7 (m : List UInt8) (c : UInt8) (hc : c.toNat < 128) : Bj Tryz.prog 157 [ts m, .val (.int .i32 ((c.toNat : Nat) : Int))] (fun x => x = i64 (Lib.indexByte m c)) := by
 have h := Bj.ofBelow (f := 157) (args := [.string (str m), .int .i32 c.toNat]) (r := .int .i64 (Lib.indexByte m c)) (fun F w _ => by
  have h1 := Tryz.strings_IndexRune_ascii (str m) c.toNat w (by omega) (by omega)
  have e2 : ((c.toNat : Int)).toNat.toUInt8 = c := by rw [Int.toNat_natCast]; simp
  rw [Ap6, e2] at h1
  refine h1.mono ?_
  rintro e w' ⟨rfl, rfl⟩
  exact ⟨rfl, RV _⟩)
 exact h
set_option maxRecDepth 100000 in
theorem Aps (s m : List UInt8) (hs : s.length ≤ 1000) (hm : ∀ x ∈ m, x.toNat < 128) (hl : m.length ≤ 1000) (hl2 : 2 ≤ m.length) : Bj Tryz.prog 125 [ts s, ts m] (fun x => ∃ i : Int, x = i64 i ∧ (0 ≤ i ↔ ∃ x ∈ s, x ∈ m)) := by
 by_cases h8 : 8 < s.length
 ·have h := Bj.ofBelow (f := 125) (args := [.string (str s), .string (str m)]) (r := .int .i64 (Lib.indexAny s m)) (fun F w _ => by
   have h1 := Tryz.strings_IndexAny_long (by intro w; kernel_rfl) (str s) (str m) w (by rw [Ais]; exact hl2) (by rw [Ais]; exact h8) (by rw [Ais]; omega) (by rw [Ais]; omega) (fun j x hx => by
    rw [Ap6] at hx
    exact hm x (List.mem_of_getElem? hx))
   rw [Ap6, Ap6] at h1
   refine h1.mono ?_
   rintro e w' ⟨rfl, rfl⟩
   exact ⟨rfl, rfl, rfl, rfl, by simp; omega, fun i hi => by rw [Dn _ _ (by simp; omega), Dn _ _ hi]⟩)
  refine Bj.mono (args := [ts s, ts m]) h ?_
  rintro x rfl
  exact ⟨_, rfl, Ags _ _⟩
 ·refine Aw.toPureV (AcL (by simp) ?_)
  have n1 : ¬ m = [] := by rintro rfl; simp at hl2
  simp -dsimp (disch := first | assumption | omega) only [↓Ai, Ae, Ag, Ah, eq_self, Nat.reduceEqDiff, ↓reduceIte, Nat.reduceAdd, reduceCtorEq, ↓Dw, AL]
  refine Ry (by simp) ?_
  simp -dsimp (disch := first | assumption | omega) only [↓Ai, Ae, Ag, Ah, eq_self, Nat.reduceEqDiff, ↓reduceIte, reduceCtorEq, ↓Sr, ↓Dw, AL]
  refine E9 (fun q e H => ∃ pos : Nat, q = s.length - pos ∧ (∀ j x, j < pos → s[j]? = some x → x ∉ m) ∧ e = [(1, ts m), (45, .op 0 0 [])] ∧ H = [.sit s pos]) s.length ?_ ?_
  ·exact ⟨0, rfl, fun j x h => by omega, rfl, rfl⟩
  ·rintro q e H ⟨pos, rfl, hno, rfl, rfl⟩
   by_cases hp : pos < s.length
   ·obtain ⟨c, hc⟩ : ∃ c, s[pos]? = some c := ⟨_, List.getElem?_eq_getElem hp⟩
    by_cases h7 : c.toNat < 128
    ·obtain ⟨d1, d2⟩ := ArT s pos c hc h7
     simp -dsimp (disch := first | assumption | omega) only [↓Ai, Ae, Ag, Ah, eq_self, Nat.reduceEqDiff, ↓reduceIte, ↓Dw, d1, d2]
     refine (Am7 m c h7).calls rfl ?_
     rintro _ rfl
     by_cases hcm : c ∈ m
     ·obtain ⟨k, hk⟩ : ∃ k : Nat, Lib.indexByte m c = (k : Int) := by
       have := (Aju c m).2 hcm
       exact ⟨(Lib.indexByte m c).toNat, by omega⟩
      rw [hk]
      simp -dsimp (disch := first | assumption | omega) only [↓Ai, Ae, Ag, Ah, eq_self, Nat.reduceEqDiff, ↓reduceIte, ↓Dw]
      exact ⟨_, rfl, fun _ => ⟨c, List.mem_of_getElem? hc, hcm⟩, fun _ => by omega⟩
     ·have hk : Lib.indexByte m c = -1 := ArK hcm
      rw [hk]
      simp -dsimp (disch := first | assumption | omega) only [↓Ai, Ae, Ag, Ah, eq_self, Nat.reduceEqDiff, ↓reduceIte]
      refine Ce (s.length - (pos + 1)) (by omega) (by simp) ⟨pos + 1, rfl, fun j x hj hx => ?_, rfl, rfl⟩
      by_cases e : j = pos
      ·subst e; rw [hc] at hx; cases hx; exact hcm
      ·exact hno j x (by omega) hx
    ·obtain ⟨d1, d2, d3⟩ := Asq s pos c hc (by omega)
     have hsk : ∀ j, pos < j → j < pos + (Utf8.decode (str s) pos).2 → ∃ c, s[j]? = some c ∧ 128 ≤ c.toNat := fun j h h2 => Ami h h2
     simp -dsimp (disch := first | assumption | omega) only [↓Ai, Ae, Ag, Ah, eq_self, Nat.reduceEqDiff, ↓reduceIte, ↓Dw]
     generalize (Utf8.decode (str s) pos).1 = r at *
     generalize (Utf8.decode (str s) pos).2 = k at *
     refine (AmA m hm hl r d1 d2).calls rfl ?_
     rintro _ rfl
     simp -dsimp (disch := first | assumption | omega) only [↓Ai, Ae, Ag, Ah, eq_self, Nat.reduceEqDiff, ↓reduceIte]
     have hi2 : ∀ y : UInt8, 128 ≤ y.toNat → y ∉ m := fun y hy hy2 => by
      have := hm y hy2
      omega
     refine Ce (s.length - (pos + k)) (by omega) (by simp) ⟨pos + k, rfl, fun j x hj hx => ?_, rfl, rfl⟩
     by_cases e : j = pos
     ·subst e; rw [hc] at hx; cases hx; exact hi2 _ (by omega)
     ·by_cases h2 : j < pos
      ·exact hno j x h2 hx
      ·obtain ⟨y, hy, hy2⟩ := hsk j (by omega) hj
       rw [hy] at hx; cases hx; exact hi2 _ hy2
   ·simp -dsimp (disch := first | assumption | omega) only [↓Ai, Ae, Ag, Ah, eq_self, Nat.reduceEqDiff, ↓reduceIte, ↓Dw]
    refine ⟨-1, rfl, fun h => by omega, fun ⟨x, hx, hxm⟩ => ?_⟩
    obtain ⟨j, hj, rfl⟩ := List.mem_iff_getElem.1 hx
    exact absurd hxm (hno j _ (by omega) (List.getElem?_eq_getElem hj))
theorem AlM (s m : List UInt8) (hs : s.length ≤ 1000) (hm : ∀ x ∈ m, x.toNat < 128) (hl : m.length ≤ 1000) (hl2 : 2 ≤ m.length) : Bj Tryz.prog 90 [ts s, ts m] (fun x => x = tb (decide (∃ x ∈ s, x ∈ m))) := by
 refine Aw.toPureV (Zz (by simp) ?_)
 simp -dsimp (disch := first | assumption | omega) only [↓Ai, Ae, Ag, Ah, eq_self, Nat.reduceEqDiff, ↓reduceIte, Nat.reduceAdd, reduceCtorEq, ↓PT]
 refine (Aps s m hs hm hl hl2).calls rfl ?_
 rintro _ ⟨i, rfl, hi⟩
 have e : (decide (∃ x ∈ s, x ∈ m)) = decide (0 ≤ i) := by simp only [hi]
 rw [e]
 simp -dsimp (disch := first | assumption | omega) only [↓Ai, Ae, Ag, Ah, eq_self, ↓reduceIte, ↓PT]
 simp
end Go.Proofs.YtliaddbbmnfioaaGreatDoor


namespace Go.Proofs.YtliaddbbmnfioaaGreatDoor
variable [Bf]
set_option linter.unusedSectionVars false
set_option linter.unusedVariables false
set_option linter.defProp false
set_option maxRecDepth 100000


def Xo : Af := .seq (.ops [mv_ 3 0,
  po_ 4 (.lenS (.t 3)),
  po_ 5 (.bin 3 .leq (.t 4) (ci_ 60)),
  mv_ 6 5,
  ⟨some 7, .p (.mov (.t 0)), some ⟨6, true⟩⟩,
  ⟨some 8, .s (.call 90 [.t 7, .c (.string (str [60, 62, 10, 0]))]), some ⟨6, true⟩⟩,
  ⟨some 9, .p (.un .not (.t 8)), some ⟨6, true⟩⟩,
  po_ 10 (.pick (.t 6) (.t 9) (.c (.bool false))),
  mv_ 11 10,
  ⟨some 12, .p (.mov (.t 0)), some ⟨11, true⟩⟩,
  ⟨some 13, .s (.call 59 [.t 12, .c (.string (str [32]))]), some ⟨11, true⟩⟩,
  ⟨some 14, .p (.mov (.t 0)), some ⟨11, true⟩⟩,
  ⟨some 15, .p (.bin 9 .eql (.t 13) (.t 14)), some ⟨11, true⟩⟩,
  po_ 16 (.pick (.t 11) (.t 15) (.c (.bool false))),
  mv_ 2 16] [2])
 (.ret)
def Ab1 : Af := .seq (.ops [po_ 2 (.mov (.c (.bool false)))] [0])
 Xo
def Ab9 : List VR := [.tmp 2]
theorem Aiq : Tryz.f56.body.bind (trC Tryz.prog Tryz.f56.ntmps) = some (er Ab1) := by kernel_rfl
theorem Ah6 : trR Tryz.prog Tryz.f56.results.toList = some Ab9 := by kernel_rfl
def Adr := Aa Xo.eq_1
def AgO := Aa Ab1.eq_1
theorem Ag0 {K : TV → Prop} {e : Env} {H : List Ob} : res Ab9 e H K = res [.tmp 2] e H K := Ac rfl
def OT := (And.intro (And.intro @Adr @AgO) @Ag0)
def Ahy := DD 17 Tryz.func56 Aiq Ah6 rfl

def JL : Af := .seq (.draw 10 [po_ 52 (.fieldA 0 0 (.t 1)),
  po_ 53 (.load false 1 (.t 52)),
  po_ 54 (.bin 9 .add (.t 53) (.c (.string (str [32, 60])))),
  po_ 55 (.fieldA 1 1 (.t 1)),
  po_ 56 (.load false 1 (.t 55)),
  po_ 57 (.bin 9 .add (.t 54) (.t 56)),
  po_ 58 (.bin 9 .add (.t 57) (.c (.string (str [62, 32])))),
  po_ 59 (.fieldA 2 2 (.t 1)),
  po_ 60 (.load false 1 (.t 59)),
  so_ 61 (.call 58 [.t 60, .c (.int .i64 ((10 : Nat) : Int))]),
  po_ 62 (.bin 9 .add (.t 58) (.t 61)),
  po_ 63 (.bin 9 .add (.t 62) (.c (.string (str [32])))),
  mv_ 64 4,
  po_ 65 (.bin 9 .add (.t 63) (.t 64)),
  mv_ 66 6,
  po_ 67 (.bin 9 .add (.t 65) (.t 66)),
  mv_ 2 67,
  po_ 3 (.mov (.c (.bool true)))] [2, 3])
 (.ret)
def L6 : Af := .seq (.ops [mv_ 43 5,
  po_ 44 (.bin 3 .quo (.t 43) (ci_ 60)),
  po_ 45 (.bin 3 .mul (.t 44) (ci_ 100)),
  po_ 46 (.bin 3 .add (ci_ 10000) (.t 45)),
  mv_ 47 5,
  po_ 48 (.bin 3 .rem (.t 47) (ci_ 60)),
  po_ 49 (.bin 3 .add (.t 46) (.t 48)),
  so_ 50 (.call 57 [.t 49]),
  po_ 51 (.slS (.t 50) (some (ci_ 1)) none),
  mv_ 6 51] [1, 4, 6])
 JL
def Ld : Af := .seq (.seq (.ops [mv_ 39 5,
  po_ 40 (.bin 3 .lss (.t 39) (ci_ 0))] [1, 4, 5, 40])
 (.cond (.t 40)
 (.ops [mv_ 41 5,
   po_ 42 (.un .neg (.t 41)),
   po_ 4 (.mov (.c (.string (str [45])))),
   mv_ 5 42] [1, 4, 5])
 (.skip)))
 L6
def La : Af := .seq (.draw 2 [po_ 37 (.fieldA 3 3 (.t 1)),
  po_ 38 (.load false 1 (.t 37)),
  po_ 4 (.mov (.c (.string (str [43])))),
  mv_ 5 38] [1, 4, 5])
 Ld
def Lm : Af := .seq (.seq (.ops [po_ 7 (.fieldA 0 0 (.t 1)),
  po_ 8 (.load false 1 (.t 7)),
  so_ 9 (.call 56 [.t 8]),
  po_ 10 (.un .not (.t 9)),
  mv_ 11 10,
  ⟨some 12, .p (.fieldA 1 1 (.t 1)), some ⟨11, false⟩⟩,
  ⟨some 13, .p (.load false 1 (.t 12)), some ⟨11, false⟩⟩,
  ⟨some 14, .s (.call 56 [.t 13]), some ⟨11, false⟩⟩,
  ⟨some 15, .p (.un .not (.t 14)), some ⟨11, false⟩⟩,
  po_ 16 (.pick (.t 11) (.c (.bool true)) (.t 15)),
  mv_ 17 16,
  ⟨some 18, .p (.fieldA 2 2 (.t 1)), some ⟨17, false⟩⟩,
  ⟨some 19, .p (.load false 1 (.t 18)), some ⟨17, false⟩⟩,
  ⟨some 20, .p (.bin 2 .lss (.t 19) (ci_ 0)), some ⟨17, false⟩⟩,
  po_ 21 (.pick (.t 17) (.c (.bool true)) (.t 20)),
  mv_ 22 21,
  ⟨some 23, .p (.fieldA 2 2 (.t 1)), some ⟨22, false⟩⟩,
  ⟨some 24, .p (.load false 1 (.t 23)), some ⟨22, false⟩⟩,
  ⟨some 25, .p (.bin 2 .gtr (.t 24) (ci_ 1099511627776)), some ⟨22, false⟩⟩,
  po_ 26 (.pick (.t 22) (.c (.bool true)) (.t 25)),
  mv_ 27 26,
  ⟨some 28, .p (.fieldA 3 3 (.t 1)), some ⟨27, false⟩⟩,
  ⟨some 29, .p (.load false 1 (.t 28)), some ⟨27, false⟩⟩,
  ⟨some 30, .p (.bin 3 .lss (.t 29) (.c (.int .i64 (-840)))), some ⟨27, false⟩⟩,
  po_ 31 (.pick (.t 27) (.c (.bool true)) (.t 30)),
  mv_ 32 31,
  ⟨some 33, .p (.fieldA 3 3 (.t 1)), some ⟨32, false⟩⟩,
  ⟨some 34, .p (.load false 1 (.t 33)), some ⟨32, false⟩⟩,
  ⟨some 35, .p (.bin 3 .gtr (.t 34) (ci_ 840)), some ⟨32, false⟩⟩,
  po_ 36 (.pick (.t 32) (.c (.bool true)) (.t 35))] [1, 36])
 (.cond (.t 36)
 (.seq (.ops [po_ 2 (.mov (.c (.string (str [])))),
   po_ 3 (.mov (.c (.bool false)))] [2, 3])
  (.ret))
 (.skip)))
 La
def Rf : Af := .seq (.ops [so_ 1 (.box (.t 0)),
  po_ 2 (.mov (.c (.string (str [])))),
  po_ 3 (.mov (.c (.bool false)))] [1])
 Lm
def QZ : List VR := [.tmp 2, .tmp 3]
theorem Abm : Tryz.f26.body.bind (trC Tryz.prog Tryz.f26.ntmps) = some (er Rf) := by kernel_rfl
theorem AbD : trR Tryz.prog Tryz.f26.results.toList = some QZ := by kernel_rfl
def IE := Aa JL.eq_1
def IW := Aa L6.eq_1
def IQ := Aa Ld.eq_1
def Ja := Aa La.eq_1
def Bv := Aa Lm.eq_1
def BV := Aa Rf.eq_1
theorem BB {K : TV → Prop} {e : Env} {H : List Ob} : res QZ e H K = res [.tmp 2, .tmp 3] e H K := Ac rfl
def Aap := DD 68 Tryz.func26 Abm AbD rfl

def NV : Af := .seq (.draw 11 [po_ 91 (.load true 4 (.t 16)),
  mv_ 92 15,
  po_ 93 (.eqN 1 (.t 92) (.c .nilIface) false),
  mv_ 94 93,
  ⟨some 95, .p (.mov (.t 18)), some ⟨94, true⟩⟩,
  po_ 96 (.pick (.t 94) (.t 95) (.c (.bool false))),
  mv_ 97 96,
  ⟨some 98, .p (.mov (.t 17)), some ⟨97, true⟩⟩,
  ⟨some 99, .p (.mov (.t 0)), some ⟨97, true⟩⟩,
  ⟨some 100, .p (.bin 9 .eql (.t 98) (.t 99)), some ⟨97, true⟩⟩,
  po_ 101 (.pick (.t 97) (.t 100) (.c (.bool false))),
  ⟨none, .s (.store 4 (.t 2) (.t 91)), none⟩,
  mv_ 3 101] [2, 3])
 (.ret)
def Nu : Af := .seq (.ops [po_ 87 (.load true 4 (.t 16)),
  so_ 88 (.call 26 [.t 87]),
  mv_ 86 88,
  po_ 89 (.ext 0 (.t 86)),
  po_ 90 (.ext 1 (.t 86)),
  mv_ 17 89,
  mv_ 18 90] [0, 2, 15, 16, 17, 18])
 NV
def Nz : Af := .seq (.seq (.ops [mv_ 79 10,
  po_ 80 (.idxS (.t 79) (ci_ 0)),
  po_ 81 (.bin 5 .eql (.t 80) (.c (.int .u8 ((45 : Nat) : Int))))] [0, 2, 15, 16, 81])
 (.cond (.t 81)
 (.ops [po_ 82 (.fieldA 3 3 (.t 16)),
   po_ 83 (.load false 1 (.t 82)),
   po_ 84 (.un .neg (.t 83)),
   po_ 85 (.fieldA 3 3 (.t 16)),
   ⟨none, .s (.store 1 (.t 85) (.t 84)), none⟩] [0, 2, 15, 16])
 (.skip)))
 Nu
def NJ : Af := .seq (.ops [mv_ 68 4,
  mv_ 69 7,
  mv_ 70 12,
  mv_ 71 14,
  po_ 72 (.bin 163 .quo (.t 71) (.c (.int .u64 ((100 : Nat) : Int)))),
  po_ 73 (.bin 163 .mul (.t 72) (.c (.int .u64 ((60 : Nat) : Int)))),
  mv_ 74 14,
  po_ 75 (.bin 163 .rem (.t 74) (.c (.int .u64 ((100 : Nat) : Int)))),
  po_ 76 (.bin 163 .add (.t 73) (.t 75)),
  po_ 77 (.conv .i64 (.t 76)),
  ⟨some 78, .p (.build [.val (.string (str [])), .val (.string (str [])), .val (.int .i64 ((0 : Nat) : Int)), .val (.int .i64 ((0 : Nat) : Int))] [1, 1, 1, 1] [⟨0, .t 68⟩, ⟨1, .t 69⟩, ⟨2, .t 70⟩, ⟨3, .t 77⟩]), none⟩,
  so_ 16 (.alloc (.agg [.val (.string (str [])), .val (.string (str [])), .val (.int .i64 ((0 : Nat) : Int)), .val (.int .i64 ((0 : Nat) : Int))])),
  ⟨none, .s (.store 4 (.t 16) (.t 78)), none⟩] [0, 2, 10, 15, 16])
 Nz
def NP : Af := .seq (.ops [mv_ 63 10,
  po_ 64 (.slS (.t 63) (some (ci_ 1)) none),
  so_ 65 (.call 89 [.t 64, .c (.int .i64 ((10 : Nat) : Int)), .c (.int .i64 ((20 : Nat) : Int))]),
  mv_ 62 65,
  po_ 66 (.ext 0 (.t 62)),
  po_ 67 (.ext 1 (.t 62)),
  mv_ 14 66,
  mv_ 15 67] [0, 2, 4, 7, 10, 12, 14, 15])
 NJ
def NU : Af := .seq (.seq (.ops [mv_ 42 6,
  po_ 43 (.un .not (.t 42)),
  mv_ 44 43,
  ⟨some 45, .p (.mov (.t 8)), some ⟨44, false⟩⟩,
  ⟨some 46, .p (.un .not (.t 45)), some ⟨44, false⟩⟩,
  po_ 47 (.pick (.t 44) (.c (.bool true)) (.t 46)),
  mv_ 48 47,
  ⟨some 49, .p (.mov (.t 11)), some ⟨48, false⟩⟩,
  ⟨some 50, .p (.un .not (.t 49)), some ⟨48, false⟩⟩,
  po_ 51 (.pick (.t 48) (.c (.bool true)) (.t 50)),
  mv_ 52 51,
  ⟨some 53, .p (.mov (.t 13)), some ⟨52, false⟩⟩,
  ⟨some 54, .p (.un .not (.t 53)), some ⟨52, false⟩⟩,
  po_ 55 (.pick (.t 52) (.c (.bool true)) (.t 54)),
  mv_ 56 55,
  ⟨some 57, .p (.mov (.t 10)), some ⟨56, false⟩⟩,
  ⟨some 58, .p (.lenS (.t 57)), some ⟨56, false⟩⟩,
  ⟨some 59, .p (.bin 3 .neq (.t 58) (ci_ 5)), some ⟨56, false⟩⟩,
  po_ 60 (.pick (.t 56) (.c (.bool true)) (.t 59))] [0, 2, 4, 7, 10, 12, 60])
 (.cond (.t 60)
 (.seq (.ops [po_ 61 (.build [.val (.string (str [])), .val (.string (str [])), .val (.int .i64 ((0 : Nat) : Int)), .val (.int .i64 ((0 : Nat) : Int))] [1, 1, 1, 1] []),
   ⟨none, .s (.store 4 (.t 2) (.t 61)), none⟩,
   po_ 3 (.mov (.c (.bool false)))] [2, 3])
  (.ret))
 (.skip)))
 NP
def NL : Af := .seq (.ops [mv_ 38 9,
  so_ 39 (.call 137 [.t 38]),
  mv_ 37 39,
  po_ 40 (.ext 0 (.t 37)),
  po_ 41 (.ext 1 (.t 37)),
  mv_ 12 40,
  mv_ 13 41] [0, 2, 4, 6, 7, 8, 10, 11, 12, 13])
 NU
def Ny : Af := .seq (.ops [mv_ 32 5,
  so_ 33 (.call 109 [.t 32, .c (.string (str [32]))]),
  mv_ 31 33,
  po_ 34 (.ext 0 (.t 31)),
  po_ 35 (.ext 1 (.t 31)),
  po_ 36 (.ext 2 (.t 31)),
  mv_ 9 34,
  mv_ 10 35,
  mv_ 11 36] [0, 2, 4, 6, 7, 8, 9, 10, 11])
 NL
def MP : Af := .seq (.ops [mv_ 26 5,
  so_ 27 (.call 109 [.t 26, .c (.string (str [62, 32]))]),
  mv_ 25 27,
  po_ 28 (.ext 0 (.t 25)),
  po_ 29 (.ext 1 (.t 25)),
  po_ 30 (.ext 2 (.t 25)),
  mv_ 7 28,
  mv_ 5 29,
  mv_ 8 30] [0, 2, 4, 5, 6, 7, 8])
 Ny
def KD : Af := .seq (.ops [mv_ 20 0,
  so_ 21 (.call 109 [.t 20, .c (.string (str [32, 60]))]),
  mv_ 19 21,
  po_ 22 (.ext 0 (.t 19)),
  po_ 23 (.ext 1 (.t 19)),
  po_ 24 (.ext 2 (.t 19)),
  mv_ 4 22,
  mv_ 5 23,
  mv_ 6 24] [0, 2, 4, 5, 6])
 MP
def Sz : Af := .seq (.ops [so_ 2 (.alloc (.agg [.val (.string (str [])), .val (.string (str [])), .val (.int .i64 ((0 : Nat) : Int)), .val (.int .i64 ((0 : Nat) : Int))])),
  po_ 3 (.mov (.c (.bool false)))] [0, 2])
 KD
def Sm : List VR := [.cell 2 true 4, .tmp 3]
theorem AdA : Tryz.f106.body.bind (trC Tryz.prog Tryz.f106.ntmps) = some (er Sz) := by kernel_rfl
theorem Adm : trR Tryz.prog Tryz.f106.results.toList = some Sm := by kernel_rfl
def Bi := Aa NV.eq_1
def Jl := Aa Nu.eq_1
def XI := Aa Nz.eq_1
def Vp := Aa NJ.eq_1
def WA := Aa NP.eq_1
def Gy := Aa NU.eq_1
def Xp := Aa NL.eq_1
def Xz := Aa Ny.eq_1
def Wi := Aa MP.eq_1
def Ur := Aa KD.eq_1
def Aak := Aa Sz.eq_1
theorem AV {K : TV → Prop} {e : Env} {H : List Ob} : res Sm e H K = res [.cell 2 true 4, .tmp 3] e H K := Ac rfl
def AbG := DD 102 Tryz.func106 AdA Adm rfl

def Tu : Af := .seq (.ops [po_ 2 (.mov (.c (.bool false)))] [0])
 (.seq (.ops [mv_ 3 0,
  po_ 4 (.lenS (.t 3)),
  po_ 5 (.bin 3 .leq (.t 4) (ci_ 2000)),
  mv_ 6 5,
  ⟨some 7, .p (.mov (.t 0)), some ⟨6, true⟩⟩,
  ⟨some 8, .s (.call 60 [.t 7, .c (.string (str [0]))]), some ⟨6, true⟩⟩,
  ⟨some 9, .p (.un .not (.t 8)), some ⟨6, true⟩⟩,
  po_ 10 (.pick (.t 6) (.t 9) (.c (.bool false))),
  mv_ 2 10] [2])
 (.ret))
def TR : List VR := [.tmp 2]
theorem AeE : Tryz.f28.body.bind (trC Tryz.prog Tryz.f28.ntmps) = some (er Tu) := by kernel_rfl
theorem Ad2 : trR Tryz.prog Tryz.f28.results.toList = some TR := by kernel_rfl
def AbA := Aa Tu.eq_1
theorem AbN {K : TV → Prop} {e : Env} {H : List Ob} : res TR e H K = res [.tmp 2] e H K := Ac rfl
def JX := (And.intro @AbA @AbN)
def AdX := DD 11 Tryz.func28 AeE Ad2 rfl

def JJ : Af := .seq (.seq (.ops [mv_ 27 8,
  po_ 28 (.un .not (.t 27)),
  mv_ 29 28,
  ⟨some 30, .p (.mov (.t 10)), some ⟨29, false⟩⟩,
  ⟨some 31, .p (.un .not (.t 30)), some ⟨29, false⟩⟩,
  po_ 32 (.pick (.t 29) (.c (.bool true)) (.t 31))] [0, 7, 9, 32])
 (.cond (.t 32)
 (.seq (.ops [po_ 4 (.mov (.c (.string (str [])))),
   po_ 5 (.mov (.c (.bool false)))] [4, 5])
  (.ret))
 (.skip)))
 (.seq (.ops [mv_ 33 0,
  mv_ 34 7,
  po_ 35 (.nilc (.t 33)),
  po_ 36 (.fieldA 0 0 (.t 35)),
  ⟨none, .s (.store 1 (.t 36) (.t 34)), none⟩] [9])
 (.seq (.ops [mv_ 37 9,
  mv_ 4 37,
  po_ 5 (.mov (.c (.bool true)))] [4, 5])
 (.ret)))
def KJ : Af := .seq (.ops [mv_ 21 6,
  mv_ 22 1,
  po_ 23 (.bin 9 .add (.t 22) (.c (.string (str [32])))),
  so_ 24 (.call 107 [.t 21, .t 23]),
  mv_ 20 24,
  po_ 25 (.ext 0 (.t 20)),
  po_ 26 (.ext 1 (.t 20)),
  mv_ 9 25,
  mv_ 10 26] [0, 7, 8, 9, 10])
 JJ
def J4 : Af := .seq (.ops [mv_ 12 0,
  po_ 13 (.nilc (.t 12)),
  po_ 14 (.fieldA 0 0 (.t 13)),
  po_ 15 (.load false 1 (.t 14)),
  so_ 16 (.call 109 [.t 15, .c (.string (str [10]))]),
  mv_ 11 16,
  po_ 17 (.ext 0 (.t 11)),
  po_ 18 (.ext 1 (.t 11)),
  po_ 19 (.ext 2 (.t 11)),
  mv_ 6 17,
  mv_ 7 18,
  mv_ 8 19] [0, 1, 6, 7, 8])
 KJ
def QK : Af := .seq (.ops [po_ 4 (.mov (.c (.string (str [])))),
  po_ 5 (.mov (.c (.bool false)))] [0, 1])
 J4
def QP : List VR := [.tmp 4, .tmp 5]
theorem Abu : Tryz.f79.body.bind (trC Tryz.prog Tryz.f79.ntmps) = some (er QK) := by kernel_rfl
theorem Abn : trR Tryz.prog Tryz.f79.results.toList = some QP := by kernel_rfl
def Fj := Aa JJ.eq_1
def IX := Aa KJ.eq_1
def U8 := Aa J4.eq_1
def ZP := Aa QK.eq_1
theorem Hg {K : TV → Prop} {e : Env} {H : List Ob} : res QP e H K = res [.tmp 4, .tmp 5] e H K := Ac rfl
def AaS := DD 38 Tryz.func79 Abu Abn rfl

def KU : Af := .seq (.ops [mv_ 13 0,
  mv_ 14 0,
  po_ 15 (.nilc (.t 14)),
  po_ 16 (.fieldA 1 1 (.t 15)),
  po_ 17 (.load false 1 (.t 16)),
  mv_ 18 17,
  ⟨some 19, .p (.mov (.t 6)), some ⟨18, false⟩⟩,
  ⟨some 20, .p (.un .not (.t 19)), some ⟨18, false⟩⟩,
  po_ 21 (.pick (.t 18) (.c (.bool true)) (.t 20)),
  po_ 22 (.nilc (.t 13)),
  po_ 23 (.fieldA 1 1 (.t 22)),
  ⟨none, .s (.store 1 (.t 23) (.t 21)), none⟩] [5])
 (.seq (.ops [mv_ 24 5,
  mv_ 4 24] [4])
 (.ret))
def JU : Af := .seq (.ops [mv_ 8 0,
  mv_ 9 1,
  so_ 10 (.call 79 [.t 8, .t 9]),
  mv_ 7 10,
  po_ 11 (.ext 0 (.t 7)),
  po_ 12 (.ext 1 (.t 7)),
  mv_ 5 11,
  mv_ 6 12] [0, 5, 6])
 KU
def Ru : Af := .seq (.ops [po_ 4 (.mov (.c (.string (str []))))] [0, 1])
 JU
def Rx : List VR := [.tmp 4]
theorem AbM : Tryz.f72.body.bind (trC Tryz.prog Tryz.f72.ntmps) = some (er Ru) := by kernel_rfl
theorem AbO : trR Tryz.prog Tryz.f72.results.toList = some Rx := by kernel_rfl
def Du := Aa KU.eq_1
def UG := Aa JU.eq_1
def ZQ := Aa Ru.eq_1
theorem En {K : TV → Prop} {e : Env} {H : List Ob} : res Rx e H K = res [.tmp 4] e H K := Ac rfl
def AaH := DD 25 Tryz.func72 AbM AbO rfl

def Qc : Af := .seq (.ops [mv_ 12 0,
  mv_ 13 0,
  po_ 14 (.nilc (.t 13)),
  po_ 15 (.fieldA 1 1 (.t 14)),
  po_ 16 (.load false 1 (.t 15)),
  mv_ 17 16,
  ⟨some 18, .p (.mov (.t 6)), some ⟨17, false⟩⟩,
  ⟨some 19, .p (.eqN 1 (.t 18) (.c .nilIface) true), some ⟨17, false⟩⟩,
  po_ 20 (.pick (.t 17) (.c (.bool true)) (.t 19)),
  po_ 21 (.nilc (.t 12)),
  po_ 22 (.fieldA 1 1 (.t 21)),
  ⟨none, .s (.store 1 (.t 22) (.t 20)), none⟩] [4, 5])
 (.seq (.ops [po_ 23 (.load true 20 (.t 5)),
  ⟨none, .s (.store 20 (.t 4) (.t 23)), none⟩] [4])
 (.ret))
def Qe : Af := .seq (.ops [mv_ 8 1,
  so_ 9 (.call 105 [.t 8]),
  mv_ 7 9,
  po_ 10 (.ext 0 (.t 7)),
  po_ 11 (.ext 1 (.t 7)),
  so_ 5 (.alloc (.arr 20 1 [.val (.int .u8 ((0 : Nat) : Int)), .val (.int .u8 ((0 : Nat) : Int)), .val (.int .u8 ((0 : Nat) : Int)), .val (.int .u8 ((0 : Nat) : Int)), .val (.int .u8 ((0 : Nat) : Int)), .val (.int .u8 ((0 : Nat) : Int)), .val (.int .u8 ((0 : Nat) : Int)), .val (.int .u8 ((0 : Nat) : Int)), .val (.int .u8 ((0 : Nat) : Int)), .val (.int .u8 ((0 : Nat) : Int)), .val (.int .u8 ((0 : Nat) : Int)), .val (.int .u8 ((0 : Nat) : Int)), .val (.int .u8 ((0 : Nat) : Int)), .val (.int .u8 ((0 : Nat) : Int)), .val (.int .u8 ((0 : Nat) : Int)), .val (.int .u8 ((0 : Nat) : Int)), .val (.int .u8 ((0 : Nat) : Int)), .val (.int .u8 ((0 : Nat) : Int)), .val (.int .u8 ((0 : Nat) : Int)), .val (.int .u8 ((0 : Nat) : Int))])),
  ⟨none, .s (.store 20 (.t 5) (.t 10)), none⟩,
  mv_ 6 11] [0, 4, 5, 6])
 Qc
def TS : Af := .seq (.ops [so_ 4 (.alloc (.arr 20 1 [.val (.int .u8 ((0 : Nat) : Int)), .val (.int .u8 ((0 : Nat) : Int)), .val (.int .u8 ((0 : Nat) : Int)), .val (.int .u8 ((0 : Nat) : Int)), .val (.int .u8 ((0 : Nat) : Int)), .val (.int .u8 ((0 : Nat) : Int)), .val (.int .u8 ((0 : Nat) : Int)), .val (.int .u8 ((0 : Nat) : Int)), .val (.int .u8 ((0 : Nat) : Int)), .val (.int .u8 ((0 : Nat) : Int)), .val (.int .u8 ((0 : Nat) : Int)), .val (.int .u8 ((0 : Nat) : Int)), .val (.int .u8 ((0 : Nat) : Int)), .val (.int .u8 ((0 : Nat) : Int)), .val (.int .u8 ((0 : Nat) : Int)), .val (.int .u8 ((0 : Nat) : Int)), .val (.int .u8 ((0 : Nat) : Int)), .val (.int .u8 ((0 : Nat) : Int)), .val (.int .u8 ((0 : Nat) : Int)), .val (.int .u8 ((0 : Nat) : Int))]))] [0, 1, 4])
 Qe
def TD : List VR := [.cell 4 true 20]
theorem AeJ : Tryz.f71.body.bind (trC Tryz.prog Tryz.f71.ntmps) = some (er TS) := by kernel_rfl
theorem AeP : trR Tryz.prog Tryz.f71.results.toList = some TD := by kernel_rfl
def YK := Aa Qc.eq_1
def Yu := Aa Qe.eq_1
def Abs := Aa TS.eq_1
theorem AbL {K : TV → Prop} {e : Env} {H : List Ob} : res TD e H K = res [.cell 4 true 20] e H K := Ac rfl
def AdZ := DD 24 Tryz.func71 AeJ AeP rfl

def IG : Af := .seq (.ops [mv_ 14 0,
  mv_ 15 0,
  po_ 16 (.nilc (.t 15)),
  po_ 17 (.fieldA 1 1 (.t 16)),
  po_ 18 (.load false 1 (.t 17)),
  mv_ 19 18,
  ⟨some 20, .p (.mov (.t 6)), some ⟨19, false⟩⟩,
  ⟨some 21, .p (.un .not (.t 20)), some ⟨19, false⟩⟩,
  po_ 22 (.pick (.t 19) (.c (.bool true)) (.t 21)),
  po_ 23 (.nilc (.t 14)),
  po_ 24 (.fieldA 1 1 (.t 23)),
  ⟨none, .s (.store 1 (.t 24) (.t 22)), none⟩] [4, 5])
 (.seq (.ops [po_ 25 (.load true 4 (.t 5)),
  ⟨none, .s (.store 4 (.t 4) (.t 25)), none⟩] [4])
 (.ret))
def I9 : Af := .seq (.ops [mv_ 8 0,
  mv_ 9 1,
  so_ 10 (.call 72 [.t 8, .t 9]),
  so_ 11 (.call 106 [.t 10]),
  mv_ 7 11,
  po_ 12 (.ext 0 (.t 7)),
  po_ 13 (.ext 1 (.t 7)),
  so_ 5 (.alloc (.agg [.val (.string (str [])), .val (.string (str [])), .val (.int .i64 ((0 : Nat) : Int)), .val (.int .i64 ((0 : Nat) : Int))])),
  ⟨none, .s (.store 4 (.t 5) (.t 12)), none⟩,
  mv_ 6 13] [0, 4, 5, 6])
 IG
def Nq : Af := .seq (.ops [so_ 4 (.alloc (.agg [.val (.string (str [])), .val (.string (str [])), .val (.int .i64 ((0 : Nat) : Int)), .val (.int .i64 ((0 : Nat) : Int))]))] [0, 1, 4])
 I9
def Nc : List VR := [.cell 4 true 4]
theorem ZO : Tryz.f74.body.bind (trC Tryz.prog Tryz.f74.ntmps) = some (er Nq) := by kernel_rfl
theorem ZI : trR Tryz.prog Tryz.f74.results.toList = some Nc := by kernel_rfl
def SA := Aa IG.eq_1
def SH := Aa I9.eq_1
def Xn := Aa Nq.eq_1
theorem XJ {K : TV → Prop} {e : Env} {H : List Ob} : res Nc e H K = res [.cell 4 true 4] e H K := Ac rfl
def Yj := DD 26 Tryz.func74 ZO ZI rfl

def Ij : Af := .seq (.ops [mv_ 13 0,
  mv_ 14 0,
  po_ 15 (.nilc (.t 14)),
  po_ 16 (.fieldA 1 1 (.t 15)),
  po_ 17 (.load false 1 (.t 16)),
  mv_ 18 17,
  ⟨some 19, .p (.mov (.t 4)), some ⟨18, false⟩⟩,
  ⟨some 20, .p (.un .not (.t 19)), some ⟨18, false⟩⟩,
  po_ 21 (.pick (.t 18) (.c (.bool true)) (.t 20)),
  mv_ 22 21,
  ⟨some 23, .p (.mov (.t 3)), some ⟨22, false⟩⟩,
  ⟨some 24, .s (.call 28 [.t 23]), some ⟨22, false⟩⟩,
  ⟨some 25, .p (.un .not (.t 24)), some ⟨22, false⟩⟩,
  po_ 26 (.pick (.t 22) (.c (.bool true)) (.t 25)),
  po_ 27 (.nilc (.t 13)),
  po_ 28 (.fieldA 1 1 (.t 27)),
  ⟨none, .s (.store 1 (.t 28) (.t 26)), none⟩] [3])
 (.seq (.ops [mv_ 29 3,
  mv_ 2 29] [2])
 (.ret))
def Ik : Af := .seq (.ops [mv_ 6 0,
  po_ 7 (.nilc (.t 6)),
  po_ 8 (.fieldA 0 0 (.t 7)),
  po_ 9 (.load false 1 (.t 8)),
  so_ 10 (.call 107 [.t 9, .c (.string (str [10]))]),
  mv_ 5 10,
  po_ 11 (.ext 0 (.t 5)),
  po_ 12 (.ext 1 (.t 5)),
  mv_ 3 11,
  mv_ 4 12] [0, 3, 4])
 Ij
def JF : Af := .seq (.ops [po_ 2 (.mov (.c (.string (str []))))] [0])
 Ik
def LV : List VR := [.tmp 2]
theorem Yv : Tryz.f75.body.bind (trC Tryz.prog Tryz.f75.ntmps) = some (er JF) := by kernel_rfl
theorem Yb : trR Tryz.prog Tryz.f75.results.toList = some LV := by kernel_rfl
def Hq := Aa Ij.eq_1
def Rz := Aa Ik.eq_1
def Um := Aa JF.eq_1
theorem IA {K : TV → Prop} {e : Env} {H : List Ob} : res LV e H K = res [.tmp 2] e H K := Ac rfl
def WX := DD 30 Tryz.func75 Yv Yb rfl

def Ws : Af := .seq (.block 1 (.draw 6 [mv_ 11 0,
  mv_ 12 4,
  po_ 13 (.idxA 1 (.t 11) (.t 12)),
  po_ 14 (.load false 1 (.t 13)),
  po_ 15 (.bin 9 .add (.t 14) (.c (.string (str [32])))),
  mv_ 16 0,
  mv_ 17 4,
  po_ 18 (.bin 3 .add (.t 17) (ci_ 1)),
  po_ 19 (.idxA 1 (.t 16) (.t 18)),
  po_ 20 (.load false 1 (.t 19)),
  po_ 21 (.bin 9 .add (.t 15) (.t 20)),
  po_ 22 (.bin 9 .add (.t 21) (.c (.string (str [10])))),
  so_ 23 (.call 61 [.t 3, .t 22])] [0, 3, 4]))
 (.ops [mv_ 9 4,
  po_ 10 (.bin 3 .add (.t 9) (ci_ 2)),
  mv_ 4 10] [0, 3, 4])
def VD : Af := .seq (.seq (.ops [mv_ 5 4,
  mv_ 6 0,
  po_ 7 (.lenV (.t 6)),
  po_ 8 (.bin 3 .lss (.t 5) (.t 7))] [0, 3, 4, 8])
 (.cond (.t 8)
 (.skip)
 (.exit 0)))
 Ws
def Vf : Af := .block 0 (.ownT 3 [(1, 1)] 5 (.loop [0, 3, 4] VD))
def VQ : Af := .seq (.ops [so_ 24 (.bstr 62 (.t 3)),
  mv_ 2 24] [2])
 (.ret)
def Vo : Af := .seq (.seq (.ops [po_ 4 (.mov (ci_ 0))] [0, 3, 4])
 Vf)
 VQ
def Vt : Af := .seq (.ops [so_ 3 (.allocT (.agg [.val (.pointer none), .val (.slice none 0 0)]) 118)] [0, 3])
 Vo
def Acb : Af := .seq (.ops [po_ 2 (.mov (.c (.string (str []))))] [0])
 Vt
def AbX : List VR := [.tmp 2]
theorem Aie : Tryz.f29.body.bind (trC Tryz.prog Tryz.f29.ntmps) = some (er Acb) := by kernel_rfl
theorem Aih : trR Tryz.prog Tryz.f29.results.toList = some AbX := by kernel_rfl
def Ac7 := Aa Ws.eq_1
def Adz := Aa VD.eq_1
def Acx := Aa Vf.eq_1
def Acr := Aa VQ.eq_1
def AcM := Aa Vo.eq_1
def AcW := Aa Vt.eq_1
def AgI := Aa Acb.eq_1
theorem Ag1 {K : TV → Prop} {e : Env} {H : List Ob} : res AbX e H K = res [.tmp 2] e H K := Ac rfl
def Va := (And.intro (And.intro (And.intro @Ac7 @Adz) (And.intro @Acx @Acr)) (And.intro (And.intro @AcM @AcW) (And.intro @AgI @Ag1)))
def Ahi := DD 25 Tryz.func29 Aie Aih rfl




def Aag : Af := .seq (.block 1 (.seq (.ops [mv_ 13 0,
  mv_ 14 3,
  po_ 15 (.idxS (.t 13) (.t 14)),
  po_ 16 (.bin 5 .eql (.t 15) (.c (.int .u8 ((60 : Nat) : Int)))),
  mv_ 17 16,
  ⟨some 18, .p (.mov (.t 0)), some ⟨17, false⟩⟩,
  ⟨some 19, .p (.mov (.t 3)), some ⟨17, false⟩⟩,
  ⟨some 20, .p (.idxS (.t 18) (.t 19)), some ⟨17, false⟩⟩,
  ⟨some 21, .p (.bin 5 .eql (.t 20) (.c (.int .u8 ((62 : Nat) : Int)))), some ⟨17, false⟩⟩,
  po_ 22 (.pick (.t 17) (.c (.bool true)) (.t 21)),
  mv_ 23 22,
  ⟨some 24, .p (.mov (.t 0)), some ⟨23, false⟩⟩,
  ⟨some 25, .p (.mov (.t 3)), some ⟨23, false⟩⟩,
  ⟨some 26, .p (.idxS (.t 24) (.t 25)), some ⟨23, false⟩⟩,
  ⟨some 27, .p (.bin 5 .eql (.t 26) (.c (.int .u8 ((10 : Nat) : Int)))), some ⟨23, false⟩⟩,
  po_ 28 (.pick (.t 23) (.c (.bool true)) (.t 27)),
  mv_ 29 28,
  ⟨some 30, .p (.mov (.t 0)), some ⟨29, false⟩⟩,
  ⟨some 31, .p (.mov (.t 3)), some ⟨29, false⟩⟩,
  ⟨some 32, .p (.idxS (.t 30) (.t 31)), some ⟨29, false⟩⟩,
  ⟨some 33, .p (.bin 5 .eql (.t 32) (.c (.int .u8 ((0 : Nat) : Int)))), some ⟨29, false⟩⟩,
  po_ 34 (.pick (.t 29) (.c (.bool true)) (.t 33))] [0, 3, 34])
 (.cond (.t 34)
 (.seq (.ops [po_ 2 (.mov (.c (.bool false)))] [2])
  (.ret))
 (.skip))))
 (.ops [mv_ 11 3,
  po_ 12 (.bin 3 .add (.t 11) (ci_ 1)),
  mv_ 3 12] [0, 3])
def Z5 : Af := .seq (.seq (.ops [mv_ 7 3,
  mv_ 8 0,
  po_ 9 (.lenS (.t 8)),
  po_ 10 (.bin 3 .lss (.t 7) (.t 9))] [0, 3, 10])
 (.cond (.t 10)
 (.skip)
 (.exit 0)))
 Aag
def Aai : Af := .block 0 (.loop [0, 3] Z5)
def Aae : Af := .seq (.ops [mv_ 35 0,
  po_ 36 (.lenS (.t 35)),
  po_ 37 (.bin 3 .eql (.t 36) (ci_ 0)),
  mv_ 38 37,
  ⟨some 39, .p (.mov (.t 0)), some ⟨38, false⟩⟩,
  ⟨some 40, .p (.idxS (.t 39) (ci_ 0)), some ⟨38, false⟩⟩,
  ⟨some 41, .p (.bin 5 .neq (.t 40) (.c (.int .u8 ((32 : Nat) : Int)))), some ⟨38, false⟩⟩,
  ⟨some 42, .p (.mov (.t 41)), some ⟨38, false⟩⟩,
  ⟨some 43, .p (.mov (.t 0)), some ⟨42, true⟩⟩,
  ⟨some 44, .p (.mov (.t 0)), some ⟨42, true⟩⟩,
  ⟨some 45, .p (.lenS (.t 44)), some ⟨42, true⟩⟩,
  ⟨some 46, .p (.bin 3 .sub (.t 45) (ci_ 1)), some ⟨42, true⟩⟩,
  ⟨some 47, .p (.idxS (.t 43) (.t 46)), some ⟨42, true⟩⟩,
  ⟨some 48, .p (.bin 5 .neq (.t 47) (.c (.int .u8 ((32 : Nat) : Int)))), some ⟨42, true⟩⟩,
  ⟨some 49, .p (.pick (.t 42) (.t 48) (.c (.bool false))), some ⟨38, false⟩⟩,
  po_ 50 (.pick (.t 38) (.c (.bool true)) (.t 49)),
  mv_ 2 50] [2])
 (.ret)
def Aab : Af := .seq (.seq (.ops [po_ 3 (.mov (ci_ 0))] [0, 3])
 Aai)
 Aae
def Aaw : Af := .seq (.seq (.ops [mv_ 4 0,
  po_ 5 (.lenS (.t 4)),
  po_ 6 (.bin 3 .gtr (.t 5) (ci_ 60))] [0, 6])
 (.cond (.t 6)
 (.seq (.ops [po_ 2 (.mov (.c (.bool false)))] [2])
  (.ret))
 (.skip)))
 Aab
def Agt : Af := .seq (.ops [po_ 2 (.mov (.c (.bool false)))] [0])
 Aaw
def Ago : List VR := [.tmp 2]
theorem AlB : Tryz.f68.body.bind (trC Tryz.prog Tryz.f68.ntmps) = some (er Agt) := by kernel_rfl
theorem AlR : trR Tryz.prog Tryz.f68.results.toList = some Ago := by kernel_rfl
def Gz := Aa Aag.eq_1
def Ci := Aa Z5.eq_1
def Afp := Aa Aai.eq_1
def Ig := Aa Aae.eq_1
def Afh := Aa Aab.eq_1
def WS := Aa Aaw.eq_1
def Ab0 := Aa Agt.eq_1
theorem Dt {K : TV → Prop} {e : Env} {H : List Ob} : res Ago e H K = res [.tmp 2] e H K := Ac rfl
def Ajz := DD 51 Tryz.func68 AlB AlR rfl

def O6 : Af := .seq (.draw 10 [po_ 71 (.fieldA 0 0 (.t 1)),
  po_ 72 (.load false 1 (.t 71)),
  po_ 73 (.bin 9 .add (.t 72) (.c (.string (str [32, 60])))),
  po_ 74 (.fieldA 1 1 (.t 1)),
  po_ 75 (.load false 1 (.t 74)),
  po_ 76 (.bin 9 .add (.t 73) (.t 75)),
  po_ 77 (.bin 9 .add (.t 76) (.c (.string (str [62, 32])))),
  po_ 78 (.fieldA 2 2 (.t 1)),
  po_ 79 (.load false 1 (.t 78)),
  so_ 80 (.call 69 [.t 79]),
  po_ 81 (.bin 9 .add (.t 77) (.t 80)),
  po_ 82 (.bin 9 .add (.t 81) (.c (.string (str [32])))),
  mv_ 83 6,
  po_ 84 (.bin 9 .add (.t 82) (.t 83)),
  mv_ 85 10,
  po_ 86 (.bin 9 .add (.t 84) (.t 85)),
  mv_ 2 86,
  po_ 3 (.mov (.c (.bool true)))] [2, 3])
 (.ret)
def OY : Af := .seq (.ops [mv_ 53 8,
  po_ 54 (.bin 3 .quo (.t 53) (ci_ 10)),
  po_ 55 (.bin 3 .add (ci_ 48) (.t 54)),
  po_ 56 (.conv .u8 (.t 55)),
  mv_ 57 8,
  po_ 58 (.bin 3 .rem (.t 57) (ci_ 10)),
  po_ 59 (.bin 3 .add (ci_ 48) (.t 58)),
  po_ 60 (.conv .u8 (.t 59)),
  mv_ 61 9,
  po_ 62 (.bin 3 .quo (.t 61) (ci_ 10)),
  po_ 63 (.bin 3 .add (ci_ 48) (.t 62)),
  po_ 64 (.conv .u8 (.t 63)),
  mv_ 65 9,
  po_ 66 (.bin 3 .rem (.t 65) (ci_ 10)),
  po_ 67 (.bin 3 .add (ci_ 48) (.t 66)),
  po_ 68 (.conv .u8 (.t 67)),
  ⟨some 69, .s (.bslice 1 4 (.val (.int .u8 ((0 : Nat) : Int))) [⟨0, .t 56⟩, ⟨1, .t 60⟩, ⟨2, .t 64⟩, ⟨3, .t 68⟩]), none⟩,
  po_ 70 (.b2s (.t 69)),
  mv_ 10 70] [1, 6, 10])
 O6
def P7 : Af := .seq (.ops [mv_ 51 7,
  po_ 52 (.bin 3 .rem (.t 51) (ci_ 60)),
  mv_ 9 52] [1, 6, 8, 9])
 OY
def PY : Af := .seq (.ops [mv_ 49 7,
  po_ 50 (.bin 3 .quo (.t 49) (ci_ 60)),
  mv_ 8 50] [1, 6, 7, 8])
 P7
def PN : Af := .seq (.seq (.ops [mv_ 45 7,
  po_ 46 (.bin 3 .lss (.t 45) (ci_ 0))] [1, 6, 7, 46])
 (.cond (.t 46)
 (.seq (.ops [po_ 6 (.mov (.c (.string (str [45]))))] [1, 6, 7])
  (.ops [mv_ 47 7,
   po_ 48 (.un .neg (.t 47)),
   mv_ 7 48] [1, 6, 7]))
 (.skip)))
 PY
def OZ : Af := .seq (.ops [po_ 43 (.fieldA 3 3 (.t 1)),
  po_ 44 (.load false 1 (.t 43)),
  mv_ 7 44] [1, 6, 7])
 PN
def O0 : Af := .seq (.ops [po_ 6 (.mov (.c (.string (str [43]))))] [1, 6])
 OZ
def P9 : Af := .seq (.seq (.ops [mv_ 17 4,
  po_ 18 (.un .not (.t 17)),
  mv_ 19 18,
  ⟨some 20, .p (.mov (.t 5)), some ⟨19, false⟩⟩,
  ⟨some 21, .p (.un .not (.t 20)), some ⟨19, false⟩⟩,
  po_ 22 (.pick (.t 19) (.c (.bool true)) (.t 21)),
  mv_ 23 22,
  ⟨some 24, .p (.fieldA 2 2 (.t 1)), some ⟨23, false⟩⟩,
  ⟨some 25, .p (.load false 1 (.t 24)), some ⟨23, false⟩⟩,
  ⟨some 26, .p (.bin 3 .lss (.t 25) (ci_ 0)), some ⟨23, false⟩⟩,
  po_ 27 (.pick (.t 23) (.c (.bool true)) (.t 26)),
  mv_ 28 27,
  ⟨some 29, .p (.fieldA 2 2 (.t 1)), some ⟨28, false⟩⟩,
  ⟨some 30, .p (.load false 1 (.t 29)), some ⟨28, false⟩⟩,
  ⟨some 31, .p (.bin 3 .gtr (.t 30) (ci_ 1099511627776)), some ⟨28, false⟩⟩,
  po_ 32 (.pick (.t 28) (.c (.bool true)) (.t 31)),
  mv_ 33 32,
  ⟨some 34, .p (.fieldA 3 3 (.t 1)), some ⟨33, false⟩⟩,
  ⟨some 35, .p (.load false 1 (.t 34)), some ⟨33, false⟩⟩,
  ⟨some 36, .p (.bin 3 .lss (.t 35) (.c (.int .i64 (-840)))), some ⟨33, false⟩⟩,
  po_ 37 (.pick (.t 33) (.c (.bool true)) (.t 36)),
  mv_ 38 37,
  ⟨some 39, .p (.fieldA 3 3 (.t 1)), some ⟨38, false⟩⟩,
  ⟨some 40, .p (.load false 1 (.t 39)), some ⟨38, false⟩⟩,
  ⟨some 41, .p (.bin 3 .gtr (.t 40) (ci_ 840)), some ⟨38, false⟩⟩,
  po_ 42 (.pick (.t 38) (.c (.bool true)) (.t 41))] [1, 42])
 (.cond (.t 42)
 (.seq (.ops [po_ 2 (.mov (.c (.string (str [])))),
   po_ 3 (.mov (.c (.bool false)))] [2, 3])
  (.ret))
 (.skip)))
 O0
def PU : Af := .seq (.ops [po_ 14 (.fieldA 1 1 (.t 1)),
  po_ 15 (.load false 1 (.t 14)),
  so_ 16 (.call 68 [.t 15]),
  mv_ 5 16] [1, 4, 5])
 P9
def N8 : Af := .seq (.ops [po_ 11 (.fieldA 0 0 (.t 1)),
  po_ 12 (.load false 1 (.t 11)),
  so_ 13 (.call 68 [.t 12]),
  mv_ 4 13] [1, 4])
 PU
def TI : Af := .seq (.ops [so_ 1 (.box (.t 0)),
  po_ 2 (.mov (.c (.string (str [])))),
  po_ 3 (.mov (.c (.bool false)))] [1])
 N8
def TP : List VR := [.tmp 2, .tmp 3]
theorem Aeo : Tryz.f33.body.bind (trC Tryz.prog Tryz.f33.ntmps) = some (er TI) := by kernel_rfl
theorem Aep : trR Tryz.prog Tryz.f33.results.toList = some TP := by kernel_rfl
def LC := Aa O6.eq_1
def J8 := Aa OY.eq_1
def Md := Aa P7.eq_1
def LU := Aa PY.eq_1
def KH := Aa PN.eq_1
def KF := Aa OZ.eq_1
def KY := Aa O0.eq_1
def Bl := Aa P9.eq_1
def BN := Aa PU.eq_1
def BH := Aa N8.eq_1
def Cm := Aa TI.eq_1
theorem BR {K : TV → Prop} {e : Env} {H : List Ob} : res TP e H K = res [.tmp 2, .tmp 3] e H K := Ac rfl
def Ado := DD 87 Tryz.func33 Aeo Aep rfl

def Y2 : Af := .seq (.block 1 (.seq (.seq (.ops [mv_ 29 0,
  mv_ 30 4,
  po_ 31 (.idxS (.t 29) (.t 30)),
  po_ 32 (.bin 5 .lss (.t 31) (.c (.int .u8 ((48 : Nat) : Int)))),
  mv_ 33 32,
  ⟨some 34, .p (.mov (.t 0)), some ⟨33, false⟩⟩,
  ⟨some 35, .p (.mov (.t 4)), some ⟨33, false⟩⟩,
  ⟨some 36, .p (.idxS (.t 34) (.t 35)), some ⟨33, false⟩⟩,
  ⟨some 37, .p (.bin 5 .gtr (.t 36) (.c (.int .u8 ((57 : Nat) : Int)))), some ⟨33, false⟩⟩,
  po_ 38 (.pick (.t 33) (.c (.bool true)) (.t 37))] [0, 3, 4, 38])
 (.cond (.t 38)
 (.seq (.ops [po_ 2 (.mov (.c (.int .i64 (-1))))] [2])
  (.ret))
 (.skip)))
 (.ops [mv_ 39 3,
  po_ 40 (.bin 3 .mul (.t 39) (ci_ 10)),
  mv_ 41 0,
  mv_ 42 4,
  po_ 43 (.idxS (.t 41) (.t 42)),
  po_ 44 (.bin 5 .sub (.t 43) (.c (.int .u8 ((48 : Nat) : Int)))),
  po_ 45 (.conv .i64 (.t 44)),
  po_ 46 (.bin 3 .add (.t 40) (.t 45)),
  mv_ 3 46] [0, 3, 4])))
 (.ops [mv_ 27 4,
  po_ 28 (.bin 3 .add (.t 27) (ci_ 1)),
  mv_ 4 28] [0, 3, 4])
def Y4 : Af := .seq (.seq (.ops [mv_ 23 4,
  mv_ 24 0,
  po_ 25 (.lenS (.t 24)),
  po_ 26 (.bin 3 .lss (.t 23) (.t 25))] [0, 3, 4, 26])
 (.cond (.t 26)
 (.skip)
 (.exit 0)))
 Y2
def YZ : Af := .block 0 (.loop [0, 3, 4] Y4)
def Zb : Af := .seq (.ops [mv_ 47 3,
  mv_ 2 47] [2])
 (.ret)
def Y3 : Af := .seq (.seq (.ops [po_ 4 (.mov (ci_ 0))] [0, 3, 4])
 YZ)
 Zb
def Zy : Af := .seq (.ops [po_ 3 (.mov (ci_ 0))] [0, 3])
 Y3
def Zo : Af := .seq (.seq (.ops [mv_ 5 0,
  po_ 6 (.lenS (.t 5)),
  po_ 7 (.bin 3 .lss (.t 6) (ci_ 1)),
  mv_ 8 7,
  ⟨some 9, .p (.mov (.t 0)), some ⟨8, false⟩⟩,
  ⟨some 10, .p (.lenS (.t 9)), some ⟨8, false⟩⟩,
  ⟨some 11, .p (.bin 3 .gtr (.t 10) (ci_ 15)), some ⟨8, false⟩⟩,
  po_ 12 (.pick (.t 8) (.c (.bool true)) (.t 11)),
  mv_ 13 12,
  ⟨some 14, .p (.mov (.t 0)), some ⟨13, false⟩⟩,
  ⟨some 15, .p (.lenS (.t 14)), some ⟨13, false⟩⟩,
  ⟨some 16, .p (.bin 3 .gtr (.t 15) (ci_ 1)), some ⟨13, false⟩⟩,
  ⟨some 17, .p (.mov (.t 16)), some ⟨13, false⟩⟩,
  ⟨some 18, .p (.mov (.t 0)), some ⟨17, true⟩⟩,
  ⟨some 19, .p (.idxS (.t 18) (ci_ 0)), some ⟨17, true⟩⟩,
  ⟨some 20, .p (.bin 5 .eql (.t 19) (.c (.int .u8 ((48 : Nat) : Int)))), some ⟨17, true⟩⟩,
  ⟨some 21, .p (.pick (.t 17) (.t 20) (.c (.bool false))), some ⟨13, false⟩⟩,
  po_ 22 (.pick (.t 13) (.c (.bool true)) (.t 21))] [0, 22])
 (.cond (.t 22)
 (.seq (.ops [po_ 2 (.mov (.c (.int .i64 (-1))))] [2])
  (.ret))
 (.skip)))
 Zy
def Afa : Af := .seq (.ops [po_ 2 (.mov (ci_ 0))] [0])
 Zo
def Aen : List VR := [.tmp 2]
theorem Ajs : Tryz.f108.body.bind (trC Tryz.prog Tryz.f108.ntmps) = some (er Afa) := by kernel_rfl
theorem Akl : trR Tryz.prog Tryz.f108.results.toList = some Aen := by kernel_rfl
def Dx := Aa Y2.eq_1
def CB := Aa Y4.eq_1
def TB := Aa YZ.eq_1
def TF := Aa Zb.eq_1
def TJ := Aa Y3.eq_1
def TT := Aa Zy.eq_1
def Fg := Aa Zo.eq_1
def H6 := Aa Afa.eq_1
theorem Dh {K : TV → Prop} {e : Env} {H : List Ob} : res Aen e H K = res [.tmp 2] e H K := Ac rfl
def Air := DD 48 Tryz.func108 Ajs Akl rfl

def QS : Af := .seq (.seq (.ops [mv_ 12 5,
  mv_ 13 0,
  po_ 14 (.lenS (.t 13)),
  po_ 15 (.bin 3 .lss (.t 12) (.t 14)),
  mv_ 16 15,
  ⟨some 17, .p (.mov (.t 0)), some ⟨16, true⟩⟩,
  ⟨some 18, .p (.mov (.t 5)), some ⟨16, true⟩⟩,
  ⟨some 19, .p (.idxS (.t 17) (.t 18)), some ⟨16, true⟩⟩,
  ⟨some 20, .p (.bin 5 .neq (.t 19) (.c (.int .u8 ((60 : Nat) : Int)))), some ⟨16, true⟩⟩,
  po_ 21 (.pick (.t 16) (.t 20) (.c (.bool false)))] [0, 2, 4, 5, 21])
 (.cond (.t 21)
 (.skip)
 (.exit 0)))
 (.block 1 (.ops [mv_ 22 5,
  po_ 23 (.bin 3 .add (.t 22) (ci_ 1)),
  mv_ 5 23] [0, 2, 4, 5]))
def Rw : Af := .seq (.seq (.ops [mv_ 25 6,
  mv_ 26 0,
  po_ 27 (.lenS (.t 26)),
  po_ 28 (.bin 3 .lss (.t 25) (.t 27)),
  mv_ 29 28,
  ⟨some 30, .p (.mov (.t 0)), some ⟨29, true⟩⟩,
  ⟨some 31, .p (.mov (.t 6)), some ⟨29, true⟩⟩,
  ⟨some 32, .p (.idxS (.t 30) (.t 31)), some ⟨29, true⟩⟩,
  ⟨some 33, .p (.bin 5 .neq (.t 32) (.c (.int .u8 ((62 : Nat) : Int)))), some ⟨29, true⟩⟩,
  po_ 34 (.pick (.t 29) (.t 33) (.c (.bool false)))] [0, 2, 4, 5, 6, 34])
 (.cond (.t 34)
 (.skip)
 (.exit 2)))
 (.block 3 (.ops [mv_ 35 6,
  po_ 36 (.bin 3 .add (.t 35) (ci_ 1)),
  mv_ 6 36] [0, 2, 4, 5, 6]))
def Rl : Af := .seq (.ops [po_ 110 (.load true 4 (.t 4)),
  so_ 111 (.call 33 [.t 110]),
  mv_ 109 111,
  po_ 112 (.ext 0 (.t 109)),
  po_ 113 (.ext 1 (.t 109)),
  mv_ 10 112,
  mv_ 11 113] [0, 2, 4, 10, 11])
 (.seq (.ops [po_ 114 (.load true 4 (.t 4)),
  mv_ 115 11,
  mv_ 116 115,
  ⟨some 117, .p (.mov (.t 10)), some ⟨116, true⟩⟩,
  ⟨some 118, .p (.mov (.t 0)), some ⟨116, true⟩⟩,
  ⟨some 119, .p (.bin 9 .eql (.t 117) (.t 118)), some ⟨116, true⟩⟩,
  po_ 120 (.pick (.t 116) (.t 119) (.c (.bool false))),
  ⟨none, .s (.store 4 (.t 2) (.t 114)), none⟩,
  mv_ 3 120] [2, 3])
 (.ret))
def QW : Af := .seq (.seq (.ops [mv_ 100 0,
  mv_ 101 7,
  po_ 102 (.bin 3 .sub (.t 101) (ci_ 5)),
  po_ 103 (.idxS (.t 100) (.t 102)),
  po_ 104 (.bin 5 .eql (.t 103) (.c (.int .u8 ((45 : Nat) : Int))))] [0, 2, 4, 104])
 (.cond (.t 104)
 (.ops [po_ 105 (.fieldA 3 3 (.t 4)),
   po_ 106 (.load false 1 (.t 105)),
   po_ 107 (.un .neg (.t 106)),
   po_ 108 (.fieldA 3 3 (.t 4)),
   ⟨none, .s (.store 1 (.t 108) (.t 107)), none⟩] [0, 2, 4])
 (.skip)))
 Rl
def Rh : Af := .seq (.ops [mv_ 93 8,
  po_ 94 (.bin 3 .sub (.t 93) (ci_ 100)),
  po_ 95 (.bin 3 .mul (.t 94) (ci_ 60)),
  mv_ 96 9,
  po_ 97 (.bin 3 .add (.t 95) (.t 96)),
  po_ 98 (.bin 3 .sub (.t 97) (ci_ 100)),
  po_ 99 (.fieldA 3 3 (.t 4)),
  ⟨none, .s (.store 1 (.t 99) (.t 98)), none⟩] [0, 2, 4, 7])
 QW
def Q4 : Af := .seq (.seq (.ops [mv_ 86 8,
  po_ 87 (.bin 3 .lss (.t 86) (ci_ 0)),
  mv_ 88 87,
  ⟨some 89, .p (.mov (.t 9)), some ⟨88, false⟩⟩,
  ⟨some 90, .p (.bin 3 .lss (.t 89) (ci_ 0)), some ⟨88, false⟩⟩,
  po_ 91 (.pick (.t 88) (.c (.bool true)) (.t 90))] [0, 2, 4, 7, 8, 9, 91])
 (.cond (.t 91)
 (.seq (.ops [po_ 92 (.load true 4 (.t 4)),
   ⟨none, .s (.store 4 (.t 2) (.t 92)), none⟩,
   po_ 3 (.mov (.c (.bool false)))] [2, 3])
  (.ret))
 (.skip)))
 Rh
def Q9 : Af := .seq (.ops [mv_ 80 0,
  mv_ 81 7,
  po_ 82 (.bin 3 .sub (.t 81) (ci_ 2)),
  po_ 83 (.slS (.t 80) (some (.t 82)) none),
  po_ 84 (.bin 9 .add (.c (.string (str [49]))) (.t 83)),
  so_ 85 (.call 108 [.t 84]),
  mv_ 9 85] [0, 2, 4, 7, 8, 9])
 Q4
def QT : Af := .seq (.ops [mv_ 72 0,
  mv_ 73 7,
  po_ 74 (.bin 3 .sub (.t 73) (ci_ 4)),
  mv_ 75 7,
  po_ 76 (.bin 3 .sub (.t 75) (ci_ 2)),
  po_ 77 (.slS (.t 72) (some (.t 74)) (some (.t 76))),
  po_ 78 (.bin 9 .add (.c (.string (str [49]))) (.t 77)),
  so_ 79 (.call 108 [.t 78]),
  mv_ 8 79] [0, 2, 4, 7, 8])
 Q9
def Rj : Af := .seq (.ops [mv_ 64 0,
  mv_ 65 6,
  po_ 66 (.bin 3 .add (.t 65) (ci_ 2)),
  mv_ 67 7,
  po_ 68 (.bin 3 .sub (.t 67) (ci_ 6)),
  po_ 69 (.slS (.t 64) (some (.t 66)) (some (.t 68))),
  so_ 70 (.call 108 [.t 69]),
  po_ 71 (.fieldA 2 2 (.t 4)),
  ⟨none, .s (.store 1 (.t 71) (.t 70)), none⟩] [0, 2, 4, 7])
 QT
def Px : Af := .seq (.ops [mv_ 58 0,
  mv_ 59 5,
  po_ 60 (.bin 3 .add (.t 59) (ci_ 1)),
  mv_ 61 6,
  po_ 62 (.slS (.t 58) (some (.t 60)) (some (.t 61))),
  po_ 63 (.fieldA 1 1 (.t 4)),
  ⟨none, .s (.store 1 (.t 63) (.t 62)), none⟩] [0, 2, 4, 6, 7])
 Rj
def PD : Af := .seq (.ops [mv_ 53 0,
  mv_ 54 5,
  po_ 55 (.bin 3 .sub (.t 54) (ci_ 1)),
  po_ 56 (.slS (.t 53) none (some (.t 55))),
  po_ 57 (.fieldA 0 0 (.t 4)),
  ⟨none, .s (.store 1 (.t 57) (.t 56)), none⟩] [0, 2, 4, 5, 6, 7])
 Px
def PQ : Af := .seq (.seq (.ops [mv_ 39 5,
  po_ 40 (.bin 3 .lss (.t 39) (ci_ 1)),
  mv_ 41 40,
  ⟨some 42, .p (.mov (.t 6)), some ⟨41, false⟩⟩,
  ⟨some 43, .p (.mov (.t 7)), some ⟨41, false⟩⟩,
  ⟨some 44, .p (.bin 3 .geq (.t 42) (.t 43)), some ⟨41, false⟩⟩,
  po_ 45 (.pick (.t 41) (.c (.bool true)) (.t 44)),
  mv_ 46 45,
  ⟨some 47, .p (.mov (.t 7)), some ⟨46, false⟩⟩,
  ⟨some 48, .p (.mov (.t 6)), some ⟨46, false⟩⟩,
  ⟨some 49, .p (.bin 3 .add (.t 48) (ci_ 9)), some ⟨46, false⟩⟩,
  ⟨some 50, .p (.bin 3 .lss (.t 47) (.t 49)), some ⟨46, false⟩⟩,
  po_ 51 (.pick (.t 46) (.c (.bool true)) (.t 50))] [0, 2, 4, 5, 6, 7, 51])
 (.cond (.t 51)
 (.seq (.ops [po_ 52 (.load true 4 (.t 4)),
   ⟨none, .s (.store 4 (.t 2) (.t 52)), none⟩,
   po_ 3 (.mov (.c (.bool false)))] [2, 3])
  (.ret))
 (.skip)))
 PD
def H9 : Af := .seq (.ops [mv_ 37 0,
  po_ 38 (.lenS (.t 37)),
  mv_ 7 38] [0, 2, 4, 5, 6, 7])
 PQ
def Qw : Af := .seq (.block 2 (.loop [0, 2, 4, 5, 6] Rw))
 H9
def H8 : Af := .seq (.ops [mv_ 24 5,
  mv_ 6 24] [0, 2, 4, 5, 6])
 Qw
def PS : Af := .seq (.block 0 (.loop [0, 2, 4, 5] QS))
 H8
def Qg : Af := .seq (.ops [po_ 5 (.mov (ci_ 0))] [0, 2, 4, 5])
 PS
def Qo : Af := .seq (.ops [so_ 4 (.alloc (.agg [.val (.string (str [])), .val (.string (str [])), .val (.int .i64 ((0 : Nat) : Int)), .val (.int .i64 ((0 : Nat) : Int))]))] [0, 2, 4])
 Qg
def XM : Af := .seq (.ops [so_ 2 (.alloc (.agg [.val (.string (str [])), .val (.string (str [])), .val (.int .i64 ((0 : Nat) : Int)), .val (.int .i64 ((0 : Nat) : Int))])),
  po_ 3 (.mov (.c (.bool false)))] [0, 2])
 Qo
def Ih : List VR := [.cell 2 true 4, .tmp 3]
theorem Af5 : Tryz.f78.body.bind (trC Tryz.prog Tryz.f78.ntmps) = some (er XM) := by kernel_rfl
theorem AfC : trR Tryz.prog Tryz.f78.results.toList = some Ih := by kernel_rfl
def Hm := Aa QS.eq_1
def Ho := Aa Rw.eq_1
def MS := Aa Rl.eq_1
def MX := Aa QW.eq_1
def ZB := Aa Rh.eq_1
def Hl := Aa Q4.eq_1
def ZA := Aa Q9.eq_1
def ZT := Aa QT.eq_1
def ZU := Aa Rj.eq_1
def X7 := Aa Px.eq_1
def Yk := Aa PD.eq_1
def DY := Aa PQ.eq_1
def DX := Aa H9.eq_1
def YI := Aa Qw.eq_1
def X9 := Aa H8.eq_1
def YM := Aa PS.eq_1
def YV := Aa Qg.eq_1
def Yw := Aa Qo.eq_1
def AdH := Aa XM.eq_1
theorem Bg {K : TV → Prop} {e : Env} {H : List Ob} : res Ih e H K = res [.cell 2 true 4, .tmp 3] e H K := Ac rfl
def Ae2 := DD 121 Tryz.func78 Af5 AfC rfl

def Xx : Af := .seq (.seq (.ops [mv_ 7 3,
  mv_ 8 0,
  po_ 9 (.lenS (.t 8)),
  po_ 10 (.bin 3 .lss (.t 7) (.t 9))] [0, 3, 10])
 (.cond (.t 10)
 (.skip)
 (.exit 0)))
 (.seq (.block 1 (.seq (.ops [mv_ 13 0,
  mv_ 14 3,
  po_ 15 (.idxS (.t 13) (.t 14)),
  po_ 16 (.bin 5 .eql (.t 15) (.c (.int .u8 ((0 : Nat) : Int))))] [0, 3, 16])
 (.cond (.t 16)
 (.seq (.ops [po_ 2 (.mov (.c (.bool false)))] [2])
  (.ret))
 (.skip))))
 (.ops [mv_ 11 3,
  po_ 12 (.bin 3 .add (.t 11) (ci_ 1)),
  mv_ 3 12] [0, 3]))
def XN : Af := .seq (.ops [po_ 2 (.mov (.c (.bool true)))] [2])
 (.ret)
def Wp : Af := .seq (.seq (.ops [po_ 3 (.mov (ci_ 0))] [0, 3])
 (.block 0 (.loop [0, 3] Xx)))
 XN
def VM : Af := .seq (.seq (.ops [mv_ 4 0,
  po_ 5 (.lenS (.t 4)),
  po_ 6 (.bin 3 .gtr (.t 5) (ci_ 2000))] [0, 6])
 (.cond (.t 6)
 (.seq (.ops [po_ 2 (.mov (.c (.bool false)))] [2])
  (.ret))
 (.skip)))
 Wp
def Ab4 : Af := .seq (.ops [po_ 2 (.mov (.c (.bool false)))] [0])
 VM
def Ace : List VR := [.tmp 2]
theorem Aii : Tryz.f34.body.bind (trC Tryz.prog Tryz.f34.ntmps) = some (er Ab4) := by kernel_rfl
theorem AiA : trR Tryz.prog Tryz.f34.results.toList = some Ace := by kernel_rfl
def Ac2 := Aa Xx.eq_1
def AdG := Aa XN.eq_1
def AdR := Aa Wp.eq_1
def Adq := Aa VM.eq_1
def AgK := Aa Ab4.eq_1
theorem AgA {K : TV → Prop} {e : Env} {H : List Ob} : res Ace e H K = res [.tmp 2] e H K := Ac rfl
def IR := (And.intro (And.intro (And.intro @Ac2 @AdG) (And.intro @AdR @Adq)) (And.intro @AgK @AgA))
def Ahe := DD 17 Tryz.func34 Aii AiA rfl

def Ack : Af := .seq (.seq (.ops [mv_ 26 8,
  mv_ 27 0,
  po_ 28 (.lenS (.t 27)),
  po_ 29 (.bin 3 .lss (.t 26) (.t 28)),
  mv_ 30 29,
  ⟨some 31, .p (.mov (.t 0)), some ⟨30, true⟩⟩,
  ⟨some 32, .p (.mov (.t 8)), some ⟨30, true⟩⟩,
  ⟨some 33, .p (.idxS (.t 31) (.t 32)), some ⟨30, true⟩⟩,
  ⟨some 34, .p (.bin 5 .neq (.t 33) (.c (.int .u8 ((10 : Nat) : Int)))), some ⟨30, true⟩⟩,
  po_ 35 (.pick (.t 30) (.t 34) (.c (.bool false)))] [0, 7, 8, 35])
 (.cond (.t 35)
 (.skip)
 (.exit 0)))
 (.block 1 (.ops [mv_ 36 8,
  po_ 37 (.bin 3 .add (.t 36) (ci_ 1)),
  mv_ 8 37] [0, 7, 8]))
def Acj : Af := .seq (.seq (.ops [mv_ 38 8,
  mv_ 39 0,
  po_ 40 (.lenS (.t 39)),
  po_ 41 (.bin 3 .geq (.t 38) (.t 40))] [0, 7, 8, 41])
 (.cond (.t 41)
 (.seq (.ops [mv_ 42 0,
   po_ 4 (.mov (.c (.string (str [])))),
   mv_ 5 42,
   po_ 6 (.mov (.c (.bool false)))] [4, 5, 6])
  (.ret))
 (.skip)))
 (.seq (.draw 5 [mv_ 43 0,
  mv_ 44 7,
  mv_ 45 8,
  po_ 46 (.slS (.t 43) (some (.t 44)) (some (.t 45))),
  mv_ 47 0,
  mv_ 48 8,
  po_ 49 (.bin 3 .add (.t 48) (ci_ 1)),
  po_ 50 (.slS (.t 47) (some (.t 49)) none),
  mv_ 4 46,
  mv_ 5 50,
  po_ 6 (.mov (.c (.bool true)))] [4, 5, 6])
 (.ret))
def Acm : Af := .seq (.block 0 (.loop [0, 7, 8] Ack))
 Acj
def Acg : Af := .seq (.ops [mv_ 25 7,
  mv_ 8 25] [0, 7, 8])
 Acm
def AbY : Af := .seq (.seq (.ops [mv_ 12 0,
  po_ 13 (.lenS (.t 12)),
  mv_ 14 7,
  po_ 15 (.bin 3 .lss (.t 13) (.t 14)),
  mv_ 16 15,
  ⟨some 17, .p (.mov (.t 0)), some ⟨16, false⟩⟩,
  ⟨some 18, .p (.mov (.t 7)), some ⟨16, false⟩⟩,
  ⟨some 19, .p (.slS (.t 17) none (some (.t 18))), some ⟨16, false⟩⟩,
  ⟨some 20, .p (.mov (.t 1)), some ⟨16, false⟩⟩,
  ⟨some 21, .p (.bin 9 .add (.t 20) (.c (.string (str [32])))), some ⟨16, false⟩⟩,
  ⟨some 22, .p (.bin 9 .neq (.t 19) (.t 21)), some ⟨16, false⟩⟩,
  po_ 23 (.pick (.t 16) (.c (.bool true)) (.t 22))] [0, 7, 23])
 (.cond (.t 23)
 (.seq (.ops [mv_ 24 0,
   po_ 4 (.mov (.c (.string (str [])))),
   mv_ 5 24,
   po_ 6 (.mov (.c (.bool false)))] [4, 5, 6])
  (.ret))
 (.skip)))
 Acg
def Ab2 : Af := .seq (.ops [mv_ 9 1,
  po_ 10 (.lenS (.t 9)),
  po_ 11 (.bin 3 .add (.t 10) (ci_ 1)),
  mv_ 7 11] [0, 1, 7])
 AbY
def Ahn : Af := .seq (.ops [po_ 4 (.mov (.c (.string (str [])))),
  po_ 5 (.mov (.c (.string (str [])))),
  po_ 6 (.mov (.c (.bool false)))] [0, 1])
 Ab2
def AhU : List VR := [.tmp 4, .tmp 5, .tmp 6]
theorem Amb : Tryz.f76.body.bind (trC Tryz.prog Tryz.f76.ntmps) = some (er Ahn) := by kernel_rfl
theorem AmW : trR Tryz.prog Tryz.f76.results.toList = some AhU := by kernel_rfl
def QF := Aa Ack.eq_1
def Zw := Aa Acj.eq_1
def AgP := Aa Acm.eq_1
def AgQ := Aa Acg.eq_1
def QI := Aa AbY.eq_1
def QC := Aa Ab2.eq_1
def Yt := Aa Ahn.eq_1
theorem RD {K : TV → Prop} {e : Env} {H : List Ob} : res AhU e H K = res [.tmp 4, .tmp 5, .tmp 6] e H K := Ac rfl
def AlN := DD 51 Tryz.func76 Amb AmW rfl




def AeZ : Af := .seq (.ops [so_ 1 (.box (.t 0)),
  so_ 2 (.alloc (.agg [.val (.string (str [])), .val (.string (str [])), .val (.int .i64 ((0 : Nat) : Int)), .val (.int .i64 ((0 : Nat) : Int))]))] [1, 2])
 (.seq (.ops [po_ 3 (.fieldA 0 0 (.t 1)),
  po_ 4 (.load false 1 (.t 3)),
  po_ 5 (.fieldA 1 1 (.t 1)),
  po_ 6 (.load false 1 (.t 5)),
  po_ 7 (.fieldA 2 2 (.t 1)),
  po_ 8 (.load false 1 (.t 7)),
  po_ 9 (.fieldA 3 3 (.t 1)),
  po_ 10 (.load false 1 (.t 9)),
  ⟨some 11, .p (.build [.val (.string (str [])), .val (.string (str [])), .val (.int .i64 ((0 : Nat) : Int)), .val (.int .i64 ((0 : Nat) : Int))] [1, 1, 1, 1] [⟨0, .t 4⟩, ⟨1, .t 6⟩, ⟨2, .t 8⟩, ⟨3, .t 10⟩]), none⟩,
  ⟨none, .s (.store 4 (.t 2) (.t 11)), none⟩] [2])
 (.ret))
def Ad6 : List VR := [.cell 2 true 4]
theorem AjC : Tryz.f9.body.bind (trC Tryz.prog Tryz.f9.ntmps) = some (er AeZ) := by kernel_rfl
theorem AjV : trR Tryz.prog Tryz.f9.results.toList = some Ad6 := by kernel_rfl
def AhY := Aa AeZ.eq_1
theorem AhC {K : TV → Prop} {e : Env} {H : List Ob} : res Ad6 e H K = res [.cell 2 true 4] e H K := Ac rfl
def AjA := (And.intro @AhY @AhC)
def AiC := DD 12 Tryz.func9 AjC AjV rfl

def QL : Af := .seq (.ops [po_ 5 (.fieldA 0 0 (.t 2)),
  po_ 6 (.load false 1 (.t 5)),
  po_ 7 (.fieldA 0 0 (.t 3)),
  po_ 8 (.load false 1 (.t 7)),
  po_ 9 (.bin 9 .eql (.t 6) (.t 8)),
  mv_ 10 9,
  ⟨some 11, .p (.fieldA 1 1 (.t 2)), some ⟨10, true⟩⟩,
  ⟨some 12, .p (.load false 1 (.t 11)), some ⟨10, true⟩⟩,
  ⟨some 13, .p (.fieldA 1 1 (.t 3)), some ⟨10, true⟩⟩,
  ⟨some 14, .p (.load false 1 (.t 13)), some ⟨10, true⟩⟩,
  ⟨some 15, .p (.bin 9 .eql (.t 12) (.t 14)), some ⟨10, true⟩⟩,
  po_ 16 (.pick (.t 10) (.t 15) (.c (.bool false))),
  mv_ 17 16,
  ⟨some 18, .p (.fieldA 2 2 (.t 2)), some ⟨17, true⟩⟩,
  ⟨some 19, .p (.load false 1 (.t 18)), some ⟨17, true⟩⟩,
  ⟨some 20, .p (.fieldA 2 2 (.t 3)), some ⟨17, true⟩⟩,
  ⟨some 21, .p (.load false 1 (.t 20)), some ⟨17, true⟩⟩,
  ⟨some 22, .p (.bin 3 .eql (.t 19) (.t 21)), some ⟨17, true⟩⟩,
  po_ 23 (.pick (.t 17) (.t 22) (.c (.bool false))),
  mv_ 24 23,
  ⟨some 25, .p (.fieldA 3 3 (.t 2)), some ⟨24, true⟩⟩,
  ⟨some 26, .p (.load false 1 (.t 25)), some ⟨24, true⟩⟩,
  ⟨some 27, .p (.fieldA 3 3 (.t 3)), some ⟨24, true⟩⟩,
  ⟨some 28, .p (.load false 1 (.t 27)), some ⟨24, true⟩⟩,
  ⟨some 29, .p (.bin 3 .eql (.t 26) (.t 28)), some ⟨24, true⟩⟩,
  po_ 30 (.pick (.t 24) (.t 29) (.c (.bool false))),
  mv_ 4 30] [4])
 (.ret)
def VN : Af := .seq (.ops [so_ 2 (.box (.t 0)),
  so_ 3 (.box (.t 1)),
  po_ 4 (.mov (.c (.bool false)))] [2, 3])
 QL
def Xh : List VR := [.tmp 4]
theorem Af3 : Tryz.f41.body.bind (trC Tryz.prog Tryz.f41.ntmps) = some (er VN) := by kernel_rfl
theorem Afi : trR Tryz.prog Tryz.f41.results.toList = some Xh := by kernel_rfl
def ZL := Aa QL.eq_1
def Acv := Aa VN.eq_1
theorem AdQ {K : TV → Prop} {e : Env} {H : List Ob} : res Xh e H K = res [.tmp 4] e H K := Ac rfl
def AfP := (And.intro (And.intro @ZL @Acv) @AdQ)
def Afb := DD 31 Tryz.func41 Af3 Afi rfl



end Go.Proofs.YtliaddbbmnfioaaGreatDoor


namespace Go.Proofs.YtliaddbbmnfioaaGreatDoor
open Go.RowKit
variable [Bf]
set_option linter.unusedSectionVars false
set_option linter.unusedVariables false
set_option linter.unusedSimpArgs false

theorem AsU {s : List UInt8} (h60 : s.length ≤ 60) : decide (Hy s) = (!decide (∃ x ∈ s, x ∈ ([60, 62, 10, 0] : List UInt8)) && decide (Lib.trimB s 32 = s)) := by
 have e : Hy s ↔ (¬ ∃ x ∈ s, x ∈ ([60, 62, 10, 0] : List UInt8)) ∧ Lib.trimB s 32 = s := by
  rw [ApF]
  unfold Hy
  constructor
  ·rintro ⟨_, h2, h3, h4⟩
   refine ⟨?_, h3, h4⟩
   rintro ⟨x, hx, hm⟩
   obtain ⟨a, b, c, d⟩ := h2 x hx
   simp at hm
   rcases hm with hm | hm | hm | hm
   ·exact a hm
   ·exact b hm
   ·exact c hm
   ·exact d hm
  ·rintro ⟨h1, h3, h4⟩
   refine ⟨h60, fun c hc => ?_, h3, h4⟩
   refine ⟨?_, ?_, ?_, ?_⟩ <;> (intro e; exact h1 ⟨c, hc, by simp [e]⟩)
 simp only [e, Bool.decide_and, decide_not]
theorem Av4 (s : List UInt8) : Bj Tryz.prog 56 [ts s] (fun x => x = tb (decide (Hy s))) := by
 refine Aw.toPureV (Ahy (by simp) ?_)
 by_cases h60 : s.length ≤ 60
 ·rw [AsU h60]
  simp -dsimp (disch := first | assumption | omega | (simp only [Ad]; done) | (simp only [Ad]; omega)) only [↓Ai, Ae, Ag, Ah, eq_self, Nat.reduceEqDiff, ↓reduceIte, reduceCtorEq, ↓OT, AL]
  refine (AlM s [60, 62, 10, 0] (by omega) (by decide) (by simp) (by simp)).calls rfl fun x hx => ?_
  subst hx
  generalize decide (∃ x ∈ s, x ∈ ([60, 62, 10, 0] : List UInt8)) = b
  cases b with
  | true =>
   simp -dsimp (disch := first | assumption | omega | (simp only [Ad]; done) | (simp only [Ad]; omega)) only [↓Ai, Ae, Ag, Ah, eq_self, Nat.reduceEqDiff, ↓reduceIte, ↓OT]
   rfl
  | false =>
   simp -dsimp (disch := first | assumption | omega | (simp only [Ad]; done) | (simp only [Ad]; omega)) only [↓Ai, Ae, Ag, Ah, eq_self, Nat.reduceEqDiff, ↓reduceIte, reduceCtorEq]
   refine (AvH s 32 (by decide) (by omega)).calls rfl fun x hx => ?_
   subst hx
   simp -dsimp (disch := first | assumption | omega | (simp only [Ad]; done) | (simp only [Ad]; omega)) only [↓Ai, Ae, Ag, Ah, eq_self, Nat.reduceEqDiff, ↓reduceIte, reduceCtorEq, ↓OT]
   simp
 ·have e : decide (Hy s) = false := by
   rw [decide_eq_false_iff_not]
   exact fun h => h60 h.1
  rw [e]
  simp -dsimp (disch := first | assumption | omega | (simp only [Ad]; done) | (simp only [Ad]; omega)) only [↓Ai, Ae, Ag, Ah, eq_self, Nat.reduceEqDiff, ↓reduceIte, reduceCtorEq, ↓OT, AL]
theorem An6 (s : List UInt8) : Bj Tryz.prog 28 [ts s] (fun x => x = tb (XV s)) := by
 refine Aw.toPureV (AdX (by simp) ?_)
 unfold XV
 by_cases h : s.length ≤ 2000
 ·simp -dsimp (disch := first | assumption | omega | (simp only [Ad]; done) | (simp only [Ad]; omega)) only [↓Ai, Ae, Ag, Ah, eq_self, Nat.reduceEqDiff, ↓reduceIte, reduceCtorEq, ↓JX, AL]
  refine (Alf s 0).calls rfl fun x hx => ?_
  subst hx
  simp -dsimp (disch := first | assumption | omega | (simp only [Ad]; done) | (simp only [Ad]; omega)) only [↓Ai, Ae, Ag, Ah, eq_self, Nat.reduceEqDiff, ↓reduceIte, ↓JX]
  simp [h]
 ·simp -dsimp (disch := first | assumption | omega | (simp only [Ad]; done) | (simp only [Ad]; omega)) only [↓Ai, Ae, Ag, Ah, eq_self, Nat.reduceEqDiff, ↓reduceIte, reduceCtorEq, ↓JX, AL]
  simp [h]
end Go.Proofs.YtliaddbbmnfioaaGreatDoor


namespace Go.Proofs.YtliaddbbmnfioaaGreatDoor
open Go.RowKit
variable [Bf] [Ak]
set_option linter.unusedSectionVars false
set_option linter.unusedVariables false
set_option linter.unusedSimpArgs false

theorem Ann (n : Nat) : (Lib.decDigits n).length ≤ n + 1 := by
 induction n using Nat.strongRecOn with
 | _ n ih =>
  by_cases h : n < 10
  ·rw [Lib.decDigits_one h]; simp
  ·rw [Lib.decDigits, dif_neg h, List.length_append]
   have := ih (n / 10) (by omega)
   simp
   omega
theorem AeG {n m : List UInt8} {t z : Int} : Dv ⟨n, m, t, z⟩ = n ++ [32, 60] ++ m ++ [62, 32] ++ Lib.decDigits t.toNat ++ [32] ++ [if z < 0 then 45 else 43] ++ Abx z.natAbs := by
 simp [Dv, GX, AeA]
abbrev Iw (p : Per) : TV := .agg [ts p.name, ts p.mail, i64 p.time, i64 p.zone]
def OA (p : Per) : Prop := (-9223372036854775808 ≤ p.time ∧ p.time ≤ 9223372036854775807) ∧ (-9223372036854775808 ≤ p.zone ∧ p.zone ≤ 9223372036854775807)
def ArX (p : Per) (r : TV) : Prop := (DC p → r = .tup [ts (Dv p), tb true]) ∧ (¬ DC p → r = .tup [ts [], tb false])
theorem AzN {z : Nat} (h : z ≤ 840) : ET 3 .quo (.int .i64 (z : Int)) (.int .i64 ((60 : Nat) : Int)) = some (.int .i64 ((z / 60 : Nat) : Int)) := ArY (by omega) (by omega)
theorem TA (p : Per) (hp : OA p) : Bj Tryz.prog 26 [Iw p] (ArX p) := by
 refine Aw.toPureV (Aap (by simp) ?_)
 obtain ⟨n, m, t, z⟩ := p
 obtain ⟨⟨ht1, ht2⟩, hz1, hz2⟩ := hp
 unfold ArX DC
 simp only at *
 have hpn := Av4 n
 have hpm := Av4 m
 by_cases h1 : Hy n
 case neg =>
  simp -dsimp (disch := first | assumption | omega | (simp only [Ad]; done) | (simp only [Ad]; omega)) only [↓Ai, Ae, Ag, Ah, eq_self, Nat.reduceEqDiff, ↓reduceIte, ↓BV, ↓Bv]
  refine hpn.calls rfl fun x hx => ?_
  subst hx
  simp -dsimp (disch := first | assumption | omega | (simp only [Ad]; done) | (simp only [Ad]; omega)) only [↓Ai, Ae, Ag, Ah, eq_self, Nat.reduceEqDiff, ↓reduceIte, decide_eq_false h1, ↓BB]
  exact ⟨fun h => absurd h.1 h1, fun _ => by trivial⟩
 by_cases h2 : Hy m
 case neg =>
  simp -dsimp (disch := first | assumption | omega | (simp only [Ad]; done) | (simp only [Ad]; omega)) only [↓Ai, Ae, Ag, Ah, eq_self, Nat.reduceEqDiff, ↓reduceIte, ↓BV, ↓Bv]
  refine hpn.calls rfl fun x hx => ?_
  subst hx
  simp -dsimp (disch := first | assumption | omega | (simp only [Ad]; done) | (simp only [Ad]; omega)) only [↓Ai, Ae, Ag, Ah, eq_self, Nat.reduceEqDiff, ↓reduceIte, Nat.reduceAdd, decide_eq_true h1]
  refine hpm.calls rfl fun x hx => ?_
  subst hx
  simp -dsimp (disch := first | assumption | omega | (simp only [Ad]; done) | (simp only [Ad]; omega)) only [↓Ai, Ae, Ag, Ah, eq_self, Nat.reduceEqDiff, ↓reduceIte, decide_eq_false h2, ↓BB]
  exact ⟨fun h => absurd h.2.1 h2, fun _ => by trivial⟩
 by_cases h3 : t < 0
 case pos =>
  simp -dsimp (disch := first | assumption | omega | (simp only [Ad]; done) | (simp only [Ad]; omega)) only [↓Ai, Ae, Ag, Ah, eq_self, Nat.reduceEqDiff, ↓reduceIte, ↓BV, ↓Bv]
  refine hpn.calls rfl fun x hx => ?_
  subst hx
  simp -dsimp (disch := first | assumption | omega | (simp only [Ad]; done) | (simp only [Ad]; omega)) only [↓Ai, Ae, Ag, Ah, eq_self, Nat.reduceEqDiff, ↓reduceIte, Nat.reduceAdd, decide_eq_true h1]
  refine hpm.calls rfl fun x hx => ?_
  subst hx
  simp -dsimp (disch := first | assumption | omega | (simp only [Ad]; done) | (simp only [Ad]; omega)) only [↓Ai, Ae, Ag, Ah, eq_self, Nat.reduceEqDiff, ↓reduceIte, Nat.reduceAdd, decide_eq_true h2, ↓BB]
  exact ⟨fun h => by omega, fun _ => by trivial⟩
 by_cases h4 : t > 1099511627776
 case pos =>
  simp -dsimp (disch := first | assumption | omega | (simp only [Ad]; done) | (simp only [Ad]; omega)) only [↓Ai, Ae, Ag, Ah, eq_self, Nat.reduceEqDiff, ↓reduceIte, ↓BV, ↓Bv]
  refine hpn.calls rfl fun x hx => ?_
  subst hx
  simp -dsimp (disch := first | assumption | omega | (simp only [Ad]; done) | (simp only [Ad]; omega)) only [↓Ai, Ae, Ag, Ah, eq_self, Nat.reduceEqDiff, ↓reduceIte, Nat.reduceAdd, decide_eq_true h1]
  refine hpm.calls rfl fun x hx => ?_
  subst hx
  simp -dsimp (disch := first | assumption | omega | (simp only [Ad]; done) | (simp only [Ad]; omega)) only [↓Ai, Ae, Ag, Ah, eq_self, Nat.reduceEqDiff, ↓reduceIte, Nat.reduceAdd, decide_eq_true h2, ↓BB]
  exact ⟨fun h => by omega, fun _ => by trivial⟩
 by_cases h5 : z < -840
 case pos =>
  simp -dsimp (disch := first | assumption | omega | (simp only [Ad]; done) | (simp only [Ad]; omega)) only [↓Ai, Ae, Ag, Ah, eq_self, Nat.reduceEqDiff, ↓reduceIte, ↓BV, ↓Bv]
  refine hpn.calls rfl fun x hx => ?_
  subst hx
  simp -dsimp (disch := first | assumption | omega | (simp only [Ad]; done) | (simp only [Ad]; omega)) only [↓Ai, Ae, Ag, Ah, eq_self, Nat.reduceEqDiff, ↓reduceIte, Nat.reduceAdd, decide_eq_true h1]
  refine hpm.calls rfl fun x hx => ?_
  subst hx
  simp -dsimp (disch := first | assumption | omega | (simp only [Ad]; done) | (simp only [Ad]; omega)) only [↓Ai, Ae, Ag, Ah, eq_self, Nat.reduceEqDiff, ↓reduceIte, Nat.reduceAdd, decide_eq_true h2, ↓BB]
  exact ⟨fun h => by omega, fun _ => by trivial⟩
 by_cases h6 : z > 840
 case pos =>
  simp -dsimp (disch := first | assumption | omega | (simp only [Ad]; done) | (simp only [Ad]; omega)) only [↓Ai, Ae, Ag, Ah, eq_self, Nat.reduceEqDiff, ↓reduceIte, ↓BV, ↓Bv]
  refine hpn.calls rfl fun x hx => ?_
  subst hx
  simp -dsimp (disch := first | assumption | omega | (simp only [Ad]; done) | (simp only [Ad]; omega)) only [↓Ai, Ae, Ag, Ah, eq_self, Nat.reduceEqDiff, ↓reduceIte, Nat.reduceAdd, decide_eq_true h1]
  refine hpm.calls rfl fun x hx => ?_
  subst hx
  simp -dsimp (disch := first | assumption | omega | (simp only [Ad]; done) | (simp only [Ad]; omega)) only [↓Ai, Ae, Ag, Ah, eq_self, Nat.reduceEqDiff, ↓reduceIte, Nat.reduceAdd, decide_eq_true h2, ↓BB]
  exact ⟨fun h => by omega, fun _ => by trivial⟩
 have hneg : ∀ k : Nat, k ≤ 840 → unV .neg (.int .i64 (-(k : Int))) = some (.int .i64 (k : Int)) := fun k hk => by
  have e : Op.unary .neg (.int .i64 (-(k : Int))) = .pure (.int .i64 (IntKind.i64.wrap (0 - -(k : Int)))) := rfl
  unfold unV
  rw [e, Int.sub_neg, Int.zero_add, Dp (by omega) (by omega)]
 have ln : n.length ≤ 60 := h1.1
 have lm : m.length ≤ 60 := h2.1
 obtain ⟨tn, rfl⟩ : ∃ tn : Nat, t = (tn : Int) := ⟨t.toNat, by omega⟩
 have hti : Lib.itoa (tn : Int) = Lib.decDigits tn := by unfold Lib.itoa; rw [if_neg (by omega), Int.toNat_natCast]
 have ltn := Ann tn
 have hfi := Aon (tn : Int) (by omega) (by omega)
 rw [hti] at hfi
 simp -dsimp (disch := first | assumption | omega | (simp only [Ad]; done) | (simp only [Ad]; omega)) only [↓Ai, Ae, Ag, Ah, eq_self, Nat.reduceEqDiff, ↓reduceIte, ↓BV, ↓Bv]
 refine hpn.calls rfl fun x hx => ?_
 subst hx
 simp -dsimp (disch := first | assumption | omega | (simp only [Ad]; done) | (simp only [Ad]; omega)) only [↓Ai, Ae, Ag, Ah, eq_self, Nat.reduceEqDiff, ↓reduceIte, Nat.reduceAdd, decide_eq_true h1]
 refine hpm.calls rfl fun x hx => ?_
 subst hx
 by_cases c : z < 0
 ·obtain ⟨zn, rfl⟩ : ∃ zn : Nat, z = -(zn : Int) := ⟨(-z).toNat, by omega⟩
  simp -dsimp (disch := first | assumption | omega | (simp only [Ad]; done) | (simp only [Ad]; omega)) only [↓Ai, Ae, Ag, Ah, eq_self, Nat.reduceEqDiff, ↓reduceIte, Nat.reduceAdd, decide_eq_true h2, ↓Ja, ↓IQ]
  simp -dsimp (disch := first | assumption | omega | (simp only [Ad]; done) | (simp only [Ad]; omega)) only [↓Ai, Ae, Ag, Ah, eq_self, Nat.reduceEqDiff, ↓reduceIte, hneg zn (by omega), AzN (show zn ≤ 840 by omega), ↓IW]
  refine (Az6 ((10000 + zn / 60 * 100 + zn % 60 : Nat) : Int) (by omega) (by omega)).calls rfl fun x hx => ?_
  subst hx
  have hit : Lib.itoa ((10000 + zn / 60 * 100 + zn % 60 : Nat) : Int) = Lib.decDigits (10000 + zn / 60 * 100 + zn % 60) := by unfold Lib.itoa; rw [if_neg (by omega), Int.toNat_natCast]
  have hzi := AkE (show zn ≤ 840 by omega)
  rw [hit]
  have hdl : (Lib.decDigits (10000 + zn / 60 * 100 + zn % 60)).length = 5 := by rw [AEv (by omega) (by omega)]; rfl
  have hta : (Abx zn).take 4 = Abx zn := rfl
  have lz := Aa6 zn
  generalize Lib.decDigits (10000 + zn / 60 * 100 + zn % 60) = dd at *
  simp -dsimp (disch := first | assumption | omega | (simp only [Ad]; done) | (simp only [Ad]; omega)) only [↓Ai, Ae, Ag, Ah, eq_self, Nat.reduceEqDiff, Nat.reduceSub, ↓reduceIte, Nat.reduceAdd, Nat.reduceLeDiff, AL, hdl, hzi, ↓IE, Uk]
  refine ⟨_, hfi.calls rfl fun r hr => ⟨hr, rfl⟩, ?_⟩
  simp -dsimp (disch := first | assumption | omega | (simp only [Ad]; done) | (simp only [Ad]; omega)) only [↓Ai, Ae, Ag, Ah, eq_self, Nat.reduceEqDiff, ↓reduceIte, Uk, ↓BB]
  refine ⟨fun _ => ?_, ?_⟩
  rotate_left
  ·exact fun h => absurd ⟨h1, h2, by omega, by omega, by omega⟩ h
  rw [AeG, if_pos (by omega), Int.natAbs_neg, Int.natAbs_natCast, Int.toNat_natCast]
 ·obtain ⟨zn, rfl⟩ : ∃ zn : Nat, z = (zn : Int) := ⟨z.toNat, by omega⟩
  simp -dsimp (disch := first | assumption | omega | (simp only [Ad]; done) | (simp only [Ad]; omega)) only [↓Ai, Ae, Ag, Ah, eq_self, Nat.reduceEqDiff, ↓reduceIte, Nat.reduceAdd, decide_eq_true h2, ↓Ja, ↓IQ, ↓IW, AzN (show zn ≤ 840 by omega)]
  refine (Az6 ((10000 + zn / 60 * 100 + zn % 60 : Nat) : Int) (by omega) (by omega)).calls rfl fun x hx => ?_
  subst hx
  have hit : Lib.itoa ((10000 + zn / 60 * 100 + zn % 60 : Nat) : Int) = Lib.decDigits (10000 + zn / 60 * 100 + zn % 60) := by unfold Lib.itoa; rw [if_neg (by omega), Int.toNat_natCast]
  have hzi := AkE (show zn ≤ 840 by omega)
  rw [hit]
  have hdl : (Lib.decDigits (10000 + zn / 60 * 100 + zn % 60)).length = 5 := by rw [AEv (by omega) (by omega)]; rfl
  have hta : (Abx zn).take 4 = Abx zn := rfl
  have lz := Aa6 zn
  generalize Lib.decDigits (10000 + zn / 60 * 100 + zn % 60) = dd at *
  simp -dsimp (disch := first | assumption | omega | (simp only [Ad]; done) | (simp only [Ad]; omega)) only [↓Ai, Ae, Ag, Ah, eq_self, Nat.reduceEqDiff, Nat.reduceSub, ↓reduceIte, Nat.reduceAdd, Nat.reduceLeDiff, AL, hdl, hzi, ↓IE, Uk]
  refine ⟨_, hfi.calls rfl fun r hr => ⟨hr, rfl⟩, ?_⟩
  simp -dsimp (disch := first | assumption | omega | (simp only [Ad]; done) | (simp only [Ad]; omega)) only [↓Ai, Ae, Ag, Ah, eq_self, Nat.reduceEqDiff, ↓reduceIte, Uk, ↓BB]
  refine ⟨fun _ => ?_, ?_⟩
  rotate_left
  ·exact fun h => absurd ⟨h1, h2, by omega, by omega, by omega⟩ h
  rw [AeG, if_neg (by omega), Int.natAbs_natCast, Int.toNat_natCast]
end Go.Proofs.YtliaddbbmnfioaaGreatDoor


namespace Go.Proofs.YtliaddbbmnfioaaGreatDoor
open Go.RowKit
variable [Bf] [Ak] [Au] [AO] [Gt]
set_option linter.unusedSectionVars false
set_option linter.unusedVariables false
set_option linter.unusedSimpArgs false

section
omit [Bf] [Ak] [Au] [AO] [Gt]
theorem Amq (s p : List UInt8) : (Lib.cut s p).1.length ≤ s.length ∧ (Lib.cut s p).2.1.length ≤ s.length := by
 unfold Lib.cut
 split
 ·simp; omega
 ·simp
end
theorem Arb {s : List UInt8} {n : Nat} (h : RZ s = some n) : n < 4611686018427387904 := by
 unfold RZ pU at h
 split at h
 ·rename_i m hm
  split at hm
  ·rename_i h3
   split at h
   ·cases h; cases hm; exact h3.2.2
   ·cases h
  ·cases hm
 ·cases h
def Ahu (s : List UInt8) (r : TV) : Prop := (∀ p, DC p → Dv p = s → r = .tup [Iw p, tb true]) ∧ ((∀ p, DC p → Dv p ≠ s) → ∃ q, OA q ∧ r = .tup [Iw q, tb false])
theorem Amz (s : List UInt8) (hs : s.length ≤ 1000000) : Bj Tryz.prog 106 [ts s] (Ahu s) := by
 refine Aw.toPureV (AbG (by simp) ?_)
 simp -dsimp (disch := first | assumption | omega | (simp only [Ad]; done) | (simp only [Ad]; omega)) only [↓Ai, Ae, Ag, Ah, eq_self, Nat.reduceEqDiff, ↓reduceIte, reduceCtorEq, ↓Aak, ↓Ur]
 refine (Ats s [32, 60] hs).calls rfl fun x hx => ?_
 subst hx
 obtain ⟨l1, l1'⟩ := Amq s [32, 60]
 obtain ⟨l2, l2'⟩ := Amq (Lib.cut s [32, 60]).2.1 [62, 32]
 obtain ⟨l3, l3'⟩ := Amq (Lib.cut (Lib.cut s [32, 60]).2.1 [62, 32]).2.1 [32]
 have hex : ∀ p, DC p → Dv p = s → (Lib.cut s [32, 60]).2.2 = true ∧ (Lib.cut (Lib.cut s [32, 60]).2.1 [62, 32]).2.2 = true ∧ (Lib.cut (Lib.cut (Lib.cut s [32, 60]).2.1 [62, 32]).2.1 [32]).2.2 = true
   ∧ RZ (Lib.cut (Lib.cut (Lib.cut s [32, 60]).2.1 [62, 32]).2.1 [32]).1 = some p.time.toNat ∧ (Lib.cut (Lib.cut (Lib.cut s [32, 60]).2.1 [62, 32]).2.1 [32]).2.1 = GX p
   ∧ (Lib.cut s [32, 60]).1 = p.name ∧ (Lib.cut (Lib.cut s [32, 60]).2.1 [62, 32]).1 = p.mail := by
  rintro p hp rfl
  obtain ⟨c1, c2, c3, c4⟩ := AjW hp
  rw [c1, c2, c3]
  exact ⟨rfl, rfl, rfl, c4, rfl, rfl, rfl⟩
 have hc2 := Ats (Lib.cut s [32, 60]).2.1 [62, 32] (by omega)
 have hc3 := Ats (Lib.cut (Lib.cut s [32, 60]).2.1 [62, 32]).2.1 [32] (by omega)
 generalize hr1 : Lib.cut s [32, 60] = r1 at *
 obtain ⟨n, rest, a⟩ := r1
 simp only at *
 simp -dsimp (disch := first | assumption | omega | (simp only [Ad]; done) | (simp only [Ad]; omega)) only [↓Ai, Ae, Ag, Ah, eq_self, Nat.reduceEqDiff, ↓reduceIte, reduceCtorEq, ↓Wi]
 refine hc2.calls rfl fun x hx => ?_
 subst hx
 generalize hr2 : Lib.cut rest [62, 32] = r2 at *
 obtain ⟨m, rest2, b⟩ := r2
 simp only at *
 simp -dsimp (disch := first | assumption | omega | (simp only [Ad]; done) | (simp only [Ad]; omega)) only [↓Ai, Ae, Ag, Ah, eq_self, Nat.reduceEqDiff, ↓reduceIte, reduceCtorEq, ↓Xz]
 refine hc3.calls rfl fun x hx => ?_
 subst hx
 generalize hr3 : Lib.cut rest2 [32] = r3 at *
 obtain ⟨tm, zn, c⟩ := r3
 simp only at *
 simp -dsimp (disch := first | assumption | omega | (simp only [Ad]; done) | (simp only [Ad]; omega)) only [↓Ai, Ae, Ag, Ah, eq_self, Nat.reduceEqDiff, ↓reduceIte, reduceCtorEq, ↓Xp]
 refine (AsI tm (by omega)).calls rfl fun x hx => ?_
 have no : ∀ {r : TV}, (¬ (a = true ∧ b = true ∧ c = true ∧ (∃ t, RZ tm = some t) ∧ zn.length = 5)) → (∃ q, OA q ∧ r = .tup [Iw q, tb false]) → Ahu s r := fun {r} h hq => by
  refine ⟨fun p hp e => ?_, fun _ => hq⟩
  obtain ⟨e1, e2, e3, e4, e5, _⟩ := hex p hp e
  exact absurd ⟨e1, e2, e3, ⟨_, e4⟩, by rw [e5]; rfl⟩ h
 have f0 : OA ⟨[], [], 0, 0⟩ := ⟨⟨by decide, by decide⟩, by decide, by decide⟩
 cases hd : RZ tm with
 | none =>
  obtain ⟨z, rfl⟩ := hx.2 hd
  have hno : ¬ (a = true ∧ b = true ∧ c = true ∧ (∃ t, RZ tm = some t) ∧ zn.length = 5) := fun h => by
   obtain ⟨t, ht⟩ := h.2.2.2.1
   rw [hd] at ht; cases ht
  simp -dsimp (disch := first | assumption | omega | (simp only [Ad]; done) | (simp only [Ad]; omega)) only [↓Ai, Ae, Ag, Ah, eq_self, Nat.reduceEqDiff, ↓reduceIte, reduceCtorEq, ↓Gy]
  cases a <;> cases b <;> cases c
  all_goals
   simp -dsimp (disch := first | assumption | omega | (simp only [Ad]; done) | (simp only [Ad]; omega)) only [↓Ai, Ae, Ag, Ah, eq_self, Nat.reduceEqDiff, ↓reduceIte, Nat.reduceAdd, reduceCtorEq, ↓AV]
   exact no hno ⟨⟨[], [], 0, 0⟩, f0, rfl⟩
 | some t =>
  rw [hx.1 t hd]
  have ht62 := Arb hd
  by_cases hgo : a = true ∧ b = true ∧ c = true ∧ zn.length = 5
  case neg =>
   have hno : ¬ (a = true ∧ b = true ∧ c = true ∧ (∃ t, RZ tm = some t) ∧ zn.length = 5) := fun h => hgo ⟨h.1, h.2.1, h.2.2.1, h.2.2.2.2⟩
   simp -dsimp (disch := first | assumption | omega | (simp only [Ad]; done) | (simp only [Ad]; omega)) only [↓Ai, Ae, Ag, Ah, eq_self, Nat.reduceEqDiff, ↓reduceIte, reduceCtorEq, ↓Gy]
   cases a <;> cases b <;> cases c
   all_goals
    first
    | (
     simp -dsimp (disch := first | assumption | omega | (simp only [Ad]; done) | (simp only [Ad]; omega)) only [↓Ai, Ae, Ag, Ah, eq_self, Nat.reduceEqDiff, ↓reduceIte, Nat.reduceAdd, reduceCtorEq, AL, ↓AV]
     exact no hno ⟨⟨[], [], 0, 0⟩, f0, rfl⟩)
    | (
     have h5 : ¬ zn.length = 5 := fun h => hgo ⟨rfl, rfl, rfl, h⟩
     simp -dsimp (disch := first | assumption | omega | (simp only [Ad]; done) | (simp only [Ad]; omega)) only [↓Ai, Ae, Ag, Ah, eq_self, Nat.reduceEqDiff, ↓reduceIte, Nat.reduceAdd, reduceCtorEq, AL, ↓AV]
     exact no hno ⟨⟨[], [], 0, 0⟩, f0, rfl⟩)
  obtain ⟨rfl, rfl, rfl, h5⟩ := hgo
  obtain ⟨z0, zr, rfl, hz4⟩ : ∃ z0 zr, zn = z0 :: zr ∧ zr.length = 4 := by
   cases zn with
   | nil => simp at h5
   | cons z0 zr => exact ⟨z0, zr, rfl, by simpa using h5⟩
  simp -dsimp (disch := first | assumption | omega | (simp only [Ad]; done) | (simp only [Ad]; omega)) only [↓Ai, Ae, Ag, Ah, eq_self, Nat.reduceEqDiff, ↓reduceIte, reduceCtorEq, Nat.reduceLeDiff, AL, ↓Gy, ↓WA]
  refine (Aks zr (by omega)).calls rfl fun x hx => ?_
  obtain ⟨v, er, hv, rfl, her⟩ : ∃ (v : Nat) (er : TV), v ≤ 1048575 ∧ x = .tup [.val (.int .u64 (v : Int)), er] ∧ ((er = .val .nilIface ∧ pV zr = some v) ∨ (er = .ifc 229 .any ∧ pV zr = none)) := by
   cases hp : pV zr with
   | some v =>
    refine ⟨v, _, ?_, hx.1 v hp, .inl ⟨rfl, rfl⟩⟩
    unfold pV at hp
    split at hp
    ·rename_i h3; cases hp; have := h3.2.2; omega
    ·cases hp
   | none =>
    obtain ⟨m, hm, rfl⟩ := hx.2 hp
    exact ⟨m, _, hm, rfl, .inr ⟨rfl, rfl⟩⟩
  have hwr : IntKind.i64.wrap ((v / 100 * 60 + v % 100 : Nat) : Int) = ((v / 100 * 60 + v % 100 : Nat) : Int) := Dp (by omega) (by omega)
  have hq : AC er = 1 ∧ lays er = true ∧ Afd er = false ∧ DW er = false := by
   rcases her with ⟨rfl, _⟩ | ⟨rfl, _⟩ <;> exact ⟨rfl, rfl, rfl, rfl⟩
  obtain ⟨w1, w2, w3, w4⟩ := hq
  simp -dsimp (disch := first | assumption | omega | (simp only [Ad]; done) | (simp only [Ad]; omega)) only [↓Ai, Ae, Ag, Ah, eq_self, Nat.reduceEqDiff, ↓reduceIte, Nat.reduceAdd, reduceCtorEq, ↓Vp, AnK, Aj9, Avq, hwr, ↓XI]
  have hzone : ∀ p, DC p → Dv p = s → zr = Abx p.zone.natAbs ∧ z0 = AeA p.zone ∧ v / 100 * 60 + v % 100 = p.zone.natAbs ∧ pV zr ≠ none ∧ n = p.name ∧ m = p.mail ∧ (t : Int) = p.time := by
   intro p hp e
   obtain ⟨_, _, _, e4, e5, e6, e7⟩ := hex p hp e
   unfold GX at e5
   obtain ⟨e8, e9⟩ := List.cons.inj e5
   obtain ⟨_, _, g1, _, g2, g3⟩ := hp
   have hn := Ajn (show p.zone.natAbs ≤ 840 by omega)
   rw [← e9] at hn
   have hvv : v = p.zone.natAbs / 60 * 100 + p.zone.natAbs % 60 := by
    rcases her with ⟨_, h⟩ | ⟨_, h⟩
    ·rw [hn] at h; exact (Option.some.inj h).symm
    ·rw [hn] at h; cases h
   have htt : t = p.time.toNat := Option.some.inj (hd.symm.trans e4)
   refine ⟨e9, e8, ?_, by rw [hn]; simp, e6, e7, by omega⟩
   rw [hvv]
   exact Ahd
  by_cases hz0 : z0.toNat = 45
  ·obtain ⟨q, hq⟩ : ∃ q : Per, q = ⟨n, m, (t : Int), -((v / 100 * 60 + v % 100 : Nat) : Int)⟩ := ⟨_, rfl⟩
   have hz45 : z0 = 45 := UInt8.toNat_inj.1 hz0
   have key : ∀ p, DC p → Dv p = s → p = q ∧ pV zr ≠ none := fun p hp e => by
    obtain ⟨_, h2, h3, h4, h5, h6, h7⟩ := hzone p hp e
    refine ⟨?_, h4⟩
    rw [hz45] at h2
    unfold AeA at h2
    split at h2
    ·obtain ⟨pn, pm, pt, pz⟩ := p
     simp only at *
     rw [hq, h5, h6, h7, h3]
     congr 1
     omega
    ·cases h2
   have hfit : OA q := by subst hq; exact ⟨⟨by simp only; omega, by simp only; omega⟩, by simp only; omega, by simp only; omega⟩
   have hneg : unV .neg (.int .i64 ((v / 100 * 60 + v % 100 : Nat) : Int)) = some (.int .i64 (-((v / 100 * 60 + v % 100 : Nat) : Int))) := by
    have e : Op.unary .neg (.int .i64 ((v / 100 * 60 + v % 100 : Nat) : Int)) = .pure (.int .i64 (IntKind.i64.wrap (0 - ((v / 100 * 60 + v % 100 : Nat) : Int)))) := rfl
    unfold unV
    rw [e, Int.zero_sub, Dp (by omega) (by omega)]
   have hqT : Iw q = .agg [ts n, ts m, i64 (t : Int), i64 (-((v / 100 * 60 + v % 100 : Nat) : Int))] := by rw [hq]
   simp -dsimp (disch := first | assumption | omega | (simp only [Ad]; done) | (simp only [Ad]; omega)) only [↓Ai, Ae, Ag, Ah, eq_self, Nat.reduceEqDiff, ↓reduceIte, Nat.reduceAdd, reduceCtorEq, AL, hz0, hneg]
   rw [show TV.agg [ts n, ts m, i64 (t : Int), TV.val (Value.int IntKind.i64 (-((v / 100 * 60 + v % 100 : Nat) : Int)))] = Iw q by rw [hq]]
   clear hq hqT hneg
   have fin : ∀ β : Bool, (β = true ↔ pV zr ≠ none ∧ DC q ∧ Dv q = s) → Ahu s (.tup [Iw q, tb β]) := fun β hβ => by
    refine ⟨fun p hp e => ?_, fun h => ?_⟩
    ·obtain ⟨rfl, hv2⟩ := key p hp e
     rw [hβ.2 ⟨hv2, hp, e⟩]
    ·refine ⟨q, hfit, ?_⟩
     cases β with
     | false => rfl
     | true => exact absurd (hβ.1 rfl).2.2 (h q (hβ.1 rfl).2.1)
   simp -dsimp (disch := first | assumption | omega | (simp only [Ad]; done) | (simp only [Ad]; omega)) only [↓Ai, Ae, Ag, Ah, eq_self, Nat.reduceEqDiff, ↓reduceIte, Nat.reduceAdd, reduceCtorEq, ↓Jl]
   refine (TA q hfit).calls rfl fun x hx => ?_
   by_cases hok : DC q
   ·rw [hx.1 hok]
    rcases her with ⟨rfl, hv2⟩ | ⟨rfl, hv2⟩
    ·simp -dsimp (disch := first | assumption | omega | (simp only [Ad]; done) | (simp only [Ad]; omega)) only [↓Ai, Ae, Ag, Ah, eq_self, Nat.reduceEqDiff, ↓reduceIte, Nat.reduceAdd, reduceCtorEq, ↓Bi]
     by_cases heq : Dv q = s
     ·simp -dsimp (disch := first | assumption | omega | (simp only [Ad]; done) | (simp only [Ad]; omega)) only [↓Ai, Ae, Ag, Ah, eq_self, Nat.reduceEqDiff, ↓reduceIte, Nat.reduceAdd, heq, ↓AV]
      exact fin true ⟨fun _ => ⟨by rw [hv2]; simp, hok, heq⟩, fun _ => rfl⟩
     ·simp -dsimp (disch := first | assumption | omega | (simp only [Ad]; done) | (simp only [Ad]; omega)) only [↓Ai, Ae, Ag, Ah, eq_self, Nat.reduceEqDiff, ↓reduceIte, Nat.reduceAdd, heq, ↓AV]
      exact fin false ⟨fun h => (by cases h), fun h => absurd h.2.2 heq⟩
    ·simp -dsimp (disch := first | assumption | omega | (simp only [Ad]; done) | (simp only [Ad]; omega)) only [↓Ai, Ae, Ag, Ah, eq_self, Nat.reduceEqDiff, ↓reduceIte, Nat.reduceAdd, reduceCtorEq, ↓Bi, ↓AV]
     exact fin false ⟨fun h => (by cases h), fun h => absurd hv2 h.1⟩
   ·rw [hx.2 hok]
    rcases her with ⟨rfl, hv2⟩ | ⟨rfl, hv2⟩
    ·simp -dsimp (disch := first | assumption | omega | (simp only [Ad]; done) | (simp only [Ad]; omega)) only [↓Ai, Ae, Ag, Ah, eq_self, Nat.reduceEqDiff, ↓reduceIte, Nat.reduceAdd, reduceCtorEq, ↓Bi, ↓AV]
     exact fin false ⟨fun h => (by cases h), fun h => absurd h.2.1 hok⟩
    ·simp -dsimp (disch := first | assumption | omega | (simp only [Ad]; done) | (simp only [Ad]; omega)) only [↓Ai, Ae, Ag, Ah, eq_self, Nat.reduceEqDiff, ↓reduceIte, Nat.reduceAdd, reduceCtorEq, ↓Bi, ↓AV]
     exact fin false ⟨fun h => (by cases h), fun h => absurd h.2.1 hok⟩
  ·obtain ⟨q, hq⟩ : ∃ q : Per, q = ⟨n, m, (t : Int), ((v / 100 * 60 + v % 100 : Nat) : Int)⟩ := ⟨_, rfl⟩
   have key : ∀ p, DC p → Dv p = s → p = q ∧ pV zr ≠ none := fun p hp e => by
    obtain ⟨_, h2, h3, h4, h5, h6, h7⟩ := hzone p hp e
    refine ⟨?_, h4⟩
    unfold AeA at h2
    split at h2
    ·exact absurd (by rw [h2]; rfl) hz0
    ·obtain ⟨pn, pm, pt, pz⟩ := p
     simp only at *
     rw [hq, h5, h6, h7, h3]
     congr 1
     omega
   have hfit : OA q := by subst hq; exact ⟨⟨by simp only; omega, by simp only; omega⟩, by simp only; omega, by simp only; omega⟩
   simp -dsimp (disch := first | assumption | omega | (simp only [Ad]; done) | (simp only [Ad]; omega)) only [↓Ai, Ae, Ag, Ah, eq_self, Nat.reduceEqDiff, ↓reduceIte, reduceCtorEq, AL, hz0]
   rw [show TV.agg [ts n, ts m, i64 (t : Int), TV.val (Value.int IntKind.i64 ((v / 100 * 60 + v % 100 : Nat) : Int))] = Iw q by rw [hq]]
   clear hq
   have fin : ∀ β : Bool, (β = true ↔ pV zr ≠ none ∧ DC q ∧ Dv q = s) → Ahu s (.tup [Iw q, tb β]) := fun β hβ => by
    refine ⟨fun p hp e => ?_, fun h => ?_⟩
    ·obtain ⟨rfl, hv2⟩ := key p hp e
     rw [hβ.2 ⟨hv2, hp, e⟩]
    ·refine ⟨q, hfit, ?_⟩
     cases β with
     | false => rfl
     | true => exact absurd (hβ.1 rfl).2.2 (h q (hβ.1 rfl).2.1)
   simp -dsimp (disch := first | assumption | omega | (simp only [Ad]; done) | (simp only [Ad]; omega)) only [↓Ai, Ae, Ag, Ah, eq_self, Nat.reduceEqDiff, ↓reduceIte, Nat.reduceAdd, reduceCtorEq, ↓Jl]
   refine (TA q hfit).calls rfl fun x hx => ?_
   by_cases hok : DC q
   ·rw [hx.1 hok]
    rcases her with ⟨rfl, hv2⟩ | ⟨rfl, hv2⟩
    ·simp -dsimp (disch := first | assumption | omega | (simp only [Ad]; done) | (simp only [Ad]; omega)) only [↓Ai, Ae, Ag, Ah, eq_self, Nat.reduceEqDiff, ↓reduceIte, Nat.reduceAdd, reduceCtorEq, ↓Bi]
     by_cases heq : Dv q = s
     ·simp -dsimp (disch := first | assumption | omega | (simp only [Ad]; done) | (simp only [Ad]; omega)) only [↓Ai, Ae, Ag, Ah, eq_self, Nat.reduceEqDiff, ↓reduceIte, Nat.reduceAdd, heq, ↓AV]
      exact fin true ⟨fun _ => ⟨by rw [hv2]; simp, hok, heq⟩, fun _ => rfl⟩
     ·simp -dsimp (disch := first | assumption | omega | (simp only [Ad]; done) | (simp only [Ad]; omega)) only [↓Ai, Ae, Ag, Ah, eq_self, Nat.reduceEqDiff, ↓reduceIte, Nat.reduceAdd, heq, ↓AV]
      exact fin false ⟨fun h => (by cases h), fun h => absurd h.2.2 heq⟩
    ·simp -dsimp (disch := first | assumption | omega | (simp only [Ad]; done) | (simp only [Ad]; omega)) only [↓Ai, Ae, Ag, Ah, eq_self, Nat.reduceEqDiff, ↓reduceIte, Nat.reduceAdd, reduceCtorEq, ↓Bi, ↓AV]
     exact fin false ⟨fun h => (by cases h), fun h => absurd hv2 h.1⟩
   ·rw [hx.2 hok]
    rcases her with ⟨rfl, hv2⟩ | ⟨rfl, hv2⟩
    ·simp -dsimp (disch := first | assumption | omega | (simp only [Ad]; done) | (simp only [Ad]; omega)) only [↓Ai, Ae, Ag, Ah, eq_self, Nat.reduceEqDiff, ↓reduceIte, Nat.reduceAdd, reduceCtorEq, ↓Bi, ↓AV]
     exact fin false ⟨fun h => (by cases h), fun h => absurd h.2.1 hok⟩
    ·simp -dsimp (disch := first | assumption | omega | (simp only [Ad]; done) | (simp only [Ad]; omega)) only [↓Ai, Ae, Ag, Ah, eq_self, Nat.reduceEqDiff, ↓reduceIte, Nat.reduceAdd, reduceCtorEq, ↓Bi, ↓AV]
     exact fin false ⟨fun h => (by cases h), fun h => absurd h.2.1 hok⟩
end Go.Proofs.YtliaddbbmnfioaaGreatDoor


namespace Go.Proofs.YtliaddbbmnfioaaGreatDoor
variable [Bf]
set_option linter.unusedSectionVars false
set_option linter.unusedVariables false
set_option linter.defProp false
set_option maxRecDepth 100000

def Aas : Af := .seq (.ops [po_ 8 (.bin 3 .lss (.t 7) (ci_ 20))] [3, 6, 7, 8])
 (.seq (.cond (.t 8)
 (.skip)
 (.exit 0))
 (.seq (.block 1 (.seq (.ops [po_ 9 (.idx false 20 1 (.t 6) (.t 7)),
  mv_ 5 9] [3, 5, 6, 7])
 (.seq (.ops [mv_ 10 5,
  po_ 11 (.bin 5 .shr (.t 10) (.c (.int .u64 ((4 : Nat) : Int)))),
  po_ 12 (.idxS (.c (.string (str [48, 49, 50, 51, 52, 53, 54, 55, 56, 57, 97, 98, 99, 100, 101, 102]))) (.t 11)),
  so_ 13 (.call 63 [.t 3, .t 12])] [3, 5, 6, 7])
 (.ops [mv_ 14 5,
  po_ 15 (.bin 5 .and (.t 14) (.c (.int .u8 ((15 : Nat) : Int)))),
  po_ 16 (.idxS (.c (.string (str [48, 49, 50, 51, 52, 53, 54, 55, 56, 57, 97, 98, 99, 100, 101, 102]))) (.t 15)),
  so_ 17 (.call 63 [.t 3, .t 16])] [3, 6, 7]))))
 (.ops [po_ 18 (.bin 3 .add (.t 7) (ci_ 1)),
  mv_ 7 18] [3, 6, 7])))
def AaO : Af := .block 0 (.ownT 3 [(1, 1)] 5 (.loop [3, 6, 7] Aas))
def Aat : Af := .seq (.ops [so_ 19 (.bstr 62 (.t 3)),
  mv_ 2 19] [2])
 (.ret)
def ZY : Af := .seq (.seq (.ops [po_ 6 (.load true 20 (.t 1)),
  po_ 7 (.mov (ci_ 0))] [3, 6, 7])
 AaO)
 Aat
def AaI : Af := .seq (.ops [so_ 3 (.allocT (.agg [.val (.pointer none), .val (.slice none 0 0)]) 118)] [1, 3])
 ZY
def Agn : Af := .seq (.ops [so_ 1 (.box (.t 0)),
  po_ 2 (.mov (.c (.string (str []))))] [1])
 AaI
def Agw : List VR := [.tmp 2]
theorem AlC : Tryz.f30.body.bind (trC Tryz.prog Tryz.f30.ntmps) = some (er Agn) := by kernel_rfl
theorem Ak0 : trR Tryz.prog Tryz.f30.results.toList = some Agw := by kernel_rfl
def Afr := Aa Aas.eq_1
def Afu := Aa AaO.eq_1
def AfI := Aa Aat.eq_1
def AfW := Aa ZY.eq_1
def AfB := Aa AaI.eq_1
def Aix := Aa Agn.eq_1
theorem Ah7 {K : TV → Prop} {e : Env} {H : List Ob} : res Agw e H K = res [.tmp 2] e H K := Ac rfl
def AaW := (And.intro (And.intro (And.intro @Afr @Afu) (And.intro @AfI @AfW)) (And.intro (And.intro @AfB @Aix) @Ah7))
def Akd := DD 20 Tryz.func30 AlC Ak0 rfl

def AeI : Af := .seq (.block 1 (.draw 10 [mv_ 9 3,
  mv_ 10 4,
  po_ 11 (.idxAA 20 1 (.t 1) (.t 10)),
  po_ 12 (.load false 1 (.t 11)),
  po_ 13 (.bin 5 .quo (.t 12) (.c (.int .u8 ((16 : Nat) : Int)))),
  so_ 14 (.call 70 [.t 13]),
  mv_ 15 4,
  po_ 16 (.idxAA 20 1 (.t 1) (.t 15)),
  po_ 17 (.load false 1 (.t 16)),
  po_ 18 (.bin 5 .rem (.t 17) (.c (.int .u8 ((16 : Nat) : Int)))),
  so_ 19 (.call 70 [.t 18]),
  ⟨some 20, .s (.bslice 1 2 (.val (.int .u8 ((0 : Nat) : Int))) [⟨0, .t 14⟩, ⟨1, .t 19⟩]), none⟩,
  so_ 21 (.app 1 1 5 (.t 9) (.t 20)),
  mv_ 3 21] [1, 3, 4]))
 (.ops [mv_ 7 4,
  po_ 8 (.bin 3 .add (.t 7) (ci_ 1)),
  mv_ 4 8] [1, 3, 4])
def Ae3 : Af := .seq (.seq (.ops [mv_ 5 4,
  po_ 6 (.bin 3 .lss (.t 5) (ci_ 20))] [1, 3, 4, 6])
 (.cond (.t 6)
 (.skip)
 (.exit 0)))
 AeI
def AeY : Af := .block 0 (.own 3 1 (.loop [1, 3, 4] Ae3))
def Ad7 : Af := .seq (.ops [mv_ 22 3,
  po_ 23 (.b2s (.t 22)),
  mv_ 2 23] [2])
 (.ret)
def AeW : Af := .seq (.seq (.ops [po_ 4 (.mov (ci_ 0))] [1, 3, 4])
 AeY)
 Ad7
def Ae6 : Af := .seq (.ops [po_ 3 (.mov (.c (.slice none 0 0)))] [1, 3])
 AeW
def Ai2 : Af := .seq (.ops [so_ 1 (.box (.t 0)),
  po_ 2 (.mov (.c (.string (str []))))] [1])
 Ae6
def AiP : List VR := [.tmp 2]
theorem Aof : Tryz.f36.body.bind (trC Tryz.prog Tryz.f36.ntmps) = some (er Ai2) := by kernel_rfl
theorem Apb : trR Tryz.prog Tryz.f36.results.toList = some AiP := by kernel_rfl
def Ahs := Aa AeI.eq_1
def AhB := Aa Ae3.eq_1
def AhS := Aa AeY.eq_1
def Ahv := Aa Ad7.eq_1
def AhA := Aa AeW.eq_1
def AhM := Aa Ae6.eq_1
def Akx := Aa Ai2.eq_1
theorem Alg {K : TV → Prop} {e : Env} {H : List Ob} : res AiP e H K = res [.tmp 2] e H K := Ac rfl
def AfT := (And.intro (And.intro (And.intro @Ahs @AhB) (And.intro @AhS @Ahv)) (And.intro (And.intro @AhA @AhM) (And.intro @Akx @Alg)))
def Am4 := DD 24 Tryz.func36 Aof Apb rfl

def Agx : Af := .seq (.ops [po_ 2 (.mov (.c (.int .u8 ((0 : Nat) : Int))))] [0])
 (.seq (.seq (.ops [mv_ 3 0,
  po_ 4 (.bin 5 .lss (.t 3) (.c (.int .u8 ((10 : Nat) : Int))))] [0, 4])
 (.cond (.t 4)
 (.seq (.ops [mv_ 5 0,
   po_ 6 (.bin 5 .add (.c (.int .u8 ((48 : Nat) : Int))) (.t 5)),
   mv_ 2 6] [2])
  (.ret))
 (.skip)))
 (.seq (.ops [mv_ 7 0,
  po_ 8 (.bin 5 .add (.c (.int .u8 ((97 : Nat) : Int))) (.t 7)),
  po_ 9 (.bin 5 .sub (.t 8) (.c (.int .u8 ((10 : Nat) : Int)))),
  mv_ 2 9] [2])
 (.ret)))
def Agy : List VR := [.tmp 2]
theorem Alr : Tryz.f70.body.bind (trC Tryz.prog Tryz.f70.ntmps) = some (er Agx) := by kernel_rfl
theorem AkA : trR Tryz.prog Tryz.f70.results.toList = some Agy := by kernel_rfl
def Aip := Aa Agx.eq_1
theorem Aiw {K : TV → Prop} {e : Env} {H : List Ob} : res Agy e H K = res [.tmp 2] e H K := Ac rfl
def Aao := (And.intro @Aip @Aiw)
def Akp := DD 10 Tryz.func70 Alr AkA rfl

def XG : Af := .seq (.seq (.ops [mv_ 27 6,
  po_ 28 (.bin 3 .lss (.t 27) (ci_ 0)),
  mv_ 29 28,
  ⟨some 30, .p (.mov (.t 7)), some ⟨29, false⟩⟩,
  ⟨some 31, .p (.bin 3 .lss (.t 30) (ci_ 0)), some ⟨29, false⟩⟩,
  po_ 32 (.pick (.t 29) (.c (.bool true)) (.t 31))] [0, 2, 4, 5, 6, 7, 13, 32])
 (.cond (.t 32)
 (.seq (.ops [po_ 33 (.buildA 20 1 [.val (.int .u8 ((0 : Nat) : Int)), .val (.int .u8 ((0 : Nat) : Int)), .val (.int .u8 ((0 : Nat) : Int)), .val (.int .u8 ((0 : Nat) : Int)), .val (.int .u8 ((0 : Nat) : Int)), .val (.int .u8 ((0 : Nat) : Int)), .val (.int .u8 ((0 : Nat) : Int)), .val (.int .u8 ((0 : Nat) : Int)), .val (.int .u8 ((0 : Nat) : Int)), .val (.int .u8 ((0 : Nat) : Int)), .val (.int .u8 ((0 : Nat) : Int)), .val (.int .u8 ((0 : Nat) : Int)), .val (.int .u8 ((0 : Nat) : Int)), .val (.int .u8 ((0 : Nat) : Int)), .val (.int .u8 ((0 : Nat) : Int)), .val (.int .u8 ((0 : Nat) : Int)), .val (.int .u8 ((0 : Nat) : Int)), .val (.int .u8 ((0 : Nat) : Int)), .val (.int .u8 ((0 : Nat) : Int)), .val (.int .u8 ((0 : Nat) : Int))] []),
   po_ 34 (.iface 34 (ci_ 12)),
   ⟨none, .s (.store 20 (.t 2) (.t 33)), none⟩,
   mv_ 3 34] [2, 3])
  (.ret))
 (.skip)))
 (.ops [mv_ 35 5,
  mv_ 36 6,
  po_ 37 (.bin 3 .shl (.t 36) (.c (.int .u64 ((4 : Nat) : Int)))),
  mv_ 38 7,
  po_ 39 (.bin 3 .or (.t 37) (.t 38)),
  po_ 40 (.conv .u8 (.t 39)),
  po_ 41 (.idxAA 20 1 (.t 4) (.t 35)),
  ⟨none, .s (.store 1 (.t 41) (.t 40)), none⟩] [0, 2, 4, 13])
def Xl : Af := .seq (.draw 10 [mv_ 16 0,
  mv_ 17 5,
  po_ 18 (.bin 3 .mul (ci_ 2) (.t 17)),
  po_ 19 (.idxS (.t 16) (.t 18)),
  so_ 20 (.call 136 [.c (.string (str [48, 49, 50, 51, 52, 53, 54, 55, 56, 57, 97, 98, 99, 100, 101, 102])), .t 19]),
  mv_ 21 0,
  mv_ 22 5,
  po_ 23 (.bin 3 .mul (ci_ 2) (.t 22)),
  po_ 24 (.bin 3 .add (.t 23) (ci_ 1)),
  po_ 25 (.idxS (.t 21) (.t 24)),
  so_ 26 (.call 136 [.c (.string (str [48, 49, 50, 51, 52, 53, 54, 55, 56, 57, 97, 98, 99, 100, 101, 102])), .t 25]),
  mv_ 6 20,
  mv_ 7 26] [0, 2, 4, 5, 6, 7, 13])
 XG
def Wv : Af := .seq (.block 1 (.seq (.ops [mv_ 15 13,
  mv_ 5 15] [0, 2, 4, 5, 13])
 Xl))
 (.ops [po_ 42 (.bin 3 .add (.t 13) (ci_ 1)),
  mv_ 13 42] [0, 2, 4, 13])
def XL : Af := .seq (.cond (.t 14)
 (.skip)
 (.exit 0))
 Wv
def Wx : Af := .seq (.ops [po_ 14 (.bin 3 .lss (.t 13) (ci_ 20))] [0, 2, 4, 13, 14])
 XL
def WY : Af := .block 0 (.loop [0, 2, 4, 13] Wx)
def VE : Af := .seq (.ops [po_ 43 (.load true 20 (.t 4)),
  ⟨none, .s (.store 20 (.t 2) (.t 43)), none⟩,
  po_ 3 (.mov (.c .nilIface))] [2, 3])
 (.ret)
def Xi : Af := .seq (.seq (.ops [po_ 13 (.mov (ci_ 0))] [0, 2, 4, 13])
 WY)
 VE
def XD : Af := .seq (.seq (.ops [mv_ 8 0,
  po_ 9 (.lenS (.t 8)),
  po_ 10 (.bin 3 .neq (.t 9) (ci_ 40))] [0, 2, 4, 10])
 (.cond (.t 10)
 (.seq (.ops [po_ 11 (.load true 20 (.t 4)),
   po_ 12 (.iface 34 (ci_ 12)),
   ⟨none, .s (.store 20 (.t 2) (.t 11)), none⟩,
   mv_ 3 12] [2, 3])
  (.ret))
 (.skip)))
 Xi
def TE : Af := .seq (.ops [so_ 4 (.alloc (.arr 20 1 [.val (.int .u8 ((0 : Nat) : Int)), .val (.int .u8 ((0 : Nat) : Int)), .val (.int .u8 ((0 : Nat) : Int)), .val (.int .u8 ((0 : Nat) : Int)), .val (.int .u8 ((0 : Nat) : Int)), .val (.int .u8 ((0 : Nat) : Int)), .val (.int .u8 ((0 : Nat) : Int)), .val (.int .u8 ((0 : Nat) : Int)), .val (.int .u8 ((0 : Nat) : Int)), .val (.int .u8 ((0 : Nat) : Int)), .val (.int .u8 ((0 : Nat) : Int)), .val (.int .u8 ((0 : Nat) : Int)), .val (.int .u8 ((0 : Nat) : Int)), .val (.int .u8 ((0 : Nat) : Int)), .val (.int .u8 ((0 : Nat) : Int)), .val (.int .u8 ((0 : Nat) : Int)), .val (.int .u8 ((0 : Nat) : Int)), .val (.int .u8 ((0 : Nat) : Int)), .val (.int .u8 ((0 : Nat) : Int)), .val (.int .u8 ((0 : Nat) : Int))]))] [0, 2, 4])
 XD
def Acd : Af := .seq (.ops [so_ 2 (.alloc (.arr 20 1 [.val (.int .u8 ((0 : Nat) : Int)), .val (.int .u8 ((0 : Nat) : Int)), .val (.int .u8 ((0 : Nat) : Int)), .val (.int .u8 ((0 : Nat) : Int)), .val (.int .u8 ((0 : Nat) : Int)), .val (.int .u8 ((0 : Nat) : Int)), .val (.int .u8 ((0 : Nat) : Int)), .val (.int .u8 ((0 : Nat) : Int)), .val (.int .u8 ((0 : Nat) : Int)), .val (.int .u8 ((0 : Nat) : Int)), .val (.int .u8 ((0 : Nat) : Int)), .val (.int .u8 ((0 : Nat) : Int)), .val (.int .u8 ((0 : Nat) : Int)), .val (.int .u8 ((0 : Nat) : Int)), .val (.int .u8 ((0 : Nat) : Int)), .val (.int .u8 ((0 : Nat) : Int)), .val (.int .u8 ((0 : Nat) : Int)), .val (.int .u8 ((0 : Nat) : Int)), .val (.int .u8 ((0 : Nat) : Int)), .val (.int .u8 ((0 : Nat) : Int))])),
  po_ 3 (.mov (.c .nilIface))] [0, 2])
 TE
def Aci : List VR := [.cell 2 true 20, .tmp 3]
theorem Ah3 : Tryz.f105.body.bind (trC Tryz.prog Tryz.f105.ntmps) = some (er Acd) := by kernel_rfl
theorem Aig : trR Tryz.prog Tryz.f105.results.toList = some Aci := by kernel_rfl
def Adx := Aa XG.eq_1
def Ac4 := Aa Xl.eq_1
def AcO := Aa Wv.eq_1
def Ac3 := Aa XL.eq_1
def AcY := Aa Wx.eq_1
def AdM := Aa WY.eq_1
def AdD := Aa VE.eq_1
def Acw := Aa Xi.eq_1
def Adt := Aa XD.eq_1
def AbF := Aa TE.eq_1
def AgM := Aa Acd.eq_1
theorem AgD {K : TV → Prop} {e : Env} {H : List Ob} : res Aci e H K = res [.cell 2 true 20, .tmp 3] e H K := Ac rfl
def He := (And.intro (And.intro (And.intro (And.intro @Adx @Ac4) (And.intro @AcO @Ac3)) (And.intro (And.intro @AcY @AdM) (And.intro @AdD @Acw))) (And.intro (And.intro @Adt @AbF) (And.intro @AgM @AgD)))
def Ah0 := DD 44 Tryz.func105 Ah3 Aig rfl

def AaN : Af := .seq (.ops [mv_ 30 6,
  po_ 31 (.bin 5 .geq (.t 30) (.c (.int .u8 ((97 : Nat) : Int)))),
  mv_ 32 31,
  ⟨some 33, .p (.mov (.t 6)), some ⟨32, true⟩⟩,
  ⟨some 34, .p (.bin 5 .leq (.t 33) (.c (.int .u8 ((102 : Nat) : Int)))), some ⟨32, true⟩⟩,
  po_ 35 (.pick (.t 32) (.t 34) (.c (.bool false))),
  mv_ 29 35] [0, 2, 4, 5, 6, 29])
 (.cond (.t 29)
 (.ops [mv_ 36 6,
   po_ 37 (.bin 5 .sub (.t 36) (.c (.int .u8 ((97 : Nat) : Int)))),
   po_ 38 (.bin 5 .add (.t 37) (.c (.int .u8 ((10 : Nat) : Int)))),
   mv_ 7 38] [0, 2, 4, 5, 7])
 (.seq (.ops [po_ 19 (.buildA 20 1 [.val (.int .u8 ((0 : Nat) : Int)), .val (.int .u8 ((0 : Nat) : Int)), .val (.int .u8 ((0 : Nat) : Int)), .val (.int .u8 ((0 : Nat) : Int)), .val (.int .u8 ((0 : Nat) : Int)), .val (.int .u8 ((0 : Nat) : Int)), .val (.int .u8 ((0 : Nat) : Int)), .val (.int .u8 ((0 : Nat) : Int)), .val (.int .u8 ((0 : Nat) : Int)), .val (.int .u8 ((0 : Nat) : Int)), .val (.int .u8 ((0 : Nat) : Int)), .val (.int .u8 ((0 : Nat) : Int)), .val (.int .u8 ((0 : Nat) : Int)), .val (.int .u8 ((0 : Nat) : Int)), .val (.int .u8 ((0 : Nat) : Int)), .val (.int .u8 ((0 : Nat) : Int)), .val (.int .u8 ((0 : Nat) : Int)), .val (.int .u8 ((0 : Nat) : Int)), .val (.int .u8 ((0 : Nat) : Int)), .val (.int .u8 ((0 : Nat) : Int))] []),
   ⟨none, .s (.store 20 (.t 2) (.t 19)), none⟩,
   po_ 3 (.mov (.c (.bool false)))] [2, 3])
  (.ret)))
def AaL : Af := .cond (.t 20)
 (.ops [mv_ 27 6,
   po_ 28 (.bin 5 .sub (.t 27) (.c (.int .u8 ((48 : Nat) : Int)))),
   mv_ 7 28] [0, 2, 4, 5, 7])
 AaN
def AaQ : Af := .seq (.block 2 (.seq (.ops [mv_ 21 6,
  po_ 22 (.bin 5 .geq (.t 21) (.c (.int .u8 ((48 : Nat) : Int)))),
  mv_ 23 22,
  ⟨some 24, .p (.mov (.t 6)), some ⟨23, true⟩⟩,
  ⟨some 25, .p (.bin 5 .leq (.t 24) (.c (.int .u8 ((57 : Nat) : Int)))), some ⟨23, true⟩⟩,
  po_ 26 (.pick (.t 23) (.t 25) (.c (.bool false))),
  mv_ 20 26] [0, 2, 4, 5, 6, 20])
 AaL))
 (.ops [mv_ 39 5,
  po_ 40 (.bin 3 .quo (.t 39) (ci_ 2)),
  mv_ 41 5,
  po_ 42 (.bin 3 .quo (.t 41) (ci_ 2)),
  po_ 43 (.idxAA 20 1 (.t 4) (.t 42)),
  po_ 44 (.load false 1 (.t 43)),
  po_ 45 (.bin 5 .mul (.t 44) (.c (.int .u8 ((16 : Nat) : Int)))),
  mv_ 46 7,
  po_ 47 (.bin 5 .add (.t 45) (.t 46)),
  po_ 48 (.idxAA 20 1 (.t 4) (.t 40)),
  ⟨none, .s (.store 1 (.t 48) (.t 47)), none⟩] [0, 2, 4, 5])
def ZZ : Af := .seq (.ops [po_ 7 (.mov (.c (.int .u8 ((0 : Nat) : Int))))] [0, 2, 4, 5, 6])
 AaQ
def AaY : Af := .seq (.block 1 (.seq (.ops [mv_ 16 0,
  mv_ 17 5,
  po_ 18 (.idxS (.t 16) (.t 17)),
  mv_ 6 18] [0, 2, 4, 5, 6])
 ZZ))
 (.ops [mv_ 14 5,
  po_ 15 (.bin 3 .add (.t 14) (ci_ 1)),
  mv_ 5 15] [0, 2, 4, 5])
def Aa8 : Af := .seq (.seq (.ops [mv_ 12 5,
  po_ 13 (.bin 3 .lss (.t 12) (ci_ 40))] [0, 2, 4, 5, 13])
 (.cond (.t 13)
 (.skip)
 (.exit 0)))
 AaY
def AaJ : Af := .block 0 (.loop [0, 2, 4, 5] Aa8)
def Aaq : Af := .seq (.ops [po_ 49 (.load true 20 (.t 4)),
  ⟨none, .s (.store 20 (.t 2) (.t 49)), none⟩,
  po_ 3 (.mov (.c (.bool true)))] [2, 3])
 (.ret)
def Aa3 : Af := .seq (.seq (.ops [po_ 5 (.mov (ci_ 0))] [0, 2, 4, 5])
 AaJ)
 Aaq
def Y0 : Af := .seq (.seq (.ops [mv_ 8 0,
  po_ 9 (.lenS (.t 8)),
  po_ 10 (.bin 3 .neq (.t 9) (ci_ 40))] [0, 2, 4, 10])
 (.cond (.t 10)
 (.seq (.ops [po_ 11 (.load true 20 (.t 4)),
   ⟨none, .s (.store 20 (.t 2) (.t 11)), none⟩,
   po_ 3 (.mov (.c (.bool false)))] [2, 3])
  (.ret))
 (.skip)))
 Aa3
def Zn : Af := .seq (.ops [so_ 4 (.alloc (.arr 20 1 [.val (.int .u8 ((0 : Nat) : Int)), .val (.int .u8 ((0 : Nat) : Int)), .val (.int .u8 ((0 : Nat) : Int)), .val (.int .u8 ((0 : Nat) : Int)), .val (.int .u8 ((0 : Nat) : Int)), .val (.int .u8 ((0 : Nat) : Int)), .val (.int .u8 ((0 : Nat) : Int)), .val (.int .u8 ((0 : Nat) : Int)), .val (.int .u8 ((0 : Nat) : Int)), .val (.int .u8 ((0 : Nat) : Int)), .val (.int .u8 ((0 : Nat) : Int)), .val (.int .u8 ((0 : Nat) : Int)), .val (.int .u8 ((0 : Nat) : Int)), .val (.int .u8 ((0 : Nat) : Int)), .val (.int .u8 ((0 : Nat) : Int)), .val (.int .u8 ((0 : Nat) : Int)), .val (.int .u8 ((0 : Nat) : Int)), .val (.int .u8 ((0 : Nat) : Int)), .val (.int .u8 ((0 : Nat) : Int)), .val (.int .u8 ((0 : Nat) : Int))]))] [0, 2, 4])
 Y0
def Agz : Af := .seq (.ops [so_ 2 (.alloc (.arr 20 1 [.val (.int .u8 ((0 : Nat) : Int)), .val (.int .u8 ((0 : Nat) : Int)), .val (.int .u8 ((0 : Nat) : Int)), .val (.int .u8 ((0 : Nat) : Int)), .val (.int .u8 ((0 : Nat) : Int)), .val (.int .u8 ((0 : Nat) : Int)), .val (.int .u8 ((0 : Nat) : Int)), .val (.int .u8 ((0 : Nat) : Int)), .val (.int .u8 ((0 : Nat) : Int)), .val (.int .u8 ((0 : Nat) : Int)), .val (.int .u8 ((0 : Nat) : Int)), .val (.int .u8 ((0 : Nat) : Int)), .val (.int .u8 ((0 : Nat) : Int)), .val (.int .u8 ((0 : Nat) : Int)), .val (.int .u8 ((0 : Nat) : Int)), .val (.int .u8 ((0 : Nat) : Int)), .val (.int .u8 ((0 : Nat) : Int)), .val (.int .u8 ((0 : Nat) : Int)), .val (.int .u8 ((0 : Nat) : Int)), .val (.int .u8 ((0 : Nat) : Int))])),
  po_ 3 (.mov (.c (.bool false)))] [0, 2])
 Zn
def Agg : List VR := [.cell 2 true 20, .tmp 3]
theorem Aky : Tryz.f77.body.bind (trC Tryz.prog Tryz.f77.ntmps) = some (er Agz) := by kernel_rfl
theorem AlX : trR Tryz.prog Tryz.f77.results.toList = some Agg := by kernel_rfl
def Afx := Aa AaN.eq_1
def Afy := Aa AaL.eq_1
def Afq := Aa AaQ.eq_1
def AfZ := Aa ZZ.eq_1
def Afs := Aa AaY.eq_1
def AfL := Aa Aa8.eq_1
def AfM := Aa AaJ.eq_1
def AfS := Aa Aaq.eq_1
def Af1 := Aa Aa3.eq_1
def Aey := Aa Y0.eq_1
def Ad5 := Aa Zn.eq_1
def Ah8 := Aa Agz.eq_1
theorem AiE {K : TV → Prop} {e : Env} {H : List Ob} : res Agg e H K = res [.cell 2 true 20, .tmp 3] e H K := Ac rfl
def GI := (And.intro (And.intro (And.intro (And.intro @Afx @Afy) (And.intro @Afq @AfZ)) (And.intro (And.intro @Afs @AfL) (And.intro @AfM @AfS))) (And.intro (And.intro (And.intro @Af1 @Aey) (And.intro @Ad5 @Ah8)) @AiE))
def AjU := DD 50 Tryz.func77 Aky AlX rfl

def SE : Af := .seq (.ops [po_ 4 (.mov (ci_ 0))] [0, 1])
 (.seq (.ops [mv_ 5 0,
  mv_ 6 1,
  so_ 7 (.call 165 [.t 5, .t 6]),
  mv_ 4 7] [4])
 (.ret))
def SG : List VR := [.tmp 4]
theorem AcZ : Tryz.f136.body.bind (trC Tryz.prog Tryz.f136.ntmps) = some (er SE) := by kernel_rfl
theorem Adb : trR Tryz.prog Tryz.f136.results.toList = some SG := by kernel_rfl
def AaD := Aa SE.eq_1
theorem AaZ {K : TV → Prop} {e : Env} {H : List Ob} : res SG e H K = res [.tmp 4] e H K := Ac rfl
def SC := (And.intro @AaD @AaZ)
def AbR := DD 8 Tryz.func136 AcZ Adb rfl

end Go.Proofs.YtliaddbbmnfioaaGreatDoor


namespace Go.Proofs.YtliaddbbmnfioaaGreatDoor
open Go.RowKit
variable [Bf]
set_option linter.unusedSectionVars false
set_option linter.unusedVariables false

theorem Agv : ∃ j, Tryz.prog.info? 118 = some j ∧ j.size ≠ 0 := by
 have h : ((Tryz.prog.info? 118).map fun j => decide (j.size ≠ 0)) = some true := by kernel_rfl
 obtain ⟨j, h1, h2⟩ := Option.map_eq_some_iff.1 h
 exact ⟨j, h1, by simpa using h2⟩
set_option maxHeartbeats 2000000 in
set_option maxRecDepth 100000 in
theorem Aiz (b o : Nat) (w : World) (h0 : w.cell? ⟨b, o, none⟩ = some (.pointer (some ⟨b, o, none⟩))) :
  Calls Tryz.prog 101 #[.pointer (some ⟨b, o, none⟩)] w fun e w' => e = .returned (.tuple #[]) ∧ w' = w := by
 obtain ⟨j, hj, _⟩ := Agv
 go_enter Tryz.func101, Tryz.ntmps101
 go_wp2
 rw [Lib.run_neq_ptr_same w _ Tryz.underlying116 hj]
 go_wp2
 go_end0
 exact ⟨rfl, rfl⟩
set_option maxHeartbeats 2000000 in
set_option maxRecDepth 100000 in
theorem Ahz (b o : Nat) (T : TypeId) (m : Nat) (w : World) (h0 : w.cell? ⟨b, o, none⟩ = some (.pointer none)) (hsh : w.shape? b = some (T, m)) (hom : o < m) (hlies : liesAt Tryz.prog Tryz.prog.depth T (m / Tryz.prog.cellsOf T) o 118 1 = true) (hfz : w.frozen? ⟨b, o, none⟩ = false) :
  Calls Tryz.prog 101 #[.pointer (some ⟨b, o, none⟩)] w fun e w' => e = .returned (.tuple #[]) ∧ w' = w.setCell ⟨b, o, none⟩ (.pointer (some ⟨b, o, none⟩)) := by
 obtain ⟨j, hj, hj0⟩ := Agv
 go_enter Tryz.func101, Tryz.ntmps101
 go_wp2
 rw [Lib.run_to_unsafe w ⟨b, o, none⟩ Tryz.underlying116 Tryz.underlying124 hj hj0 hsh hom]
 simp only [Result.andThen]
 rw [Oper.upon_value]
 go_wp2
 rw [run_callFunc_extern Tryz.func135 (by kernel_rfl) (by kernel_rfl) (by kernel_rfl) (e := Extern.AbiNoEscape.same) (by kernel_rfl)]
 rw [Lib.run_noEscape]
 simp only [Result.andThen]
 rw [Oper.upon_value]
 go_wp2
 rw [Lib.run_from_unsafe w ⟨b, o, none⟩ Tryz.underlying124 Tryz.underlying116 hj hsh hlies]
 simp only [Result.andThen]
 rw [Oper.upon_value]
 go_wp2
 go_end0
 exact ⟨rfl, rfl⟩
end Go.Proofs.YtliaddbbmnfioaaGreatDoor


namespace Go.Proofs.YtliaddbbmnfioaaGreatDoor
open Go.RowKit
variable [Bf]
set_option linter.unusedSectionVars false
set_option linter.unusedVariables false

theorem Anq {c : Ctx} {w : World} : Rep c w (.tup []) (.tuple #[]) := .inr ⟨[], [], rfl, rfl, by rw [BU]⟩
theorem AvY {c : Ctx} {w : World} {id ver : Nat} {p : List (Nat × Nat)} {vs : List Value} (h : BU c w [.op id ver p] vs) : c.has id ver ∧ ∃ b o, c.β id ver = some (b, o) ∧ vs = [.pointer (some ⟨b, o + DT p, none⟩)] := by
 obtain ⟨u, us, rfl, h1, h2⟩ := BU.cons.1 h
 rw [BU.nil] at h2; subst h2
 obtain ⟨g1, b, o, g2, g3⟩ := Rep.op (Or.inl h1 : Rep c w (.op id ver p) u)
 exact ⟨g1, b, o, g2, by rw [g3]⟩
theorem AlV {β : Nat → Nat → Option (Nat × Nat)} {H : List Ob} {F : Nat → Prop} {w : World} (hs : Sim ⟨β, H, F⟩ w) {id ver b o : Nat} {p : List (Nat × Nat)} {x u v : TV} (ho : H[id]? = some (.obj ver x)) (hb : β id ver = some (b, o)) (hg : JD p x = some (.agg [u, v])) (hu : AC u = 1) (hv : AC v = 1) :
  ∃ u' v', Am ⟨β, H, F⟩ w u [u'] ∧ Am ⟨β, H, F⟩ w v [v'] ∧ w.cell? ⟨b, o + DT p, none⟩ = some u' ∧ w.cell? ⟨b, o + DT p + 1, none⟩ = some v' := by
 obtain ⟨us, h1, h2⟩ := AjM hs ho hb hg
 rw [Am, Ap] at h1
 obtain ⟨a, r, rfl, h3, h4⟩ := h1
 rw [Ap] at h4
 obtain ⟨a2, r2, rfl, h5, h6⟩ := h4
 rw [Ap] at h6; subst h6
 have l1 := h3.length; rw [hu] at l1
 have l2 := h5.length; rw [hv] at l2
 obtain ⟨u', rfl⟩ := List.length_eq_one_iff.1 l1
 obtain ⟨v', rfl⟩ := List.length_eq_one_iff.1 l2
 exact ⟨u', v', h3, h5, by simpa using h2 0 u' rfl, h2 1 v' rfl⟩
def Ac8 (id ver : Nat) (p : List (Nat × Nat)) (a : TV) : Prop := a = .val (.pointer none) ∨ a = .op id ver p
def Aid (T : TypeId) (m o : Nat) : Prop := o < m ∧ liesAt Tryz.prog Tryz.prog.depth T (m / Tryz.prog.cellsOf T) o 118 1 = true

set_option maxRecDepth 100000 in
theorem Ai7 {id ver q m : Nat} {T : TypeId} {p : List (Nat × Nat)} {x x' a v : TV} {H : List Ob} {K : TV → List Ob → Prop} (ho : H[id]? = some (.obj ver x)) (hg : JD p x = some (.agg [a, v])) (hv1 : AC v = 1) (ha : Ac8 id ver p a)
  (hq : H[q]? = some (.fact id ver T m)) (hT : Aid T m (DT p)) (hp1 : setP p x (.agg [.op id ver p, v]) = some x') (hlv : lays v = true) (hk : K (.tup []) (H.set id (.obj ver x'))) :
  Aw Tryz.prog 101 [.op id ver p] H K := by
 intro β F w vs hs hv
 obtain ⟨g1, b, o, hb, rfl⟩ := AvY hv
 have hb' : β id ver = some (b, o) := hb
 obtain ⟨_, hfact⟩ := hs.ob q _ hq
 obtain ⟨rfl, hsh⟩ := hfact b o hb
 obtain ⟨hom, hlies⟩ := hT
 have ha1 : AC a = 1 := by rcases ha with rfl | rfl <;> rfl
 obtain ⟨u', v', r1, r2, c0, c1⟩ := AlV hs ho hb hg ha1 hv1
 simp only [Nat.zero_add] at c0 c1
 have hrow : Am ⟨β, H, F⟩ w (.agg [.op id ver p, v]) [.pointer (some ⟨b, DT p, none⟩), v'] := by
  rw [Am, Ap]
  refine ⟨[_], [v'], rfl, ?_, ?_⟩
  ·rw [Am]; exact ⟨g1, b, 0, hb, by simp⟩
  ·rw [Ap]; exact ⟨[v'], [], rfl, r2, by rw [Ap]⟩
 obtain ⟨k1, k2, ht⟩ := hs.store ho hb hp1 hrow
 simp only [Nat.zero_add] at k1 k2 ht
 -- what Aid there behind
 have hsets : w.setCells b (DT p) [.pointer (some ⟨b, DT p, none⟩), v'] = w.setCell ⟨b, DT p, none⟩ (.pointer (some ⟨b, DT p, none⟩)) := by
  have h1 := Ky b [.pointer (some ⟨b, DT p, none⟩)] [v'] (DT p) w
  refine h1.trans ?_
  have hc : DZ w b (DT p + 1) [v'] := fun j u hj => by
   cases j with
   | zero => simp at hj; subst hj; exact c1
   | succ j => simp at hj
  exact RJ (Y6 hc (Nat.le_refl _))
 rw [hsets] at k1 k2
 rcases ha with rfl | rfl
 ·rw [Am] at r1
  have hu : u' = .pointer none := by simpa using r1.1
  subst hu
  have hfz : w.frozen? ⟨b, DT p, none⟩ = false := (ht 0 (by simp)).2
  have hc := Ahz b (DT p) T m w c0 hsh hom hlies hfz
  have ea : ([Value.pointer (some ⟨b, 0 + DT p, none⟩)]).toArray = #[.pointer (some ⟨b, DT p, none⟩)] := by rw [Nat.zero_add]
  rw [ea]
  refine hc.mono ?_
  rintro e w' ⟨rfl, rfl⟩
  exact ⟨_, _, β, _, F, rfl, hk, k1, k2, Anq⟩
 ·rw [Am] at r1
  obtain ⟨_, b', o', hb2, hu⟩ := r1
  have hb2' : β id ver = some (b', o') := hb2
  rw [hb'] at hb2'; cases hb2'
  have hu : u' = .pointer (some ⟨b, DT p, none⟩) := by simpa using hu
  subst hu
  have hc := Aiz b (DT p) w c0
  have ea : ([Value.pointer (some ⟨b, 0 + DT p, none⟩)]).toArray = #[.pointer (some ⟨b, DT p, none⟩)] := by rw [Nat.zero_add]
  rw [ea]
  refine hc.mono ?_
  rintro e w' ⟨rfl, rfl⟩
  rw [Agc c0] at k1 k2
  exact ⟨_, _, β, _, F, rfl, hk, k1, k2, Anq⟩
end Go.Proofs.YtliaddbbmnfioaaGreatDoor


namespace Go.Proofs.YtliaddbbmnfioaaGreatDoor
open Go.RowKit
variable [Bf]
set_option linter.unusedSectionVars false
set_option linter.unusedVariables false

set_option maxHeartbeats 4000000 in
set_option maxRecDepth 100000 in
theorem Ahh {b o : Nat} {w W : World} {v : Value} {n : Nat} {ad q : Option Addr} {cap : Nat} {s : ByteArray} {w1 w2 : World} (hv : v = .slice ad n cap) (c1 : w.cell? ⟨b, o + 1, none⟩ = some v)
  (hSD : (Builtin.unsafeSliceData_ #[29] 173 #[v]).run Tryz.prog w.drew = .ok (.pointer q) w1) (c2 : w1.cell? ⟨b, o + 1, none⟩ = some v)
  (hUS : (Builtin.unsafeString_ #[173, 3] 9 #[.pointer q, .int .i64 n]).run Tryz.prog w1 = .ok (.string s) w2) :
  Calls Tryz.prog 62 #[.pointer (some ⟨b, o, none⟩)] w fun e w' => e = .returned (.string s) ∧ w' = w2 := by
 subst hv
 have c1' : w.drew.cell? ⟨b, o + 1, none⟩ = some (.slice ad n cap) := c1
 have mixed : Tryz.prog.follows .mixedOrders = true := by kernel_rfl
 go_enter Tryz.func62, Tryz.ntmps62
 go_wp2
 go_region_o
 all_goals (go_wp2; go_ret; exact ⟨rfl, rfl⟩)
theorem Sim.die {β : Nat → Nat → Option (Nat × Nat)} {H : List Ob} {F : Nat → Prop} {w w' : World} (hs : Sim ⟨β, H, F⟩ w) {j : Nat} {o : Ob} (ho : H[j]? = some o) (hl : o.live = true)
  (h1 : w'.os = w.os) (h2 : w'.tape = w.tape) (h3 : w'.output = w.output) (hz : w.heap.size ≤ w'.heap.size) (hsh : ∀ b, b < w.heap.size → w'.shape? b = w.shape? b)
  (hb : ∀ b, b < w.heap.size → (∀ off, β j o.ver ≠ some (b, off)) → w'.heap[b]? = w.heap[b]?) : Sim ⟨β, H.set j (.gone o.ver), F⟩ w' ∧ Bd ⟨β, H, F⟩ w ⟨β, H.set j (.gone o.ver), F⟩ w' :=
 hs.turnG ho hl (Nat.le_refl _) (fun _ _ _ => rfl) (fun b off e => .inl ⟨off, e⟩) h1 h2 h3 hz hsh hb fun _ => trivial

theorem Ak7 (w : World) (a : Addr) (n b : Nat) : (w.freeze a n).shape? b = w.shape? b := by
 unfold World.freeze
 split
 ·rfl
 ·simp only [World.shape?, Array.getElem?_modify]
  by_cases hb : a.block = b
  ·rw [if_pos hb]
   cases hh : w.heap[b]? with
   | none => simp
   | some x => cases x <;> simp
  ·rw [if_neg hb]
theorem Am9 (w : World) (a : Addr) (n b : Nat) (h : b ≠ a.block) : (w.freeze a n).heap[b]? = w.heap[b]? := by
 unfold World.freeze
 split
 ·rfl
 ·simp only [Array.getElem?_modify]
  rw [if_neg (fun e => h e.symm)]
theorem AmB (w : World) (a : Addr) (n : Nat) : (w.freeze a n).heap.size = w.heap.size := by
 unfold World.freeze
 split <;> simp
theorem Apw (w : World) (a : Addr) (n : Nat) : (w.freeze a n).os = w.os ∧ (w.freeze a n).tape = w.tape ∧ (w.freeze a n).output = w.output := by
 unfold World.freeze
 split <;> exact ⟨rfl, rfl, rfl⟩

set_option maxRecDepth 100000 in
theorem Ary : Tryz.prog.cellsOf 5 = 1 := by kernel_rfl

set_option maxRecDepth 100000 in
theorem Aw3 {id ver j v cp : Nat} {p : List (Nat × Nat)} {x a : TV} {l : List UInt8} {H : List Ob} {K : TV → List Ob → Prop} (ho : H[id]? = some (.obj ver x)) (hg : JD p x = some (.agg [a, .os 1 j v [] 0 l.length cp])) (ha : AC a = 1)
  (hj : H[j]? = some (.bld v 5 l)) (h63 : l.length ≤ 9223372036854775807) (hk : K (.val (.string (str l))) (H.set j (.gone v))) : Aw Tryz.prog 62 [.op id ver p] H K := by
 intro β F w vs hs hv
 obtain ⟨g1, b, o, hb, rfl⟩ := AvY hv
 obtain ⟨u', v', r1, r2, c0, c1⟩ := AlV hs ho hb hg ha rfl
 have hjl : j < H.length := (List.getElem?_eq_some_iff.1 hj).1
 rw [Am] at r2
 obtain ⟨g2, r2⟩ := r2
 have ea : ([Value.pointer (some ⟨b, o + DT p, none⟩)]).toArray = #[.pointer (some ⟨b, o + DT p, none⟩)] := rfl
 rw [ea]
 -- what is empty
 have emp : ∀ {ad q : Option Addr} {cap : Nat} {w1 : World}, v' = .slice ad 0 cap → l = [] → (Builtin.unsafeSliceData_ #[29] 173 #[v']).run Tryz.prog w.drew = .ok (.pointer q) w1 → w1.cell? ⟨b, o + DT p + 1, none⟩ = some v' → Sim ⟨β, H, F⟩ w1 → Bd ⟨β, H, F⟩ w ⟨β, H, F⟩ w1 →
   Calls Tryz.prog 62 #[.pointer (some ⟨b, o + DT p, none⟩)] w fun e w' => ∃ v x β' H' F', e = .returned v ∧ K x H' ∧ Sim ⟨β', H', F'⟩ w' ∧ Bd ⟨β, H, F⟩ w ⟨β', H', F'⟩ w' ∧ Rep ⟨β', H', F'⟩ w' x v := by
  intro ad q cap w1 hv' hl hSD c2 hs1 hl1
  have hUS := Lib.run_unsafeString_none (P := Tryz.prog) w1 173 3 9 q
  refine (Ahh (W := w) (n := 0) hv' c1 hSD c2 hUS).mono ?_
  rintro e w' ⟨rfl, rfl⟩
  obtain ⟨k1, k2⟩ := hs1.die (w' := w') hj rfl rfl rfl rfl (Nat.le_refl _) (fun _ _ => rfl) (fun _ _ _ => rfl)
  subst hl
  exact ⟨_, _, β, _, F, rfl, hk, k1, hl1.trans k2, Rep.of_val⟩
 rcases r2 with ⟨hl0, ad, hv', _, han⟩ | ⟨b2, o2, cap, t, m, hb2, hv', hn, hcap, hsh, hroom, _⟩
 ·have hl : l = [] := List.length_eq_zero_iff.1 hl0
  have hv' : v' = .slice ad 0 0 := by simpa using hv'
  cases ad with
  | none =>
   refine emp hv' hl (q := none) (w1 := w.drew) ?_ c1 (hs.heap rfl) (Bd.heap rfl rfl rfl rfl)
   rw [hv']; exact Lib.run_unsafeSliceData_nil w.drew _ _ _ _
  | some ad =>
   obtain ⟨s, hs2⟩ := Option.isSome_iff_exists.1 (han ad rfl)
   obtain ⟨k1, k2⟩ := (hs.heap (w' := w.drew) rfl).extra (.view ad 5)
   refine emp hv' hl (q := some ⟨w.drew.heap.size, 0, none⟩) (w1 := w.drew.alloc (.view ad 5)) ?_ ?_ k1 ((Bd.heap (w := w) (w' := w.drew) rfl rfl rfl rfl).trans k2)
   ·rw [hv']; exact Lib.run_unsafeSliceData_zero w.drew _ _ _ Tryz.underlying173 ad 0 s hs2
   ·rw [World.cell?_of_block (w := w.drew) (Dn _ _ (World.block_lt_of_cell? w _ c1))]; exact c1
 ·have hv' : v' = .slice (some ⟨b2, o2, none⟩) l.length cap := by simpa [DT] using hv'
  rcases hs.ob j _ hj with ⟨q1, _⟩ | ⟨b3, post, fr, q1, q2, q3⟩
  ·have q1' : β j v = none := q1
   have hb2' : β j v = some (b2, o2) := hb2
   rw [q1'] at hb2'; cases hb2'
  have q1' : β j v = some (b3, 0) := q1
  have hb2' : β j v = some (b2, o2) := hb2
  rw [q1'] at hb2'; cases hb2'
  by_cases hl : l = []
  ·subst hl
   by_cases hc0 : cap = 0
   ·subst hc0
    obtain ⟨k1, k2⟩ := (hs.heap (w' := w.drew) rfl).extra (.view ⟨b2, 0, none⟩ 5)
    refine emp hv' rfl (q := some ⟨w.drew.heap.size, 0, none⟩) (w1 := w.drew.alloc (.view ⟨b2, 0, none⟩ 5)) ?_ ?_ k1 ((Bd.heap (w := w) (w' := w.drew) rfl rfl rfl rfl).trans k2)
    ·rw [hv']; exact Lib.run_unsafeSliceData_zero w.drew _ _ _ Tryz.underlying173 ⟨b2, 0, none⟩ 0 _ hsh
    ·rw [World.cell?_of_block (w := w.drew) (Dn _ _ (World.block_lt_of_cell? w _ c1))]; exact c1
   ·refine emp hv' rfl (q := some ⟨b2, 0, none⟩) (w1 := w.drew) ?_ c1 (hs.heap rfl) (Bd.heap rfl rfl rfl rfl)
    rw [hv']; exact Lib.run_unsafeSliceData_row w.drew _ _ _ _ _ hc0
  ·have hlp : 0 < l.length := List.length_pos_iff.2 hl
   have hSD : (Builtin.unsafeSliceData_ #[29] 173 #[v']).run Tryz.prog w.drew = .ok (.pointer (some ⟨b2, 0, none⟩)) w.drew := by
    rw [hv']; exact Lib.run_unsafeSliceData_row w.drew _ _ _ _ _ (by omega)
   have hsh' : w.drew.shape? b2 = some (5, ((l.map fun x : UInt8 => Value.int .u8 x.toNat) ++ post).length) := by
    have q2' : w.drew.heap[b2]? = _ := q2
    simp only [World.shape?, q2', List.size_toArray]
   have hcell : ∀ i y, l[i]? = some y → w.drew.cell? ((⟨b2, 0, none⟩ : Addr).add i) = some (.int .u8 y.toNat) := by
    intro i y hy
    rw [Es, Nat.zero_add]
    have q2' : w.drew.heap[b2]? = _ := q2
    rw [cell_of_row w.drew b2 i _ _ _ q2']
    have hil : i < l.length := (List.getElem?_eq_some_iff.1 hy).1
    simp only [List.getElem?_toArray]
    rw [List.getElem?_append_left (by simpa using hil), List.getElem?_map, hy]; rfl
   have hUS := Lib.run_unsafeString_row (P := Tryz.prog) w.drew 173 3 9 5 Tryz.underlying173 Ary b2 _ hsh' l hl (by simp) h63 hcell
   refine (Ahh (W := w) hv' c1 hSD c1 hUS).mono ?_
   rintro e w' ⟨rfl, rfl⟩
   obtain ⟨f1, f2, f3⟩ := Apw w.drew ⟨b2, 0, none⟩ l.length
   obtain ⟨k1, k2⟩ := hs.die (w' := w.drew.freeze ⟨b2, 0, none⟩ l.length) hj rfl f1 f2 f3 (by rw [AmB]; exact Nat.le_refl _) (fun b _ => Ak7 w.drew _ _ b) (fun b _ hne => Am9 w.drew _ _ b fun e => hne 0 (by rw [e]; exact q1'))
   exact ⟨_, _, β, _, F, rfl, hk, k1, k2, Rep.of_val⟩
theorem Aru : ACc Tryz.prog 62 := fun id ver j v cp p x a l H K ho hg ha hj h63 hk => Aw3 ho hg ha hj h63 hk
end Go.Proofs.YtliaddbbmnfioaaGreatDoor


namespace Go.Proofs.YtliaddbbmnfioaaGreatDoor
open Go.RowKit
variable [Bf]
set_option linter.unusedSectionVars false
set_option linter.unusedVariables false
set_option linter.unusedSimpArgs false

theorem Aj2 : ∀ {p q : List (Nat × Nat)} {x : TV}, JD (p ++ q) x = (JD p x).bind (JD q)
 | [], q, x => by rw [Yg]; rfl
 | (i, d) :: p, q, x => by
  cases x with
  | agg cs =>
   rw [List.cons_append, Ku, Ku]
   split
   ·cases cs[i]? with
    | none => rfl
    | some c => exact Aj2
   ·rfl
  | arr n k cs =>
   rw [List.cons_append, Akg, Akg]
   split
   ·cases cs[i]? with
    | none => rfl
    | some c => exact Aj2
   ·rfl
  | _ => rfl
theorem AjF {a a' b b' : TV} (ha : AC a = 1) (ha' : AC a' = 1) (hb : AC b = 1) (hb' : AC b' = 1) (hn : GU a' = false) : ∀ {p : List (Nat × Nat)} {x x' : TV}, JD p x = some (.agg [a, b]) → setP p x (.agg [a', b]) = some x' →
  JD (p ++ [(1, 1)]) x' = some b ∧ ∃ x'', setP (p ++ [(1, 1)]) x' b' = some x'' ∧ setP p x (.agg [a', b']) = some x''
 | [], x, x', hg, hs => by
  rw [Yg] at hg; cases hg
  have w1 : AC (.agg [a', b]) = AC (.agg [a, b]) := by simp [AC, BG, ha, ha', hb]
  have w2 : AC (.agg [a', b']) = AC (.agg [a, b]) := by simp [AC, BG, ha, ha', hb, hb']
  rw [Ii, if_pos w1] at hs; cases hs
  rw [Ii, if_pos w2, List.nil_append, Ku, Je]
  have h1 : BG ([a', b].take 1) = 1 := by simp [BG, ha']
  rw [if_pos h1, if_pos h1]
  refine ⟨by simp [Yg], _, ?_, rfl⟩
  simp [Ii, hb, hb']
 | (i, d) :: p, x, x', hg, hs => by
  cases x with
  | agg cs =>
   rw [Ku] at hg
   rw [Je] at hs
   split at hg
   ·rename_i hw
    rw [if_pos hw] at hs
    cases hc : cs[i]? with
    | none => rw [hc] at hg; cases hg
    | some c =>
     rw [hc] at hg hs
     have hg' : JD p c = some (.agg [a, b]) := hg
     have hs' : ((setP p c (.agg [a', b])).map fun c' => TV.agg (cs.set i c')) = some x' := hs
     obtain ⟨c', h1, rfl⟩ := Option.map_eq_some_iff.1 hs'
     obtain ⟨g1, c'', g2, g3⟩ := AjF ha ha' hb hb' hn hg' h1
     have hi : i < cs.length := (List.getElem?_eq_some_iff.1 hc).1
     have hti : (cs.set i c').take i = cs.take i := by rw [List.take_set_of_le (Nat.le_refl _)]
     refine ⟨?_, .agg (cs.set i c''), ?_, ?_⟩
     ·rw [List.cons_append, Ku, hti, if_pos hw, List.getElem?_set_self hi]; exact g1
     ·rw [List.cons_append, Je, hti, if_pos hw, List.getElem?_set_self hi]
      show (setP (p ++ [(1, 1)]) c' b').map _ = _
      rw [g2]; simp
     ·rw [Je, if_pos hw, hc]
      show (setP p c (.agg [a', b'])).map _ = _
      rw [g3]; rfl
   ·cases hg
  | arr n k cs =>
   rw [An5] at hs
   split at hs
   ·rename_i h
    have := h.2
    simp [GU, Et, hn] at this
   ·cases hs
  | _ => cases hg
structure Bld (H : List Ob) (id ver : Nat) (p : List (Nat × Nat)) (j v : Nat) (x : TV) (l : List UInt8) : Prop where
 ob : H[id]? = some (.obj ver x)
 fields : ∃ a, Ac8 id ver p a ∧ JD p x = some (.agg [a, .os 1 j v [] 0 l.length l.length])
 row : H[j]? = some (.bld v 5 l)
 ne : id ≠ j
 fact : ∃ (q : Nat) (T : TypeId) (m : Nat), H[q]? = some (Ob.fact id ver T m) ∧ Aid T m (DT p)
theorem OI {id ver : Nat} {p : List (Nat × Nat)} {a : TV} (h : Ac8 id ver p a) : AC a = 1 := by rcases h with rfl | rfl <;> rfl

end Go.Proofs.YtliaddbbmnfioaaGreatDoor


namespace Go.Proofs.YtliaddbbmnfioaaGreatDoor
variable [Bf]
set_option linter.unusedSectionVars false
set_option linter.unusedVariables false
set_option linter.defProp false
set_option maxRecDepth 100000

def FM : Af := .seq (.ops [mv_ 8 0,
  mv_ 9 0,
  po_ 10 (.nilc (.t 9)),
  po_ 11 (.fieldA 1 1 (.t 10)),
  po_ 12 (.load false 1 (.t 11)),
  mv_ 13 1,
  so_ 14 (.appS 5 (.t 12) (.t 13)),
  po_ 15 (.nilc (.t 8)),
  po_ 16 (.fieldA 1 1 (.t 15)),
  ⟨none, .s (.store 1 (.t 16) (.t 14)), none⟩] [1])
 (.seq (.ops [mv_ 17 1,
  po_ 18 (.lenS (.t 17)),
  mv_ 4 18,
  po_ 5 (.mov (.c .nilIface))] [4, 5])
 (.ret))
def Gl : Af := .seq (.ops [mv_ 6 0,
  so_ 7 (.call 101 [.t 6])] [0, 1])
 FM
def G7 : Af := .ownT 0 [(1, 1)] 5 (.seq (.ops [po_ 4 (.mov (ci_ 0)),
  po_ 5 (.mov (.c .nilIface))] [0, 1])
 Gl)
def G6 : List VR := [.tmp 4, .tmp 5]
theorem QB : Tryz.f61.body.bind (trC Tryz.prog Tryz.f61.ntmps) = some (er G7) := by kernel_rfl
theorem QH : trR Tryz.prog Tryz.f61.results.toList = some G6 := by kernel_rfl
def JC := Aa FM.eq_1
def JA := Aa Gl.eq_1
def Gw := Aa G7.eq_1
theorem Oy {K : TV → Prop} {e : Env} {H : List Ob} : res G6 e H K = res [.tmp 4, .tmp 5] e H K := Ac rfl
def G9 := (And.intro (And.intro @JC @JA) (And.intro @Gw @Oy))
def Qk := DD 19 Tryz.func61 QB QH rfl

def GK : Af := .seq (.ops [mv_ 5 0,
  so_ 6 (.call 101 [.t 5])] [0, 1])
 (.seq (.ops [mv_ 7 0,
  mv_ 8 0,
  po_ 9 (.nilc (.t 8)),
  po_ 10 (.fieldA 1 1 (.t 9)),
  po_ 11 (.load false 1 (.t 10)),
  mv_ 12 1,
  ⟨some 13, .s (.bslice 1 1 (.val (.int .u8 ((0 : Nat) : Int))) [⟨0, .t 12⟩]), none⟩,
  so_ 14 (.app 1 1 5 (.t 11) (.t 13)),
  po_ 15 (.nilc (.t 7)),
  po_ 16 (.fieldA 1 1 (.t 15)),
  ⟨none, .s (.store 1 (.t 16) (.t 14)), none⟩] [])
 (.seq (.ops [po_ 4 (.mov (.c .nilIface))] [4])
 (.ret)))
def Ia : Af := .seq (.ops [po_ 4 (.mov (.c .nilIface))] [0, 1])
 GK
def Ib : List VR := [.tmp 4]
theorem Su : Tryz.f63.body.bind (trC Tryz.prog Tryz.f63.ntmps) = some (er Ia) := by kernel_rfl
theorem SN : trR Tryz.prog Tryz.f63.results.toList = some Ib := by kernel_rfl
def MF := Aa GK.eq_1
def QJ := Aa Ia.eq_1
theorem QG {K : TV → Prop} {e : Env} {H : List Ob} : res Ib e H K = res [.tmp 4] e H K := Ac rfl
def H5 := (And.intro (And.intro @MF @QJ) @QG)
def RI := DD 17 Tryz.func63 Su SN rfl

end Go.Proofs.YtliaddbbmnfioaaGreatDoor


namespace Go.Proofs.YtliaddbbmnfioaaGreatDoor
open Go.RowKit
variable [Bf]
set_option linter.unusedSectionVars false
set_option linter.unusedVariables false
set_option linter.unusedSimpArgs false

theorem AiK {id ver j v : Nat} {p : List (Nat × Nat)} {x x' : TV} {l : List UInt8} {c : UInt8} {H : List Ob} {K : TV → List Ob → Prop} (hB : Bld H id ver p j v x l) (hlen : l.length + 1 ≤ 140737488355328)
  (hs : setP p x (.agg [.op id ver p, .os 1 j v [] 0 l.length l.length]) = some x') (hk : ∀ x'', setP p x (.agg [.op id ver p, .os 1 j (v + 1) [] 0 (l ++ [c]).length (l ++ [c]).length]) = some x'' → K (.val .nilIface) ((H.set id (.obj ver x'')).set j (.bld (v + 1) 5 (l ++ [c])) ++ [.obj 0 (.arr 1 1 [by8 c])])) :
  Aw Tryz.prog 63 [.op id ver p, by8 c] H K := by
 obtain ⟨ho, ⟨a, ha, hg⟩, hj, hne, q, T, m, hq, hT⟩ := hB
 refine RI (by simp) ?_
 simp -dsimp (disch := first | assumption | omega) only [↓Ai, Ae, Ag, Ah, eq_self, Nat.reduceEqDiff, ↓reduceIte, Nat.reduceAdd, reduceCtorEq, ↓H5]
 refine Ai7 ho hg rfl ha hq hT hs rfl ?_
 have hid : id < H.length := (List.getElem?_eq_some_iff.1 ho).1
 have hjl : j < H.length := (List.getElem?_eq_some_iff.1 hj).1
 obtain ⟨g1, x'', g2, g3⟩ := AjF (b' := .os 1 j (v + 1) [] 0 (l ++ [c]).length (l ++ [c]).length) (OI ha) (by rfl) (by rfl) (by rfl) (by rfl) hg hs
 have hll : (H.set id (.obj ver x')).length = H.length := by simp
 have b1 : ∀ {G : List Ob} {o g : Ob} {i : Nat}, G[i]? = some o → (G ++ [g])[i]? = some o := fun h => by rw [List.getElem?_append_left (List.getElem?_eq_some_iff.1 h).1]; exact h
 have f0 : (H.set id (.obj ver x') ++ [Ob.obj 0 (.arr 1 1 [by8 c])])[H.length]? = some (.obj 0 (.arr 1 1 [by8 c])) := by
  rw [← hll, List.getElem?_append_right (Nat.le_refl _)]; simp
 have f1 : (H.set id (.obj ver x'))[id]? = some (.obj ver x') := by simp [hid]
 have f2 : (H.set id (.obj ver x') ++ [Ob.obj 0 (.arr 1 1 [by8 c])])[j]? = some (.bld v 5 l) := b1 (by rw [List.getElem?_set_ne hne]; exact hj)
 have f5 : (H.set id (.obj ver x') ++ [Ob.obj 0 (.arr 1 1 [by8 c])]).set j (.bld (v + 1) 5 (l ++ [c])) = (H.set id (.obj ver x')).set j (.bld (v + 1) 5 (l ++ [c])) ++ [Ob.obj 0 (.arr 1 1 [by8 c])] := by
  rw [List.set_append_left _ _ (by rw [hll]; exact hjl)]
 have f3 : ((H.set id (.obj ver x')).set j (.bld (v + 1) 5 (l ++ [c])) ++ [Ob.obj 0 (.arr 1 1 [by8 c])])[id]? = some (.obj ver x') := b1 (by rw [List.getElem?_set_ne (Ne.symm hne)]; exact f1)
 have f4 : ((H.set id (.obj ver x')).set j (.bld (v + 1) 5 (l ++ [c])) ++ [Ob.obj 0 (.arr 1 1 [by8 c])]).set id (.obj ver x'') = (H.set id (.obj ver x'')).set j (.bld (v + 1) 5 (l ++ [c])) ++ [Ob.obj 0 (.arr 1 1 [by8 c])] := by
  rw [List.set_append_left _ _ (by simpa using hid), List.set_comm _ _ hne, List.set_set, List.set_comm _ _ hne.symm]
 have one : (List.replicate 1 (TV.val (Value.int IntKind.u8 ((0 : Nat) : Int)))).set 0 (by8 c) = [by8 c] := by simp
 have tk1 : [by8 c].take 1 = [by8 c] := by simp
 have tkl : l.take l.length = l := List.take_length
 have e1 : (l ++ [c]).length = l.length + 1 := by simp
 rw [e1] at g2
 have hk' := hk x'' g3
 simp -dsimp (disch := first | assumption | omega) only [↓Ai, Ae, Ag, Ah, eq_self, Nat.reduceEqDiff, ↓reduceIte, reduceCtorEq, Nat.reduceLeDiff, ↓H5, f0, f1, f2, f3, f4, f5, g1, g2, one, tk1]
 exact hk'
end Go.Proofs.YtliaddbbmnfioaaGreatDoor


namespace Go.Proofs.YtliaddbbmnfioaaGreatDoor
open Go.RowKit
variable [Bf]
set_option linter.unusedSectionVars false
set_option linter.unusedVariables false

set_option maxHeartbeats 2000000 in
set_option maxRecDepth 100000 in
theorem Ajr (s : ByteArray) (cv : Int) (w : World) :
  Calls Tryz.prog 165 #[.string s, .int .u8 cv] w fun e w' => e = .returned (.int .i64 (Lib.indexByte s.data.toList cv.toNat.toUInt8)) ∧ w' = w := by
 go_enter Tryz.func165, Tryz.ntmps165
 go_wp2
 rw [run_callFunc_extern Tryz.func178 (by kernel_rfl) (by kernel_rfl) (by kernel_rfl) (e := Extern.BytealgIndexByte.indexByte) (by kernel_rfl), Lib.run_indexByteString s cv w]
 simp only [Result.andThen]
 rw [Oper.upon_value]
 go_wp2
 go_ret
 exact ⟨rfl, rfl⟩
theorem Bj.ofCalls {f : FuncId} {args : List Value} {r : Value} (h : ∀ w, Calls Tryz.prog f args.toArray w fun e w' => e = .returned r ∧ w' = w) : Bj Tryz.prog f (args.map .val) (fun x => x = .val r) := by
 intro β F w vs hF hv
 have hvs : vs = args := by
  clear h hF
  induction args generalizing vs with
  | nil => rw [List.map_nil, BU.nil] at hv; exact hv
  | cons a args ih =>
   rw [List.map_cons] at hv
   obtain ⟨v, us, rfl, h1, h2⟩ := BU.cons.1 hv
   have := Rep.val.1 (Or.inl h1 : Rep _ _ _ _)
   rw [this, ih us h2]
 subst hvs
 refine (h w).mono ?_
 rintro e w' ⟨rfl, rfl⟩
 exact ⟨_, _, F, rfl, rfl, Rep.of_val, ⟨rfl, rfl, rfl, Nat.le_refl _, fun _ _ => rfl, fun _ h => h, fun _ _ h => h, hF.1⟩⟩
theorem Ams (l : List UInt8) (c : UInt8) : Bj Tryz.prog 165 [.val (.string (str l)), by8 c] (fun x => x = .val (.int .i64 (Lib.indexByte l c))) := by
 have h := Bj.ofCalls (f := 165) (args := [.string (str l), .int .u8 c.toNat]) (r := .int .i64 (Lib.indexByte l c)) (fun w => by
  have h1 := Ajr (str l) c.toNat w
  have e1 : (str l).data.toList = l := by simp [str]
  have e2 : ((c.toNat : Int)).toNat.toUInt8 = c := by rw [Int.toNat_natCast]; simp
  rw [e1, e2] at h1; exact h1)
 exact h
end Go.Proofs.YtliaddbbmnfioaaGreatDoor


namespace Go.Proofs.YtliaddbbmnfioaaGreatDoor
open Go.RowKit
variable [Bf]
set_option linter.unusedSectionVars false
set_option linter.unusedVariables false
set_option linter.unusedSimpArgs false
def dig (n : Nat) : UInt8 := UInt8.ofNat (if n < 10 then 48 + n else 87 + n)
def BX (l : List UInt8) : List UInt8 := l.flatMap fun x => [dig (x.toNat / 16), dig (x.toNat % 16)]
def AhK : List UInt8 := [48, 49, 50, 51, 52, 53, 54, 55, 56, 57, 97, 98, 99, 100, 101, 102]
theorem Alj : ∀ n, n < 16 → AhK[n]? = some (dig n) := by decide
theorem AEb (n : Nat) : n &&& 15 = n % 16 := Nat.and_two_pow_sub_one_eq_mod n 4
theorem Ic (l : List UInt8) : (BX l).length = 2 * l.length := by
 induction l with
 | nil => rfl
 | cons x l ih =>
  have e : BX (x :: l) = dig (x.toNat / 16) :: dig (x.toNat % 16) :: BX l := rfl
  rw [e, List.length_cons, List.length_cons, List.length_cons, ih]; omega
theorem Ajf (l : List UInt8) (x : UInt8) : BX (l ++ [x]) = BX l ++ [dig (x.toNat / 16)] ++ [dig (x.toNat % 16)] := by simp [BX]
theorem Axw : AhK = [48, 49, 50, 51, 52, 53, 54, 55, 56, 57, 97, 98, 99, 100, 101, 102] := rfl
set_option maxRecDepth 100000 in
theorem AAa : Aid 118 2 0 := ⟨by decide, by kernel_rfl⟩

theorem OO {l : List UInt8} : bl (str l) = l := by simp [bl, str]
theorem AEC {l : List UInt8} {n : Nat} {arr a : TV} {v : Nat} {G : List Ob} (hn : n = l.length) (ha : Ac8 1 0 [] a) : Bld ([.obj 0 arr, .obj 0 (.agg [a, .os 1 3 v [] 0 n n]), .fact 1 0 118 2, .bld v 5 l] ++ G) 1 0 [] 3 v (.agg [a, .os 1 3 v [] 0 n n]) l :=
 hn ▸   ⟨rfl, ⟨a, ha, rfl⟩, rfl, by decide, ⟨2, _, _, rfl, AAa⟩⟩
theorem ABS {a b c : TV} (ha : AC a = 1) (hb : AC b = 1) : setP [] (.agg [a, b]) (.agg [.op 1 0 [], c]) = if AC c = 1 then some (.agg [.op 1 0 [], c]) else none := by
 rw [Ii]
 have e : AC (.agg [a, b]) = 2 := by simp [AC, BG, ha, hb]
 have e2 : AC (.agg [.op 1 0 [], c]) = 1 + AC c := by simp [AC, BG]
 rw [e, e2]
 by_cases h : AC c = 1
 ·rw [if_pos h, if_pos (by omega)]
 ·rw [if_neg h, if_neg (by omega)]
theorem Bql {x : UInt8} : ET 5 .shr (.int .u8 (x.toNat : Int)) (.int .u64 ((4 : Nat) : Int)) = some (.int .u8 ((x.toNat / 16 : Nat) : Int)) := ABq (by have := x.toNat_lt; omega) (by omega)
theorem Bqy {x : UInt8} : ET 5 .and (.int .u8 (x.toNat : Int)) (.int .u8 ((15 : Nat) : Int)) = some (.int .u8 ((x.toNat % 16 : Nat) : Int)) := by rw [ABD (by have := x.toNat_lt; omega) (by omega), AEb]
theorem AEx (l : List UInt8) (hl : l.length = 20) : Bj Tryz.prog 30 [.arr 20 1 (l.map by8)] (fun r => r = .val (.string (str (BX l)))) := by
 refine Aw.toPureV (Akd (by simp) ?_)
 simp -dsimp (disch := first | assumption | omega) only [↓Ai, Ae, Ag, Ah, eq_self, Nat.reduceEqDiff, ↓reduceIte, Nat.reduceAdd, ↓AaW]
 refine E9 (fun q e H => ∃ (i v : Nat) (a : TV), q = 20 - i ∧ i ≤ 20 ∧ Ac8 1 0 [] a ∧ e = [(3, .op 1 0 []), (6, .arr 20 1 (l.map by8)), (7, i64 (i : Int))] ∧
  H = [.obj 0 (.arr 20 1 (l.map by8)), .obj 0 (.agg [a, .os 1 3 v [] 0 (BX (l.take i)).length (BX (l.take i)).length]), .fact 1 0 118 2, .bld v 5 (BX (l.take i))]) 20 ?_ ?_
 ·exact ⟨0, 0, _, by simp, by simp, .inl rfl, rfl, by simp [BX]⟩
 ·rintro q e H ⟨i, v, a, rfl, hi, ha, rfl, rfl⟩
  by_cases h : i < 20
  ·have hg : l[i]? = some l[i] := List.getElem?_eq_getElem (by omega)
   have hsucc := List.take_succ_eq_append_getElem (l := l) (i := i) (by omega)
   have hsn := Ajf (l.take i) l[i]
   rw [← hsucc] at hsn
   have hlen : (BX (l.take i)).length = 2 * i := by rw [Ic, List.length_take]; omega
   generalize hr2 : BX (l.take (i + 1)) = r2 at *
   generalize BX (l.take i) = r at *
   generalize l[i] = c at *
   have hc := c.toNat_lt
   have t1 := Alj (c.toNat / 16) (by omega)
   have t2 := Alj (c.toNat % 16) (by omega)
   rw [Axw] at t1 t2
   simp -dsimp (disch := first | assumption | omega) only [↓Ai, Ae, Ag, Ah, eq_self, Nat.reduceEqDiff, ↓reduceIte, ↓AaW, hg, Bql, t1, OO]
   refine AiK (AEC (l := r) (G := []) rfl ha) (by omega) (by rw [ABS (OI ha) rfl]; rfl) (fun x2 h2 => ?_)
   rw [ABS (OI ha) rfl] at h2
   obtain rfl := Option.some.inj h2
   simp -dsimp (disch := first | assumption | omega) only [↓Ai, Ae, Ag, Ah, eq_self, Nat.reduceEqDiff, ↓reduceIte, Bqy, t2, OO]
   refine AiK (AEC (l := r ++ [dig (c.toNat / 16)]) (G := [_]) (by simp) (.inr rfl)) (by simp; omega) (by rw [ABS rfl rfl]; rfl) (fun x2 h2 => ?_)
   rw [ABS rfl rfl] at h2
   obtain rfl := Option.some.inj h2
   simp -dsimp (disch := first | assumption | omega) only [↓Ai, Ae, Ag, Ah, eq_self, Nat.reduceEqDiff, ↓reduceIte, Nat.reduceAdd]
   rw [← hsn]
   exact Amo (20 - (i + 1)) 4 (by omega) (by simp) rfl rfl ⟨i + 1, v + 1 + 1, _, rfl, by omega, .inr rfl, rfl, by rw [hr2, hsn]; simp⟩
  ·have hi2 : i = 20 := by omega
   subst hi2
   have htl : l.take 20 = l := List.take_of_length_le (by omega)
   rw [htl]
   have hl2 : (BX l).length = 40 := by rw [Ic]; omega
   have hw := OI ha
   have hb := Aru
   simp -dsimp (disch := first | assumption | omega) only [↓Ai, Ae, Ag, Ah, eq_self, Nat.reduceLT, Nat.reduceEqDiff, ↓reduceIte, ↓AaW, hb]
end Go.Proofs.YtliaddbbmnfioaaGreatDoor


namespace Go.Proofs.YtliaddbbmnfioaaGreatDoor
open Go.RowKit Go.Extern.Stop Go.Stop Go.Extern
variable [Bf]
set_option linter.unusedSectionVars false


theorem AmG (t : Addr) (w : World) : (ReflectliteValue.unpack (.iface 83 (.pointer (some t)))).run Tryz.prog w
  = .ok (.agg #[.pointer (some ⟨10, 83, none⟩), .pointer (some ⟨w.heap.size, 0, none⟩), .int .u64 150]) (w.alloc (.cells #[.pointer (some t)] 83)) := by kernel_rfl
theorem Auq (a : Addr) (w : World) : (ReflectliteValue.methodAny (ReflectliteValue.valueError "reflectlite.Value.Type" 0) (fun t _ _ _ => ReflectliteType.toType t) #[.agg #[.pointer (some ⟨10, 83, none⟩), .pointer (some a), .int .u64 150]]).run Tryz.prog w
  = .ok (.iface 175 (.agg #[.pointer (some ⟨10, 83, none⟩)])) w := by kernel_rfl
theorem Ak6 (h : Value) (w : World) : (Go.method 384 175 (.agg #[h]) "Kind").run Tryz.prog w = .ok (195, h) w := by kernel_rfl
theorem Atw (w : World) : ((ReflectliteType.abiMethod fun t => (fun a : Nat => Value.int IntKind.u8 (a : Int)) <$> Rtype.kind t) #[.pointer (some ⟨10, 83, none⟩)]).run Tryz.prog w = .ok (.int .u8 22) w := by kernel_rfl
theorem As0 (w : World) : ((ReflectliteType.abiMethod fun t => (fun a : Nat => Value.int IntKind.u8 (a : Int)) <$> Rtype.kind t) #[.pointer (some ⟨10, 34, none⟩)]).run Tryz.prog w = .ok (.int .u8 2) w := by kernel_rfl

theorem rlm (z : Sem Value) (f : TypeId → Addr → Nat → Nat → Sem Value) (v : Value) :
  ReflectliteValue.method z f #[v] = (do match ← ReflectliteValue.parts v with | none => z | some (t, a, fl) => f t a fl (fl % 32)) := rfl
theorem AlU (a : Addr) (w : World) : (ReflectliteValue.parts (.agg #[.pointer (some ⟨10, 83, none⟩), .pointer (some a), .int .u64 150])).run Tryz.prog w = .ok (some (83, a, 150)) w := by kernel_rfl
theorem Apq (a p : Addr) (W : World) (ha : W.cell? a = some (.pointer (some p))) :
  (ReflectliteValue.method (ReflectliteValue.valueError "reflectlite.Value.IsNil" 0) ReflectliteValue.isNil #[.agg #[.pointer (some ⟨10, 83, none⟩), .pointer (some a), .int .u64 150]]).run Tryz.prog W = .ok (.bool false) W := by
 rw [rlm]
 simp only [Sem.run_bind, AlU, Result.andThen]
 simp [ReflectliteValue.isNil, loadVar, isAgg, underlying, Tryz.underlying83, ha, Result.andThen]

theorem Ak2 (h : Value) (w : World) : (Go.method 384 175 (.agg #[h]) "Elem").run Tryz.prog w = .ok (206, .agg #[h]) w := by kernel_rfl
theorem AeM (h : Value) (w : World) : (Go.method 384 175 (.agg #[h]) "Implements").run Tryz.prog w = .ok (207, .agg #[h]) w := by kernel_rfl
theorem AbE (h : Value) (w : World) : (Go.method 384 175 (.agg #[h]) "AssignableTo").run Tryz.prog w = .ok (204, .agg #[h]) w := by kernel_rfl
theorem Auy (w : World) : (ReflectliteType.method ReflectliteType.elem #[.agg #[.pointer (some ⟨10, 83, none⟩)]]).run Tryz.prog w = .ok (.iface 175 (.agg #[.pointer (some ⟨10, 34, none⟩)])) w := by kernel_rfl
theorem Ail (w : World) : (ReflectliteType.relation "Implements" ReflectliteType.implements_ #[.agg #[.pointer (some ⟨10, 34, none⟩)], .iface 175 (.agg #[.pointer (some ⟨10, 31, none⟩)])]).run Tryz.prog w = .ok (.bool true) w := by kernel_rfl
theorem AoC (v : Value) (w : World) : (ReflectliteType.typeOf #[.iface 34 v]).run Tryz.prog w = .ok (.iface 175 (.agg #[.pointer (some ⟨10, 34, none⟩)])) w := by kernel_rfl
theorem Ah9 (w : World) : (ReflectliteType.relation "AssignableTo" ReflectliteType.assignableTo #[.agg #[.pointer (some ⟨10, 34, none⟩)], .iface 175 (.agg #[.pointer (some ⟨10, 34, none⟩)])]).run Tryz.prog w = .ok (.bool true) w := by kernel_rfl
theorem Amk (e : Int) (w : World) : (ReflectliteValue.unpack (.iface 34 (.int .i64 e))).run Tryz.prog w
  = .ok (.agg #[.pointer (some ⟨10, 34, none⟩), .pointer (some ⟨w.heap.size, 0, none⟩), .int .u64 130]) (w.alloc (.cells #[.int .i64 e] 34)) := by kernel_rfl

theorem AoR (w : World) : (Rtype.elem? 83).run Tryz.prog w = .ok (some 34) w := by kernel_rfl
theorem AyT (p : Addr) (w : World) : (ReflectliteValue.mk 34 p ReflectliteValue.flagAddr).run Tryz.prog w = .ok (.agg #[.pointer (some ⟨10, 34, none⟩), .pointer (some p), .int .u64 386]) w := by kernel_rfl
theorem AqL (a p : Addr) (W : World) (ha : W.cell? a = some (.pointer (some p))) :
  (ReflectliteValue.method (ReflectliteValue.valueError "reflectlite.Value.Elem" 0) ReflectliteValue.elem #[.agg #[.pointer (some ⟨10, 83, none⟩), .pointer (some a), .int .u64 150]]).run Tryz.prog W
   = .ok (.agg #[.pointer (some ⟨10, 34, none⟩), .pointer (some p), .int .u64 386]) W := by
 rw [rlm]
 simp only [Sem.run_bind, AlU, Result.andThen]
 simp [ReflectliteValue.elem, loadVar, isAgg, underlying, Tryz.underlying83, ha, Result.andThen, AoR, AyT]
theorem rls (v x : Value) : ReflectliteValue.set #[v, x] = (do
  let (some (dst, a, fl), some (src, b, _)) := (← ReflectliteValue.parts v, ← ReflectliteValue.parts x)
   | unsupported (.noEntry "extern/(internal/reflectlite.Value).Set.zeroValue")
  if fl / ReflectliteValue.flagAddr % 2 == 0 then unsupported (.noEntry "extern/(internal/reflectlite.Value).Set.unaddressable")
  let val ← loadVar src b
  if ← Rtype.directlyAssignable dst src then storeVar dst a val
  else if ← Rtype.implements dst src then
   if (← Rtype.kind src) == 20 then
    match val with
    | .nilIface => unsupported (.noEntry "extern/reflectlite: a nil value of one interface type handed on as a value of another")
    | _ => storeVar dst a val
   else storeVar dst a (.iface src val)
  else panicString ("reflectlite.Set: value of type " ++ (← Rtype.spelt src) ++ " is not assignable to type " ++ (← Rtype.spelt dst))
  pure (.tuple #[])) := rfl
theorem AoE (a : Addr) (w : World) : (ReflectliteValue.parts (.agg #[.pointer (some ⟨10, 34, none⟩), .pointer (some a), .int .u64 386])).run Tryz.prog w = .ok (some (34, a, 386)) w := by kernel_rfl
theorem Ar3 (a : Addr) (w : World) : (ReflectliteValue.parts (.agg #[.pointer (some ⟨10, 34, none⟩), .pointer (some a), .int .u64 130])).run Tryz.prog w = .ok (some (34, a, 130)) w := by kernel_rfl
theorem Aoz (w : World) : (Rtype.directlyAssignable 34 34).run Tryz.prog w = .ok true w := by kernel_rfl
theorem Awl (ta b : Addr) (e : Int) (old : Value) (W : World) (hb : W.cell? b = some (.int .i64 e)) (ht : W.cell? ta = some old) (hf : W.frozen? ta = false) :
  (ReflectliteValue.set #[.agg #[.pointer (some ⟨10, 34, none⟩), .pointer (some ta), .int .u64 386], .agg #[.pointer (some ⟨10, 34, none⟩), .pointer (some b), .int .u64 130]]).run Tryz.prog W
   = .ok (.tuple #[]) (W.setCell ta (.int .i64 e)) := by
 rw [rls]
 simp only [Sem.run_bind, AoE, Ar3, Result.andThen]
 simp [ReflectliteValue.flagAddr, loadVar, isAgg, underlying, Tryz.underlying34, hb, Result.andThen, Aoz, storeVar, Value.cells, storeCells, Addr.add]
 rw [run_store Tryz.prog W ta _ _ (by rfl)]
 simp [ht, hf]

set_option maxHeartbeats 4000000 in
theorem ABe (e : Int) (t : Addr) (old : Value) (w : World) (hg : w.cell? ⟨1, 0, none⟩ = some (.iface 175 (.agg #[.pointer (some ⟨10, 31, none⟩)]))) (ht0 : w.cell? t = some old) (hf0 : w.frozen? t = false) :
  Calls Tryz.prog 31 #[.iface 34 (.int .i64 e), .iface 83 (.pointer (some t))] w fun ev w' => ev = .returned (.bool true) ∧ w' = ((((w.alloc (.cells #[.pointer (some t)] 83)).alloc (.cells #[.pointer (some ⟨10, 83, none⟩), .pointer (some ⟨w.heap.size, 0, none⟩), .int .u64 150] 127)).alloc (.cells #[.pointer (some ⟨10, 83, none⟩), .pointer (some ⟨w.heap.size, 0, none⟩), .int .u64 150] 127)).alloc (.cells #[.int .i64 e] 34)).setCell t (.int .i64 e) := by
 have h6 := @run_callFunc_extern Tryz.prog 64 _ (fun args => ReflectliteValue.unpack (args.getD 0 (.tuple #[]))) Tryz.func64 (by kernel_rfl) (by kernel_rfl) (by kernel_rfl) (by kernel_rfl)
 have h7 := @run_callFunc_extern Tryz.prog 65 _ (ReflectliteValue.methodAny (ReflectliteValue.valueError "reflectlite.Value.Type" 0) (fun t _ _ _ => ReflectliteType.toType t)) Tryz.func65 (by kernel_rfl) (by kernel_rfl) (by kernel_rfl) (by kernel_rfl)
 have h8 := @run_callFunc_extern Tryz.prog 66 _ (ReflectliteValue.method (ReflectliteValue.valueError "reflectlite.Value.IsNil" 0) ReflectliteValue.isNil) Tryz.func66 (by kernel_rfl) (by kernel_rfl) (by kernel_rfl) (by kernel_rfl)
 have h27 := @run_callFunc_extern Tryz.prog 195 _ (ReflectliteType.abiMethod fun t => do pure (.int .u8 (← Rtype.kind t))) Tryz.func195 (by kernel_rfl) (by kernel_rfl) (by kernel_rfl) (by kernel_rfl)
 have h37 := @run_callFunc_extern Tryz.prog 206 _ (ReflectliteType.method ReflectliteType.elem) Tryz.func206 (by kernel_rfl) (by kernel_rfl) (by kernel_rfl) (by kernel_rfl)
 have h38 := @run_callFunc_extern Tryz.prog 207 _ (ReflectliteType.relation "Implements" ReflectliteType.implements_) Tryz.func207 (by kernel_rfl) (by kernel_rfl) (by kernel_rfl) (by kernel_rfl)
 have h10 := @run_callFunc_extern Tryz.prog 102 _ ReflectliteType.typeOf Tryz.func102 (by kernel_rfl) (by kernel_rfl) (by kernel_rfl) (by kernel_rfl)
 have h35 := @run_callFunc_extern Tryz.prog 204 _ (ReflectliteType.relation "AssignableTo" ReflectliteType.assignableTo) Tryz.func204 (by kernel_rfl) (by kernel_rfl) (by kernel_rfl) (by kernel_rfl)
 have h11 := @run_callFunc_extern Tryz.prog 103 _ (ReflectliteValue.method (ReflectliteValue.valueError "reflectlite.Value.Elem" 0) ReflectliteValue.elem) Tryz.func103 (by kernel_rfl) (by kernel_rfl) (by kernel_rfl) (by kernel_rfl)
 have h12 := @run_callFunc_extern Tryz.prog 104 _ ReflectliteValue.set Tryz.func104 (by kernel_rfl) (by kernel_rfl) (by kernel_rfl) (by kernel_rfl)
 have tO := AoC
 have mA := AbE
 have a25 := Ah9
 have v25 := Amk
 have f6 := AmG
 have f7 := Auq
 have mK := Ak6
 have mE := Ak2
 have mI := AeM
 have k27 := Atw
 have k25 := As0
 have e27 := Auy
 have i25 := Ail
 have n8 := Apq ⟨w.heap.size, 0, none⟩ t ((w.alloc (.cells #[.pointer (some t)] 83)).alloc (.cells #[.pointer (some ⟨10, 83, none⟩), .pointer (some ⟨w.heap.size, 0, none⟩), .int .u64 150] 127)) (by simp)
 have hlt : 1 < w.heap.size := by
  rcases Nat.lt_or_ge 1 w.heap.size with h | h
  ·exact h
  ·simp [World.cell?, Array.getElem?_eq_none h] at hg
 have hg2 : ((w.alloc (.cells #[.pointer (some t)] 83)).alloc (.cells #[.pointer (some ⟨10, 83, none⟩), .pointer (some ⟨w.heap.size, 0, none⟩), .int .u64 150] 127)).cell? ⟨1, 0, none⟩ = some (.iface 175 (.agg #[.pointer (some ⟨10, 31, none⟩)])) := by
  rw [World.cell?_alloc_lt _ _ ⟨1, 0, none⟩ (Nat.lt_of_lt_of_le hlt (by simp)), World.cell?_alloc_lt _ _ ⟨1, 0, none⟩ hlt]; exact hg
 have htl : t.block < w.heap.size := by
  rcases Nat.lt_or_ge t.block w.heap.size with h | h
  ·exact h
  ·simp [World.cell?, Array.getElem?_eq_none h] at ht0
 have el := AqL ⟨w.heap.size, 0, none⟩ t (((w.alloc (.cells #[.pointer (some t)] 83)).alloc (.cells #[.pointer (some ⟨10, 83, none⟩), .pointer (some ⟨w.heap.size, 0, none⟩), .int .u64 150] 127)).alloc (.cells #[.pointer (some ⟨10, 83, none⟩), .pointer (some ⟨w.heap.size, 0, none⟩), .int .u64 150] 127)) (by rw [World.cell?_alloc_lt _ _ ⟨w.heap.size, 0, none⟩ (by simp; omega)]; simp)
 have st := Awl t ⟨w.heap.size + 1 + 1 + 1, 0, none⟩ e old ((((w.alloc (.cells #[.pointer (some t)] 83)).alloc (.cells #[.pointer (some ⟨10, 83, none⟩), .pointer (some ⟨w.heap.size, 0, none⟩), .int .u64 150] 127)).alloc (.cells #[.pointer (some ⟨10, 83, none⟩), .pointer (some ⟨w.heap.size, 0, none⟩), .int .u64 150] 127)).alloc (.cells #[.int .i64 e] 34))
  (by rw [World.cell?_alloc_at _ _ _ _ (by simp)]; rfl)
  (by rw [World.cell?_alloc_lt _ _ t (by simp; omega), World.cell?_alloc_lt _ _ t (by simp; omega), World.cell?_alloc_lt _ _ t (by simp; omega), World.cell?_alloc_lt _ _ t htl]; exact ht0)
  (by rw [World.frozen?_alloc_old _ _ t (by simp; omega), World.frozen?_alloc_old _ _ t (by simp; omega), World.frozen?_alloc_old _ _ t (by simp; omega), World.frozen?_alloc_old _ _ t (Nat.ne_of_lt htl)]; exact hf0)
 go_enter Tryz.func31, Tryz.ntmps31
 go_wp2
 refine wp_loop_rounds 1 ?_
 rw [rounds_succ]
 go_wp2
 go_ret
 exact ⟨rfl, rfl⟩
end Go.Proofs.YtliaddbbmnfioaaGreatDoor


namespace Go.Proofs.YtliaddbbmnfioaaGreatDoor
variable [Bf]
set_option linter.unusedSectionVars false
set_option linter.unusedVariables false
set_option linter.defProp false
set_option maxRecDepth 100000

def Ajc : Af := .seq (.ops [po_ 2 (.mov (ci_ 0))] [0])
 (.seq (.ops [so_ 3 (.alloc (.val (.int .i64 ((0 : Nat) : Int))))] [0, 3])
 (.seq (.block 0 (.seq (.ops [mv_ 5 0,
  po_ 6 (.eqN 1 (.t 5) (.c .nilIface) false),
  mv_ 4 6] [0, 3, 4])
 (.cond (.t 4)
 (.seq (.ops [po_ 2 (.mov (ci_ 0))] [2])
  (.ret))
 (.seq (.ops [mv_ 8 0,
   po_ 9 (.iface 83 (.t 3)),
   so_ 10 (.call 31 [.t 8, .t 9]),
   mv_ 7 10] [3, 7])
  (.cond (.t 7)
  (.seq (.ops [po_ 11 (.load false 1 (.t 3)),
    mv_ 2 11] [2])
   (.ret))
  (.skip))))))
 (.seq (.ops [po_ 2 (.mov (.c (.int .i64 (-1))))] [2])
 (.ret))))
def AiU : List VR := [.tmp 2]
theorem AoW : Tryz.f8.body.bind (trC Tryz.prog Tryz.f8.ntmps) = some (er Ajc) := by kernel_rfl
theorem Aol : trR Tryz.prog Tryz.f8.results.toList = some AiU := by kernel_rfl
def AkN := Aa Ajc.eq_1
theorem AkK {K : TV → Prop} {e : Env} {H : List Ob} : res AiU e H K = res [.tmp 2] e H K := Ac rfl
def Af6 := (And.intro @AkN @AkK)
def Ahl := DD 12 Tryz.func8 AoW Aol rfl

def AaR : Af := .seq (.ops [mv_ 13 4,
  mv_ 14 3,
  po_ 15 (.idxA 1 (.t 13) (.t 14)),
  ⟨none, .s (.store 1 (.t 15) (.c (.int .u8 ((71 : Nat) : Int)))), none⟩] [3, 4])
 (.seq (.ops [mv_ 16 4,
  mv_ 17 3,
  po_ 18 (.bin 3 .add (.t 17) (ci_ 1)),
  po_ 19 (.idxA 1 (.t 16) (.t 18)),
  ⟨none, .s (.store 1 (.t 19) (.c (.int .u8 ((72 : Nat) : Int)))), none⟩] [3, 4])
 (.seq (.ops [mv_ 20 4,
  mv_ 21 3,
  po_ 22 (.slV 1 (.t 20) none (some (.t 21))),
  mv_ 2 22] [2])
 (.ret)))
def Aay : Af := .seq (.ops [mv_ 10 4,
  mv_ 11 0,
  so_ 12 (.copy 1 (.t 10) (.t 11))] [3, 4])
 AaR
def AaV : Af := .seq (.ops [mv_ 7 3,
  po_ 8 (.bin 3 .add (.t 7) (ci_ 2)),
  so_ 9 (.mks 1 1 (.val (.int .u8 ((0 : Nat) : Int))) (.t 8) (.t 8)),
  mv_ 4 9] [0, 3, 4])
 Aay
def Z4 : Af := .seq (.ops [mv_ 5 0,
  po_ 6 (.lenV (.t 5)),
  mv_ 3 6] [0, 3])
 AaV
def Agu : Af := .seq (.ops [po_ 2 (.mov (.c (.slice none 0 0)))] [0])
 Z4
def Agl : List VR := [.tmp 2]
theorem AkX : Tryz.f37.body.bind (trC Tryz.prog Tryz.f37.ntmps) = some (er Agu) := by kernel_rfl
theorem AkS : trR Tryz.prog Tryz.f37.results.toList = some Agl := by kernel_rfl
def AfE := Aa AaR.eq_1
def Afw := Aa Aay.eq_1
def AfK := Aa AaV.eq_1
def AfY := Aa Z4.eq_1
def Aif := Aa Agu.eq_1
theorem Ait {K : TV → Prop} {e : Env} {H : List Ob} : res Agl e H K = res [.tmp 2] e H K := Ac rfl
def Als := (And.intro (And.intro (And.intro @AfE @Afw) (And.intro @AfK @AfY)) (And.intro @Aif @Ait))
def Ako := DD 23 Tryz.func37 AkX AkS rfl

def Aa7 : Af := .seq (.seq (.ops [mv_ 36 8,
  mv_ 37 6,
  po_ 38 (.lenV (.t 37)),
  po_ 39 (.bin 3 .lss (.t 36) (.t 38))] [6, 7, 8, 39])
 (.cond (.t 39)
 (.skip)
 (.exit 0)))
 (.seq (.block 1 (.ops [mv_ 42 6,
  mv_ 43 8,
  mv_ 44 6,
  mv_ 45 8,
  po_ 46 (.idxA 1 (.t 44) (.t 45)),
  po_ 47 (.load false 1 (.t 46)),
  po_ 48 (.bin 5 .xor (.t 47) (.c (.int .u8 ((85 : Nat) : Int)))),
  po_ 49 (.idxA 1 (.t 42) (.t 43)),
  ⟨none, .s (.store 1 (.t 49) (.t 48)), none⟩] [6, 7, 8]))
 (.ops [mv_ 40 8,
  po_ 41 (.bin 3 .add (.t 40) (ci_ 1)),
  mv_ 8 41] [6, 7, 8]))
def AaG : Af := .block 0 (.loop [6, 7, 8] Aa7)
def Z9 : Af := .seq (.ops [mv_ 50 7,
  mv_ 4 50] [4])
 (.ret)
def Aac : Af := .seq (.seq (.ops [po_ 8 (.mov (ci_ 0))] [6, 7, 8])
 AaG)
 Z9
def Aaz : Af := .seq (.ops [mv_ 20 7,
  mv_ 21 20,
  ⟨some 22, .p (.mov (.t 6)), some ⟨21, true⟩⟩,
  ⟨some 23, .p (.mov (.t 5)), some ⟨21, true⟩⟩,
  ⟨some 24, .p (.idxA 1 (.t 22) (.t 23)), some ⟨21, true⟩⟩,
  ⟨some 25, .p (.load false 1 (.t 24)), some ⟨21, true⟩⟩,
  ⟨some 26, .p (.bin 5 .eql (.t 25) (.c (.int .u8 ((71 : Nat) : Int)))), some ⟨21, true⟩⟩,
  po_ 27 (.pick (.t 21) (.t 26) (.c (.bool false))),
  mv_ 28 27,
  ⟨some 29, .p (.mov (.t 6)), some ⟨28, true⟩⟩,
  ⟨some 30, .p (.mov (.t 5)), some ⟨28, true⟩⟩,
  ⟨some 31, .p (.bin 3 .add (.t 30) (ci_ 1)), some ⟨28, true⟩⟩,
  ⟨some 32, .p (.idxA 1 (.t 29) (.t 31)), some ⟨28, true⟩⟩,
  ⟨some 33, .p (.load false 1 (.t 32)), some ⟨28, true⟩⟩,
  ⟨some 34, .p (.bin 5 .eql (.t 33) (.c (.int .u8 ((72 : Nat) : Int)))), some ⟨28, true⟩⟩,
  po_ 35 (.pick (.t 28) (.t 34) (.c (.bool false))),
  mv_ 7 35] [6, 7])
 Aac
def Aal : Af := .seq (.ops [mv_ 15 6,
  mv_ 16 5,
  po_ 17 (.slV 1 (.t 15) none (some (.t 16))),
  mv_ 18 1,
  so_ 19 (.call 11 [.t 17, .t 18]),
  mv_ 7 19] [5, 6, 7])
 Aaz
def Aaj : Af := .seq (.ops [mv_ 11 0,
  mv_ 12 5,
  po_ 13 (.bin 3 .add (.t 12) (ci_ 2)),
  po_ 14 (.slV 1 (.t 11) none (some (.t 13))),
  mv_ 6 14] [1, 5, 6])
 Aal
def Aa0 : Af := .seq (.ops [mv_ 9 1,
  po_ 10 (.lenV (.t 9)),
  mv_ 5 10] [0, 1, 5])
 Aaj
def Agf : Af := .seq (.ops [po_ 4 (.mov (.c (.bool false)))] [0, 1])
 Aa0
def Agk : List VR := [.tmp 4]
theorem Alm : Tryz.f39.body.bind (trC Tryz.prog Tryz.f39.ntmps) = some (er Agf) := by kernel_rfl
theorem AlS : trR Tryz.prog Tryz.f39.results.toList = some Agk := by kernel_rfl
def AfQ := Aa Aa7.eq_1
def AfO := Aa AaG.eq_1
def AfX := Aa Z9.eq_1
def Afl := Aa Aac.eq_1
def Afk := Aa Aaz.eq_1
def AfH := Aa Aal.eq_1
def Aft := Aa Aaj.eq_1
def AfA := Aa Aa0.eq_1
def Aib := Aa Agf.eq_1
theorem Aiy {K : TV → Prop} {e : Env} {H : List Ob} : res Agk e H K = res [.tmp 4] e H K := Ac rfl
def TZ := (And.intro (And.intro (And.intro (And.intro @AfQ @AfO) (And.intro @AfX @Afl)) (And.intro (And.intro @Afk @AfH) (And.intro @Aft @AfA))) (And.intro @Aib @Aiy))
def Aj5 := DD 51 Tryz.func39 Alm AlS rfl

def Ab6 : Af := .seq (.block 1 (.seq (.draw 4 [mv_ 17 0,
  mv_ 18 5,
  po_ 19 (.idxA 1 (.t 17) (.t 18)),
  po_ 20 (.load false 1 (.t 19)),
  mv_ 21 1,
  mv_ 22 5,
  po_ 23 (.idxA 1 (.t 21) (.t 22)),
  po_ 24 (.load false 1 (.t 23)),
  po_ 25 (.bin 5 .neq (.t 20) (.t 24))] [0, 1, 5, 25])
 (.cond (.t 25)
 (.seq (.ops [po_ 4 (.mov (.c (.bool false)))] [4])
  (.ret))
 (.skip))))
 (.ops [mv_ 15 5,
  po_ 16 (.bin 3 .add (.t 15) (ci_ 1)),
  mv_ 5 16] [0, 1, 5])
def AbW : Af := .seq (.seq (.ops [mv_ 11 5,
  mv_ 12 0,
  po_ 13 (.lenV (.t 12)),
  po_ 14 (.bin 3 .lss (.t 11) (.t 13))] [0, 1, 5, 14])
 (.cond (.t 14)
 (.skip)
 (.exit 0)))
 Ab6
def Ab8 : Af := .block 0 (.loop [0, 1, 5] AbW)
def Ab7 : Af := .seq (.ops [po_ 4 (.mov (.c (.bool true)))] [4])
 (.ret)
def Aca : Af := .seq (.seq (.ops [po_ 5 (.mov (ci_ 0))] [0, 1, 5])
 Ab8)
 Ab7
def Ab3 : Af := .seq (.seq (.ops [mv_ 6 0,
  po_ 7 (.lenV (.t 6)),
  mv_ 8 1,
  po_ 9 (.lenV (.t 8)),
  po_ 10 (.bin 3 .neq (.t 7) (.t 9))] [0, 1, 10])
 (.cond (.t 10)
 (.seq (.ops [po_ 4 (.mov (.c (.bool false)))] [4])
  (.ret))
 (.skip)))
 Aca
def AhZ : Af := .seq (.ops [po_ 4 (.mov (.c (.bool false)))] [0, 1])
 Ab3
def Ahw : List VR := [.tmp 4]
theorem AmP : Tryz.f11.body.bind (trC Tryz.prog Tryz.f11.ntmps) = some (er AhZ) := by kernel_rfl
theorem Am8 : trR Tryz.prog Tryz.f11.results.toList = some Ahw := by kernel_rfl
def AgY := Aa Ab6.eq_1
def AgE := Aa AbW.eq_1
def AgW := Aa Ab8.eq_1
def AgH := Aa Ab7.eq_1
def AgL := Aa Aca.eq_1
def AgT := Aa Ab3.eq_1
def Ajx := Aa AhZ.eq_1
theorem AjJ {K : TV → Prop} {e : Env} {H : List Ob} : res Ahw e H K = res [.tmp 4] e H K := Ac rfl
def Tc := (And.intro (And.intro (And.intro @AgY @AgE) (And.intro @AgW @AgH)) (And.intro (And.intro @AgL @AgT) (And.intro @Ajx @AjJ)))
def Ak1 := DD 26 Tryz.func11 AmP Am8 rfl

end Go.Proofs.YtliaddbbmnfioaaGreatDoor


namespace Go.Proofs.YtliaddbbmnfioaaGreatDoor
open Go.RowKit
variable [Bf] [Dz]
set_option linter.unusedSectionVars false
set_option linter.unusedVariables false
set_option linter.unusedSimpArgs false

theorem YU.refl {F : Nat → Prop} {w : World} (h : ∀ b, F b → b < w.heap.size) : YU F w F w := ⟨rfl, rfl, rfl, Nat.le_refl _, fun _ _ => rfl, fun _ h => h, fun _ _ h => h, h⟩
theorem YU.alloc {F F' : Nat → Prop} {w w' : World} (h : YU F w F' w') (o : Obj) : YU F w F' (w'.alloc o) :=
 ⟨h.os, h.tape, h.output, by have := h.size; simp; omega, fun b hb => (Dn w' o (Nat.lt_of_lt_of_le hb h.size)).trans (h.same b hb), h.keepF, h.oldF, fun b hb => by have := h.ltF b hb; simp; omega⟩
abbrev eno (n : Int) : TV := .ifc 34 (i64 n)

theorem Aut {n : Int} {id ver : Nat} {p : List (Nat × Nat)} {x x' : TV} {H : List Ob} {K : TV → List Ob → Prop} (ho : H[id]? = some (.obj ver x)) (hs2 : setP p x (i64 n) = some x') (hk : K (tb true) (H.set id (.obj ver x'))) :
  Aw Tryz.prog 31 [eno n, .ifc 83 (.op id ver p)] H K := by
 intro β F w vs hs hv
 obtain ⟨u, us, rfl, h1, h2⟩ := BU.cons.1 hv
 obtain ⟨u2, us2, rfl, h3, h4⟩ := BU.cons.1 h2
 rw [BU.nil] at h4; subst h4
 -- the two arguments
 have e1 : u = .iface 34 (.int .i64 n) := by
  rcases h1 with h | h | ⟨xs0, h, rfl⟩
  ·cases h
  ·cases h
  ·rw [Am] at h
   obtain ⟨v, rfl, vs, h, rfl⟩ := h
   rw [Am] at h
   obtain ⟨rfl, _⟩ := h
   rfl
 obtain ⟨b, o, hbo, rfl⟩ : ∃ b o, β id ver = some (b, o) ∧ u2 = .iface 83 (.pointer (some ⟨b, o + DT p, none⟩)) := by
  rcases h3 with h | h | ⟨xs0, h, rfl⟩
  ·cases h
  ·cases h
  ·rw [Am] at h
   obtain ⟨v, rfl, vs, h, rfl⟩ := h
   rw [Am] at h
   obtain ⟨_, b, o, hb, rfl⟩ := h
   exact ⟨b, o, hb, rfl⟩
 subst e1
 have hgl := hs.glob.at Dz.k
 have hg : w.cell? ⟨1, 0, none⟩ = some (.iface 175 (.agg #[.pointer (some ⟨10, 31, none⟩)])) := hgl 0 _ rfl
 have hrow : ∀ c w, Am c w (i64 n) [.int .i64 n] := fun c w => by rw [Am]; exact ⟨rfl, rfl⟩
 obtain ⟨_, _, ht⟩ := hs.store ho hbo hs2 (hrow _ _)
 obtain ⟨t1, t2⟩ := ht 0 (by simp)
 obtain ⟨old, hold⟩ := Option.isSome_iff_exists.1 t1
 refine (ABe n ⟨b, o + DT p, none⟩ old w hg hold t2).mono ?_
 rintro e w' ⟨rfl, rfl⟩
 have hst := ((((YU.refl (F := F) hs.lt).alloc (.cells #[.pointer (some ⟨b, o + DT p, none⟩)] 83)).alloc (.cells #[.pointer (some ⟨10, 83, none⟩), .pointer (some ⟨w.heap.size, 0, none⟩), .int .u64 150] 127)).alloc (.cells #[.pointer (some ⟨10, 83, none⟩), .pointer (some ⟨w.heap.size, 0, none⟩), .int .u64 150] 127)).alloc (.cells #[.int .i64 n] 34)
 obtain ⟨k1, k2, _⟩ := (hst.sim hs).store ho hbo hs2 (hrow _ _)
 exact ⟨_, tb true, β, _, F, rfl, hk, k1, hst.later.trans k2, Rep.of_val⟩
theorem AEW {n : Int} : Bj Tryz.prog 8 [eno n] (fun x => x = i64 n) := by
 refine Aw.toPureV (Ahl (by simp) ?_)
 simp -dsimp (disch := first | assumption | omega) only [↓Ai, Ae, Ag, Ah, eq_self, Nat.reduceEqDiff, ↓reduceIte, reduceCtorEq, ↓Af6]
 refine Aut (x := i64 ((0 : Nat) : Int)) (x' := i64 n) rfl (by rw [Ii]; rfl) ?_
 simp -dsimp (disch := first | assumption | omega) only [↓Ai, Ae, Ag, Ah, eq_self, Nat.reduceEqDiff, ↓reduceIte, reduceCtorEq, ↓Af6]
theorem AzO : Bj Tryz.prog 8 [.val .nilIface] (fun x => x = i64 ((0 : Nat) : Int)) := by
 refine Aw.toPureV (Ahl (by simp) ?_)
 simp -dsimp (disch := first | assumption | omega) only [↓Ai, Ae, Ag, Ah, eq_self, Nat.reduceEqDiff, ↓reduceIte, reduceCtorEq, ↓Af6]
end Go.Proofs.YtliaddbbmnfioaaGreatDoor


namespace Go.Proofs.YtliaddbbmnfioaaGreatDoor
open Go.RowKit
variable [Bf]
set_option linter.unusedSectionVars false
set_option linter.unusedVariables false
set_option linter.unusedSimpArgs false

theorem Av7 {K : TV → Prop} [Tg K] (x : TV) (h : K x) : vex K := ⟨x, h⟩
theorem Awd (n : Nat) (h : n < 16) : Bj Tryz.prog 70 [.val (.int .u8 (n : Int))] (fun r => r = by8 (dig n)) := by
 refine Aw.toPureV (Akp (by simp) ?_)
 by_cases h1 : n < 10
 ·simp -dsimp (disch := first | assumption | omega) only [↓Ai, Ae, Ag, Ah, eq_self, ↓reduceIte, reduceCtorEq, ↓Aao, Af8]
  have e : (48 + n) % 256 = 48 + n := by omega
  rw [e, Ano (by omega)]
  unfold dig; rw [if_pos h1]
 ·simp -dsimp (disch := first | assumption | omega) only [↓Ai, Ae, Ag, Ah, eq_self, ↓reduceIte, reduceCtorEq, ↓Aao, Af8]
  have e : (97 + n) % 256 = 97 + n := by omega
  rw [e]
  simp -dsimp (disch := first | assumption | omega) only [↓Ai, Ae, Ag, Ah, eq_self, ↓reduceIte, ↓Aao, Zd]
  have e2 : 97 + n - 10 = 87 + n := by omega
  rw [e2, Ano (by omega)]
  unfold dig; rw [if_neg h1]
theorem AC7 {x : UInt8} : ET 5 .quo (.int .u8 (x.toNat : Int)) (.int .u8 ((16 : Nat) : Int)) = some (.int .u8 ((x.toNat / 16 : Nat) : Int)) := Azz (by omega) (by have := x.toNat_lt; omega)
theorem BqA {a b : TV} : ((List.replicate 2 (TV.val (Value.int IntKind.u8 ((0 : Nat) : Int)))).set 0 a).set 1 b = [a, b] := by simp [List.replicate]
theorem ApO (l : List UInt8) (hl : l.length = 20) : Bj Tryz.prog 36 [.arr 20 1 (l.map by8)] (fun r => r = .val (.string (str (BX l)))) := by
 refine Aw.toPureV (Am4 (by simp) ?_)
 simp -dsimp (disch := first | assumption | omega) only [↓Ai, Ae, Ag, Ah, eq_self, Nat.reduceEqDiff, ↓reduceIte, ↓AfT]
 refine E9 (fun q e H => ∃ (i v : Nat), q = 20 - i ∧ i ≤ 20 ∧ e = [(1, .op 0 0 []), (3, .os 1 1 v [] 0 (2 * i) (2 * i)), (4, i64 (i : Int))] ∧
  H = [.obj 0 (.arr 20 1 (l.map by8)), .obj v (.arr (2 * i) 1 ((BX (l.take i)).map by8))]) 20 ?_ ?_
 ·exact ⟨0, 0, by simp, by simp, rfl, by simp [BX]⟩
 ·rintro q e H ⟨i, v, rfl, hi, rfl, rfl⟩
  by_cases h : i < 20
  ·have hg : l[i]? = some l[i] := List.getElem?_eq_getElem (by omega)
   have hsucc := List.take_succ_eq_append_getElem (l := l) (i := i) (by omega)
   have hsn := Ajf (l.take i) l[i]
   rw [← hsucc] at hsn
   have hlen : (BX (l.take i)).length = 2 * i := by rw [Ic, List.length_take]; omega
   generalize hr2 : BX (l.take (i + 1)) = r2 at *
   generalize BX (l.take i) = r at *
   generalize l[i] = c at *
   have hc := c.toNat_lt
   have htk : (r.map by8).take (2 * i) = r.map by8 := List.take_of_length_le (by simp [hlen])
   have htk2 : r.take (2 * i) = r := List.take_of_length_le (by omega)
   simp -dsimp (disch := first | assumption | omega) only [↓Ai, Ae, Ag, Ah, eq_self, Nat.reduceEqDiff, ↓reduceIte, ↓AfT, hg, AC7]
   refine Av7 (by8 (dig (c.toNat / 16))) ⟨(Awd _ (by omega)).calls rfl (fun x hx => ⟨hx, rfl⟩), ?_⟩
   simp -dsimp (disch := first | assumption | omega) only [↓Ai, Ae, Ag, Ah, eq_self, Nat.reduceEqDiff, ↓reduceIte, hg]
   refine (Awd _ (by omega)).calls rfl ?_
   rintro x rfl
   have t2 : [by8 (dig (c.toNat / 16)), by8 (dig (c.toNat % 16))].take 2 = [by8 (dig (c.toNat / 16)), by8 (dig (c.toNat % 16))] := rfl
   simp -dsimp (disch := first | assumption | omega) only [↓Ai, Ae, Ag, Ah, eq_self, Nat.reduceEqDiff, ↓reduceIte, Nat.reduceAdd, Nat.reduceLeDiff, BqA, htk, t2]
   refine Amo (20 - (i + 1)) 2 (by omega) (by simp) rfl (by simp [Ae7, Ala, P6]) ⟨i + 1, v + 1, rfl, by omega, ?_, ?_⟩
   ·have : 2 * (i + 1) = 2 * i + 2 := by omega
    rw [this]; rfl
   ·have : 2 * (i + 1) = 2 * i + 2 := by omega
    rw [this, hr2, hsn]; simp
  ·have hi2 : i = 20 := by omega
   subst hi2
   have htl : l.take 20 = l := List.take_of_length_le (by omega)
   have hlen : (BX l).length = 40 := by rw [Ic]; omega
   rw [htl]
   have htk : ((BX l).map by8).take (2 * 20) = (BX l).map by8 := List.take_of_length_le (by simp [hlen])
   have htk2 : (BX l).take (2 * 20) = BX l := List.take_of_length_le (by omega)
   simp -dsimp (disch := first | assumption | omega) only [↓Ai, Ae, Ag, Ah, eq_self, Nat.reduceLT, Nat.reduceEqDiff, Nat.reduceMul, ↓reduceIte, ↓AfT, htk]
end Go.Proofs.YtliaddbbmnfioaaGreatDoor

