/- ObjectTreesCard: the law, proved out of contracts of the functions that it reaches (texts merged; names shortened by a program). No condition is laid on it. -/
import Derived.Test.YtliaddbbmnfioaaGreatDoorQE
import Derived.Test.YtliaddbbmnfioaaGreatDoorQD
import Derived.Sort.Walk0
import Derived.Lib.Bytealg
import Derived.Test.YtliaddbbmnfioaaGreatDoorProg
import Derived.KernelRfl
import Derived.Lib.SlTrimSet
import Derived.WalkKit
import Derived.Lib.Builder
import Derived.Lib.UnsafeStr
import Derived.Laws.Externs
import Derived.Shelf.RegionOpenPlain
import Derived.Shelf.Lay
import Derived.LaidEql
import Derived.Stop.Asserts
import Derived.RowKitTokens
import Derived.Laws.Cover1
import Derived.Shelf.SlSortCmp.NoneTotal
import Derived.Ground.SlsfProg
import Derived.SevenTiedAt
import Derived.Test.YtliaddbbmnfioaaGreatDoorCards
import Derived.Test.YtliaddbbmnfioaaGreatDoorTie
import Derived.Test.YtliaddbbmnfioaaGreatDoorRows
import Derived.ProofKit
import Derived.OpenShut
import Derived.ShutString
import Derived.ChangeOld
import Derived.Below
import Derived.SizedLaws
import Derived.ChangeVars
import Derived.LaidLaws
import Derived.LaidHandle
import Derived.Stop.Joined
import Derived.Stop.LaidErr
import Derived.ClosedOfChecked
namespace Go.Proofs.YtliaddbbmnfioaaGreatDoor
open Go.RowKit
variable [AFq]
set_option linter.unusedSectionVars false
set_option linter.unusedVariables false
set_option linter.unusedSimpArgs false
def AVN : Nat → Nat → List UInt8
 | 0, _ => []
 | f + 1, u => if u < 8 then [UInt8.ofNat (48 + u)] else AVN f (u / 8) ++ [UInt8.ofNat (48 + u % 8)]
theorem A90 {z a : TV} {n : Nat} {R : List TV} : (List.replicate (n + 1) z ++ R).set n a = List.replicate n z ++ a :: R := by
 rw [List.replicate_succ', List.append_assoc, List.set_append_right _ _ (by simp)]
 simp
theorem A9E : ∀ k, k < 8 → (bl (str [48, 49, 50, 51, 52, 53, 54, 55, 56, 57, 97, 98, 99, 100, 101, 102, 103, 104, 105, 106, 107, 108, 109, 110, 111, 112, 113, 114, 115, 116, 117, 118, 119, 120, 121, 122]))[k]? = some (UInt8.ofNat (48 + k)) := by decide
theorem BiJ (u : Nat) : u &&& 7 = u % 8 := Nat.and_two_pow_sub_one_eq_mod u 3
theorem A18 {t : TypeId} {a b : Nat} (h1 : a < 18446744073709551616) (h2 : b < 18446744073709551616) : AHJ t .and (.int .u64 (a : Int)) (.int .u64 (b : Int)) = some (.int .u64 ((a &&& b : Nat) : Int)) := by
 show some (Value.int .u64 (bits .and .u64 (a : Int) (b : Int))) = _
 rw [bits_and_u64_nat a b h1 h2]
variable [AFp]
theorem BeO : ∃ l : List TV, AFy.tv = .arr 64 1 l ∧ l.length = 64 ∧ l[7]? = some (.val (.int .u8 ((3 : Nat) : Int))) := ⟨_, rfl, rfl, rfl⟩
theorem tz8 : AF9 Tryz.prog 177 [.val (.int .u64 ((8 : Nat) : Int))] (fun r => r = i64 ((3 : Nat) : Int)) := by
 refine AFl.toPureV (AMY (by simp) ?_)
 have hg := AFp.k
 have h1 : unV .neg (.int .u64 ((8 : Nat) : Int)) = some (.int .u64 ((18446744073709551608 : Nat) : Int)) := rfl
 have h2 : ∀ t, AHJ t .and (.int .u64 ((8 : Nat) : Int)) (.int .u64 ((18446744073709551608 : Nat) : Int)) = some (.int .u64 ((8 : Nat) : Int)) := fun t => by
  rw [A18 (by decide) (by decide)]; rfl
 have h3 : ∀ t, AHJ t .mul (.int .u64 ((8 : Nat) : Int)) (.int .u64 ((285870213051353865 : Nat) : Int)) = some (.int .u64 ((2286961704410830920 : Nat) : Int)) := fun t => by
  rw [A2b (by decide)]
 have h4 : ∀ t, AHJ t .shr (.int .u64 ((2286961704410830920 : Nat) : Int)) (.int .u64 ((58 : Nat) : Int)) = some (.int .u64 ((7 : Nat) : Int)) := fun t => by
  rw [A2z (by decide)]
 simp -dsimp (disch := first | assumption | omega | (simp only [AFa]; done) | (simp only [AFa]; omega)) only [↓AFe, AFb, AFd, AFc, eq_self, Nat.reduceEqDiff, ↓reduceIte, reduceCtorEq, ↓AMj, ↓AKf, h1, h2, h3, h4]
 obtain ⟨l, e1, e2, e3⟩ := BeO
 have hw : IntKind.i64.wrap ((3 : Nat) : Int) = ((3 : Nat) : Int) := by decide
 simp -dsimp (disch := first | assumption | omega | (simp only [AFa]; done) | (simp only [AFa]; omega)) only [↓AFe, AFb, AFd, AFc, eq_self, ↓reduceIte, hg, e1, e3, hw, ↓AMh]
theorem Biu : AF9 Tryz.prog 162 [.val (.int .u64 ((8 : Nat) : Int))] (fun r => r = i64 ((3 : Nat) : Int)) := by
 refine AFl.toPureV (AN1 (by simp) ?_)
 simp -dsimp (disch := first | assumption | omega | (simp only [AFa]; done) | (simp only [AFa]; omega)) only [↓AFe, AFb, AFd, AFc, eq_self, ↓reduceIte, reduceCtorEq, ↓ANG]
 refine tz8.calls rfl fun r hr => ?_
 subst hr
 simp -dsimp (disch := first | assumption | omega | (simp only [AFa]; done) | (simp only [AFa]; omega)) only [↓AFe, AFb, AFd, AFc, eq_self, ↓reduceIte, ↓ANA]
omit [AFp] in
theorem BcN : AF9 Tryz.prog 161 [i64 ((8 : Nat) : Int)] (fun r => r = tb true) := by
 refine AFl.toPureV (AKh (by simp) ?_)
 have h2 : ∀ t, AHJ t .and (.int .i64 ((8 : Nat) : Int)) (.int .i64 ((7 : Nat) : Int)) = some (.int .i64 ((0 : Nat) : Int)) := fun t => rfl
 simp -dsimp (disch := first | assumption | omega | (simp only [AFa]; done) | (simp only [AFa]; omega)) only [↓AFe, AFb, AFd, AFc, eq_self, Nat.reduceEqDiff, Nat.reduceSub, ↓reduceIte, reduceCtorEq, ↓AJm, ↓AJL, h2]
theorem A1O {L : List UInt8} {u f0 : Nat} (hL : L.length ≤ 1000000) (hf : 1 ≤ f0) (hf2 : f0 ≤ 20) (hu : u < 8 ^ f0) (hu2 : u < 9223372036854775808) {id v cp N : Nat} {H : List Ob} (ho : H[id]? = some (.obj v (.arr N 1 (L.map by8)))) {K : TV → List Ob → Prop}
  (hK : ∀ H' v', H.length ≤ H'.length → (∀ i, i < H.length → i ≠ id → H'[i]? = H[i]?) → H'[id]? = some (.obj v' (.arr (L ++ AVN f0 u).length 1 ((L ++ AVN f0 u).map by8))) → K (.tup [.os 1 id v' [] 0 (L ++ AVN f0 u).length (L ++ AVN f0 u).length, ts []]) H') :
  AFl Tryz.prog 129 [.os 1 id v [] 0 L.length cp, .val (.int .u64 (u : Int)), i64 ((8 : Nat) : Int), tb false, tb true] H K := by
 refine AL6 (by simp) ?_
 have hid : id < H.length := (List.getElem?_eq_some_iff.1 ho).1
 have hw8 : IntKind.u64.wrap ((8 : Nat) : Int) = ((8 : Nat) : Int) := by decide
 have hw3 : IntKind.u64.wrap ((3 : Nat) : Int) = ((3 : Nat) : Int) := by decide
 simp -dsimp (disch := first | assumption | omega | (simp only [AFa]; done) | (simp only [AFa]; omega)) only [↓AFe, AFb, AFd, AFc, eq_self, Nat.reduceLT, Nat.reduceEqDiff, ↓reduceIte, Nat.reduceAdd, reduceCtorEq, ↓AKU, ↓AIn, ↓AIs, ↓AIp, ↓AIw, ↓AIq]
 refine BcN.calls rfl fun r hr => ?_
 subst hr
 simp -dsimp (disch := first | assumption | omega | (simp only [AFa]; done) | (simp only [AFa]; omega)) only [↓AFe, AFb, AFd, AFc, eq_self, Nat.reduceEqDiff, ↓reduceIte, reduceCtorEq, ↓AIv, ↓AIX, hw8]
 refine Biu.calls rfl fun r hr => ?_
 subst hr
 simp -dsimp (disch := first | assumption | omega | (simp only [AFa]; done) | (simp only [AFa]; omega)) only [↓AFe, AFb, AFd, AFc, eq_self, Nat.reduceEqDiff, Nat.reduceSub, ↓reduceIte, reduceCtorEq, hw3, hw8, A13, ↓AJa, ↓AIL, ↓AI4]
 obtain ⟨n65, h65⟩ : ∃ n, n = 65 := ⟨_, rfl⟩
 have hz : List.replicate 65 (TV.val (.int .u8 ((0 : Nat) : Int))) = List.replicate n65 (TV.val (.int .u8 ((0 : Nat) : Int))) := by rw [h65]
 simp only [List.replicate] at hz
 rw [hz]
 have hat : ∀ o : Ob, (H ++ [o])[H.length]? = some o := fun o => by rw [List.getElem?_append_right (Nat.le_refl _), Nat.sub_self]; rfl
 have hst : ∀ o o' : Ob, (H ++ [o]).set H.length o' = H ++ [o'] := fun o o' => by rw [List.set_append_right _ _ (Nat.le_refl _), Nat.sub_self]; rfl
 have hlow : ∀ o : Ob, (H ++ [o])[id]? = H[id]? := fun o => List.getElem?_append_left hid
 refine AIa (fun q e H' => ∃ (f n u' : Nat) (D : List UInt8), q = f ∧ 1 ≤ f ∧ f ≤ n ∧ u' < 8 ^ f ∧ u' ≤ u ∧ n + D.length = 65 ∧ AVN f0 u = AVN f u' ++ D ∧ H' = H ++ [.obj 0 (.arr 65 1 (List.replicate n (.val (.int .u8 ((0 : Nat) : Int))) ++ D.map by8))] ∧
  e = [(0, .os 1 id v [] 0 L.length cp), (1, .val (.int .u64 (u' : Int))), (3, tb false), (4, tb true), (10, .val (.slice none 0 0)), (11, ts []), (12, .op H.length 0 []), (13, i64 (n : Int)), (14, .val (.int .u64 ((3 : Nat) : Int))), (15, .val (.int .u64 ((8 : Nat) : Int))), (16, .val (.int .u64 ((7 : Nat) : Int)))]) f0 ?_ ?_
 ·exact ⟨f0, n65, u, [], rfl, hf, by omega, hu, Nat.le_refl _, by simp [h65], by simp, by simp, by rw [h65]; simp [forget, get]⟩
 ·rintro q e H' ⟨_, n, u', D, rfl, h1, hfn, hu', hle, hn, ho8, rfl, rfl⟩
  obtain ⟨n', rfl⟩ : ∃ n', n = n' + 1 := ⟨n - 1, by omega⟩
  obtain ⟨f', rfl⟩ : ∃ f', q = f' + 1 := ⟨q - 1, by omega⟩
  have hlen : (List.replicate (n' + 1) (TV.val (.int .u8 ((0 : Nat) : Int))) ++ D.map by8).length = 65 := by simp; omega
  have hcl : (List.replicate (n' + 1) (TV.val (.int .u8 ((0 : Nat) : Int))) ++ D.map by8)[n']? = some (.val (.int .u8 ((0 : Nat) : Int))) := by
   rw [List.getElem?_append_left (by simp), List.getElem?_replicate]; simp
  have hsr := fun a : TV => A90 (z := TV.val (.int .u8 ((0 : Nat) : Int))) (a := a) (n := n') (R := D.map by8)
  by_cases c : 8 ≤ u'
  ·have hda := A9E (u' % 8) (by omega)
   have h7 := BiJ u'
   have hu64 : u' < 18446744073709551616 := by omega
   have hp3 : u' / 2 ^ 3 = u' / 8 := rfl
   simp -dsimp (disch := first | assumption | omega | (simp only [AFa]; done) | (simp only [AFa]; omega)) only [↓AFe, AFb, AFd, AFc, eq_self, Nat.reduceEqDiff, Nat.reducePow, ↓reduceIte, reduceCtorEq, ↓AGm, ↓AI8, A18, A2z, h7, hda, hat, hst, hsr, hcl]
   have hf2 : 1 ≤ f' := by
    rcases Nat.eq_zero_or_pos f' with h | h
    ·subst h; simp at hu'; omega
    ·exact h
   have hoc : AVN (f' + 1) u' = AVN f' (u' / 8) ++ [UInt8.ofNat (48 + u' % 8)] := by rw [AVN, if_neg (by omega)]
   have hlt : u' / 8 < 8 ^ f' := by rw [Nat.pow_succ] at hu'; omega
   rw [show u' / 2 ^ 3 = u' / 8 from rfl]
   refine AFW f' (by omega) (by simp) ⟨f', n', u' / 8, UInt8.ofNat (48 + u' % 8) :: D, rfl, hf2, by omega, hlt, by omega, by simp; omega, ?_, rfl, rfl⟩
   rw [ho8, hoc]; simp
  ·have hda := A9E u' (by omega)
   simp -dsimp (disch := first | assumption | omega | (simp only [AFa]; done) | (simp only [AFa]; omega)) only [↓AFe, AFb, AFd, AFc, eq_self, Nat.reduceEqDiff, ↓reduceIte, reduceCtorEq, Nat.reduceLeDiff, ↓AGm, ↓AIR, hda, hat, hst, hsr, hcl, ↓AIt]
   have hdr : List.take (65 - n') (List.drop n' (List.replicate n' (TV.val (.int .u8 ((0 : Nat) : Int))) ++ by8 (UInt8.ofNat (48 + u')) :: D.map by8)) = (AVN f0 u).map by8 := by
    rw [List.drop_left' (by simp), List.take_of_length_le (by simp; omega), ho8, AVN, if_pos (by omega)]
    simp
   have hol : ((AVN f0 u).map by8).length = (AVN f0 u).length := List.length_map ..
   have hoD : (AVN f0 u).length ≤ 65 := by rw [ho8, AVN, if_pos (by omega)]; simp; omega
   have htL : (L.map by8).take L.length = L.map by8 := List.take_of_length_le (by simp)
   simp -dsimp (disch := first | assumption | omega | (simp only [AFa]; done) | (simp only [AFa]; omega)) only [↓AFe, AFb, AFd, AFc, eq_self, Nat.reduceEqDiff, ↓reduceIte, reduceCtorEq, hdr, hlow, ho, htL, ↓AKZ]
   rw [← List.map_append, ← List.length_append]
   exact hK _ _ (by simp) (fun i hi hne => by rw [List.getElem?_append_left (by simpa using hi), List.getElem?_set_ne (Ne.symm hne)]) (by rw [List.getElem?_append_left (by simpa using hid), List.getElem?_set_self hid])
theorem A2Q {L : List UInt8} {u f0 : Nat} (hL : L.length ≤ 1000000) (hf : 1 ≤ f0) (hf2 : f0 ≤ 20) (hu : u < 8 ^ f0) (hu2 : u < 9223372036854775808) {id v cp N : Nat} {H : List Ob} (ho : H[id]? = some (.obj v (.arr N 1 (L.map by8)))) {K : TV → List Ob → Prop}
  (hK : ∀ H' v', H.length ≤ H'.length → (∀ i, i < H.length → i ≠ id → H'[i]? = H[i]?) → H'[id]? = some (.obj v' (.arr (L ++ AVN f0 u).length 1 ((L ++ AVN f0 u).map by8))) → K (.os 1 id v' [] 0 (L ++ AVN f0 u).length (L ++ AVN f0 u).length) H') :
  AFl Tryz.prog 49 [.os 1 id v [] 0 L.length cp, i64 (u : Int), i64 ((8 : Nat) : Int)] H K := by
 refine ATg (by simp) ?_
 simp -dsimp (disch := first | assumption | omega | (simp only [AFa]; done) | (simp only [AFa]; omega)) only [↓AFe, AFb, AFd, AFc, eq_self, Nat.reduceEqDiff, ↓reduceIte, Nat.reduceAdd, reduceCtorEq, ↓ANI]
 refine AYc (AMg (by simp) ?_)
 have hw : IntKind.u64.wrap (u : Int) = (u : Int) := AWe (by omega)
 simp -dsimp (disch := first | assumption | omega | (simp only [AFa]; done) | (simp only [AFa]; omega)) only [↓AFe, AFb, AFd, AFc, eq_self, Nat.reduceEqDiff, ↓reduceIte, Nat.reduceAdd, reduceCtorEq, ↓AHX, hw]
 refine AYc (ALK (by simp) ?_)
 simp -dsimp (disch := first | assumption | omega | (simp only [AFa]; done) | (simp only [AFa]; omega)) only [↓AFe, AFb, AFd, AFc, eq_self, Nat.reduceEqDiff, ↓reduceIte, Nat.reduceAdd, reduceCtorEq, ↓AHL]
 refine AYc (A1O hL hf hf2 hu hu2 ho fun H' v' h1 h2 h3 => ?_)
 simp -dsimp (disch := first | assumption | omega | (simp only [AFa]; done) | (simp only [AFa]; omega)) only [↓AFe, AFb, AFd, AFc, eq_self, Nat.reduceEqDiff, ↓reduceIte, ↓AHL, ↓AHX, ↓ANI]
 rw [← List.length_append]
 exact hK H' v' h1 h2 h3
end Go.Proofs.YtliaddbbmnfioaaGreatDoor


namespace Go.Proofs.YtliaddbbmnfioaaGreatDoor
open Go.RowKit
variable [AFq]
set_option linter.unusedSectionVars false
set_option linter.unusedVariables false
set_option linter.unusedSimpArgs false


structure BeI (c c' : Ctx) (n : Nat) : Prop where
 beta : ∀ id ver, c'.β (id + n) ver = c.β id ver
 has : ∀ id ver, c.has id ver → c'.has (id + n) ver
 keepF : ∀ b, c.F b → c'.F b
theorem BeI.bare {c c' : Ctx} {n : Nat} {w : World} (h : BeI c c' n) : AK4 c.bare w c'.bare w := ⟨fun b hb => ⟨h.keepF b hb, rfl⟩, fun _ _ k => (Ctx.bare_has k).elim, fun _ _ => rfl⟩

end Go.Proofs.YtliaddbbmnfioaaGreatDoor


namespace Go.Proofs.YtliaddbbmnfioaaGreatDoor
open Go.RowKit
variable [AFq]
set_option linter.unusedSectionVars false
set_option linter.unusedVariables false
set_option linter.unusedSimpArgs false
def ltB (a b : List UInt8) : Prop := a < b
theorem Ba1 (a b : List UInt8) : Op.bytesLess a b = decide (a < b) := bytesLess_eq a b
theorem ALe (a : List UInt8) : ¬ ltB a a := List.lt_irrefl a
theorem ALX {a b c : List UInt8} (h : ltB a b) (k : ltB b c) : ltB a c := List.lt_trans h k
theorem AZt {a b : List UInt8} (h1 : ¬ ltB a b) (h2 : ¬ ltB b a) : a = b := List.le_antisymm (List.not_lt.1 h2) (List.not_lt.1 h1)
instance (a b : List UInt8) : Decidable (ltB a b) := inferInstanceAs (Decidable (a < b))
abbrev SD (l : List (List UInt8)) : Prop := l.Pairwise ltB
theorem SD.ext : ∀ {a b : List (List UInt8)}, SD a → SD b → (∀ x, x ∈ a ↔ x ∈ b) → a = b
 | [], [], _, _, _ => rfl
 | [], y :: b, _, _, h => absurd ((h y).2 (by simp)) (by simp)
 | x :: a, [], _, _, h => absurd ((h x).1 (by simp)) (by simp)
 | x :: a, y :: b, ha, hb, h => by
  rw [SD, List.pairwise_cons] at ha hb
  have hxy : x = y := by
   rcases List.mem_cons.1 ((h x).1 (by simp)) with e | e
   ·exact e
   ·rcases List.mem_cons.1 ((h y).2 (by simp)) with e2 | e2
    ·exact e2.symm
    ·exact absurd (ALX (ha.1 y e2) (hb.1 x e)) (ALe x)
  subst hxy
  congr 1
  refine SD.ext ha.2 hb.2 fun z => ⟨fun hz => ?_, fun hz => ?_⟩
  ·rcases List.mem_cons.1 ((h z).1 (List.mem_cons_of_mem _ hz)) with e | e
   ·subst e; exact absurd (ha.1 z hz) (ALe z)
   ·exact e
  ·rcases List.mem_cons.1 ((h z).2 (List.mem_cons_of_mem _ hz)) with e | e
   ·subst e; exact absurd (hb.1 z hz) (ALe z)
   ·exact e
theorem SD.filter {l : List (List UInt8)} (h : SD l) (p : List UInt8 → Bool) : SD (l.filter p) := List.Pairwise.filter p h

theorem AZy : ∀ {a b : List UInt8}, Lib.compareBytes a b < 0 ↔ ltB a b
 | [], [] => by simp [Lib.compareBytes, ltB]
 | [], _ :: _ => by simp [Lib.compareBytes, ltB]
 | _ :: _, [] => by simp [Lib.compareBytes, ltB]
 | a :: xs, b :: ys => by
  have ih := AZy (a := xs) (b := ys)
  unfold ltB at ih ⊢
  rw [Lib.compareBytes, List.cons_lt_cons_iff]
  by_cases h1 : a < b
  ·simp [h1]
  ·by_cases h2 : b < a
   ·have hne : a ≠ b := fun e => by subst e; exact h1 h2
    simp [h1, h2, hne]
   ·have he : a = b := UInt8.le_antisymm (UInt8.not_lt.1 h2) (UInt8.not_lt.1 h1)
    rw [if_neg h1, if_neg h2, ih]
    simp [he]
end Go.Proofs.YtliaddbbmnfioaaGreatDoor


namespace Go.Proofs.YtliaddbbmnfioaaGreatDoor
open Go.RowKit
variable [AFq]
set_option linter.unusedSectionVars false
set_option linter.unusedVariables false
set_option linter.unusedSimpArgs false

def ANX (m : Int) : Bool := m == 16384 || m == 33188 || m == 33261 || m == 40960
def ANT (m : Int) : List UInt8 := if m = 16384 then [52, 48, 48, 48, 48] else if m = 33188 then [49, 48, 48, 54, 52, 52] else if m = 33261 then [49, 48, 48, 55, 53, 53] else if m = 40960 then [49, 50, 48, 48, 48, 48] else []
theorem AGp {m : Int} (h : ANX m = true) : m = 16384 ∨ m = 33188 ∨ m = 33261 ∨ m = 40960 := by
 unfold ANX at h
 simp only [Bool.or_eq_true, beq_iff_eq] at h
 omega
theorem A0p {m : Int} (h : ANX m = true) : AVN 6 m.toNat = ANT m := by
 rcases AGp h with rfl | rfl | rfl | rfl <;> decide
theorem A2e {m : Int} : ANT m = [] ↔ ANX m = false := by
 unfold ANT ANX
 by_cases h1 : m = 16384
 ·subst h1; decide
 by_cases h2 : m = 33188
 ·subst h2; decide
 by_cases h3 : m = 33261
 ·subst h3; decide
 by_cases h4 : m = 40960
 ·subst h4; decide
 simp [h1, h2, h3, h4]
def enB (e : En) : List UInt8 := ANT e.mode ++ 32 :: (e.name ++ 0 :: e.id)
def AZJ (e : En) : Prop := ANX e.mode = true ∧ AMA e.name = true ∧ e.id.length = 20
def AMo (l : List En) : Prop := l.length ≤ 2000 ∧ (∀ e ∈ l, AZJ e) ∧ (l.map (·.name)).Nodup
theorem ARc {s : List UInt8} (h : AMA s = true) : s ≠ [] ∧ s.length ≤ 50 ∧ 47 ∉ s ∧ 0 ∉ s := by
 unfold AMA at h
 simp only [decide_eq_true_eq] at h
 refine ⟨h.1, h.2.2.2.2.1, fun hm => h.2.2.2.2.2 ⟨47, hm, by simp⟩, fun hm => h.2.2.2.2.2 ⟨0, hm, by simp⟩⟩
theorem A6P {x y : En} (hx : AMA x.name = true) (hy : AMA y.name = true) (h : AIH x = AIH y) : x.name = y.name := by
 have a := (ARc hx).2.2.1
 have b := (ARc hy).2.2.1
 unfold AIH at h
 split at h <;> split at h
 ·exact List.append_cancel_right h
 ·exact absurd (h ▸ (by simp : (47 : UInt8) ∈ x.name ++ [47])) b
 ·exact absurd (h ▸ (by simp : (47 : UInt8) ∈ y.name ++ [47])) a
 ·exact h
abbrev SE (l : List En) : Prop := l.Pairwise fun x y => ltB (AIH x) (AIH y)
theorem SE.ext : ∀ {a b : List En}, SE a → SE b → a.Perm b → a = b
 | [], b, _, _, h => h.nil_eq
 | x :: a, [], _, _, h => absurd h.length_eq (by simp)
 | x :: a, y :: b, ha, hb, h => by
  rw [SE, List.pairwise_cons] at ha hb
  have hxy : x = y := by
   rcases List.mem_cons.1 (h.mem_iff.1 (List.mem_cons_self ..)) with e | e
   ·exact e
   ·rcases List.mem_cons.1 (h.mem_iff.2 (List.mem_cons_self ..)) with e2 | e2
    ·exact e2.symm
    ·exact absurd (ALX (ha.1 y e2) (hb.1 x e)) (ALe _)
  subst hxy
  rw [SE.ext ha.2 hb.2 (List.Perm.cons_inv h)]
theorem AYK {l : List En} (h : AMo l) : (l.map AIH).Nodup := by
 obtain ⟨_, h2, h3⟩ := h
 rw [List.nodup_iff_pairwise_ne, List.pairwise_map] at h3 ⊢
 exact List.Pairwise.imp_of_mem (fun ha hb hne e => hne (A6P (h2 _ ha).2.1 (h2 _ hb).2.1 e)) h3
theorem SE.of {l : List En} (h : l.Pairwise fun x y => ¬ ltB (AIH y) (AIH x)) (hn : (l.map AIH).Nodup) : SE l := by
 rw [List.nodup_iff_pairwise_ne, List.pairwise_map] at hn
 exact h.imp₂ (fun a b h1 h2 => by
  by_cases e : ltB (AIH a) (AIH b)
  ·exact e
  ·exact absurd (AZt e h1) h2) hn
theorem SE.insert {out : List En} (h : SE out) {x : En} {at' : Nat} (hle : at' ≤ out.length) (h1 : ∀ (k : Nat) y, k < at' → out[k]? = some y → ltB (AIH y) (AIH x)) (h2 : ∀ y, out[at']? = some y → ltB (AIH x) (AIH y)) : SE (out.take at' ++ x :: out.drop at') := by
 have hT : ∀ y ∈ out.take at', ltB (AIH y) (AIH x) := by
  intro y hy
  obtain ⟨k, hk⟩ := List.getElem?_of_mem hy
  rw [List.getElem?_take] at hk
  split at hk
  ·exact h1 k y (by assumption) hk
  ·cases hk
 have hD : ∀ y ∈ out.drop at', ltB (AIH x) (AIH y) := by
  intro y hy
  obtain ⟨k, hk⟩ := List.getElem?_of_mem hy
  rw [List.getElem?_drop] at hk
  have hlt : at' < out.length := by have := (List.getElem?_eq_some_iff.1 hk).1; omega
  have h5 := h2 _ (List.getElem?_eq_getElem hlt)
  rcases Nat.eq_zero_or_pos k with rfl | hp
  ·rw [Nat.add_zero, List.getElem?_eq_getElem hlt] at hk; cases hk; exact h5
  ·have hlt2 := (List.getElem?_eq_some_iff.1 hk).1
   have h6 := (List.pairwise_iff_getElem.1 h) at' (at' + k) hlt hlt2 (by omega)
   rw [List.getElem?_eq_getElem hlt2] at hk; cases hk
   exact ALX h5 h6
 rw [SE, List.pairwise_append, List.pairwise_cons]
 refine ⟨h.sublist (List.take_sublist at' out), ⟨hD, h.sublist (List.drop_sublist at' out)⟩, fun a ha b hb => ?_⟩
 rcases List.mem_cons.1 hb with rfl | hb
 ·exact hT a ha
 ·exact ALX (hT a ha) (hD b hb)
theorem A10 {out p : List En} {x : En} {k : Nat} (h : out.Perm p) : (out.take k ++ x :: out.drop k).Perm (p ++ [x]) := by
 have h1 : (out.take k ++ x :: out.drop k).Perm (x :: (out.take k ++ out.drop k)) := List.perm_middle
 rw [List.take_append_drop] at h1
 exact h1.trans ((h.cons x).trans (List.perm_append_singleton x p).symm)
def AMJ (l : List En) (b : List UInt8) : Prop := AMo l ∧ SE l ∧ l.flatMap enB = b
theorem A9k : ∀ (f : Nat) (s : List UInt8), s.all AR3 = true → s ≠ [] → s[0]? ≠ some 48 → s.length ≤ f → AVN f (ATo 0 s) = s := by
 intro f
 induction f with
 | zero =>
  intro s _ h1 _ h2
  exact absurd (List.eq_nil_of_length_eq_zero (by omega)) h1
 | succ f ih =>
  intro s hall hne h0 hl
  have hs : s = s.dropLast ++ [s.getLast hne] := (List.dropLast_concat_getLast hne).symm
  generalize s.getLast hne = d at hs
  generalize s.dropLast = p at hs
  subst hs
  rw [List.all_append] at hall
  simp only [List.all_cons, List.all_nil, Bool.and_true, Bool.and_eq_true] at hall
  obtain ⟨hp, hd⟩ := hall
  unfold AR3 at hd
  simp only [Bool.and_eq_true, decide_eq_true_eq] at hd
  have hnum : ATo 0 (p ++ [d]) = ATo 0 p * 8 + (d.toNat - 48) := by rw [AVj]; rfl
  have hdd : UInt8.ofNat (48 + (d.toNat - 48)) = d := by rw [show 48 + (d.toNat - 48) = d.toNat by omega]; exact UInt8.ofNat_toNat
  rw [hnum]
  by_cases hpe : p = []
  ·subst hpe
   have e0 : ATo 0 [] = 0 := rfl
   rw [e0, AVN, if_pos (by omega)]
   rw [show 48 + (0 * 8 + (d.toNat - 48)) = 48 + (d.toNat - 48) by omega, hdd]; rfl
  ·have hp0 : p[0]? ≠ some 48 := by
    intro e
    rw [List.getElem?_append_left (by have := List.length_pos_iff.2 hpe; omega)] at h0
    exact h0 e
   have hpos : 1 ≤ ATo 0 p := by
    obtain ⟨c, q, rfl⟩ : ∃ c q, p = c :: q := by
     cases p with
     | nil => exact absurd rfl hpe
     | cons c q => exact ⟨c, q, rfl⟩
    have hc : AR3 c = true := by simp at hp; exact hp.1
    unfold AR3 at hc
    simp only [Bool.and_eq_true, decide_eq_true_eq] at hc
    have hc48 : c.toNat ≠ 48 := fun e => hp0 (by simp [show c = 48 from UInt8.toNat_inj.1 e])
    have := A07 q (0 * 8 + (c.toNat - 48))
    show 1 ≤ ATo (0 * 8 + (c.toNat - 48)) q
    omega
   rw [AVN, if_neg (by omega), show (ATo 0 p * 8 + (d.toNat - 48)) / 8 = ATo 0 p by omega, show (ATo 0 p * 8 + (d.toNat - 48)) % 8 = d.toNat - 48 by omega, ih p hp hpe hp0 (by simp at hl; omega), hdd]
theorem A5t {s : List UInt8} {m : Int} (hp : pO s = some m.toNat) (hm : ANX m = true) (h0 : s[0]? ≠ some 48) : s = ANT m := by
 unfold pO at hp
 split at hp
 ·rename_i h
  obtain ⟨h1, h2, h3⟩ := h
  have e := Option.some.inj hp
  have k1 := A9k (s.length + 6) s h2 h1 h0 (by omega)
  rw [e] at k1
  rw [← A0p hm, ← k1]
  have big : ∀ (f g u : Nat), u < 8 ^ f → 1 ≤ f → AVN (f + g) u = AVN f u := by
   intro f
   induction f with
   | zero => intro g u _ h; omega
   | succ f ih =>
    intro g u hu _
    rw [show f + 1 + g = f + g + 1 by omega, AVN, AVN]
    by_cases c : u < 8
    ·rw [if_pos c, if_pos c]
    ·rw [if_neg c, if_neg c, ih g (u / 8) (by rw [Nat.pow_succ] at hu; omega) (by
      rcases Nat.eq_zero_or_pos f with h | h
      ·subst h; simp at hu; omega
      ·exact h)]
  rw [show s.length + 6 = 6 + s.length by omega]
  refine big 6 s.length m.toNat ?_ (by omega)
  rcases AGp hm with rfl | rfl | rfl | rfl <;> decide
 ·cases hp
theorem Ba3 {m : Int} (h : ANX m = true) : pO (ANT m) = some m.toNat ∧ (ANT m)[0]? ≠ some 48 ∧ 32 ∉ ANT m ∧ ANT m ≠ [] := by
 rcases AGp h with rfl | rfl | rfl | rfl <;> decide
end Go.Proofs.YtliaddbbmnfioaaGreatDoor


namespace Go.Proofs.YtliaddbbmnfioaaGreatDoor
open Go.RowKit
variable [AFq]
set_option linter.unusedSectionVars false
set_option linter.unusedVariables false
set_option linter.unusedSimpArgs false
structure PR (b : List UInt8) (es : List En) (a : Nat) : Prop where
 le : a ≤ b.length
 pre : ∀ l, (∀ e ∈ l, AZJ e) → l.flatMap enB = b → ∃ l', l = es ++ l' ∧ l'.flatMap enB = b.drop a
 ids : ∀ e ∈ es, e.id.length = 20
 nms : ∀ e ∈ es, e.name.length ≤ b.length
 few : es.length ≤ a
theorem PR.start (b : List UInt8) : PR b [] 0 := ⟨Nat.zero_le _, fun l _ h => ⟨l, rfl, h⟩, fun _ h => (by cases h), fun _ h => (by cases h), Nat.le_refl _⟩
theorem PR.no {b : List UInt8} {es : List En} {a : Nat} (h : PR b es a) (hlt : a < b.length) (hno : ∀ x r, AZJ x → enB x ++ r = b.drop a → False) : ∀ l, ¬ AMJ l b := by
 rintro l ⟨⟨_, hl, _⟩, _, hb⟩
 obtain ⟨l', rfl, hl'⟩ := h.pre l hl hb
 cases l' with
 | nil =>
  have := congrArg List.length hl'
  simp at this
  omega
 | cons x l'' =>
  rw [List.flatMap_cons] at hl'
  exact hno x _ (hl x (by simp)) hl'
theorem PR.step {b : List UInt8} {es : List En} {a a' : Nat} {e : En} (h : PR b es a) (hlt : a < a') (hle : a' ≤ b.length) (hid : e.id.length = 20) (hn : e.name.length ≤ b.length) (he : ∀ x r, AZJ x → enB x ++ r = b.drop a → x = e ∧ r = b.drop a') : PR b (es ++ [e]) a' := by
 obtain ⟨h1, h2, h3, h4, h5⟩ := h
 refine ⟨hle, fun l hl hb => ?_, fun y hy => ?_, fun y hy => ?_, by simp; omega⟩
 ·obtain ⟨l', rfl, hl'⟩ := h2 l hl hb
  cases l' with
  | nil =>
   have := congrArg List.length hl'
   simp at this
   omega
  | cons x l'' =>
   rw [List.flatMap_cons] at hl'
   obtain ⟨rfl, k⟩ := he x _ (hl x (by simp)) hl'
   exact ⟨l'', by simp, k⟩
 ·rcases List.mem_append.1 hy with hy | hy
  ·exact h3 y hy
  ·rw [List.mem_singleton] at hy; subst hy; exact hid
 ·rcases List.mem_append.1 hy with hy | hy
  ·exact h4 y hy
  ·rw [List.mem_singleton] at hy; subst hy; exact hn
theorem PR.fin {b : List UInt8} {es l : List En} (h : PR b es b.length) (hl : AMJ l b) : l = es := by
 obtain ⟨⟨_, ht, _⟩, _, hb⟩ := hl
 obtain ⟨l', rfl, hl'⟩ := h.pre l ht hb
 cases l' with
 | nil => rw [List.append_nil]
 | cons x l'' =>
  exfalso
  rw [List.flatMap_cons] at hl'
  have := congrArg List.length hl'
  simp [enB] at this
theorem AZA {c : UInt8} {n t F : List UInt8} {j : Nat} (h : n ++ c :: t = F) (hn : c ∉ n) (hj : c ∉ F.take j) (hl : j ≤ F.length) : j ≤ n.length ∧ (F[j]? = some c ∨ j = F.length → j = n.length) := by
 subst h
 have h1 : j ≤ n.length := by
  refine Nat.le_of_not_lt fun h => hj ?_
  obtain ⟨k, hk⟩ : ∃ k, j - n.length = k + 1 := ⟨j - n.length - 1, by omega⟩
  rw [List.take_append, hk, List.take_succ_cons]
  simp
 refine ⟨h1, fun h => ?_⟩
 rcases h with h | h
 ·rcases Nat.lt_or_ge j n.length with h2 | h2
  ·rw [List.getElem?_append_left h2] at h
   exact absurd (List.mem_of_getElem? h) hn
  ·omega
 ·simp only [List.length_append, List.length_cons] at h; omega
theorem A2n (x : En) (r : List UInt8) : enB x ++ r = ANT x.mode ++ 32 :: (x.name ++ 0 :: (x.id ++ r)) := by simp [enB]
theorem BhT {m : Int} (h : ANX m = true) : 32 ∉ ANT m := by rcases AGp h with h | h | h | h <;> rw [h] <;> decide
theorem Ba0 {m : Int} (h : ANX m = true) : ((ATo 0 (ANT m) : Nat) : Int) = m := by rcases AGp h with h | h | h | h <;> rw [h] <;> rfl
theorem Bax {m : Int} {i : Nat} (h : ANX m = true) (hi : i < (ANT m).length) : ATo 0 ((ANT m).take i) ≤ 1048576 ∧ ∀ c, (ANT m)[i]? = some c → AR3 c = true := by
 rcases AGp h with h | h | h | h <;> subst h
 all_goals
  have h6 : i < 6 := Nat.lt_of_lt_of_le hi (by decide)
  have : i = 0 ∨ i = 1 ∨ i = 2 ∨ i = 3 ∨ i = 4 ∨ i = 5 := by omega
  rcases this with rfl | rfl | rfl | rfl | rfl | rfl <;> first | exact ⟨by decide, fun c hc => by cases hc; rfl⟩ | (exfalso; revert hi; decide)
theorem Bai {x : En} {r D : List UInt8} {i : Nat} {c : UInt8} (hx : AZJ x) (h : enB x ++ r = D) (hi : i ≤ D.length) (hn : 32 ∉ D.take i) (hc : D[i]? = some c) (h32 : c ≠ 32) : AR3 c = true ∧ ATo 0 (D.take i) ≤ 1048576 := by
 rw [A2n] at h
 obtain ⟨h1, h2⟩ := AZA h (BhT hx.1) hn hi
 have hlt : i < (ANT x.mode).length := by
  rcases Nat.lt_or_ge i (ANT x.mode).length with h3 | h3
  ·exact h3
  ·have : i = (ANT x.mode).length := by omega
   rw [← h, this, List.getElem?_append_right (Nat.le_refl _), Nat.sub_self] at hc
   exact absurd (Option.some.inj hc).symm h32
 obtain ⟨k1, k2⟩ := Bax hx.1 hlt
 rw [← h, List.getElem?_append_left hlt] at hc
 exact ⟨k2 c hc, by rw [← h, List.take_append_of_le_length h1]; exact k1⟩
theorem A3Q {x : En} {r b : List UInt8} {a i j : Nat} (hx : AZJ x) (h : enB x ++ r = b.drop a) (hi : i ≤ (b.drop a).length) (hn : 32 ∉ (b.drop a).take i) (he : (b.drop a)[i]? = some 32 ∨ i = (b.drop a).length)
  (hj : j ≤ (b.drop (a + i + 1)).length) (hm : 0 ∉ (b.drop (a + i + 1)).take j) (hf : (b.drop (a + i + 1))[j]? = some 0 ∨ j = (b.drop (a + i + 1)).length) :
  a + i + 1 + j + 21 ≤ b.length ∧ x = ⟨((ATo 0 ((b.drop a).take i) : Nat) : Int), (b.drop (a + i + 1)).take j, (b.drop (a + i + 1 + j + 1)).take 20⟩ ∧ r = b.drop (a + i + 1 + j + 21) := by
 rw [A2n] at h
 obtain ⟨h1, h2⟩ := AZA h (BhT hx.1) hn hi
 have hi2 := h2 he
 have hF : b.drop (a + i + 1) = x.name ++ 0 :: (x.id ++ r) := by
  rw [Nat.add_assoc, ← List.drop_drop, ← h, hi2, ← List.drop_drop, List.drop_left]; rfl
 have n0 := (ARc hx.2.1).2.2.2
 obtain ⟨h3, h4⟩ := AZA hF.symm n0 hm hj
 have hj2 := h4 hf
 have hG : b.drop (a + i + 1 + j + 1) = x.id ++ r := by
  rw [Nat.add_assoc (a + i + 1), ← List.drop_drop, hF, hj2, ← List.drop_drop, List.drop_left]; rfl
 have hL := congrArg List.length hG
 simp only [List.length_drop, List.length_append, hx.2.2] at hL
 refine ⟨by omega, ?_, ?_⟩
 ·obtain ⟨m, n, d⟩ := x
  simp only at *
  have e1 : (b.drop a).take i = ANT m := by rw [← h, hi2, List.take_left]
  have e2 : (b.drop (a + i + 1)).take j = n := by rw [hF, hj2, List.take_left]
  have e3 : (b.drop (a + i + 1 + j + 1)).take 20 = d := by rw [hG, List.take_left' hx.2.2]
  rw [e1, e2, e3, Ba0 hx.1]
 ·rw [show a + i + 1 + j + 21 = a + i + 1 + j + 1 + 20 by omega, ← List.drop_drop, hG, List.drop_left' hx.2.2]
def A4v (b : List UInt8) (r : TV) : Prop := (∀ l, AMJ l b → r = .tup [.sl 22 (l.map fun e : En => .agg [.val (.int .i64 e.mode), .val (.string (str e.name)), .arr 20 1 (e.id.map by8)]), tb true]) ∧ ((∀ l, ¬ AMJ l b) → r = .tup [.val (.slice none 0 0), tb false])
end Go.Proofs.YtliaddbbmnfioaaGreatDoor


namespace Go.Proofs.YtliaddbbmnfioaaGreatDoor
variable [AFq]
set_option linter.unusedSectionVars false
set_option linter.unusedVariables false
set_option linter.defProp false
set_option maxRecDepth 100000









end Go.Proofs.YtliaddbbmnfioaaGreatDoor


namespace Go.Proofs.YtliaddbbmnfioaaGreatDoor
open Go.RowKit
variable [AFq]
set_option linter.unusedSectionVars false
set_option linter.unusedVariables false
set_option linter.unusedSimpArgs false
def A5i (w s : List UInt8) : Option (List UInt8 × List UInt8) := match ARL 10 s with
 | none => none
 | some i => if (w ++ [32]).isPrefixOf (s.take i) then some ((s.take i).drop (w.length + 1), s.drop (i + 1)) else none
theorem BbK {w v r : List UInt8} (hw : 10 ∉ w) (hv : 10 ∉ v) : A5i w (w ++ 32 :: (v ++ 10 :: r)) = some (v, r) := by
 have e : w ++ 32 :: (v ++ 10 :: r) = (w ++ 32 :: v) ++ 10 :: r := by simp
 have hc : ARL 10 ((w ++ 32 :: v) ++ 10 :: r) = some (w ++ 32 :: v).length := AVi (by simp [hw, hv])
 unfold A5i
 rw [e, hc]
 simp only [List.take_left]
 rw [if_pos (by rw [List.isPrefixOf_iff_prefix]; exact ⟨v, by simp⟩)]
 congr 1
 refine Prod.ext ?_ ?_
 ·show (w ++ 32 :: v).drop (w.length + 1) = v
  rw [← List.drop_drop, List.drop_left]; rfl
 ·show ((w ++ 32 :: v) ++ 10 :: r).drop ((w ++ 32 :: v).length + 1) = r
  rw [← List.drop_drop, List.drop_left]; rfl
def mv (w s : List UInt8) : List UInt8 := match A5i w s with | some x => x.1 | none => []
def mr (w s : List UInt8) : List UInt8 := match A5i w s with | some x => x.2 | none => s
def mb (w s : List UInt8) : Bool := (A5i w s).isNone
theorem AWn {w v r : List UInt8} (hw : 10 ∉ w) (hv : 10 ∉ v) : mb w (w ++ 32 :: (v ++ 10 :: r)) = false ∧ mv w (w ++ 32 :: (v ++ 10 :: r)) = v ∧ mr w (w ++ 32 :: (v ++ 10 :: r)) = r := by
 unfold mb mv mr
 rw [BbK hw hv]
 exact ⟨rfl, rfl, rfl⟩
end Go.Proofs.YtliaddbbmnfioaaGreatDoor


namespace Go.Proofs.YtliaddbbmnfioaaGreatDoor
open Go.RowKit
variable [AFq]
set_option linter.unusedSectionVars false
set_option linter.unusedVariables false
set_option linter.unusedSimpArgs false

end Go.Proofs.YtliaddbbmnfioaaGreatDoor


namespace Go.Proofs.YtliaddbbmnfioaaGreatDoor
variable [AFq]
set_option linter.unusedSectionVars false
set_option linter.unusedVariables false
set_option linter.defProp false
set_option maxRecDepth 100000




























end Go.Proofs.YtliaddbbmnfioaaGreatDoor


namespace Go.Proofs.YtliaddbbmnfioaaGreatDoor
open Go.RowKit
variable [AFq]
set_option linter.unusedSectionVars false
set_option linter.unusedVariables false
set_option linter.unusedSimpArgs false

end Go.Proofs.YtliaddbbmnfioaaGreatDoor


namespace Go.Proofs.YtliaddbbmnfioaaGreatDoor
open Go.RowKit
variable [AFq] [AFi]
set_option linter.unusedSectionVars false
set_option linter.unusedVariables false
set_option linter.unusedSimpArgs false

end Go.Proofs.YtliaddbbmnfioaaGreatDoor


namespace Go.Proofs.YtliaddbbmnfioaaGreatDoor
open Go.RowKit
variable [AFq] [AFi] [AFm] [AFn] [AXi]
set_option linter.unusedSectionVars false
set_option linter.unusedVariables false
set_option linter.unusedSimpArgs false

section
omit [AFq] [AFi] [AFm] [AFn] [AXi]
end
end Go.Proofs.YtliaddbbmnfioaaGreatDoor


namespace Go.Proofs.YtliaddbbmnfioaaGreatDoor
variable [AFq]
set_option linter.unusedSectionVars false
set_option linter.unusedVariables false
set_option linter.defProp false
set_option maxRecDepth 100000







end Go.Proofs.YtliaddbbmnfioaaGreatDoor


namespace Go.Proofs.YtliaddbbmnfioaaGreatDoor
open Go.RowKit
variable [AFq]
set_option linter.unusedSectionVars false
set_option linter.unusedVariables false

end Go.Proofs.YtliaddbbmnfioaaGreatDoor


namespace Go.Proofs.YtliaddbbmnfioaaGreatDoor
open Go.RowKit
variable [AFq]
set_option linter.unusedSectionVars false
set_option linter.unusedVariables false
def A40 (id ver : Nat) (p : List (Nat × Nat)) (a : TV) : Prop := a = .val (.pointer none) ∨ a = .op id ver p
def A6c (T : TypeId) (m o : Nat) : Prop := o < m ∧ liesAt Tryz.prog Tryz.prog.depth T (m / Tryz.prog.cellsOf T) o 118 1 = true

end Go.Proofs.YtliaddbbmnfioaaGreatDoor


namespace Go.Proofs.YtliaddbbmnfioaaGreatDoor
open Go.RowKit
variable [AFq]
set_option linter.unusedSectionVars false
set_option linter.unusedVariables false





end Go.Proofs.YtliaddbbmnfioaaGreatDoor


namespace Go.Proofs.YtliaddbbmnfioaaGreatDoor
open Go.RowKit
variable [AFq]
set_option linter.unusedSectionVars false
set_option linter.unusedVariables false
set_option linter.unusedSimpArgs false
structure Bld (H : List Ob) (id ver : Nat) (p : List (Nat × Nat)) (j v : Nat) (x : TV) (l : List UInt8) : Prop where
 ob : H[id]? = some (.obj ver x)
 fields : ∃ a, A40 id ver p a ∧ ANU p x = some (.agg [a, .os 1 j v [] 0 l.length l.length])
 row : H[j]? = some (.bld v 5 l)
 ne : id ≠ j
 fact : ∃ (q : Nat) (T : TypeId) (m : Nat), H[q]? = some (Ob.fact id ver T m) ∧ A6c T m (AHO p)

end Go.Proofs.YtliaddbbmnfioaaGreatDoor


namespace Go.Proofs.YtliaddbbmnfioaaGreatDoor
variable [AFq]
set_option linter.unusedSectionVars false
set_option linter.unusedVariables false
set_option linter.defProp false
set_option maxRecDepth 100000



end Go.Proofs.YtliaddbbmnfioaaGreatDoor


namespace Go.Proofs.YtliaddbbmnfioaaGreatDoor
open Go.RowKit
variable [AFq]
set_option linter.unusedSectionVars false
set_option linter.unusedVariables false
set_option linter.unusedSimpArgs false

end Go.Proofs.YtliaddbbmnfioaaGreatDoor


namespace Go.Proofs.YtliaddbbmnfioaaGreatDoor
open Go.RowKit
variable [AFq]
set_option linter.unusedSectionVars false
set_option linter.unusedVariables false

end Go.Proofs.YtliaddbbmnfioaaGreatDoor


namespace Go.Proofs.YtliaddbbmnfioaaGreatDoor
open Go.RowKit
variable [AFq]
set_option linter.unusedSectionVars false
set_option linter.unusedVariables false
set_option linter.unusedSimpArgs false


end Go.Proofs.YtliaddbbmnfioaaGreatDoor


namespace Go.Proofs.YtliaddbbmnfioaaGreatDoor
open Go.RowKit Go.Extern.Stop Go.Stop Go.Extern
variable [AFq]
set_option linter.unusedSectionVars false


theorem A1E (t : Addr) (w : World) : (ReflectliteValue.unpack (.iface 83 (.pointer (some t)))).run Tryz.prog w
  = .ok (.agg #[.pointer (some ⟨10, 83, none⟩), .pointer (some ⟨w.heap.size, 0, none⟩), .int .u64 150]) (w.alloc (.cells #[.pointer (some t)] 83)) := by kernel_rfl
theorem A8w (a : Addr) (w : World) : (ReflectliteValue.methodAny (ReflectliteValue.valueError "reflectlite.Value.Type" 0) (fun t _ _ _ => ReflectliteType.toType t) #[.agg #[.pointer (some ⟨10, 83, none⟩), .pointer (some a), .int .u64 150]]).run Tryz.prog w
  = .ok (.iface 175 (.agg #[.pointer (some ⟨10, 83, none⟩)])) w := by kernel_rfl
theorem A0x (h : Value) (w : World) : (Go.method 384 175 (.agg #[h]) "Kind").run Tryz.prog w = .ok (195, h) w := by kernel_rfl
theorem A8p (w : World) : ((ReflectliteType.abiMethod fun t => (fun a : Nat => Value.int IntKind.u8 (a : Int)) <$> Rtype.kind t) #[.pointer (some ⟨10, 83, none⟩)]).run Tryz.prog w = .ok (.int .u8 22) w := by kernel_rfl
theorem A7v (w : World) : ((ReflectliteType.abiMethod fun t => (fun a : Nat => Value.int IntKind.u8 (a : Int)) <$> Rtype.kind t) #[.pointer (some ⟨10, 34, none⟩)]).run Tryz.prog w = .ok (.int .u8 2) w := by kernel_rfl

theorem rlm (z : Sem Value) (f : TypeId → Addr → Nat → Nat → Sem Value) (v : Value) :
  ReflectliteValue.method z f #[v] = (do match ← ReflectliteValue.parts v with | none => z | some (t, a, fl) => f t a fl (fl % 32)) := rfl
theorem A0c (a : Addr) (w : World) : (ReflectliteValue.parts (.agg #[.pointer (some ⟨10, 83, none⟩), .pointer (some a), .int .u64 150])).run Tryz.prog w = .ok (some (83, a, 150)) w := by kernel_rfl
theorem A4h (a p : Addr) (W : World) (ha : W.cell? a = some (.pointer (some p))) :
  (ReflectliteValue.method (ReflectliteValue.valueError "reflectlite.Value.IsNil" 0) ReflectliteValue.isNil #[.agg #[.pointer (some ⟨10, 83, none⟩), .pointer (some a), .int .u64 150]]).run Tryz.prog W = .ok (.bool false) W := by
 rw [rlm]
 simp only [Sem.run_bind, A0c, Result.andThen]
 simp [ReflectliteValue.isNil, loadVar, isAgg, underlying, Tryz.underlying83, ha, Result.andThen]

theorem AZP (h : Value) (w : World) : (Go.method 384 175 (.agg #[h]) "Elem").run Tryz.prog w = .ok (206, .agg #[h]) w := by kernel_rfl
theorem AVs (h : Value) (w : World) : (Go.method 384 175 (.agg #[h]) "Implements").run Tryz.prog w = .ok (207, .agg #[h]) w := by kernel_rfl
theorem ATq (h : Value) (w : World) : (Go.method 384 175 (.agg #[h]) "AssignableTo").run Tryz.prog w = .ok (204, .agg #[h]) w := by kernel_rfl
theorem A8e (w : World) : (ReflectliteType.method ReflectliteType.elem #[.agg #[.pointer (some ⟨10, 83, none⟩)]]).run Tryz.prog w = .ok (.iface 175 (.agg #[.pointer (some ⟨10, 34, none⟩)])) w := by kernel_rfl
theorem AYd (w : World) : (ReflectliteType.relation "Implements" ReflectliteType.implements_ #[.agg #[.pointer (some ⟨10, 34, none⟩)], .iface 175 (.agg #[.pointer (some ⟨10, 31, none⟩)])]).run Tryz.prog w = .ok (.bool true) w := by kernel_rfl
theorem A3l (v : Value) (w : World) : (ReflectliteType.typeOf #[.iface 34 v]).run Tryz.prog w = .ok (.iface 175 (.agg #[.pointer (some ⟨10, 34, none⟩)])) w := by kernel_rfl
theorem AYf (w : World) : (ReflectliteType.relation "AssignableTo" ReflectliteType.assignableTo #[.agg #[.pointer (some ⟨10, 34, none⟩)], .iface 175 (.agg #[.pointer (some ⟨10, 34, none⟩)])]).run Tryz.prog w = .ok (.bool true) w := by kernel_rfl
theorem A1l (e : Int) (w : World) : (ReflectliteValue.unpack (.iface 34 (.int .i64 e))).run Tryz.prog w
  = .ok (.agg #[.pointer (some ⟨10, 34, none⟩), .pointer (some ⟨w.heap.size, 0, none⟩), .int .u64 130]) (w.alloc (.cells #[.int .i64 e] 34)) := by kernel_rfl

theorem A3s (w : World) : (Rtype.elem? 83).run Tryz.prog w = .ok (some 34) w := by kernel_rfl
theorem Bd0 (p : Addr) (w : World) : (ReflectliteValue.mk 34 p ReflectliteValue.flagAddr).run Tryz.prog w = .ok (.agg #[.pointer (some ⟨10, 34, none⟩), .pointer (some p), .int .u64 386]) w := by kernel_rfl
theorem A42 (a p : Addr) (W : World) (ha : W.cell? a = some (.pointer (some p))) :
  (ReflectliteValue.method (ReflectliteValue.valueError "reflectlite.Value.Elem" 0) ReflectliteValue.elem #[.agg #[.pointer (some ⟨10, 83, none⟩), .pointer (some a), .int .u64 150]]).run Tryz.prog W
   = .ok (.agg #[.pointer (some ⟨10, 34, none⟩), .pointer (some p), .int .u64 386]) W := by
 rw [rlm]
 simp only [Sem.run_bind, A0c, Result.andThen]
 simp [ReflectliteValue.elem, loadVar, isAgg, underlying, Tryz.underlying83, ha, Result.andThen, A3s, Bd0]
theorem rls (v x : Value) : ReflectliteValue.set #[v, x] = (do
  let (some (dst, a, fl), some (src, b, _)) := (← ReflectliteValue.parts v, ← ReflectliteValue.parts x)
   | unsupported (.noEntry "extern/(internal/reflectlite.Value).Set.zeroValue")
  if fl / ReflectliteValue.flagAddr % 2 == 0 then unsupported (.noEntry "extern/(internal/reflectlite.Value).Set.unaddressable")
  let val ← loadVar src b
  if ← Rtype.directlyAssignable dst src then storeVar dst a val
  else if ← Rtype.implements dst src then
   if (← Rtype.kind src) == 20 then
    match val with
    | .nilIface => unsupported (.noEntry "extern/reflectlite: a nil value of one interface type handed on as a value of another")
    | _ => storeVar dst a val
   else storeVar dst a (.iface src val)
  else panicString ("reflectlite.Set: value of type " ++ (← Rtype.spelt src) ++ " is not assignable to type " ++ (← Rtype.spelt dst))
  pure (.tuple #[])) := rfl
theorem A3e (a : Addr) (w : World) : (ReflectliteValue.parts (.agg #[.pointer (some ⟨10, 34, none⟩), .pointer (some a), .int .u64 386])).run Tryz.prog w = .ok (some (34, a, 386)) w := by kernel_rfl
theorem A6a (a : Addr) (w : World) : (ReflectliteValue.parts (.agg #[.pointer (some ⟨10, 34, none⟩), .pointer (some a), .int .u64 130])).run Tryz.prog w = .ok (some (34, a, 130)) w := by kernel_rfl
theorem A3q (w : World) : (Rtype.directlyAssignable 34 34).run Tryz.prog w = .ok true w := by kernel_rfl
theorem Bbv (ta b : Addr) (e : Int) (old : Value) (W : World) (hb : W.cell? b = some (.int .i64 e)) (ht : W.cell? ta = some old) (hf : W.frozen? ta = false) :
  (ReflectliteValue.set #[.agg #[.pointer (some ⟨10, 34, none⟩), .pointer (some ta), .int .u64 386], .agg #[.pointer (some ⟨10, 34, none⟩), .pointer (some b), .int .u64 130]]).run Tryz.prog W
   = .ok (.tuple #[]) (W.setCell ta (.int .i64 e)) := by
 rw [rls]
 simp only [Sem.run_bind, A3e, A6a, Result.andThen]
 simp [ReflectliteValue.flagAddr, loadVar, isAgg, underlying, Tryz.underlying34, hb, Result.andThen, A3q, storeVar, Value.cells, storeCells, Addr.add]
 rw [run_store Tryz.prog W ta _ _ (by rfl)]
 simp [ht, hf]

set_option maxHeartbeats 4000000 in
theorem Bee (e : Int) (t : Addr) (old : Value) (w : World) (hg : w.cell? ⟨1, 0, none⟩ = some (.iface 175 (.agg #[.pointer (some ⟨10, 31, none⟩)]))) (ht0 : w.cell? t = some old) (hf0 : w.frozen? t = false) :
  Calls Tryz.prog 31 #[.iface 34 (.int .i64 e), .iface 83 (.pointer (some t))] w fun ev w' => ev = .returned (.bool true) ∧ w' = ((((w.alloc (.cells #[.pointer (some t)] 83)).alloc (.cells #[.pointer (some ⟨10, 83, none⟩), .pointer (some ⟨w.heap.size, 0, none⟩), .int .u64 150] 127)).alloc (.cells #[.pointer (some ⟨10, 83, none⟩), .pointer (some ⟨w.heap.size, 0, none⟩), .int .u64 150] 127)).alloc (.cells #[.int .i64 e] 34)).setCell t (.int .i64 e) := by
 have h6 := @run_callFunc_extern Tryz.prog 64 _ (fun args => ReflectliteValue.unpack (args.getD 0 (.tuple #[]))) Tryz.func64 (by kernel_rfl) (by kernel_rfl) (by kernel_rfl) (by kernel_rfl)
 have h7 := @run_callFunc_extern Tryz.prog 65 _ (ReflectliteValue.methodAny (ReflectliteValue.valueError "reflectlite.Value.Type" 0) (fun t _ _ _ => ReflectliteType.toType t)) Tryz.func65 (by kernel_rfl) (by kernel_rfl) (by kernel_rfl) (by kernel_rfl)
 have h8 := @run_callFunc_extern Tryz.prog 66 _ (ReflectliteValue.method (ReflectliteValue.valueError "reflectlite.Value.IsNil" 0) ReflectliteValue.isNil) Tryz.func66 (by kernel_rfl) (by kernel_rfl) (by kernel_rfl) (by kernel_rfl)
 have h27 := @run_callFunc_extern Tryz.prog 195 _ (ReflectliteType.abiMethod fun t => do pure (.int .u8 (← Rtype.kind t))) Tryz.func195 (by kernel_rfl) (by kernel_rfl) (by kernel_rfl) (by kernel_rfl)
 have h37 := @run_callFunc_extern Tryz.prog 206 _ (ReflectliteType.method ReflectliteType.elem) Tryz.func206 (by kernel_rfl) (by kernel_rfl) (by kernel_rfl) (by kernel_rfl)
 have h38 := @run_callFunc_extern Tryz.prog 207 _ (ReflectliteType.relation "Implements" ReflectliteType.implements_) Tryz.func207 (by kernel_rfl) (by kernel_rfl) (by kernel_rfl) (by kernel_rfl)
 have h10 := @run_callFunc_extern Tryz.prog 102 _ ReflectliteType.typeOf Tryz.func102 (by kernel_rfl) (by kernel_rfl) (by kernel_rfl) (by kernel_rfl)
 have h35 := @run_callFunc_extern Tryz.prog 204 _ (ReflectliteType.relation "AssignableTo" ReflectliteType.assignableTo) Tryz.func204 (by kernel_rfl) (by kernel_rfl) (by kernel_rfl) (by kernel_rfl)
 have h11 := @run_callFunc_extern Tryz.prog 103 _ (ReflectliteValue.method (ReflectliteValue.valueError "reflectlite.Value.Elem" 0) ReflectliteValue.elem) Tryz.func103 (by kernel_rfl) (by kernel_rfl) (by kernel_rfl) (by kernel_rfl)
 have h12 := @run_callFunc_extern Tryz.prog 104 _ ReflectliteValue.set Tryz.func104 (by kernel_rfl) (by kernel_rfl) (by kernel_rfl) (by kernel_rfl)
 have tO := A3l
 have mA := ATq
 have a25 := AYf
 have v25 := A1l
 have f6 := A1E
 have f7 := A8w
 have mK := A0x
 have mE := AZP
 have mI := AVs
 have k27 := A8p
 have k25 := A7v
 have e27 := A8e
 have i25 := AYd
 have n8 := A4h ⟨w.heap.size, 0, none⟩ t ((w.alloc (.cells #[.pointer (some t)] 83)).alloc (.cells #[.pointer (some ⟨10, 83, none⟩), .pointer (some ⟨w.heap.size, 0, none⟩), .int .u64 150] 127)) (by simp)
 have hlt : 1 < w.heap.size := by
  rcases Nat.lt_or_ge 1 w.heap.size with h | h
  ·exact h
  ·simp [World.cell?, Array.getElem?_eq_none h] at hg
 have hg2 : ((w.alloc (.cells #[.pointer (some t)] 83)).alloc (.cells #[.pointer (some ⟨10, 83, none⟩), .pointer (some ⟨w.heap.size, 0, none⟩), .int .u64 150] 127)).cell? ⟨1, 0, none⟩ = some (.iface 175 (.agg #[.pointer (some ⟨10, 31, none⟩)])) := by
  rw [World.cell?_alloc_lt _ _ ⟨1, 0, none⟩ (Nat.lt_of_lt_of_le hlt (by simp)), World.cell?_alloc_lt _ _ ⟨1, 0, none⟩ hlt]; exact hg
 have htl : t.block < w.heap.size := by
  rcases Nat.lt_or_ge t.block w.heap.size with h | h
  ·exact h
  ·simp [World.cell?, Array.getElem?_eq_none h] at ht0
 have el := A42 ⟨w.heap.size, 0, none⟩ t (((w.alloc (.cells #[.pointer (some t)] 83)).alloc (.cells #[.pointer (some ⟨10, 83, none⟩), .pointer (some ⟨w.heap.size, 0, none⟩), .int .u64 150] 127)).alloc (.cells #[.pointer (some ⟨10, 83, none⟩), .pointer (some ⟨w.heap.size, 0, none⟩), .int .u64 150] 127)) (by rw [World.cell?_alloc_lt _ _ ⟨w.heap.size, 0, none⟩ (by simp; omega)]; simp)
 have st := Bbv t ⟨w.heap.size + 1 + 1 + 1, 0, none⟩ e old ((((w.alloc (.cells #[.pointer (some t)] 83)).alloc (.cells #[.pointer (some ⟨10, 83, none⟩), .pointer (some ⟨w.heap.size, 0, none⟩), .int .u64 150] 127)).alloc (.cells #[.pointer (some ⟨10, 83, none⟩), .pointer (some ⟨w.heap.size, 0, none⟩), .int .u64 150] 127)).alloc (.cells #[.int .i64 e] 34))
  (by rw [World.cell?_alloc_at _ _ _ _ (by simp)]; rfl)
  (by rw [World.cell?_alloc_lt _ _ t (by simp; omega), World.cell?_alloc_lt _ _ t (by simp; omega), World.cell?_alloc_lt _ _ t (by simp; omega), World.cell?_alloc_lt _ _ t htl]; exact ht0)
  (by rw [World.frozen?_alloc_old _ _ t (by simp; omega), World.frozen?_alloc_old _ _ t (by simp; omega), World.frozen?_alloc_old _ _ t (by simp; omega), World.frozen?_alloc_old _ _ t (Nat.ne_of_lt htl)]; exact hf0)
 go_enter Tryz.func31, Tryz.ntmps31
 go_wp2
 refine wp_loop_rounds 1 ?_
 rw [rounds_succ]
 go_wp2
 go_ret
 exact ⟨rfl, rfl⟩
end Go.Proofs.YtliaddbbmnfioaaGreatDoor


namespace Go.Proofs.YtliaddbbmnfioaaGreatDoor
variable [AFq]
set_option linter.unusedSectionVars false
set_option linter.unusedVariables false
set_option linter.defProp false
set_option maxRecDepth 100000

def AYF : AE9 := .seq (.ops [po_ 2 (.mov (ci_ 0))] [0])
 (.seq (.ops [so_ 3 (.alloc (.val (.int .i64 ((0 : Nat) : Int))))] [0, 3])
 (.seq (.block 0 (.seq (.ops [mv_ 5 0,
  po_ 6 (.eqN 1 (.t 5) (.c .nilIface) false),
  mv_ 4 6] [0, 3, 4])
 (.cond (.t 4)
 (.seq (.ops [po_ 2 (.mov (ci_ 0))] [2])
  (.ret))
 (.seq (.ops [mv_ 8 0,
   po_ 9 (.iface 83 (.t 3)),
   so_ 10 (.call 31 [.t 8, .t 9]),
   mv_ 7 10] [3, 7])
  (.cond (.t 7)
  (.seq (.ops [po_ 11 (.load false 1 (.t 3)),
    mv_ 2 11] [2])
   (.ret))
  (.skip))))))
 (.seq (.ops [po_ 2 (.mov (.c (.int .i64 (-1))))] [2])
 (.ret))))
def AYv : List VR := [.tmp 2]
theorem A2R : Tryz.f8.body.bind (trC Tryz.prog Tryz.f8.ntmps) = some (er AYF) := by kernel_rfl
theorem A3b : trR Tryz.prog Tryz.f8.results.toList = some AYv := by kernel_rfl
def A0P := AE8 AYF.eq_1
theorem A0G {K : TV → Prop} {e : Env} {H : List Ob} : res AYv e H K = res [.tmp 2] e H K := AE7 rfl
def AWm := (And.intro @A0P @A0G)
def AXp := AH5 12 Tryz.func8 A2R A3b rfl

def ASD : AE9 := .seq (.ops [mv_ 13 4,
  mv_ 14 3,
  po_ 15 (.idxA 1 (.t 13) (.t 14)),
  ⟨none, .s (.store 1 (.t 15) (.c (.int .u8 ((71 : Nat) : Int)))), none⟩] [3, 4])
 (.seq (.ops [mv_ 16 4,
  mv_ 17 3,
  po_ 18 (.bin 3 .add (.t 17) (ci_ 1)),
  po_ 19 (.idxA 1 (.t 16) (.t 18)),
  ⟨none, .s (.store 1 (.t 19) (.c (.int .u8 ((72 : Nat) : Int)))), none⟩] [3, 4])
 (.seq (.ops [mv_ 20 4,
  mv_ 21 3,
  po_ 22 (.slV 1 (.t 20) none (some (.t 21))),
  mv_ 2 22] [2])
 (.ret)))
def ASc : AE9 := .seq (.ops [mv_ 10 4,
  mv_ 11 0,
  so_ 12 (.copy 1 (.t 10) (.t 11))] [3, 4])
 ASD
def ASG : AE9 := .seq (.ops [mv_ 7 3,
  po_ 8 (.bin 3 .add (.t 7) (ci_ 2)),
  so_ 9 (.mks 1 1 (.val (.int .u8 ((0 : Nat) : Int))) (.t 8) (.t 8)),
  mv_ 4 9] [0, 3, 4])
 ASc
def ASo : AE9 := .seq (.ops [mv_ 5 0,
  po_ 6 (.lenV (.t 5)),
  mv_ 3 6] [0, 3])
 ASG
def AWB : AE9 := .seq (.ops [po_ 2 (.mov (.c (.slice none 0 0)))] [0])
 ASo
def AWz : List VR := [.tmp 2]
theorem AZO : Tryz.f37.body.bind (trC Tryz.prog Tryz.f37.ntmps) = some (er AWB) := by kernel_rfl
theorem A0C : trR Tryz.prog Tryz.f37.results.toList = some AWz := by kernel_rfl
def AV4 := AE8 ASD.eq_1
def AWg := AE8 ASc.eq_1
def AVV := AE8 ASG.eq_1
def AWf := AE8 ASo.eq_1
def AYe := AE8 AWB.eq_1
theorem AX8 {K : TV → Prop} {e : Env} {H : List Ob} : res AWz e H K = res [.tmp 2] e H K := AE7 rfl
def AZK := (And.intro (And.intro (And.intro @AV4 @AWg) (And.intro @AVV @AWf)) (And.intro @AYe @AX8))
def AYS := AH5 23 Tryz.func37 AZO A0C rfl

def ASW : AE9 := .seq (.seq (.ops [mv_ 36 8,
  mv_ 37 6,
  po_ 38 (.lenV (.t 37)),
  po_ 39 (.bin 3 .lss (.t 36) (.t 38))] [6, 7, 8, 39])
 (.cond (.t 39)
 (.skip)
 (.exit 0)))
 (.seq (.block 1 (.ops [mv_ 42 6,
  mv_ 43 8,
  mv_ 44 6,
  mv_ 45 8,
  po_ 46 (.idxA 1 (.t 44) (.t 45)),
  po_ 47 (.load false 1 (.t 46)),
  po_ 48 (.bin 5 .xor (.t 47) (.c (.int .u8 ((85 : Nat) : Int)))),
  po_ 49 (.idxA 1 (.t 42) (.t 43)),
  ⟨none, .s (.store 1 (.t 49) (.t 48)), none⟩] [6, 7, 8]))
 (.ops [mv_ 40 8,
  po_ 41 (.bin 3 .add (.t 40) (ci_ 1)),
  mv_ 8 41] [6, 7, 8]))
def ASv : AE9 := .block 0 (.loop [6, 7, 8] ASW)
def AR9 : AE9 := .seq (.ops [mv_ 50 7,
  mv_ 4 50] [4])
 (.ret)
def AS2 : AE9 := .seq (.seq (.ops [po_ 8 (.mov (ci_ 0))] [6, 7, 8])
 ASv)
 AR9
def ASF : AE9 := .seq (.ops [mv_ 20 7,
  mv_ 21 20,
  ⟨some 22, .p (.mov (.t 6)), some ⟨21, true⟩⟩,
  ⟨some 23, .p (.mov (.t 5)), some ⟨21, true⟩⟩,
  ⟨some 24, .p (.idxA 1 (.t 22) (.t 23)), some ⟨21, true⟩⟩,
  ⟨some 25, .p (.load false 1 (.t 24)), some ⟨21, true⟩⟩,
  ⟨some 26, .p (.bin 5 .eql (.t 25) (.c (.int .u8 ((71 : Nat) : Int)))), some ⟨21, true⟩⟩,
  po_ 27 (.pick (.t 21) (.t 26) (.c (.bool false))),
  mv_ 28 27,
  ⟨some 29, .p (.mov (.t 6)), some ⟨28, true⟩⟩,
  ⟨some 30, .p (.mov (.t 5)), some ⟨28, true⟩⟩,
  ⟨some 31, .p (.bin 3 .add (.t 30) (ci_ 1)), some ⟨28, true⟩⟩,
  ⟨some 32, .p (.idxA 1 (.t 29) (.t 31)), some ⟨28, true⟩⟩,
  ⟨some 33, .p (.load false 1 (.t 32)), some ⟨28, true⟩⟩,
  ⟨some 34, .p (.bin 5 .eql (.t 33) (.c (.int .u8 ((72 : Nat) : Int)))), some ⟨28, true⟩⟩,
  po_ 35 (.pick (.t 28) (.t 34) (.c (.bool false))),
  mv_ 7 35] [6, 7])
 AS2
def ASa : AE9 := .seq (.ops [mv_ 15 6,
  mv_ 16 5,
  po_ 17 (.slV 1 (.t 15) none (some (.t 16))),
  mv_ 18 1,
  so_ 19 (.call 11 [.t 17, .t 18]),
  mv_ 7 19] [5, 6, 7])
 ASF
def ASQ : AE9 := .seq (.ops [mv_ 11 0,
  mv_ 12 5,
  po_ 13 (.bin 3 .add (.t 12) (ci_ 2)),
  po_ 14 (.slV 1 (.t 11) none (some (.t 13))),
  mv_ 6 14] [1, 5, 6])
 ASa
def ASt : AE9 := .seq (.ops [mv_ 9 1,
  po_ 10 (.lenV (.t 9)),
  mv_ 5 10] [0, 1, 5])
 ASQ
def AWs : AE9 := .seq (.ops [po_ 4 (.mov (.c (.bool false)))] [0, 1])
 ASt
def AWv : List VR := [.tmp 4]
theorem A0j : Tryz.f39.body.bind (trC Tryz.prog Tryz.f39.ntmps) = some (er AWs) := by kernel_rfl
theorem AZM : trR Tryz.prog Tryz.f39.results.toList = some AWv := by kernel_rfl
def AWl := AE8 ASW.eq_1
def AV3 := AE8 ASv.eq_1
def AVT := AE8 AR9.eq_1
def AWa := AE8 AS2.eq_1
def AWh := AE8 ASF.eq_1
def AVY := AE8 ASa.eq_1
def AWi := AE8 ASQ.eq_1
def AVQ := AE8 ASt.eq_1
def AYh := AE8 AWs.eq_1
theorem AYg {K : TV → Prop} {e : Env} {H : List Ob} : res AWv e H K = res [.tmp 4] e H K := AE7 rfl
def AOo := (And.intro (And.intro (And.intro (And.intro @AWl @AV3) (And.intro @AVT @AWa)) (And.intro (And.intro @AWh @AVY) (And.intro @AWi @AVQ))) (And.intro @AYh @AYg))
def AZh := AH5 51 Tryz.func39 A0j AZM rfl

def ATE : AE9 := .seq (.block 1 (.seq (.draw 4 [mv_ 17 0,
  mv_ 18 5,
  po_ 19 (.idxA 1 (.t 17) (.t 18)),
  po_ 20 (.load false 1 (.t 19)),
  mv_ 21 1,
  mv_ 22 5,
  po_ 23 (.idxA 1 (.t 21) (.t 22)),
  po_ 24 (.load false 1 (.t 23)),
  po_ 25 (.bin 5 .neq (.t 20) (.t 24))] [0, 1, 5, 25])
 (.cond (.t 25)
 (.seq (.ops [po_ 4 (.mov (.c (.bool false)))] [4])
  (.ret))
 (.skip))))
 (.ops [mv_ 15 5,
  po_ 16 (.bin 3 .add (.t 15) (ci_ 1)),
  mv_ 5 16] [0, 1, 5])
def ATx : AE9 := .seq (.seq (.ops [mv_ 11 5,
  mv_ 12 0,
  po_ 13 (.lenV (.t 12)),
  po_ 14 (.bin 3 .lss (.t 11) (.t 13))] [0, 1, 5, 14])
 (.cond (.t 14)
 (.skip)
 (.exit 0)))
 ATE
def ATH : AE9 := .block 0 (.loop [0, 1, 5] ATx)
def ATA : AE9 := .seq (.ops [po_ 4 (.mov (.c (.bool true)))] [4])
 (.ret)
def ATy : AE9 := .seq (.seq (.ops [po_ 5 (.mov (ci_ 0))] [0, 1, 5])
 ATH)
 ATA
def ATu : AE9 := .seq (.seq (.ops [mv_ 6 0,
  po_ 7 (.lenV (.t 6)),
  mv_ 8 1,
  po_ 9 (.lenV (.t 8)),
  po_ 10 (.bin 3 .neq (.t 7) (.t 9))] [0, 1, 10])
 (.cond (.t 10)
 (.seq (.ops [po_ 4 (.mov (.c (.bool false)))] [4])
  (.ret))
 (.skip)))
 ATy
def AXU : AE9 := .seq (.ops [po_ 4 (.mov (.c (.bool false)))] [0, 1])
 ATu
def AXl : List VR := [.tmp 4]
theorem A1y : Tryz.f11.body.bind (trC Tryz.prog Tryz.f11.ntmps) = some (er AXU) := by kernel_rfl
theorem A1t : trR Tryz.prog Tryz.f11.results.toList = some AXl := by kernel_rfl
def AWN := AE8 ATE.eq_1
def AW7 := AE8 ATx.eq_1
def AWO := AE8 ATH.eq_1
def AWX := AE8 ATA.eq_1
def AW9 := AE8 ATy.eq_1
def AWI := AE8 ATu.eq_1
def AY8 := AE8 AXU.eq_1
theorem AZf {K : TV → Prop} {e : Env} {H : List Ob} : res AXl e H K = res [.tmp 4] e H K := AE7 rfl
def ANe := (And.intro (And.intro (And.intro @AWN @AW7) (And.intro @AWO @AWX)) (And.intro (And.intro @AW9 @AWI) (And.intro @AY8 @AZf)))
def A0y := AH5 26 Tryz.func11 A1y A1t rfl

end Go.Proofs.YtliaddbbmnfioaaGreatDoor


namespace Go.Proofs.YtliaddbbmnfioaaGreatDoor
open Go.RowKit
variable [AFq] [AGa]
set_option linter.unusedSectionVars false
set_option linter.unusedVariables false
set_option linter.unusedSimpArgs false

theorem AQH.refl {F : Nat → Prop} {w : World} (h : ∀ b, F b → b < w.heap.size) : AQH F w F w := ⟨rfl, rfl, rfl, Nat.le_refl _, fun _ _ => rfl, fun _ h => h, fun _ _ h => h, h⟩
theorem AQH.alloc {F F' : Nat → Prop} {w w' : World} (h : AQH F w F' w') (o : Obj) : AQH F w F' (w'.alloc o) :=
 ⟨h.os, h.tape, h.output, by have := h.size; simp; omega, fun b hb => (AGd w' o (Nat.lt_of_lt_of_le hb h.size)).trans (h.same b hb), h.keepF, h.oldF, fun b hb => by have := h.ltF b hb; simp; omega⟩
abbrev eno (n : Int) : TV := .ifc 34 (i64 n)

theorem A7R {n : Int} {id ver : Nat} {p : List (Nat × Nat)} {x x' : TV} {H : List Ob} {K : TV → List Ob → Prop} (ho : H[id]? = some (.obj ver x)) (hs2 : ATJ p x (i64 n) = some x') (hk : K (tb true) (H.set id (.obj ver x'))) :
  AFl Tryz.prog 31 [eno n, .ifc 83 (.op id ver p)] H K := by
 intro β F w vs hs hv
 obtain ⟨u, us, rfl, h1, h2⟩ := AFO.cons.1 hv
 obtain ⟨u2, us2, rfl, h3, h4⟩ := AFO.cons.1 h2
 rw [AFO.nil] at h4; subst h4
 -- the two arguments
 have e1 : u = .iface 34 (.int .i64 n) := by
  rcases h1 with h | h | ⟨xs0, h, rfl⟩
  ·cases h
  ·cases h
  ·rw [AFf] at h
   obtain ⟨v, rfl, vs, h, rfl⟩ := h
   rw [AFf] at h
   obtain ⟨rfl, _⟩ := h
   rfl
 obtain ⟨b, o, hbo, rfl⟩ : ∃ b o, β id ver = some (b, o) ∧ u2 = .iface 83 (.pointer (some ⟨b, o + AHO p, none⟩)) := by
  rcases h3 with h | h | ⟨xs0, h, rfl⟩
  ·cases h
  ·cases h
  ·rw [AFf] at h
   obtain ⟨v, rfl, vs, h, rfl⟩ := h
   rw [AFf] at h
   obtain ⟨_, b, o, hb, rfl⟩ := h
   exact ⟨b, o, hb, rfl⟩
 subst e1
 have hgl := hs.glob.at AGa.k
 have hg : w.cell? ⟨1, 0, none⟩ = some (.iface 175 (.agg #[.pointer (some ⟨10, 31, none⟩)])) := hgl 0 _ rfl
 have hrow : ∀ c w, AFf c w (i64 n) [.int .i64 n] := fun c w => by rw [AFf]; exact ⟨rfl, rfl⟩
 obtain ⟨_, _, ht⟩ := hs.store ho hbo hs2 (hrow _ _)
 obtain ⟨t1, t2⟩ := ht 0 (by simp)
 obtain ⟨old, hold⟩ := Option.isSome_iff_exists.1 t1
 refine (Bee n ⟨b, o + AHO p, none⟩ old w hg hold t2).mono ?_
 rintro e w' ⟨rfl, rfl⟩
 have hst := ((((AQH.refl (F := F) hs.lt).alloc (.cells #[.pointer (some ⟨b, o + AHO p, none⟩)] 83)).alloc (.cells #[.pointer (some ⟨10, 83, none⟩), .pointer (some ⟨w.heap.size, 0, none⟩), .int .u64 150] 127)).alloc (.cells #[.pointer (some ⟨10, 83, none⟩), .pointer (some ⟨w.heap.size, 0, none⟩), .int .u64 150] 127)).alloc (.cells #[.int .i64 n] 34)
 obtain ⟨k1, k2, _⟩ := (hst.sim hs).store ho hbo hs2 (hrow _ _)
 exact ⟨_, tb true, β, _, F, rfl, hk, k1, hst.later.trans k2, Rep.of_val⟩
theorem BhW {n : Int} : AF9 Tryz.prog 8 [eno n] (fun x => x = i64 n) := by
 refine AFl.toPureV (AXp (by simp) ?_)
 simp -dsimp (disch := first | assumption | omega) only [↓AFe, AFb, AFd, AFc, eq_self, Nat.reduceEqDiff, ↓reduceIte, reduceCtorEq, ↓AWm]
 refine A7R (x := i64 ((0 : Nat) : Int)) (x' := i64 n) rfl (by rw [A2a]; rfl) ?_
 simp -dsimp (disch := first | assumption | omega) only [↓AFe, AFb, AFd, AFc, eq_self, Nat.reduceEqDiff, ↓reduceIte, reduceCtorEq, ↓AWm]
theorem BdP : AF9 Tryz.prog 8 [.val .nilIface] (fun x => x = i64 ((0 : Nat) : Int)) := by
 refine AFl.toPureV (AXp (by simp) ?_)
 simp -dsimp (disch := first | assumption | omega) only [↓AFe, AFb, AFd, AFc, eq_self, Nat.reduceEqDiff, ↓reduceIte, reduceCtorEq, ↓AWm]
end Go.Proofs.YtliaddbbmnfioaaGreatDoor


namespace Go.Proofs.YtliaddbbmnfioaaGreatDoor
open Go.RowKit
variable [AFq]
set_option linter.unusedSectionVars false
set_option linter.unusedVariables false
set_option linter.unusedSimpArgs false

end Go.Proofs.YtliaddbbmnfioaaGreatDoor


namespace Go.Proofs.YtliaddbbmnfioaaGreatDoor
open Go.RowKit
variable [AFq]
set_option linter.unusedSectionVars false
set_option linter.unusedVariables false
set_option linter.unusedSimpArgs false
def hv (c : UInt8) : Nat := if 48 ≤ c.toNat ∧ c.toNat ≤ 57 then c.toNat - 48 else if 97 ≤ c.toNat ∧ c.toNat ≤ 102 then c.toNat - 87 else 16



end Go.Proofs.YtliaddbbmnfioaaGreatDoor


namespace Go.Proofs.YtliaddbbmnfioaaGreatDoor
open Go.RowKit
variable [AFq] [AFi] [AFm] [AFn] [AXi]
set_option linter.unusedSectionVars false
set_option linter.unusedVariables false
set_option linter.unusedSimpArgs false

end Go.Proofs.YtliaddbbmnfioaaGreatDoor


namespace Go.Proofs.YtliaddbbmnfioaaGreatDoor
open Go.RowKit
variable [AFq]
set_option linter.unusedSectionVars false
set_option linter.unusedVariables false
set_option linter.unusedSimpArgs false
def Buf (H : List Ob) (r : TV) (l : List UInt8) : Option Nat → Prop
 | none => r = .val (.slice none 0 0) ∧ l = []
 | some j => ∃ v, r = .os 1 j v [] 0 l.length l.length ∧ H[j]? = some (.bld v 5 l)

end Go.Proofs.YtliaddbbmnfioaaGreatDoor


namespace Go.Proofs.YtliaddbbmnfioaaGreatDoor
open Go.RowKit
variable [AFq]
set_option linter.unusedSectionVars false
set_option linter.unusedVariables false
set_option linter.unusedSimpArgs false
structure LO (H : List Ob) (l : List UInt8) : Prop where
 ex : ∃ a r, H[0]? = some (.obj 0 (.agg [a, r])) ∧ A40 0 0 [] a ∧ Buf H r l (some 2)
 fact : H[1]? = some (.fact 0 0 118 2)
end Go.Proofs.YtliaddbbmnfioaaGreatDoor


namespace Go.Proofs.YtliaddbbmnfioaaGreatDoor
open Go.RowKit
variable [AFq] [AFi] [AFm] [AFn] [AXi] [AKO]
set_option linter.unusedSectionVars false
set_option linter.unusedVariables false
set_option linter.unusedSimpArgs false
structure BiO where
 id : List UInt8
 kind : Int
 name : List UInt8
 who : Per
 msg : List UInt8
end Go.Proofs.YtliaddbbmnfioaaGreatDoor


namespace Go.Proofs.YtliaddbbmnfioaaGreatDoor
open Go.RowKit
variable [AFq]
set_option linter.unusedSectionVars false
set_option linter.unusedVariables false
set_option linter.unusedSimpArgs false

end Go.Proofs.YtliaddbbmnfioaaGreatDoor


namespace Go.Proofs.YtliaddbbmnfioaaGreatDoor
open Go.RowKit
variable [AFq]
set_option linter.unusedSectionVars false
set_option linter.unusedVariables false
set_option linter.unusedSimpArgs false
structure BiP where
 tree : List UInt8
 pars : List (List UInt8)
 author : Per
 comm : Per
 msg : List UInt8
def Ban : List UInt8 := [116, 114, 101, 101]
def ASN : List UInt8 := [112, 97, 114, 101, 110, 116]
abbrev Bfe (l : List UInt8) : TV := .arr 20 1 (l.map by8)
def AV6 : List (List UInt8) → List UInt8
 | [] => []
 | v :: l => ASN ++ 32 :: (v ++ 10 :: AV6 l)
theorem AZU : ∀ {l m : List (List UInt8)} {r q : List UInt8}, (∀ x ∈ l, 10 ∉ x) → (∀ x ∈ m, 10 ∉ x) → mb ASN r = true → mb ASN q = true → AV6 l ++ r = AV6 m ++ q → l = m ∧ r = q
 | [], [], r, q, _, _, _, _, e => ⟨rfl, e⟩
 | [], v :: m, r, q, _, hm, hr, _, e => by
  exfalso
  simp only [AV6, List.nil_append, List.append_assoc, List.cons_append] at e
  have := (AWn (w := ASN) (v := v) (r := AV6 m ++ q) (by decide) (hm v (by simp))).1
  rw [← e, hr] at this; cases this
 | v :: l, [], r, q, hl, _, _, hq, e => by
  exfalso
  simp only [AV6, List.nil_append, List.append_assoc, List.cons_append] at e
  have := (AWn (w := ASN) (v := v) (r := AV6 l ++ r) (by decide) (hl v (by simp))).1
  rw [e, hq] at this; cases this
 | u :: l, v :: m, r, q, hl, hm, hr, hq, e => by
  simp only [AV6, List.append_assoc, List.cons_append] at e
  obtain ⟨_, a1, a2⟩ := AWn (w := ASN) (v := u) (r := AV6 l ++ r) (by decide) (hl u (by simp))
  obtain ⟨_, b1, b2⟩ := AWn (w := ASN) (v := v) (r := AV6 m ++ q) (by decide) (hm v (by simp))
  rw [e] at a1 a2
  obtain ⟨h1, h2⟩ := AZU (fun x hx => hl x (by simp [hx])) (fun x hx => hm x (by simp [hx])) hr hq (a2.symm.trans b2)
  exact ⟨by rw [← a1, b1, h1], h2⟩
structure BhF (s x : List UInt8) (ps : List (List UInt8)) (t : List UInt8) : Prop where
 head : s = Ban ++ 32 :: (x ++ 10 :: (AV6 ps ++ t))
 nx : 10 ∉ x
 nps : ∀ p ∈ ps, 10 ∉ p
 stop : mb ASN t = true
theorem BhF.one {s x x' t t' : List UInt8} {ps ps' : List (List UInt8)} (h : BhF s x ps t) (h' : BhF s x' ps' t') : x = x' ∧ ps = ps' ∧ t = t' := by
 obtain ⟨_, a1, a2⟩ := AWn (w := Ban) (v := x) (r := AV6 ps ++ t) (by decide) h.nx
 obtain ⟨_, b1, b2⟩ := AWn (w := Ban) (v := x') (r := AV6 ps' ++ t') (by decide) h'.nx
 rw [← h.head] at a1 a2
 rw [← h'.head] at b1 b2
 obtain ⟨h1, h2⟩ := AZU h.nps h'.nps h.stop h'.stop (a2.symm.trans b2)
 exact ⟨a1.symm.trans b1, h1, h2⟩
end Go.Proofs.YtliaddbbmnfioaaGreatDoor


namespace Go.Proofs.YtliaddbbmnfioaaGreatDoor
open Go.RowKit
variable [AFq]
set_option linter.unusedSectionVars false
set_option linter.unusedVariables false
set_option linter.unusedSimpArgs false

theorem BbC {k l : List UInt8} {x : TV} : ∀ {es : List (List UInt8 × TV)}, ASm k (AVv l x es) = if l = k then some x else ASm k es
 | [] => by simp [AVv, ASm]
 | (q, y) :: es => by
  rw [AVv]
  by_cases hq : q = l
  ·subst hq
   rw [if_pos rfl, ASm, ASm]
   by_cases h : q = k <;> simp [h]
  ·rw [if_neg hq, ASm, ASm, BbC]
   by_cases h : q = k
   ·subst h; rw [if_pos rfl, if_neg (fun e => hq e.symm), if_pos rfl]
   ·rw [if_neg h, if_neg h]
theorem A0e {k : List UInt8} {x : TV} {es : List (List UInt8 × TV)} : ASm k (AVv k x es) = some x := by rw [BbC, if_pos rfl]
def Cnt (es : List (List UInt8 × TV)) (m : List (List UInt8)) : Prop := ∀ l, (ASm l es).getD (i64 ((0 : Nat) : Int)) = i64 ((m.count l : Nat) : Int)
theorem Cnt.add {es : List (List UInt8 × TV)} {m : List (List UInt8)} (h : Cnt es m) (l : List UInt8) : Cnt (AVv l (i64 ((m.count l + 1 : Nat) : Int)) es) (m ++ [l]) := by
 intro k
 rw [BbC]
 by_cases hk : l = k
 ·subst hk; simp
 ·rw [if_neg hk, h k]; simp [hk]
end Go.Proofs.YtliaddbbmnfioaaGreatDoor


namespace Go.Proofs.YtliaddbbmnfioaaGreatDoor
open Go.RowKit
variable [AFq]
set_option linter.unusedSectionVars false
set_option linter.unusedVariables false
set_option linter.unusedSimpArgs false

abbrev enT (e : En) : TV := .agg [i64 e.mode, ts e.name, Bfe e.id]
theorem Bbz (m : Int) : AF9 Tryz.prog 80 [i64 m] (fun r => r = tb (ANX m)) := by
 refine AFl.toPureV (AW4 (by simp) ?_)
 by_cases h1 : m = 16384
 ·subst h1
  simp -dsimp (disch := first | assumption | omega | (simp only [AFa]; done) | (simp only [AFa]; omega)) only [↓AFe, AFb, AFd, AFc, eq_self, Nat.reduceEqDiff, ↓reduceIte, reduceCtorEq, ↓AHv, ↓AGe, ↓AHp]
  rfl
 by_cases h2 : m = 33188
 ·subst h2
  simp -dsimp (disch := first | assumption | omega | (simp only [AFa]; done) | (simp only [AFa]; omega)) only [↓AFe, AFb, AFd, AFc, eq_self, Nat.reduceEqDiff, ↓reduceIte, reduceCtorEq, ↓AHv, ↓AGe, ↓AHp]
  rfl
 by_cases h3 : m = 33261
 ·subst h3
  simp -dsimp (disch := first | assumption | omega | (simp only [AFa]; done) | (simp only [AFa]; omega)) only [↓AFe, AFb, AFd, AFc, eq_self, Nat.reduceEqDiff, ↓reduceIte, reduceCtorEq, ↓AHv, ↓AGe, ↓AHp]
  rfl
 by_cases h4 : m = 40960
 ·subst h4
  simp -dsimp (disch := first | assumption | omega | (simp only [AFa]; done) | (simp only [AFa]; omega)) only [↓AFe, AFb, AFd, AFc, eq_self, Nat.reduceEqDiff, ↓reduceIte, reduceCtorEq, ↓AHv, ↓AGe, ↓AHp]
  rfl
 ·have e1 : ¬ m = ((16384 : Nat) : Int) := h1
  have e2 : ¬ m = ((33188 : Nat) : Int) := h2
  have e3 : ¬ m = ((33261 : Nat) : Int) := h3
  have e4 : ¬ m = ((40960 : Nat) : Int) := h4
  simp -dsimp (disch := first | assumption | omega | (simp only [AFa]; done) | (simp only [AFa]; omega)) only [↓AFe, AFb, AFd, AFc, eq_self, Nat.reduceEqDiff, ↓reduceIte, reduceCtorEq, ↓AHv, ↓AGe, ↓AHp, e1, e2, e3, e4]
  simp [ANX, h1, h2, h3, h4]
def ATs (l : List En) : Bool := decide (l.length ≤ 2000) && l.all (fun e => ANX e.mode && AMA e.name) && decide (l.map (·.name)).Nodup
theorem AXd {l : List En} (h20 : ∀ e ∈ l, e.id.length = 20) : ATs l = true ↔ AMo l := by
 unfold ATs AMo AZJ
 simp only [Bool.and_eq_true, decide_eq_true_eq, List.all_eq_true]
 constructor
 ·rintro ⟨⟨a, b⟩, c⟩
  exact ⟨a, fun e he => ⟨(b e he).1, (b e he).2, h20 e he⟩, c⟩
 ·rintro ⟨a, b, c⟩
  exact ⟨⟨a, fun e he => ⟨(b e he).1, (b e he).2.1⟩⟩, c⟩
theorem A9B (l : List En) (h20 : ∀ e ∈ l, e.id.length = 20) (hn : ∀ e ∈ l, e.name.length ≤ 9223372036854775807) (hl : l.length ≤ 1000000) : AF9 Tryz.prog 45 [.sl 22 (l.map enT)] (fun r => r = tb (ATs l)) := by
 refine AFl.toPureV (AXE (by simp) ?_)
 simp -dsimp (disch := first | assumption | omega | (simp only [AFa]; done) | (simp only [AFa]; omega)) only [↓AFe, AFb, AFd, AFc, eq_self, Nat.reduceEqDiff, ↓reduceIte, reduceCtorEq, ↓AXa, ↓AUa, ↓AT8, ↓AUI]
 refine AIa (fun q e H => ∃ (i : Nat) (es : List (List UInt8 × TV)), q = l.length - i ∧ i ≤ l.length ∧ (∀ e ∈ l.take i, (ANX e.mode && AMA e.name) = true) ∧ ((l.take i).map (·.name)).Nodup ∧ Cnt es ((l.take i).map (·.name)) ∧ H[0]? = some (.mpo .str es) ∧
  e = [(0, .sl 22 (l.map enT)), (3, .mp 0 0), (9, .sl 22 (l.map enT)), (10, i64 (l.length : Int)), (11, i64 (i : Int))]) l.length ?_ ?_
 ·exact ⟨0, [], by simp, by simp, by simp, by simp, fun l => by simp [ASm], rfl, rfl⟩
 ·rintro q e H ⟨i, es, rfl, hi, hall, hnd, hc, hH, rfl⟩
  have hHl : 0 < H.length := (List.getElem?_eq_some_iff.1 hH).1
  have hA : ∀ T : List Ob, (H ++ T)[0]? = some (.mpo .str es) := fun T => by rw [List.getElem?_append_left hHl]; exact hH
  by_cases hil : i < l.length
  ·have hg : l[i]? = some l[i] := List.getElem?_eq_getElem hil
   have hm := List.mem_of_getElem? hg
   have hx20 : (l[i].id.map by8).length = 20 := by rw [List.length_map]; exact h20 _ hm
   have hxn := hn _ hm
   have hcl := hc l[i].name
   have hadd := hc.add l[i].name
   have hcount : ((l.take i).map (·.name)).count l[i].name ≤ i := by have := List.count_le_length (a := l[i].name) (l := (l.take i).map (·.name)); rw [List.length_map, List.length_take] at this; omega
   have hts := List.take_succ_eq_append_getElem hil
   have htm : (l.take (i + 1)).map (·.name) = (l.take i).map (·.name) ++ [l[i].name] := by rw [hts, List.map_append]; rfl
   have hnx : ((l.take (i + 1)).map (·.name)).Nodup ↔ l[i].name ∉ (l.take i).map (·.name) := by
    rw [htm, List.nodup_append]
    exact ⟨fun ⟨_, _, g⟩ hm => g _ hm _ (by simp) rfl, fun g => ⟨hnd, by simp, fun a ha b hb => by rw [List.mem_singleton] at hb; subst hb; exact fun e => g (e ▸ ha)⟩⟩
   rw [← List.count_eq_zero] at hnx
   rw [← htm] at hadd
   have hpre : ATs l = true → ((l.take (i + 1)).map (·.name)).Nodup ∧ (ANX l[i].mode && AMA l[i].name) = true := fun h => by
    unfold ATs at h
    simp only [Bool.and_eq_true, decide_eq_true_eq, List.all_eq_true] at h
    exact ⟨h.2.sublist ((List.take_sublist _ _).map _), by simpa using h.1.2 _ hm⟩
   have hall' : (ANX l[i].mode && AMA l[i].name) = true → ∀ e ∈ l.take (i + 1), (ANX e.mode && AMA e.name) = true := fun h e he => by
    rw [hts] at he
    rcases List.mem_append.1 he with he | he
    ·exact hall e he
    ·rw [List.mem_singleton] at he; subst he; exact h
   have hmo := Bbz l[i].mode
   have hna := BbF l[i].name hxn
   have no : ¬ ATs l = true → tb false = tb (ATs l) := fun h => by rw [Bool.not_eq_true] at h; rw [h]
   generalize l[i] = x at *
   generalize ((l.take i).map (·.name)).count x.name = n at *
   have hS0 : ∀ (o : Ob) (T : List Ob), (H.set 0 o ++ T)[0]? = some o := fun o T => by rw [List.getElem?_append_left (by simpa using hHl), List.getElem?_set_self hHl]
   simp -dsimp (disch := first | assumption | omega | (simp only [AFa]; done) | (simp only [AFa]; omega)) only [↓AFe, AFb, AFd, AFc, eq_self, Nat.reduceEqDiff, ↓reduceIte, Nat.reduceAdd, reduceCtorEq, ↓AM4, ↓ANR, ↓AT3, ↓AT7, hg, hA, hcl]
   have g0 := hS0 (.mpo .str (AVv x.name (.val (.int .i64 ((n + 1 : Nat) : Int))) es)) [.obj 0 (enT x)]
   have gN : (H.set 0 (.mpo .str (AVv x.name (.val (.int .i64 ((n + 1 : Nat) : Int))) es)) ++ [Ob.obj 0 (enT x)])[H.length]? = some (.obj 0 (enT x)) := by rw [List.getElem?_append_right (by simp), List.length_set, Nat.sub_self]; rfl
   have gl : 1 ≤ (H.set 0 (.mpo .str (AVv x.name (.val (.int .i64 ((n + 1 : Nat) : Int))) es)) ++ [Ob.obj 0 (enT x)]).length := by simp
   generalize H.set 0 (.mpo .str (AVv x.name (.val (.int .i64 ((n + 1 : Nat) : Int))) es)) ++ [Ob.obj 0 (enT x)] = H1 at *
   simp -dsimp (disch := first | assumption | omega | (simp only [AFa]; done) | (simp only [AFa]; omega)) only [↓AFe, AFb, AFd, AFc, eq_self, Nat.reduceEqDiff, ↓reduceIte, reduceCtorEq, gN, ↓AUe]
   refine hmo.calls rfl fun r hr => ?_
   subst hr
   cases hm1 : ANX x.mode with
   | false =>
    simp -dsimp (disch := first | assumption | omega | (simp only [AFa]; done) | (simp only [AFa]; omega)) only [↓AFe, AFb, AFd, AFc, eq_self, Nat.reduceEqDiff, ↓reduceIte, reduceCtorEq, ↓AIk]
    exact no fun h => by have := (hpre h).2; rw [hm1] at this; cases this
   | true =>
    simp -dsimp (disch := first | assumption | omega | (simp only [AFa]; done) | (simp only [AFa]; omega)) only [↓AFe, AFb, AFd, AFc, eq_self, Nat.reduceEqDiff, ↓reduceIte, Nat.reduceAdd, reduceCtorEq, gN]
    refine hna.calls rfl fun r hr => ?_
    subst hr
    cases hm2 : AMA x.name with
    | false =>
     simp -dsimp (disch := first | assumption | omega | (simp only [AFa]; done) | (simp only [AFa]; omega)) only [↓AFe, AFb, AFd, AFc, eq_self, Nat.reduceEqDiff, ↓reduceIte, reduceCtorEq, ↓AIk]
     exact no fun h => by have := (hpre h).2; rw [hm1, hm2] at this; cases this
    | true =>
     by_cases hn0 : n = 0
     ·subst hn0
      simp -dsimp (disch := first | assumption | omega | (simp only [AFa]; done) | (simp only [AFa]; omega)) only [↓AFe, AFb, AFd, AFc, eq_self, Nat.reduceLT, Nat.reduceEqDiff, ↓reduceIte, Nat.reduceAdd, reduceCtorEq, gN, g0, A0e]
      exact AFW (l.length - (i + 1)) (by omega) gl ⟨i + 1, _, rfl, by omega, hall' (by rw [hm1, hm2]; rfl), hnx.2 rfl, hadd, g0, rfl⟩
     ·simp -dsimp (disch := first | assumption | omega | (simp only [AFa]; done) | (simp only [AFa]; omega)) only [↓AFe, AFb, AFd, AFc, eq_self, Nat.reduceEqDiff, ↓reduceIte, Nat.reduceAdd, reduceCtorEq, gN, g0, A0e, ↓AIk]
      exact no fun h => hn0 (hnx.1 (hpre h).1)
  ·have hi2 : i = l.length := by omega
   rw [hi2, List.take_length] at hnd hall
   simp -dsimp (disch := first | assumption | omega | (simp only [AFa]; done) | (simp only [AFa]; omega)) only [↓AFe, AFb, AFd, AFc, eq_self, Nat.reduceEqDiff, ↓reduceIte, reduceCtorEq, ↓AM4, ↓ANR, ↓AUT, ↓AIk]
   unfold ATs
   rw [decide_eq_true hnd, List.all_eq_true.2 hall]
   simp
end Go.Proofs.YtliaddbbmnfioaaGreatDoor


namespace Go.Proofs.YtliaddbbmnfioaaGreatDoor
open Go.RowKit
variable [AFq]
set_option linter.unusedSectionVars false
set_option linter.unusedVariables false
set_option linter.unusedSimpArgs false

theorem A9H (m : Int) : AF9 Tryz.prog 51 [i64 m] (fun r => r = ts (ANT m)) := by
 refine AFl.toPureV (AZv (by simp) ?_)
 unfold ANT
 by_cases h1 : m = 16384
 ·subst h1
  simp -dsimp (disch := first | assumption | omega | (simp only [AFa]; done) | (simp only [AFa]; omega)) only [↓AFe, AFb, AFd, AFc, eq_self, Nat.reduceEqDiff, ↓reduceIte, reduceCtorEq, ↓AIh, ↓AHo, ↓AIi]
 by_cases h2 : m = 33188
 ·subst h2
  simp -dsimp (disch := first | assumption | omega | (simp only [AFa]; done) | (simp only [AFa]; omega)) only [↓AFe, AFb, AFd, AFc, eq_self, Nat.reduceEqDiff, Int.reduceEq, ↓reduceIte, reduceCtorEq, ↓AIh, ↓AHo, ↓AH9, ↓AIi]
 by_cases h3 : m = 33261
 ·subst h3
  simp -dsimp (disch := first | assumption | omega | (simp only [AFa]; done) | (simp only [AFa]; omega)) only [↓AFe, AFb, AFd, AFc, eq_self, Nat.reduceEqDiff, Int.reduceEq, ↓reduceIte, reduceCtorEq, ↓AIh, ↓AHo, ↓AH9, ↓AIi]
 by_cases h4 : m = 40960
 ·subst h4
  simp -dsimp (disch := first | assumption | omega | (simp only [AFa]; done) | (simp only [AFa]; omega)) only [↓AFe, AFb, AFd, AFc, eq_self, Nat.reduceEqDiff, Int.reduceEq, ↓reduceIte, reduceCtorEq, ↓AIh, ↓AHo, ↓AH9, ↓AIi]
 ·have e1 : ¬ m = ((16384 : Nat) : Int) := h1
  have e2 : ¬ m = ((33188 : Nat) : Int) := h2
  have e3 : ¬ m = ((33261 : Nat) : Int) := h3
  have e4 : ¬ m = ((40960 : Nat) : Int) := h4
  simp -dsimp (disch := first | assumption | omega | (simp only [AFa]; done) | (simp only [AFa]; omega)) only [↓AFe, AFb, AFd, AFc, eq_self, Nat.reduceEqDiff, ↓reduceIte, reduceCtorEq, ↓AIh, ↓AHo, ↓AH9, ↓AIi, e1, e2, e3, e4]
theorem Ber (e : En) (h20 : e.id.length = 20) (hn : e.name.length ≤ 1000000000) : AF9 Tryz.prog 87 [enT e] (fun r => r = ts (AIH e)) := by
 refine AFl.toPureV (A1X (by simp) ?_)
 have hx : (e.id.map by8).length = 20 := by rw [List.length_map]; exact h20
 unfold AIH
 by_cases h1 : e.mode = 16384
 ·have e1 : e.mode = ((16384 : Nat) : Int) := h1
  rw [if_pos h1]
  simp -dsimp (disch := first | assumption | omega | (simp only [AFa]; done) | (simp only [AFa]; omega)) only [↓AFe, AFb, AFd, AFc, eq_self, Nat.reduceEqDiff, ↓reduceIte, Nat.reduceAdd, e1, BgZ, ↓AYE]
 ·have e1 : ¬ e.mode = ((16384 : Nat) : Int) := h1
  rw [if_neg h1]
  simp -dsimp (disch := first | assumption | omega | (simp only [AFa]; done) | (simp only [AFa]; omega)) only [↓AFe, AFb, AFd, AFc, eq_self, Nat.reduceEqDiff, ↓reduceIte, Nat.reduceAdd, e1, ↓AYE]
theorem Bb6 {t : TypeId} {a b : List UInt8} : AHJ t .leq (.string (str a)) (.string (str b)) = some (.bool (decide (¬ ltB b a))) := by
 unfold AHJ
 rw [binOp_string_leq]
 simp only [Lib.toList_data, str, Ba1]
 show some (Value.bool (decide (ltB a b) || a == b)) = some (.bool (decide (¬ ltB b a)))
 congr 2
 by_cases h1 : ltB b a
 ·have h2 : ¬ ltB a b := fun h => ALe _ (ALX h h1)
  have h3 : (a == b) = false := by simp only [beq_eq_false_iff_ne]; intro e; subst e; exact ALe _ h1
  simp [h1, h2, h3]
 ·by_cases h2 : ltB a b
  ·simp [h1, h2]
  ·have := AZt h2 h1
   subst this; simp [h1]
theorem A4q {a z : TV} : List.take 1 ((List.replicate 1 z).set 0 a) = [a] := by simp [List.replicate]
theorem A6X {α : Type} {z a : α} : (List.replicate 1 z).set 0 a = [a] := by simp [List.replicate]
theorem AP0 {α : Type} {l : List α} {i : Nat} {x : α} (h : l[i]? = some x) : i < l.length := (List.getElem?_eq_some_iff.1 h).1
theorem AWp {l out : List En} {i at' k v cp : Nat} {x : En} {H : List Ob} {Q : VEx → Env → List Ob → Prop} (hx20 : (x.id.map by8).length = 20) (hg : l[i]? = some x) (hol : out.length ≤ 10000) (hil : i ≤ 10000) (hat : at' ≤ out.length) (hk : H[k]? = some (.obj v (.arr out.length 22 (out.map enT)))) (hcp : out.length ≤ cp)
  (hQ : ∀ k' v' H', H'[k']? = some (.obj v' (.arr (out.take at' ++ [x] ++ out.drop at').length 22 ((out.take at' ++ [x] ++ out.drop at').map enT))) → H.length ≤ H'.length → Q .nor [(0, .sl 22 (l.map enT)), (3, .os 22 k' v' [] 0 (out.take at' ++ [x] ++ out.drop at').length (out.take at' ++ [x] ++ out.drop at').length), (4, i64 (i : Int))] H') :
  vwp Tryz.prog AL9 Q [(0, .sl 22 (l.map enT)), (3, .os 22 k v [] 0 out.length cp), (4, i64 (i : Int)), (5, i64 (at' : Int))] H := by
 have hkl := AP0 hk
 have htl : ((out.map enT).take at').length = at' := by simp [hat]
 have hdl : ((out.map enT).drop at').length = out.length - at' := by simp
 have hq1 : List.take at' (List.take at' out) = List.take at' out := by rw [List.take_take, Nat.min_self]
 have hq2 : (List.take at' out).length = at' := by simp [hat]
 have hq3 : ∀ y : TV, List.take (at' + 1) ((List.take at' out).map enT ++ [y]) = (List.take at' out).map enT ++ [y] := fun y => List.take_of_length_le (by simp [hat])
 have hq4 : (out.drop at').length = out.length - at' := by simp
 simp -dsimp (disch := first | assumption | omega | (simp only [AFa]; done) | (simp only [AFa]; omega)) only [↓AFe, AFb, AFd, AFc, eq_self, Nat.reduceEqDiff, ↓reduceIte, Nat.reduceAdd, reduceCtorEq, Nat.reduceLeDiff, ↓AVn, ↓AU2, ↓AVo, hg, hk, A6X, hq2, hq3, hq4]
 have hlen' : (out.take at' ++ [x] ++ out.drop at').length = at' + 1 + (out.length - at') := by
  rw [List.length_append, List.length_append, hq2, hq4, List.length_singleton]
 have := hQ H.length 3 (H ++ [Ob.obj 3 (.arr (at' + 1 + (out.length - at')) 22 (List.map enT (List.take at' out) ++ [enT x] ++ List.map enT (List.drop at' out)))] ++ [Ob.obj 0 (TV.arr 1 22 [enT x])])
  (by rw [List.append_assoc, List.getElem?_append_right (Nat.le_refl _), Nat.sub_self, hlen']; simp) (by simp)
 rw [hlen'] at this
 exact this
theorem A3X (l : List En) (hlen : l.length ≤ 5000) (h20 : ∀ x ∈ l, x.id.length = 20) (hnm : ∀ x ∈ l, x.name.length ≤ 1000000000) (hn : (l.map AIH).Nodup) : AF9 Tryz.prog 52 [.sl 22 (l.map enT)] (fun r => ∃ s, r = .sl 22 (s.map enT) ∧ SE s ∧ s.Perm l) := by
 refine AFl.toPureV (AYl (by simp) ?_)
 simp -dsimp (disch := first | assumption | omega | (simp only [AFa]; done) | (simp only [AFa]; omega)) only [↓AFe, AFb, AFd, AFc, eq_self, Nat.reduceEqDiff, ↓reduceIte, reduceCtorEq, ↓AXG, ↓AUP, ↓ATU, ↓AVz]
 refine AIa (fun q e H => ∃ (i k v cp : Nat) (out : List En), q = l.length - i ∧ i ≤ l.length ∧ SE out ∧ out.Perm (l.take i) ∧ e = [(0, .sl 22 (l.map enT)), (3, .os 22 k v [] 0 out.length cp), (4, i64 (i : Int))] ∧ (H[k]? = some (.obj v (.arr out.length 22 (out.map enT))) ∧ out.length ≤ cp)) l.length ?_ ?_
 ·exact ⟨0, 0, 0, 0, [], by simp, by simp, List.Pairwise.nil, by simp, by simp [forget, get], rfl, by simp⟩
 ·rintro q e H ⟨i, k, v, cp, out, rfl, hi, hsd, hmem, rfl, hk, hcp⟩
  have hkl := AP0 hk
  have hol : out.length = i := by rw [hmem.length_eq]; simp [hi]
  by_cases h : i < l.length
  ·have hg : l[i]? = some l[i] := List.getElem?_eq_getElem h
   have hsucc := List.take_succ_eq_append_getElem h
   have hnot : AIH l[i] ∉ out.map AIH := fun hm => by
    rw [(hmem.map _).mem_iff] at hm
    have h2 : ((l.take (i + 1)).map AIH).Nodup := hn.sublist ((List.take_sublist _ _).map _)
    rw [hsucc, List.map_append, List.nodup_append] at h2
    exact h2.2.2 _ hm _ (by simp) rfl
   have hx20 : (l[i].id.map by8).length = 20 := by rw [List.length_map]; exact h20 _ (List.getElem_mem h)
   have hkx := Ber l[i] (h20 _ (List.getElem_mem h)) (hnm _ (List.getElem_mem h))
   generalize l[i] = x at *
   simp -dsimp (disch := first | assumption | omega | (simp only [AFa]; done) | (simp only [AFa]; omega)) only [↓AFe, AFb, AFd, AFc, eq_self, Nat.reduceEqDiff, ↓reduceIte, reduceCtorEq, ↓AOk, ↓AU8, ↓AVg]
   refine AIa (fun q e H' => ∃ at' : Nat, q = out.length - at' ∧ at' ≤ out.length ∧ (∀ (j : Nat) y, j < at' → out[j]? = some y → ltB (AIH y) (AIH x)) ∧ e = [(0, .sl 22 (l.map enT)), (3, .os 22 k v [] 0 out.length cp), (4, i64 (i : Int)), (5, i64 (at' : Int))] ∧ H' = H) out.length ?_ ?_
   ·exact ⟨0, by simp, by simp, by simp, by simp [forget, get], rfl⟩
   ·rintro q e H' ⟨at', rfl, hat, hlt, rfl, rfl⟩
    by_cases ha : at' < out.length
    ·have hga : out[at']? = some out[at'] := List.getElem?_eq_getElem ha
     have hya : out[at'] ∈ l := List.mem_of_mem_take (hmem.mem_iff.1 (List.mem_of_getElem? hga))
     have hky := Ber out[at'] (h20 _ hya) (hnm _ hya)
     have hne : AIH out[at'] ≠ AIH x := fun e => hnot (by rw [← e]; exact List.mem_map.2 ⟨_, List.getElem_mem ha, rfl⟩)
     have h20y : (out[at'].id.map by8).length = 20 := by rw [List.length_map]; exact h20 _ hya
     generalize out[at'] = y at *
     have hgt : (out.map enT)[at']? = some (enT y) := by rw [List.getElem?_map, hga]; rfl
     simp -dsimp (disch := first | assumption | omega | (simp only [AFa]; done) | (simp only [AFa]; omega)) only [↓AFe, AFb, AFd, AFc, eq_self, Nat.reduceEqDiff, ↓reduceIte, Nat.reduceAdd, reduceCtorEq, ↓AN4, hk, hgt]
     refine ⟨_, hky.calls rfl fun r hr => ⟨hr, rfl⟩, ?_⟩
     simp -dsimp (disch := first | assumption | omega | (simp only [AFa]; done) | (simp only [AFa]; omega)) only [↓AFe, AFb, AFd, AFc, eq_self, Nat.reduceEqDiff, ↓reduceIte, Nat.reduceAdd, reduceCtorEq, hg]
     refine hkx.calls rfl fun r hr => ?_
     subst hr
     simp -dsimp (disch := first | assumption | omega | (simp only [AFa]; done) | (simp only [AFa]; omega)) only [↓AFe, AFb, AFd, AFc, eq_self, Nat.reduceEqDiff, ↓reduceIte, Bb6]
     refine A4D (fun hl1 => ?_) (fun hl1 => ?_)
     ·simp -dsimp (disch := first | assumption | omega | (simp only [AFa]; done) | (simp only [AFa]; omega)) only [↓AFe, AFb, AFd, AFc, eq_self, Nat.reduceEqDiff, ↓reduceIte, reduceCtorEq]
      refine AFW (out.length - (at' + 1)) (by omega) (Nat.le_refl _) ⟨at' + 1, rfl, by omega, fun j z hj hz => ?_, by simp [forget, get], rfl⟩
      rcases Nat.lt_succ_iff_lt_or_eq.1 hj with hj | rfl
      ·exact hlt j z hj hz
      ·rw [hga] at hz; cases hz
       by_cases e : ltB (AIH y) (AIH x)
       ·exact e
       ·exact absurd (AZt e hl1) hne
     ·simp -dsimp (disch := first | assumption | omega | (simp only [AFa]; done) | (simp only [AFa]; omega)) only [↓AFe, AFc, eq_self, Nat.reduceEqDiff, ↓reduceIte, reduceCtorEq]
      refine AWp hx20 hg (by omega) (by omega) hat hk hcp fun k' v' H2 hk2 hl2 => ?_
      have i1 := hsd.insert hat hlt (fun z hz => by rw [hga] at hz; cases hz; exact Decidable.not_not.1 hl1)
      have i2 := A10 (k := at') (x := x) hmem
      rw [← hsucc] at i2
      simp only [List.append_assoc, List.singleton_append] at hk2 ⊢
      generalize out.take at' ++ x :: out.drop at' = out' at *
      simp -dsimp (disch := first | assumption | omega | (simp only [AFa]; done) | (simp only [AFa]; omega)) only [↓AFe, AFb, AFd, AFc, eq_self, Nat.reduceEqDiff, ↓reduceIte, reduceCtorEq, ↓AOh]
      exact AFW (l.length - (i + 1)) (by omega) (by omega) ⟨i + 1, k', v', _, out', rfl, by omega, i1, i2, by simp [forget, get], hk2, Nat.le_refl _⟩
    ·have hat2 : at' = out.length := by omega
     subst hat2
     simp -dsimp (disch := first | assumption | omega | (simp only [AFa]; done) | (simp only [AFa]; omega)) only [↓AFe, AFb, AFd, AFc, eq_self, Nat.reduceEqDiff, ↓reduceIte, reduceCtorEq, ↓AN4]
     refine AWp hx20 hg (by omega) (by omega) hat hk hcp fun k' v' H2 hk2 hl2 => ?_
     have i1 := hsd.insert hat hlt (fun z hz => by rw [List.getElem?_eq_none (Nat.le_refl _)] at hz; cases hz)
     have i2 := A10 (k := out.length) (x := x) hmem
     rw [← hsucc] at i2
     simp only [List.append_assoc, List.singleton_append] at hk2 ⊢
     generalize out.take out.length ++ x :: out.drop out.length = out' at *
     simp -dsimp (disch := first | assumption | omega | (simp only [AFa]; done) | (simp only [AFa]; omega)) only [↓AFe, AFb, AFd, AFc, eq_self, Nat.reduceEqDiff, ↓reduceIte, reduceCtorEq, ↓AOh]
     exact AFW (l.length - (i + 1)) (by omega) (by omega) ⟨i + 1, k', v', _, out', rfl, by omega, i1, i2, by simp [forget, get], hk2, Nat.le_refl _⟩
  ·have hi2 : i = l.length := by omega
   subst hi2
   rw [List.take_length] at hmem
   simp -dsimp (disch := first | assumption | omega | (simp only [AFa]; done) | (simp only [AFa]; omega)) only [↓AFe, AFb, AFd, AFc, eq_self, Nat.reduceEqDiff, ↓reduceIte, reduceCtorEq, ↓AOk, ↓AT6, ↓AXy, hk]
   exact ⟨out, rfl, hsd, hmem⟩
theorem Bbh {e : En} (h : AZJ e) : (enB e).length ≤ 78 := by
 obtain ⟨h1, h2, h3⟩ := h
 have hn := (ARc h2).2.1
 have ho : (ANT e.mode).length ≤ 6 := by
  rcases AGp h1 with h | h | h | h <;> rw [h] <;> decide
 unfold enB
 simp only [List.length_append, List.length_cons]
 omega
theorem AXg : ∀ {s : List En}, (∀ e ∈ s, AZJ e) → (s.flatMap enB).length ≤ 78 * s.length
 | [], _ => by simp
 | e :: s, h => by
  have h1 := Bbh (h e (by simp))
  have h2 := AXg (s := s) fun x hx => h x (by simp [hx])
  rw [List.flatMap_cons, List.length_append, List.length_cons]
  omega
def A9I (l : List En) (r : TV) : Prop := (AMo l → ∃ s, SE s ∧ s.Perm l ∧ r = .tup [slB (s.flatMap enB), i64 ((0 : Nat) : Int)]) ∧ (¬ AMo l → r = .tup [.val (.slice none 0 0), i64 ((21 : Nat) : Int)])
theorem AXx (l : List En) (h20 : ∀ x ∈ l, x.id.length = 20) (hnm : ∀ x ∈ l, x.name.length ≤ 140737488351232) (hll : l.length ≤ 140737488351232) : ALr Tryz.prog 19 [.sl 22 (l.map enT)] (A9I l) := by
 refine AFl.toFreshV (AV7 (by simp) ?_)
 have err : ¬ AMo l → A9I l (.tup [.val (.slice none 0 0), i64 ((21 : Nat) : Int)]) := fun h => ⟨fun h' => absurd h' h, fun _ => rfl⟩
 by_cases hl : l.length ≤ 2000
 case neg =>
  simp -dsimp (disch := first | assumption | omega | (simp only [AFa]; done) | (simp only [AFa]; omega)) only [↓AFe, AFb, AFd, AFc, eq_self, Nat.reduceEqDiff, ↓reduceIte, reduceCtorEq, ↓AOd, ↓AKS, ↓AGt]
  exact err fun h => hl h.1
 simp -dsimp (disch := first | assumption | omega | (simp only [AFa]; done) | (simp only [AFa]; omega)) only [↓AFe, AFb, AFd, AFc, eq_self, ↓reduceIte, reduceCtorEq, ↓AOd, ↓AKS, ↓ARX, ↓ASX]
 refine AIa (fun q e H => ∃ i : Nat, q = l.length - i ∧ i ≤ l.length ∧ (∀ e ∈ l.take i, AZJ e) ∧ ((l.take i).map (·.name)).Nodup ∧ e = [(0, .sl 22 (l.map enT)), (4, i64 (i : Int))] ∧ H = []) l.length ?_ ?_
 ·exact ⟨0, by simp, by simp, by simp, by simp, rfl, rfl⟩
 ·rintro q e H ⟨i, rfl, hi, hall, hnd, rfl, rfl⟩
  by_cases hil : i < l.length
  ·have hg : l[i]? = some l[i] := List.getElem?_eq_getElem hil
   have hm := List.mem_of_getElem? hg
   have hxl := h20 _ hm
   have hx20 : (l[i].id.map by8).length = 20 := by rw [List.length_map]; exact hxl
   have hxn := hnm _ hm
   have hts := List.take_succ_eq_append_getElem hil
   have htm : (l.take (i + 1)).map (·.name) = (l.take i).map (·.name) ++ [l[i].name] := by rw [hts, List.map_append]; rfl
   have hnx : ((l.take (i + 1)).map (·.name)).Nodup ↔ l[i].name ∉ (l.take i).map (·.name) := by
    rw [htm, List.nodup_append]
    exact ⟨fun ⟨_, _, g⟩ hm => g _ hm _ (by simp) rfl, fun g => ⟨hnd, by simp, fun a ha b hb => by rw [List.mem_singleton] at hb; subst hb; exact fun e => g (e ▸ ha)⟩⟩
   have hpre : AMo l → ((l.take (i + 1)).map (·.name)).Nodup ∧ AZJ l[i] := fun h => ⟨h.2.2.sublist ((List.take_sublist _ _).map _), h.2.1 _ hm⟩
   have hall' : AZJ l[i] → ∀ e ∈ l.take (i + 1), AZJ e := fun h e he => by
    rw [hts] at he
    rcases List.mem_append.1 he with he | he
    ·exact hall e he
    ·rw [List.mem_singleton] at he; subst he; exact h
   have hoc := A9H l[i].mode
   have hna := A2G l[i].name (by omega)
   generalize hxi : l[i] = x at *
   simp -dsimp (disch := first | assumption | omega | (simp only [AFa]; done) | (simp only [AFa]; omega)) only [↓AFe, AFb, AFd, AFc, eq_self, Nat.reduceEqDiff, ↓reduceIte, Nat.reduceAdd, reduceCtorEq, ↓ALC, ↓ASY, hg]
   refine hna.calls rfl fun r hr => ?_
   subst hr
   cases hn : AMA x.name with
   | false =>
    simp -dsimp (disch := first | assumption | omega | (simp only [AFa]; done) | (simp only [AFa]; omega)) only [↓AFe, AFb, AFd, AFc, eq_self, Nat.reduceEqDiff, ↓reduceIte, reduceCtorEq, ↓ALq, ↓AGt]
    exact err fun h => by have := (hpre h).2.2.1; rw [hn] at this; cases this
   | true =>
    simp -dsimp (disch := first | assumption | omega | (simp only [AFa]; done) | (simp only [AFa]; omega)) only [↓AFe, AFb, AFd, AFc, eq_self, Nat.reduceEqDiff, ↓reduceIte, reduceCtorEq, ↓ALq, hg]
    refine hoc.calls rfl fun r hr => ?_
    subst hr
    cases hmo : ANX x.mode with
    | false =>
     have ho := A2e.2 hmo
     simp -dsimp (disch := first | assumption | omega | (simp only [AFa]; done) | (simp only [AFa]; omega)) only [↓AFe, AFb, AFd, AFc, eq_self, Nat.reduceEqDiff, ↓reduceIte, reduceCtorEq, ho, ↓AGt]
     exact err fun h => by have := (hpre h).2.1; rw [hmo] at this; cases this
    | true =>
     have ho : ¬ ANT x.mode = [] := fun e => by rw [A2e, hmo] at e; cases e
     have hen : AZJ x := ⟨hmo, hn, hxl⟩
     simp -dsimp (disch := first | assumption | omega | (simp only [AFa]; done) | (simp only [AFa]; omega)) only [↓AFe, AFb, AFd, AFc, eq_self, Nat.reduceEqDiff, ↓reduceIte, reduceCtorEq, ho, ↓ASr, ↓AR6]
     refine AIa (fun q e H => ∃ k : Nat, q = i - k ∧ k ≤ i ∧ x.name ∉ (l.take k).map (·.name) ∧ e = [(0, .sl 22 (l.map enT)), (4, i64 (i : Int)), (6, i64 (k : Int))] ∧ H = []) i ?_ ?_
     ·exact ⟨0, by simp, by simp, by simp, rfl, rfl⟩
     ·rintro q e H ⟨k, rfl, hk, hnk, rfl, rfl⟩
      by_cases hki : k < i
      ·have hkl : k < l.length := by omega
       have hgk : l[k]? = some l[k] := List.getElem?_eq_getElem hkl
       have hk20 : (l[k].id.map by8).length = 20 := by rw [List.length_map]; exact h20 _ (List.mem_of_getElem? hgk)
       have hks : (l.take (k + 1)).map (·.name) = (l.take k).map (·.name) ++ [l[k].name] := by rw [List.take_succ_eq_append_getElem hkl, List.map_append]; rfl
       have hkm : l[k].name ∈ (l.take i).map (·.name) := List.mem_map.2 ⟨l[k], by rw [List.mem_take_iff_getElem]; exact ⟨k, by omega, rfl⟩, rfl⟩
       generalize l[k] = y at *
       by_cases hyx : y.name = x.name
       ·simp -dsimp (disch := first | assumption | omega | (simp only [AFa]; done) | (simp only [AFa]; omega)) only [↓AFe, AFb, AFd, AFc, eq_self, Nat.reduceEqDiff, ↓reduceIte, Nat.reduceAdd, reduceCtorEq, hg, hgk, hyx, ↓AH1, ↓ALl, ↓AGt]
        exact err fun h => hnx.1 (hpre h).1 (hyx ▸ hkm)
       ·simp -dsimp (disch := first | assumption | omega | (simp only [AFa]; done) | (simp only [AFa]; omega)) only [↓AFe, AFb, AFd, AFc, eq_self, Nat.reduceEqDiff, ↓reduceIte, Nat.reduceAdd, reduceCtorEq, hg, hgk, hyx, ↓AH1, ↓ALl]
        refine AFW (i - (k + 1)) (by omega) (by simp) ⟨k + 1, rfl, by omega, ?_, rfl, rfl⟩
        rw [hks]
        simp only [List.mem_append, List.mem_singleton, not_or]
        exact ⟨hnk, fun e => hyx e.symm⟩
      ·have hki2 : k = i := by omega
       subst hki2
       simp -dsimp (disch := first | assumption | omega | (simp only [AFa]; done) | (simp only [AFa]; omega)) only [↓AFe, AFb, AFd, AFc, eq_self, Nat.reduceEqDiff, ↓reduceIte, reduceCtorEq, ↓AH1, ↓ASn]
       exact AFW (l.length - (k + 1)) (by omega) (by simp) ⟨k + 1, rfl, by omega, hall' hen, hnx.2 hnk, rfl, rfl⟩
  ·have hi2 : i = l.length := by omega
   rw [hi2, List.take_length] at hnd hall
   have hok : AMo l := ⟨hl, hall, hnd⟩
   have hso := A3X l (by omega) h20 (fun x hx => by have := (ARc (hall x hx).2.1).2.1; omega) (AYK hok)
   simp -dsimp (disch := first | assumption | omega | (simp only [AFa]; done) | (simp only [AFa]; omega)) only [↓AFe, AFb, AFd, AFc, eq_self, Nat.reduceEqDiff, ↓reduceIte, reduceCtorEq, ↓ALC, ↓ARS, ↓AR2]
   refine hso.calls rfl fun r hr => ?_
   obtain ⟨s, rfl, hse, hsp⟩ := hr
   have hsl := hsp.length_eq
   have hsok : ∀ e ∈ s, AZJ e := fun e he => hall e (hsp.mem_iff.1 he)
   clear hso
   simp -dsimp (disch := first | assumption | omega | (simp only [AFa]; done) | (simp only [AFa]; omega)) only [↓AFe, AFb, AFd, AFc, eq_self, Nat.reduceEqDiff, ↓reduceIte, reduceCtorEq, ↓ARW, ↓ARZ]
   refine AIa (fun q e H => ∃ (j k v cp : Nat), q = s.length - j ∧ j ≤ s.length ∧ H[k]? = some (.obj v (.arr ((s.take j).flatMap enB).length 1 (((s.take j).flatMap enB).map by8))) ∧ e = [(7, .os 1 k v [] 0 ((s.take j).flatMap enB).length cp), (8, .sl 22 (s.map enT)), (9, i64 (j : Int))]) s.length ?_ ?_
   ·exact ⟨0, 0, 0, 0, by simp, by simp, rfl, by simp [forget, get]⟩
   ·rintro q e H ⟨j, k, v, cp, rfl, hj, hk, rfl⟩
    have hkl := AP0 hk
    by_cases hjl : j < s.length
    ·have hg : s[j]? = some s[j] := List.getElem?_eq_getElem hjl
     have hen := hsok _ (List.mem_of_getElem? hg)
     have hx20 : (s[j].id.map by8).length = 20 := by rw [List.length_map]; exact hen.2.2
     have hsn : (s.take (j + 1)).flatMap enB = (s.take j).flatMap enB ++ enB s[j] := by rw [List.take_succ_eq_append_getElem hjl, List.flatMap_append]; simp
     have hBl := AXg (s := s.take j) (fun e he => hsok e (List.mem_of_mem_take he))
     have hBl2 : (s.take j).length ≤ 2000 := by simp; omega
     have hnl := (ARc hen.2.1).2.1
     have hol : (ANT s[j].mode).length ≤ 6 := by
      rcases AGp hen.1 with h | h | h | h <;> rw [h] <;> decide
     have hoc := A9H s[j].mode
     generalize (s.take j).flatMap enB = B at *
     generalize s[j] = x at *
     have hBt : (B.map by8).take B.length = B.map by8 := List.take_of_length_le (by simp)
     simp -dsimp (disch := first | assumption | omega | (simp only [AFa]; done) | (simp only [AFa]; omega)) only [↓AFe, AFb, AFd, AFc, eq_self, Nat.reduceEqDiff, ↓reduceIte, hg, ↓AKH, ↓ARP]
     refine hoc.calls rfl fun r hr => ?_
     subst hr
     have hid20 : x.id.length = 20 := hen.2.2
     have hT1 : List.take (B.length + (ANT x.mode).length) (B.map by8 ++ (ANT x.mode).map by8) = B.map by8 ++ (ANT x.mode).map by8 := List.take_of_length_le (by simp)
     have hT2 : ∀ y : TV, List.take (B.length + (ANT x.mode).length + 1) (B.map by8 ++ (ANT x.mode).map by8 ++ [y]) = B.map by8 ++ (ANT x.mode).map by8 ++ [y] := fun y => List.take_of_length_le (by simp; omega)
     have hT3 : ∀ y : TV, List.take (B.length + (ANT x.mode).length + 1 + x.name.length) (B.map by8 ++ (ANT x.mode).map by8 ++ [y] ++ x.name.map by8) = B.map by8 ++ (ANT x.mode).map by8 ++ [y] ++ x.name.map by8 := fun y => List.take_of_length_le (by simp; omega)
     have hT4 : ∀ y z : TV, List.take (B.length + (ANT x.mode).length + 1 + x.name.length + 1) (B.map by8 ++ (ANT x.mode).map by8 ++ [y] ++ x.name.map by8 ++ [z]) = B.map by8 ++ (ANT x.mode).map by8 ++ [y] ++ x.name.map by8 ++ [z] := fun y z => List.take_of_length_le (by simp; omega)
     have hT5 : List.take 20 (x.id.map by8) = x.id.map by8 := List.take_of_length_le (by simp; omega)
     simp -dsimp (disch := first | assumption | omega | (simp only [AFa]; done) | (simp only [AFa]; omega)) only [↓AFe, AFb, AFd, AFc, eq_self, Nat.reduceEqDiff, ↓reduceIte, Nat.reduceAdd, Nat.reduceLeDiff, hk, hBt, AGB, A4q, hT1, hT2, hT3, hT4, ↓ARQ, ↓AR1, hg, hx20]
     have eB : B.map by8 ++ (ANT x.mode).map by8 ++ [TV.val (.int .u8 ((32 : Nat) : Int))] ++ x.name.map by8 ++ [TV.val (.int .u8 ((0 : Nat) : Int))] ++ x.id.map by8 = (B ++ enB x).map by8 := by
      unfold enB
      simp only [List.map_append, List.map_cons, List.append_assoc, List.cons_append, List.nil_append]
      rfl
     have eL : B.length + (ANT x.mode).length + 1 + x.name.length + 1 + 20 = (B ++ enB x).length := by
      unfold enB
      simp only [List.length_append, List.length_cons]
      omega
     rw [eB, eL, ← hsn, List.append_assoc]
     refine AFW (s.length - (j + 1)) (by omega) (by simp) ⟨j + 1, k, _, _, rfl, by omega, ?_, rfl⟩
     rw [List.getElem?_append_left (by simpa using hkl), List.getElem?_set_self hkl]
    ·have hj2 : j = s.length := by omega
     rw [hj2, List.take_length] at hk
     have htt : s.take j = s := List.take_of_length_le (by omega)
     rw [htt]
     have hBt : ((s.flatMap enB).map by8).take (s.flatMap enB).length = (s.flatMap enB).map by8 := List.take_of_length_le (by simp)
     simp -dsimp (disch := first | assumption | omega | (simp only [AFa]; done) | (simp only [AFa]; omega)) only [↓AFe, AFb, AFd, AFc, eq_self, Nat.reduceEqDiff, ↓reduceIte, hk, hBt, ↓AKH, ↓AR4, ↓AGt]
     exact ⟨fun _ => ⟨s, hse, hsp, rfl⟩, fun h => absurd hok h⟩
end Go.Proofs.YtliaddbbmnfioaaGreatDoor


namespace Go.Proofs.YtliaddbbmnfioaaGreatDoor
open Go.RowKit
variable [AFq]
set_option linter.unusedSectionVars false
set_option linter.unusedVariables false

variable {P : Program}
def A1p (P : Program) (f : FuncId) (args : List TV) (R : TV → Prop) (RP : Value → Prop) : Prop :=
 ∀ (β : Nat → Nat → Option (Nat × Nat)) (F : Nat → Prop) (w : World) (vs : List Value), ((∀ b, F b → b < w.heap.size) ∧ AMl F w) → AFO ⟨β, [], F⟩ w args vs →
  Calls P f vs.toArray w fun e w' => ∃ F', AQH F w F' w' ∧ ((∃ v x, e = .returned v ∧ R x ∧ Rep ⟨β, [], fun b => F' b ∧ w.heap.size ≤ b⟩ w' x v) ∨ ∃ u, e = .panicked [{ v := u, recovered := false }] ∧ RP u)
theorem A1p.mono {f : FuncId} {args : List TV} {R R' : TV → Prop} {RP RP' : Value → Prop} (h : A1p P f args R RP) (hr : ∀ x, R x → R' x) (hp : ∀ u, RP u → RP' u) : A1p P f args R' RP' :=
 fun β F w vs hF hv => (h β F w vs hF hv).mono fun _ _ ⟨F', h1, h2⟩ => ⟨F', h1, h2.imp (fun ⟨v, x, k1, k2, k3⟩ => ⟨v, x, k1, hr _ k2, k3⟩) fun ⟨u, k1, k2⟩ => ⟨u, k1, hp _ k2⟩⟩

def A3P (x x' : TV) : Prop := ∀ (c : Ctx) (w : World) (v : Value), A2F c w x v → A2F c w x' v
inductive AZR : List TV → List TV → Prop
 | nil : AZR [] []
 | cons {x x' : TV} {xs xs' : List TV} : A3P x x' → AZR xs xs' → AZR (x :: xs) (x' :: xs')
theorem A3P.refl {x : TV} : A3P x x := fun _ _ _ h => h
theorem AZR.rep {c : Ctx} {w : World} {xs xs' : List TV} (h : AZR xs xs') : ∀ {vs : List Value}, AFO c w xs vs → AFO c w xs' vs := by
 induction h with
 | nil => exact fun h => h
 | cons h1 h2 ih =>
  intro vs hv
  rw [AFO.cons] at hv ⊢
  obtain ⟨u, us, rfl, k1, k2⟩ := hv
  exact ⟨u, us, rfl, h1 _ _ _ k1, ih k2⟩
theorem AZn {k : Nat} : A3P (.val (.slice none 0 0)) (.sl k []) := fun c w v h => by
 have hv : v = .slice none 0 0 := by
  have h' : Rep c w (.val (.slice none 0 0)) v := .inl h
  rw [Rep.val] at h'; exact h'
 subst hv
 refine .inr (.inr ⟨[.slice none 0 0], ?_, rfl⟩)
 rw [AFf]
 exact ⟨by simp, .inl ⟨rfl, none, 0, rfl, by omega⟩⟩
theorem AF9.argL {f : FuncId} {args args' : List TV} {R : TV → Prop} (h : AF9 P f args' R) (hc : AZR args args') : AF9 P f args R :=
 fun β F w vs hF hv => h β F w vs hF (hc.rep hv)
theorem AZR.tup {xs xs' : List TV} (h : AZR xs xs') : ∀ (c : Ctx) (w : World) (v : Value), Rep c w (.tup xs) v → Rep c w (.tup xs') v := by
 rintro c w v ((h1 | h1 | ⟨us, h1, _⟩) | ⟨ys, vs, h1, h2, h3⟩)
 ·cases h1
 ·cases h1
 ·rw [AFf] at h1; exact h1.elim
 ·cases h1
  exact .inr ⟨xs', vs, rfl, h2, h.rep h3⟩
end Go.Proofs.YtliaddbbmnfioaaGreatDoor


namespace Go.Proofs.YtliaddbbmnfioaaGreatDoor
open Go.RowKit
variable [AFq]
set_option linter.unusedSectionVars false
set_option linter.unusedVariables false
set_option linter.unusedSimpArgs false

abbrev A9q : TV := .arr 20 1 (List.replicate 20 (.val (.int .u8 ((0 : Nat) : Int))))
theorem AXs : ∀ l : List En, AKc (l.map enT) = true
 | [] => rfl
 | x :: l => by
  have hy : ∀ l : List UInt8, AKc (l.map by8) = true := fun l => by
   induction l with
   | nil => rfl
   | cons b l ih => rw [List.map_cons, AKc, ih]; rfl
  rw [List.map_cons, AKc, AXs l]
  show (true && (true && (AKc (x.id.map by8) && true)) && true) = true
  rw [hy]; rfl
theorem BgM {b : List UInt8} {es : List En} {f k v cp N m : Nat} {H : List Ob} {Q : VEx → Env → List Ob → Prop} (hb : b.length ≤ 1000000) (hf : f ≤ b.length + 1) (hel : es.length ≤ 1000000) (hNk : N ≠ k)
  (hk : H[k]? = some (.obj v (.arr es.length 22 (es.map enT)))) (hN : H[N]? = some (.obj 0 (.agg [i64 (m : Int), ts [], A9q])))
  (hno : ∀ H' j, j ≤ (b.drop f).length → 0 ∉ (b.drop f).take j → ((b.drop f)[j]? = some 0 ∨ j = (b.drop f).length) → b.length < f + j + 21 → Q .ret [(2, .val (.slice none 0 0)), (3, tb false)] H')
  (hyes : ∀ H' j v' cp' e, j ≤ (b.drop f).length → 0 ∉ (b.drop f).take j → ((b.drop f)[j]? = some 0 ∨ j = (b.drop f).length) → f + j + 21 ≤ b.length → H.length ≤ H'.length → e = ⟨(m : Int), (b.drop f).take j, (b.drop (f + j + 1)).take 20⟩ → H'[k]? = some (.obj v' (.arr (es ++ [e]).length 22 ((es ++ [e]).map enT))) → Q .nor [(0, slB b), (4, .os 22 k v' [] 0 (es ++ [e]).length cp'), (5, i64 ((f + j + 21 : Nat) : Int))] H') :
  vwp Tryz.prog AHV Q [(0, slB b), (4, .os 22 k v [] 0 es.length cp), (5, i64 (f : Int)), (6, .op N 0 []), (7, i64 (f : Int))] H := by
 have hDl : (b.drop f).length = b.length - f := List.length_drop
 have hLe : ∀ e : En, (es ++ [e]).length = es.length + 1 := fun e => by simp
 simp only [hLe] at hyes
 simp -dsimp (disch := first | assumption | omega | (simp only [AFa]; done) | (simp only [AFa]; omega)) only [↓AFe, ↓ATn]
 refine AIa (fun q e H' => ∃ (j : Nat), q = (b.drop f).length - j ∧ j ≤ (b.drop f).length ∧ 0 ∉ (b.drop f).take j ∧ H' = H ∧ e = [(0, slB b), (4, .os 22 k v [] 0 es.length cp), (5, i64 ((f + j : Nat) : Int)), (6, .op N 0 []), (7, i64 (f : Int))]) (b.drop f).length ?_ ?_
 ·exact ⟨0, rfl, Nat.zero_le _, List.not_mem_nil, rfl, rfl⟩
 rintro q e H' ⟨j, rfl, hj, h0, rfl, rfl⟩
 have tail : ((b.drop f)[j]? = some 0 ∨ j = (b.drop f).length) → vwp Tryz.prog AJ3 Q [(0, slB b), (4, .os 22 k v [] 0 es.length cp), (5, i64 ((f + j : Nat) : Int)), (6, .op N 0 []), (7, i64 (f : Int))] H' := fun hend => by
  by_cases h21 : f + j + 21 ≤ b.length
  case neg =>
   simp -dsimp (disch := first | assumption | omega | (simp only [AFa]; done) | (simp only [AFa]; omega)) only [↓AFe, AFb, AFd, AFc, eq_self, Nat.reduceEqDiff, ↓reduceIte, reduceCtorEq, ↓AMz]
   exact hno H' j hj h0 hend (by omega)
  have hNl := AP0 hN
  have gN : ∀ o : Ob, (H'.set N o)[N]? = some o := fun o => List.getElem?_set_self hNl
  have gk : ∀ o : Ob, (H'.set N o)[k]? = some (.obj v (.arr es.length 22 (es.map enT))) := fun o => by rw [List.getElem?_set_ne hNk]; exact hk
  have gk2 : ∀ (o : Ob) (T : List Ob), (H'.set N o ++ T)[k]? = some (.obj v (.arr es.length 22 (es.map enT))) := fun o T => by rw [List.getElem?_append_left (by rw [List.length_set]; exact AP0 hk)]; exact gk o
  have hd1 : (((b.map by8).drop (f + j + 1)).take 20).length = 20 := by simp; omega
  have hq0 : f + j + 21 - (f + j + 1) = 20 := by omega
  have hq1 : ∀ l : List UInt8, List.take 20 (List.take 20 l) = List.take 20 l := fun l => by rw [List.take_take, Nat.min_self]
  have hq2 : (List.take 20 (List.drop (f + j + 1) b)).length = 20 := by simp; omega
  have hq3 : ∀ z : TV, List.drop 20 (List.replicate 20 z) = [] := fun z => rfl
  have hq4 : ∀ y z : TV, List.take 1 ((List.replicate 1 z).set 0 y) = [y] := fun y z => rfl
  simp -dsimp (disch := first | assumption | omega | (simp only [AFa]; done) | (simp only [AFa]; omega)) only [↓AFe, AFb, AFd, AFc, eq_self, Nat.reduceEqDiff, ↓reduceIte, Nat.reduceAdd, reduceCtorEq, Nat.reduceLeDiff, hN, gN, gk2, hq0, hq2, hq3, hq4, Nat.min_self, List.append_nil, ↓AMz, ↓ATr, ↓ATh]
  have hkl := AP0 hk
  refine hyes _ j (v + 1) (es.length + 1) ⟨(m : Int), (b.drop f).take j, (b.drop (f + j + 1)).take 20⟩ hj h0 hend h21 (by simp) rfl ?_
  rw [List.getElem?_set_self (by simp; omega), List.map_append]; rfl
 by_cases hjl : j < (b.drop f).length
 case neg =>
  simp -dsimp (disch := first | assumption | omega | (simp only [AFa]; done) | (simp only [AFa]; omega)) only [↓AFe, AFb, AFd, AFc, eq_self, Nat.reduceEqDiff, ↓reduceIte, reduceCtorEq, ↓AIc]
  exact tail (.inr (by omega))
 obtain ⟨c, hc⟩ : ∃ c, (b.drop f)[j]? = some c := ⟨_, List.getElem?_eq_getElem hjl⟩
 have hc8 : (b.map by8)[f + j]? = some (by8 c) := by rw [List.getElem?_drop] at hc; rw [List.getElem?_map, hc]; rfl
 by_cases hc0 : c.toNat = 0
 ·simp -dsimp (disch := first | assumption | omega | (simp only [AFa]; done) | (simp only [AFa]; omega)) only [↓AFe, AFb, AFd, AFc, eq_self, Nat.reduceEqDiff, ↓reduceIte, reduceCtorEq, hc8, hc0, ↓AIc]
  exact tail (.inl (by rw [hc, show c = 0 from UInt8.toNat_inj.1 hc0]))
 simp -dsimp (disch := first | assumption | omega | (simp only [AFa]; done) | (simp only [AFa]; omega)) only [↓AFe, AFb, AFd, AFc, eq_self, Nat.reduceEqDiff, ↓reduceIte, reduceCtorEq, hc8, hc0, ↓AIc]
 refine AFW ((b.drop f).length - (j + 1)) (by omega) (by simp) ⟨j + 1, by omega, by omega, ?_, rfl, rfl⟩
 rw [List.take_add_one, hc]
 simp only [Option.toList_some, List.mem_append, List.mem_singleton, not_or]
 exact ⟨h0, fun e => hc0 (by rw [← e]; rfl)⟩
theorem A3c (b : List UInt8) (hb : b.length ≤ 1000000) : ALr Tryz.prog 54 [slB b] (A4v b) := by
 refine AFl.toFreshV (AW5 (by simp) ?_)
 have err : (∀ l, ¬ AMJ l b) → A4v b (.tup [.val (.slice none 0 0), tb false]) := fun h => ⟨fun l hl => absurd hl (h l), fun _ => rfl⟩
 simp -dsimp (disch := first | assumption | omega | (simp only [AFa]; done) | (simp only [AFa]; omega)) only [↓AFe, AFb, AFd, AFc, eq_self, Nat.reduceEqDiff, ↓reduceIte, reduceCtorEq, ↓AWo, ↓ASj, ↓ASO, ↓ASs]
 refine AIa (fun q e H => ∃ (es : List En) (a k v cp : Nat), q = b.length - a ∧ PR b es a ∧ H[k]? = some (.obj v (.arr es.length 22 (es.map enT))) ∧ e = [(0, slB b), (4, .os 22 k v [] 0 es.length cp), (5, i64 (a : Int))]) b.length ?_ ?_
 ·exact ⟨[], 0, 0, 0, 0, rfl, PR.start b, rfl, rfl⟩
 ·rintro q e H ⟨es, a, k, v, cp, rfl, hP, hk, rfl⟩
  have hkl := AP0 hk
  have hal := hP.le
  by_cases ha : a < b.length
  case neg =>
   have hae : a = b.length := by omega
   subst hae
   have hkt : (es.map enT).take es.length = es.map enT := List.take_of_length_le (by simp)
   have hfew := hP.few
   simp -dsimp (disch := first | assumption | omega | (simp only [AFa]; done) | (simp only [AFa]; omega)) only [↓AFe, AFb, AFd, AFc, eq_self, Nat.reduceEqDiff, ↓reduceIte, reduceCtorEq, ↓ALJ, ↓ASq]
   refine (AXx es hP.ids (fun x hx => by have := hP.nms x hx; omega) (by omega)).lends (args' := [.sl 22 (es.map enT)]) (by simp -dsimp (disch := first | assumption | omega | (simp only [AFa]; done) | (simp only [AFa]; omega)) only [AFd, AFc, eq_self, ↓reduceIte, hk, hkt]) fun r hr => ?_
   by_cases hok : AMo es
   case neg =>
    rw [hr.2 hok]
    simp -dsimp (disch := first | assumption | omega | (simp only [AFa]; done) | (simp only [AFa]; omega)) only [↓AFe, AFb, AFd, AFc, eq_self, Nat.reduceEqDiff, ↓reduceIte, reduceCtorEq, ↓AHZ, ↓AF7]
    exact err fun l hl => hok (by rw [← hP.fin hl]; exact hl.1)
   obtain ⟨s, hs1, hs2, rfl⟩ := hr.1 hok
   clear hr
   by_cases hsb : s.flatMap enB = b
   ·have hT : AMJ s b := ⟨⟨by rw [hs2.length_eq]; exact hok.1, fun e he => hok.2.1 e (hs2.mem_iff.1 he), ((hs2.map (·.name)).nodup_iff).2 hok.2.2⟩, hs1, hsb⟩
    rw [hsb]
    simp -dsimp (disch := first | assumption | omega | (simp only [AFa]; done) | (simp only [AFa]; omega)) only [↓AFe, AFb, AFd, AFc, eq_self, Nat.reduceEqDiff, ↓reduceIte, reduceCtorEq, hk, hkt, ↓AHZ, ↓AF7]
    rw [if_pos (AXs _)]
    exact ⟨fun l hl => by rw [hP.fin hl], fun h => absurd hT (h s)⟩
   ·simp -dsimp (disch := first | assumption | omega | (simp only [AFa]; done) | (simp only [AFa]; omega)) only [↓AFe, AFb, AFd, AFc, eq_self, Nat.reduceEqDiff, ↓reduceIte, reduceCtorEq, hsb, ↓AHZ, ↓AF7]
    refine err fun l hl => hsb ?_
    have he := hP.fin hl
    subst he
    rw [hs1.ext hl.2.1 hs2]; exact hl.2.2
  have hz : ∀ T : List Ob, (H ++ T)[k]? = H[k]? := fun T => List.getElem?_append_left hkl
  simp -dsimp (disch := first | assumption | omega | (simp only [AFa]; done) | (simp only [AFa]; omega)) only [↓AFe, AFb, AFd, AFc, eq_self, Nat.reduceEqDiff, ↓reduceIte, reduceCtorEq, ↓ALJ, ↓ASl, ↓ASU]
  refine AIa (fun q e H' => ∃ (i : Nat), q = (b.drop a).length - i ∧ i ≤ (b.drop a).length ∧ 32 ∉ (b.drop a).take i ∧ ATo 0 ((b.drop a).take i) ≤ 8388615 ∧ H.length < H'.length ∧ H'[k]? = some (.obj v (.arr es.length 22 (es.map enT))) ∧
   H'[H.length]? = some (.obj 0 (.agg [i64 ((ATo 0 ((b.drop a).take i) : Nat) : Int), ts [], A9q])) ∧ e = [(0, slB b), (4, .os 22 k v [] 0 es.length cp), (5, i64 ((a + i : Nat) : Int)), (6, .op H.length 0 [])]) (b.drop a).length ?_ ?_
  ·exact ⟨0, rfl, Nat.zero_le _, List.not_mem_nil, Nat.zero_le _, by simp, by rw [hz]; exact hk, by rw [List.getElem?_append_right (Nat.le_refl _), Nat.sub_self]; rfl, rfl⟩
  rintro q e H' ⟨i, rfl, hi, h32, hm, hHl, hk', hn', rfl⟩
  have hDl : (b.drop a).length = b.length - a := List.length_drop
  have tail : ((b.drop a)[i]? = some 32 ∨ i = (b.drop a).length) → vwp Tryz.prog AHV (Blk 1 (Rnd 1 [0, 4, 5] (Blk 0 (Thn Tryz.prog AIm (A27 ANc fun x H' => AFQ (frs H' x) (A4v b)))) (fun q e H => ∃ (es : List En) (a k v cp : Nat), q = b.length - a ∧ PR b es a ∧ H[k]? = some (.obj v (.arr es.length 22 (es.map enT))) ∧ e = [(0, slB b), (4, .os 22 k v [] 0 es.length cp), (5, i64 (a : Int))]) (b.length - a))) [(0, slB b), (4, .os 22 k v [] 0 es.length cp), (5, i64 ((a + i + 1 : Nat) : Int)), (6, .op H.length 0 []), (7, i64 ((a + i + 1 : Nat) : Int))] H' := fun hend => by
   have hfew := hP.few
   refine BgM hb (by omega) (by omega) (by omega) hk' hn' (fun H2 j hj h0 hj2 hlt => ?_) (fun H2 j v' cp' e hj h0 hj2 hle hHl2 he hk2 => ?_)
   ·simp -dsimp (disch := first | assumption | omega | (simp only [AFa]; done) | (simp only [AFa]; omega)) only [↓AFe, AFb, AFd, AFc, eq_self, Nat.reduceEqDiff, ↓reduceIte, ↓AF7]
    refine err (hP.no ha fun x r hx h => ?_)
    have := (A3Q hx h hi h32 hend hj h0 hj2).1
    omega
   ·have hst : PR b (es ++ [e]) (a + i + 1 + j + 21) := hP.step (by omega) hle (by rw [he]; simp; omega) (by rw [he]; simp; omega) fun x r hx h => by
     obtain ⟨_, k1, k2⟩ := A3Q hx h hi h32 hend hj h0 hj2
     exact ⟨by rw [k1, he], k2⟩
    have hLe : (es ++ [e]).length = es.length + 1 := by simp
    simp -dsimp (disch := first | assumption | omega | (simp only [AFa]; done) | (simp only [AFa]; omega)) only [↓AFe, AFc]
    refine AFW (b.length - (a + i + 1 + j + 21)) (by omega) (by omega) ⟨es ++ [e], a + i + 1 + j + 21, k, v', cp', rfl, hst, hk2, by rw [hLe]; rfl⟩
  by_cases hil : i < (b.drop a).length
  case neg =>
   have hie : i = (b.drop a).length := by omega
   simp -dsimp (disch := first | assumption | omega | (simp only [AFa]; done) | (simp only [AFa]; omega)) only [↓AFe, AFb, AFd, AFc, eq_self, Nat.reduceEqDiff, ↓reduceIte, reduceCtorEq, ↓AF1, ↓ALB, ↓AMI]
   exact tail (.inr hie)
  obtain ⟨c, hc⟩ : ∃ c, (b.drop a)[i]? = some c := ⟨_, List.getElem?_eq_getElem hil⟩
  have hc8 : (b.map by8)[a + i]? = some (by8 c) := by rw [List.getElem?_drop] at hc; rw [List.getElem?_map, hc]; rfl
  by_cases hc32 : c.toNat = 32
  ·simp -dsimp (disch := first | assumption | omega | (simp only [AFa]; done) | (simp only [AFa]; omega)) only [↓AFe, AFb, AFd, AFc, eq_self, Nat.reduceEqDiff, ↓reduceIte, reduceCtorEq, hc8, hc32, ↓AF1, ↓ALB, ↓AMI]
   exact tail (.inl (by rw [hc, show c = 32 from UInt8.toNat_inj.1 hc32]))
  have hb0 : (AR3 c = true → ATo 0 ((b.drop a).take i) ≤ 1048576 → False) → ∀ l, ¬ AMJ l b := fun h => hP.no ha fun x r hx h' => by
   obtain ⟨k1, k2⟩ := Bai hx h' hi h32 hc fun e => hc32 (by rw [e]; rfl)
   exact h k1 k2
  by_cases hlo : c.toNat < 48
  ·simp -dsimp (disch := first | assumption | omega | (simp only [AFa]; done) | (simp only [AFa]; omega)) only [↓AFe, AFb, AFd, AFc, eq_self, Nat.reduceEqDiff, ↓reduceIte, reduceCtorEq, hc8, hc32, hlo, ↓AF1, ↓AHl, ↓AF7]
   exact err (hb0 fun h _ => by simp [AR3] at h; omega)
  by_cases hhi : 55 < c.toNat
  ·simp -dsimp (disch := first | assumption | omega | (simp only [AFa]; done) | (simp only [AFa]; omega)) only [↓AFe, AFb, AFd, AFc, eq_self, Nat.reduceEqDiff, ↓reduceIte, reduceCtorEq, hc8, hc32, hlo, hhi, ↓AF1, ↓AHl, ↓AF7]
   exact err (hb0 fun h _ => by simp [AR3] at h; omega)
  by_cases hbig : 1048576 < ATo 0 ((b.drop a).take i)
  ·simp -dsimp (disch := first | assumption | omega | (simp only [AFa]; done) | (simp only [AFa]; omega)) only [↓AFe, AFb, AFd, AFc, eq_self, Nat.reduceEqDiff, ↓reduceIte, reduceCtorEq, hc8, hc32, hlo, hhi, hbig, hn', ↓AF1, ↓AHl, ↓AF7]
   exact err (hb0 fun _ h => by omega)
  have hbs : AHJ 5 BinOp.sub (.int .u8 (c.toNat : Int)) (.int .u8 ((48 : Nat) : Int)) = some (.int .u8 ((c.toNat - 48 : Nat) : Int)) := AZZ (by omega) (by have := c.toNat_lt; omega)
  simp -dsimp (disch := first | assumption | omega | (simp only [AFa]; done) | (simp only [AFa]; omega)) only [↓AFe, AFb, AFd, AFc, eq_self, Nat.reduceEqDiff, ↓reduceIte, reduceCtorEq, hc8, hc32, hlo, hhi, hbig, hn', hbs, ↓AF1, ↓AHl, ↓ATm]
  have hsn : (b.drop a).take (i + 1) = (b.drop a).take i ++ [c] := by rw [List.take_add_one, hc]; rfl
  have hsm : ATo 0 ((b.drop a).take (i + 1)) = ATo 0 ((b.drop a).take i) * 8 + (c.toNat - 48) := by rw [hsn, AVj]; rfl
  refine AFW ((b.drop a).length - (i + 1)) (by omega) (by simp; omega) ⟨i + 1, by omega, by omega, ?_, by omega, by rw [List.length_set]; exact hHl, ?_, ?_, rfl⟩
  ·rw [hsn]
   simp only [List.mem_append, List.mem_singleton, not_or]
   exact ⟨h32, fun e => hc32 (by rw [← e]; rfl)⟩
  ·rw [List.getElem?_set_ne (by omega)]; exact hk'
  ·rw [List.getElem?_set_self hHl, hsm]
end Go.Proofs.YtliaddbbmnfioaaGreatDoor


namespace Go.Proofs.YtliaddbbmnfioaaGreatDoor
open Go.RowKit
variable [AFq]
set_option linter.unusedSectionVars false
set_option linter.unusedVariables false
set_option linter.unusedSimpArgs false
def pEn (b : List UInt8) : Option (En × List UInt8) := match ARL 32 b with
 | none => none
 | some i => match ARL 0 (b.drop (i + 1)) with
  | none => none
  | some j => match pO (b.take i) with
   | none => none
   | some m => if (b.take i)[0]? = some 48 ∨ ((b.drop (i + 1)).drop (j + 1)).length < 20 then none
    else some (⟨(m : Int), (b.drop (i + 1)).take j, ((b.drop (i + 1)).drop (j + 1)).take 20⟩, ((b.drop (i + 1)).drop (j + 1)).drop 20)
theorem A9A {e : En} {r : List UInt8} (h : AZJ e) : pEn (enB e ++ r) = some (e, r) := by
 obtain ⟨m, n, d⟩ := e
 obtain ⟨h1, h2, h3⟩ := h
 simp only at *
 obtain ⟨p1, p2, p3, p4⟩ := Ba3 h1
 have n0 := (ARc h2).2.2.2
 have e1 : enB ⟨m, n, d⟩ ++ r = ANT m ++ 32 :: (n ++ 0 :: (d ++ r)) := by simp [enB]
 have hm : ((m.toNat : Nat) : Int) = m := by rcases AGp h1 with h | h | h | h <;> rw [h] <;> rfl
 unfold pEn
 rw [e1, AVi p3]
 simp only [List.take_left]
 have e2 : (ANT m ++ 32 :: (n ++ 0 :: (d ++ r))).drop ((ANT m).length + 1) = n ++ 0 :: (d ++ r) := by
  rw [← List.drop_drop, List.drop_left]; rfl
 have e3 : (n ++ 0 :: (d ++ r)).drop (n.length + 1) = d ++ r := by
  rw [← List.drop_drop, List.drop_left]; rfl
 rw [e2, AVi n0]
 simp only [List.take_left]
 rw [p1, e3]
 simp only
 rw [if_neg (by simp [p2, h3]), List.take_left' h3, List.drop_left' h3, hm]
theorem BcO {b r : List UInt8} {e : En} (h : pEn b = some (e, r)) : e.id.length = 20 ∧ r.length < b.length ∧ (ANX e.mode = true → b = enB e ++ r) := by
 unfold pEn at h
 split at h
 ·cases h
 rename_i i hi
 split at h
 ·cases h
 rename_i j hj
 split at h
 ·cases h
 rename_i m hm
 split at h
 ·cases h
 rename_i hc
 simp only [Option.some.injEq, Prod.mk.injEq] at h
 obtain ⟨rfl, rfl⟩ := h
 simp only [not_or, Nat.not_lt] at hc
 obtain ⟨c1, c2, c3⟩ := AM1 hi
 obtain ⟨d1, d2, d3⟩ := AM1 hj
 have hb : b = b.take i ++ 32 :: b.drop (i + 1) := by
  have e1 : b = b.take i ++ b.drop i := (List.take_append_drop i b).symm
  have e2 : b.drop i = 32 :: b.drop (i + 1) := by
   rw [List.drop_eq_getElem_cons c1]
   rw [List.getElem?_eq_getElem c1] at c2
   rw [Option.some.inj c2]
  rw [e2] at e1; exact e1
 generalize hR : b.drop (i + 1) = R at *
 have hr : R = R.take j ++ 0 :: R.drop (j + 1) := by
  have e1 : R = R.take j ++ R.drop j := (List.take_append_drop j R).symm
  have e2 : R.drop j = 0 :: R.drop (j + 1) := by
   rw [List.drop_eq_getElem_cons d1]
   rw [List.getElem?_eq_getElem d1] at d2
   rw [Option.some.inj d2]
  rw [e2] at e1; exact e1
 refine ⟨by simp only [List.length_take]; omega, ?_, fun h1 => ?_⟩
 ·have := congrArg List.length hb
  have h2 := congrArg List.length hr
  simp only [List.length_append, List.length_cons, List.length_drop] at this h2 ⊢
  omega
 ·simp only at h1
  have hcan := A5t (s := b.take i) (m := (m : Int)) (by rw [hm]; simp) h1 hc.1
  unfold enB
  simp only
  rw [← hcan]
  have e4 : (R.drop (j + 1)).take 20 ++ (R.drop (j + 1)).drop 20 = R.drop (j + 1) := List.take_append_drop 20 _
  simp only [List.append_assoc, List.cons_append]
  rw [e4, ← hr]
  exact hb
structure PI (b : List UInt8) (es : List En) (rest : List UInt8) : Prop where
 pre : ∀ l, (∀ e ∈ l, AZJ e) → l.flatMap enB = b → ∃ l', l = es ++ l' ∧ l'.flatMap enB = rest
 back : (∀ e ∈ es, ANX e.mode = true) → es.flatMap enB ++ rest = b
 ids : ∀ e ∈ es, e.id.length = 20
theorem PI.start (b : List UInt8) : PI b [] b := ⟨fun l _ h => ⟨l, rfl, h⟩, fun _ => rfl, fun _ h => by cases h⟩
theorem PI.step {b rest r : List UInt8} {es : List En} {e : En} (h : PI b es rest) (hp : pEn rest = some (e, r)) : PI b (es ++ [e]) r := by
 obtain ⟨h1, h2, h3⟩ := h
 obtain ⟨p1, p2, p3⟩ := BcO hp
 refine ⟨fun l hl hb => ?_, fun hm => ?_, fun x hx => ?_⟩
 ·obtain ⟨l', rfl, hl'⟩ := h1 l hl hb
  cases l' with
  | nil =>
   simp only [List.flatMap_nil] at hl'
   rw [← hl'] at p2
   simp at p2
  | cons x l'' =>
   rw [List.flatMap_cons] at hl'
   have := A9A (r := l''.flatMap enB) (hl x (by simp))
   rw [hl', hp] at this
   simp only [Option.some.injEq, Prod.mk.injEq] at this
   obtain ⟨rfl, rfl⟩ := this
   exact ⟨l'', by simp, rfl⟩
 ·have a := h2 fun x hx => hm x (by simp [hx])
  rw [p3 (hm e (by simp))] at a
  rw [← a]; simp
 ·rcases List.mem_append.1 hx with hx | hx
  ·exact h3 x hx
  ·rw [List.mem_singleton] at hx; subst hx; exact p1
theorem PI.no {b rest : List UInt8} {es : List En} (h : PI b es rest) (hne : rest ≠ []) (hp : pEn rest = none) : ∀ l, ¬ AMJ l b := by
 rintro l ⟨⟨_, hl, _⟩, _, hb⟩
 obtain ⟨l', rfl, hl'⟩ := h.pre l hl hb
 cases l' with
 | nil => exact hne hl'.symm
 | cons x l'' =>
  rw [List.flatMap_cons] at hl'
  have := A9A (r := l''.flatMap enB) (hl x (by simp))
  rw [hl', hp] at this
  cases this
theorem PI.unsorted {b r : List UInt8} {es : List En} {x e : En} (h : PI b (es ++ [x] ++ [e]) r) (hk : ¬ ltB (AIH x) (AIH e)) : ∀ l, ¬ AMJ l b := by
 rintro l ⟨⟨_, hl, _⟩, hs, hb⟩
 obtain ⟨l', rfl, _⟩ := h.pre l hl hb
 rw [SE, List.append_assoc, List.append_assoc, List.pairwise_append] at hs
 exact hk ((List.pairwise_cons.1 hs.2.1).1 e (by simp))
def A47 (b : List UInt8) (r : TV) : Prop := (∀ l, AMJ l b → r = .tup [.sl 22 (l.map fun e : En => .agg [.val (.int .i64 e.mode), .val (.string (str e.name)), .arr 20 1 (e.id.map by8)]), .val .nilIface]) ∧ ((∀ l, ¬ AMJ l b) → r = .tup [.val (.slice none 0 0), .ifc 34 (.val (.int .i64 21))])
theorem PI.fin {b : List UInt8} {es : List En} (h : PI b es []) (hs : SE es) : (AMo es → AMJ es b) ∧ (∀ l, AMJ l b → l = es ∧ AMo es) := by
 constructor
 ·intro ht
  refine ⟨ht, hs, ?_⟩
  have := h.back fun e he => (ht.2.1 e he).1
  simpa using this
 ·rintro l ⟨ht, hsl, hb⟩
  obtain ⟨l', rfl, hl'⟩ := h.pre l ht.2.1 hb
  cases l' with
  | nil => rw [List.append_nil] at ht ⊢; exact ⟨rfl, ht⟩
  | cons x l'' =>
   exfalso
   rw [List.flatMap_cons] at hl'
   have := congrArg List.length hl'
   simp [enB] at this
theorem SE.snoc {es : List En} {x e : En} (h : SE (es ++ [x])) (hk : ltB (AIH x) (AIH e)) : SE (es ++ [x] ++ [e]) := by
 rw [SE, List.pairwise_append]
 refine ⟨h, by simp, fun a ha y hy => ?_⟩
 rw [List.mem_singleton] at hy; subst hy
 rcases List.mem_append.1 ha with ha | ha
 ·rw [SE, List.pairwise_append] at h
  exact ALX (h.2.2 a ha x (by simp)) hk
 ·rw [List.mem_singleton] at ha; subst ha; exact hk
end Go.Proofs.YtliaddbbmnfioaaGreatDoor


namespace Go.Proofs.YtliaddbbmnfioaaGreatDoor
open Go.RowKit Go.Sort Go.Shelf
variable [AFq]
set_option linter.unusedSectionVars false
set_option linter.unusedVariables false
set_option linter.unusedSimpArgs false

theorem A11 {α : Type} {f : α → List Value} {k : Nat} (hf : ∀ x, (f x).length = k) : ∀ (l : List α) (t : Nat), t < l.length * k → (l.flatMap f)[t]? = (l[t / k]?).bind fun x => (f x)[t % k]?
 | [], t, h => by simp at h
 | x :: l, t, h => by
  have hk : 0 < k := by
   rcases Nat.eq_zero_or_pos k with h0 | h0
   ·subst h0; simp at h
   ·exact h0
  rw [List.flatMap_cons]
  by_cases ht : t < k
  ·rw [List.getElem?_append_left (by rw [hf]; exact ht), Nat.div_eq_of_lt ht, Nat.mod_eq_of_lt ht]
   rfl
  ·obtain ⟨s, rfl⟩ : ∃ s, t = s + k := ⟨t - k, by omega⟩
   rw [List.getElem?_append_right (by rw [hf]; omega), hf, Nat.add_sub_cancel, Nat.add_div_right _ hk, Nat.add_mod_right, List.getElem?_cons_succ]
   exact A11 hf l s (by rw [List.length_cons, Nat.add_mul] at h; omega)
theorem AYI {α : Type} [Inhabited α] {f : α → List Value} {k : Nat} (hf : ∀ x, (f x).length = k) (l : List α) : (flatK f k l.toArray).toList = l.flatMap f := by
 have hlen : (l.flatMap f).length = l.length * k := by
  induction l with
  | nil => simp
  | cons x l ih => rw [List.flatMap_cons, List.length_append, ih, hf, List.length_cons, Nat.add_mul]; omega
 apply List.ext_getElem?
 intro t
 by_cases ht : t < l.length * k
 ·have hk : 0 < k := by
   rcases Nat.eq_zero_or_pos k with h0 | h0
   ·subst h0; simp at ht
   ·exact h0
  have hd : t / k < l.length := Nat.div_lt_of_lt_mul (by rw [Nat.mul_comm]; exact ht)
  have hm : t % k < k := Nat.mod_lt _ hk
  rw [A11 hf l t ht, List.getElem?_eq_getElem hd, Option.bind_some]
  have h1 : t < (flatK f k l.toArray).size := by simpa using ht
  have h2 := get_flatK f k l.toArray t (by simpa using ht)
  rw [Array.getElem?_toList, Array.getElem?_eq_getElem h1]
  rw [getElem!_pos _ t h1] at h2
  rw [h2]
  have h3 : l.toArray[t / k]! = l[t / k] := by rw [getElem!_pos l.toArray (t / k) (by simpa using hd)]; simp
  rw [h3, List.getElem?_eq_getElem (by rw [hf]; exact hm), getElem!_pos _ _ (by rw [hf]; exact hm)]
 ·rw [List.getElem?_eq_none (l := (flatK f k l.toArray).toList) (by simpa using Nat.le_of_not_lt ht), List.getElem?_eq_none (l := l.flatMap f) (by rw [hlen]; omega)]
theorem Bbe {off : Nat} {pre mid mid' post : List Value} (h1 : pre.length = off) (h2 : mid'.length = mid.length) : putCells id off mid'.toArray (pre ++ mid ++ post).toArray = (pre ++ mid' ++ post).toArray := by
 apply Array.ext_getElem?
 intro t
 simp only [putCells, Array.getElem?_mapIdx, List.getElem?_toArray, List.size_toArray]
 by_cases ha : t < off
 ·rw [List.append_assoc, List.append_assoc, List.getElem?_append_left (by omega), List.getElem?_append_left (by omega)]
  cases pre[t]? with
  | none => rfl
  | some y => simp [show ¬ (off ≤ t) by omega]
 ·obtain ⟨s, rfl⟩ : ∃ s, t = off + s := ⟨t - off, by omega⟩
  have A : ∀ m : List Value, (pre ++ (m ++ post))[off + s]? = (m ++ post)[s]? := fun m => by rw [List.getElem?_append_right (by omega), h1, Nat.add_sub_cancel_left]
  rw [List.append_assoc, List.append_assoc, A, A]
  by_cases hb : s < mid.length
  ·rw [List.getElem?_append_left hb, List.getElem?_append_left (by omega), List.getElem?_eq_getElem hb, List.getElem?_eq_getElem (by omega)]
   simp [h2, hb]
  ·rw [List.getElem?_append_right (by omega), List.getElem?_append_right (by omega), h2]
   cases post[s - mid.length]? with
   | none => rfl
   | some y => simp [show ¬ (s < mid.length) by omega]



abbrev Biw := {l : List UInt8 // l.length = 20}
instance : Inhabited Biw := ⟨⟨List.replicate 20 0, by simp⟩⟩
end Go.Proofs.YtliaddbbmnfioaaGreatDoor


namespace Go.Proofs.YtliaddbbmnfioaaGreatDoor
open Go.RowKit Go.Sort Go.Shelf
variable [AFq]
set_option linter.unusedSectionVars false
set_option linter.unusedVariables false
set_option linter.unusedSimpArgs false
def AMW {α : Type} [Inhabited α] (cf : α → α → Int) (d : List α) : List α := (pdq (ltOf cf) d.toArray 0 d.toArray.size (Lib.bitLen d.toArray.size) true true).toList
theorem A2t {α : Type} [Inhabited α] {cf : α → α → Int} (hO : SWO (ltOf cf)) (d : List α) : (AMW cf d).Perm d ∧ (AMW cf d).Pairwise (fun x y => ltOf cf y x = false) := by
 have h := pdq_sorts (ltOf cf) hO d.toArray 0 d.toArray.size (Lib.bitLen d.toArray.size) true true (Nat.zero_le _) (Nat.le_refl _) (Or.inl rfl)
 obtain ⟨⟨h1, _, h3⟩, h2⟩ := h
 unfold AMW
 generalize pdq (ltOf cf) d.toArray 0 d.toArray.size (Lib.bitLen d.toArray.size) true true = r at *
 constructor
 ·have e1 : r.extract 0 d.toArray.size = r := by rw [← h1]; simp
  have e2 : d.toArray.extract 0 d.toArray.size = d.toArray := by simp
  rw [e1, e2] at h3; simpa using h3
 ·rw [List.pairwise_iff_getElem]
  intro i j hi hj hij
  have hj' : j < r.size := by simpa using hj
  have := h2 i j (Nat.zero_le _) hij (by omega)
  rw [getElem!_pos r j hj', getElem!_pos r i (by omega)] at this
  simpa using this
theorem A0h {α : Type} [Inhabited α] {cf : α → α → Int} (hO : SWO (ltOf cf)) {d : List α} : (AMW cf d).length = d.length := (A2t hO d).1.length_eq

theorem A1N {P : Program} {ρ : Ren} (L : SlLaysF0.n6 P ρ) {α : Type} [Inhabited α] {k : Nat} (aE : ∀ w, (isAgg (ρ.t 24)).run P w = .ok true w) (zE : ∀ w, (Go.sizeOf (ρ.t 24)).run P w = .ok k w) {enc : α → List Value} (hk : ∀ x, (enc x).length = k) (h1 : ∀ x, ∀ v ∈ enc x, v.oneCell' = true)
  {eT : α → TV} (hw : ∀ x, AFo (eT x) = k) (hr : ∀ c w x us, AFf c w (eT x) us ↔ us = enc x) {cf : α → α → Int} (hO : SWO (ltOf cf))
  {g : Nat} (eg : ∀ args w, (callFunc g args).run P w = .ok (.enter g args) w) {id ver N n cp : Nat} {d : List α} {rest : List TV} {fT : TV} {H : List Ob} {K : TV → List Ob → Prop}
  (hf : ∀ β F w v, Sim ⟨β, H, F⟩ w → A2F ⟨β, H, F⟩ w fT v → ∃ cb, v = .func (.func g) #[] cb ∧ ∀ blk off size, CmpLays P g cb enc k cf blk off size w)
  (hid : H[id]? = some (.obj ver (.arr N k (d.map eT ++ rest)))) (hn : n = d.length) (hb : n < 4611686018427387904)
  (hK : K (.tup []) (H.set id (.obj ver (.arr N k ((AMW cf d).map eT ++ rest))))) : AFl P (ρ.f 6) [.os k id ver [] 0 n cp, fT] H K := by
 intro β F w vs hs hv
 obtain ⟨u, us, rfl, h2, h3⟩ := AFO.cons.1 hv
 obtain ⟨u2, us2, rfl, h4, h5⟩ := AFO.cons.1 h3
 rw [AFO.nil] at h5; subst h5
 obtain ⟨cb, rfl, hcmp⟩ := hf β F w u2 hs h4
 rcases h2 with h | h | ⟨ux, h2, rfl⟩
 ·cases h
 ·cases h
 by_cases hn0 : n = 0
 ·obtain ⟨p0, c0, rfl⟩ : ∃ p0 c0, ux = [.slice p0 0 c0] := by
   rw [AFf] at h2
   rcases h2.2 with ⟨_, a0, e, _⟩ | ⟨b, o, cap, t, m, _, e, _⟩
   ·exact ⟨a0, 0, e⟩
   ·exact ⟨_, cap, by rw [e, hn0]⟩
  have hd : d = [] := List.length_eq_zero_iff.1 (by omega)
  subst hd
  have hset : H.set id (.obj ver (.arr N k ((AMW cf ([] : List α)).map eT ++ rest))) = H := by
   have e : AMW cf ([] : List α) = [] := List.length_eq_zero_iff.1 (A0h hO)
   rw [e]
   apply List.ext_getElem?
   intro i
   rw [List.getElem?_set]
   split
   ·rename_i e; subst e
    rw [hid]; simp [(List.getElem?_eq_some_iff.1 hid).1]
   ·rfl
  rw [hset] at hK
  refine (AnyF.slices_SortFunc_none L p0 c0 (.func (.func g) #[] cb) w).mono ?_
  rintro _ _ ⟨rfl, rfl⟩
  exact ⟨_, _, β, _, F, rfl, hK, hs, AFr.refl _ _, .inr ⟨[], [], rfl, rfl, AFO.nil.2 rfl⟩⟩
 ·rw [AFf] at h2
  rcases h2.2 with ⟨e, _⟩ | ⟨b, o, cap, t, m, hb1, rfl, hb2, hb3, hb4, hb5, hb6⟩
  ·exact absurd e hn0
  rcases hs.ob id _ hid with ⟨k0, _⟩ | ⟨b', off', pre, vs, post, t', fr, k1, k2, k3, k4, k5⟩
  ·have k0' : β id ver = none := k0
   have hb1' : β id ver = some (b, o) := hb1
   rw [k0'] at hb1'; cases hb1'
  have hb1' : β id ver = some (b, o) := hb1
  have k1' : β id ver = some (b', off') := k1
  rw [k1'] at hb1'
  obtain ⟨rfl, rfl⟩ : b' = b ∧ off' = o := by simpa using hb1'
  rw [AFf] at k5
  obtain ⟨c1, c2, c3⟩ := k5
  obtain ⟨va, vb, rfl, c4, c5⟩ := AFg.split c3
  have hmap : ∀ (l : List α) us, AFg (Ctx.bare ⟨β, H, F⟩) w (l.map eT) us ↔ us = l.flatMap enc := by
   intro l
   induction l with
   | nil => intro us; rw [List.map_nil, AFg]; rfl
   | cons x l ih =>
    intro us
    rw [List.map_cons, AFg, List.flatMap_cons]
    constructor
    ·rintro ⟨a, b, rfl, e1, e2⟩; rw [(hr _ _ _ _).1 e1, (ih _).1 e2]
    ·rintro rfl; exact ⟨_, _, rfl, (hr _ _ _ _).2 rfl, (ih _).2 rfl⟩
  rw [hmap] at c4
  subst c4
  have hfl : ∀ l : List α, (l.flatMap enc).length = l.length * k := by
   intro l
   induction l with
   | nil => simp
   | cons x l ih => rw [List.flatMap_cons, List.length_append, ih, hk, List.length_cons, Nat.add_mul]; omega
  have hlt : b' < w.heap.size := (Array.getElem?_eq_some_iff.1 k2).1
  have hH : HoldsK enc k w b' off' d.toArray := by
   intro j hj
   have hj' : j < (d.flatMap enc).length := by rw [hfl]; simpa using hj
   have e1 : (flatK enc k d.toArray)[j]! = (d.flatMap enc)[j] := by
    rw [getElem!_pos _ j hj]
    have := congrArg (fun l : List Value => l[j]?) (AYI hk d)
    simp only [Array.getElem?_toList] at this
    rw [Array.getElem?_eq_getElem hj, List.getElem?_eq_getElem hj'] at this
    exact Option.some.inj this
   rw [e1]
   constructor
   ·rw [cell_of_row w b' _ _ _ _ k2]
    simp only [List.getElem?_toArray]
    rw [List.append_assoc, List.getElem?_append_right (by omega), k4, Nat.add_sub_cancel_left, List.append_assoc, List.getElem?_append_left hj', List.getElem?_eq_getElem hj']
    rfl
   ·simp only [World.frozen?, k2]
    have := k3.2 (off' + j) (by simp only [List.length_append]; omega)
    simpa using this
  have hsz : d.toArray.size < 4611686018427387904 := by simp; omega
  have hS := AnyQ.slices_SortFunc_eq L k aE zE enc hk h1 cf hO g cb b' off' cap d.toArray w eg (hcmp _ _ _) hH hlt hsz
  have hz : (off' + AHO [] + 0 * k) = off' := by simp [AHO]
  rw [hz]
  have hz2 : n = d.toArray.size := by simp [hn]
  rw [hz2]
  refine hS.mono ?_
  rintro _ w' ⟨rfl, q, os, rfl⟩
  rw [show pdq (ltOf cf) d.toArray 0 d.toArray.size (Lib.bitLen d.toArray.size) true true = (AMW cf d).toArray from (Array.toArray_toList).symm]
  have hsl : (AMW cf d).length = d.length := A0h hO
  have hmid : ((AMW cf d).flatMap enc).length = (d.flatMap enc).length := by rw [hfl, hfl, hsl]
  have hflat : flatK enc k (AMW cf d).toArray = ((AMW cf d).flatMap enc).toArray := by
   rw [← AYI hk (AMW cf d)]
  have hw1 : (sortWorldK enc k w b' off' q (AMW cf d).toArray os).heap[b']? = some (.cells (pre ++ ((AMW cf d).flatMap enc ++ vb) ++ post).toArray t' fr) := by
   show ((w.heap.modify b' (onCells (putCells _root_.id off' (flatK enc k (AMW cf d).toArray)))) ++ os)[b']? = _
   rw [hflat, Array.getElem?_append, if_pos (by simpa using hlt), Array.getElem?_modify, if_pos rfl, k2]
   simp only [Option.map_some, onCells]
   rw [show pre ++ (d.flatMap enc ++ vb) ++ post = pre ++ d.flatMap enc ++ (vb ++ post) by simp, Bbe k4 hmid]
   simp
  have hw2 : ∀ b2, b2 < w.heap.size → b2 ≠ b' → (sortWorldK enc k w b' off' q (AMW cf d).toArray os).heap[b2]? = w.heap[b2]? := by
   intro b2 hb2 hne
   show ((w.heap.modify b' (onCells (putCells _root_.id off' (flatK enc k (AMW cf d).toArray)))) ++ os)[b2]? = _
   rw [Array.getElem?_append, if_pos (by simpa using hb2), Array.getElem?_modify, if_neg (Ne.symm hne)]
  generalize hgen : sortWorldK enc k w b' off' q (AMW cf d).toArray os = w2 at hw1 hw2 ⊢
  have o1 : w2.os = w.os ∧ w2.tape = w.tape ∧ w2.output = w.output ∧ w.heap.size ≤ w2.heap.size := by
   rw [← hgen]
   refine ⟨rfl, rfl, rfl, ?_⟩
   simp [sortWorldK, putRowK, Sort.ahead]
  obtain ⟨t1, t2⟩ := hs.turn (β' := β) (o' := .obj ver (.arr N k ((AMW cf d).map eT ++ rest))) (w' := w2) hid rfl rfl (Nat.le_refl _) (fun _ _ _ => rfl) (fun b1 off e => .inl ⟨off, e⟩) o1.1 o1.2.1 o1.2.2.1 o1.2.2.2
   (fun b1 hb1 => by
    by_cases e : b1 = b'
    ·subst e
     simp only [World.shape?, hw1, k2]
     simp only [List.size_toArray, List.length_append]
     rw [hmid]
    ·exact AFS (hw2 b1 hb1 e))
   (fun b1 hb1 hne => hw2 b1 hb1 fun e => hne off' (e ▸ k1'))
   (fun hm => .inr ⟨b', off', pre, (AMW cf d).flatMap enc ++ vb, post, t', fr, k1, hw1, by
    have : (pre ++ ((AMW cf d).flatMap enc ++ vb) ++ post).length = (pre ++ (d.flatMap enc ++ vb) ++ post).length := by
     simp only [List.length_append, hmid]
    rw [this]; exact k3, k4, by
    rw [AFf]
    refine ⟨by rw [List.length_append, List.length_map, hsl, ← c1, List.length_append, List.length_map], fun x hx => ?_, AFg.append ?_ (AFg.mono hm.bare c5)⟩
    ·rcases List.mem_append.1 hx with hx | hx
     ·obtain ⟨y, _, rfl⟩ := List.mem_map.1 hx; exact hw y
     ·exact c2 x (List.mem_append_right _ hx)
    ·have : ∀ (c : Ctx) (l : List α), AFg c w2 (l.map eT) (l.flatMap enc) := by
      intro c l
      induction l with
      | nil => rw [List.map_nil, AFg]; rfl
      | cons x l ih => rw [List.map_cons, AFg, List.flatMap_cons]; exact ⟨_, _, rfl, (hr _ _ _ _).2 rfl, ih⟩
     exact this _ _⟩)
  exact ⟨_, _, β, _, F, rfl, hK, t1, t2, .inr ⟨[], [], rfl, rfl, AFO.nil.2 rfl⟩⟩
end Go.Proofs.YtliaddbbmnfioaaGreatDoor


namespace Go.Proofs
open Go.Shelf
def Tryz.sortL_ren : Go.Shelf.Ren := ⟨fun | 6 => 47 | 15 => 83 | 14 => 82 | 28 => 118 | 29 => 119 | 20 => 110 | 21 => 111 | 22 => 112 | 23 => 113 | 24 => 114 | 25 => 115 | 26 => 116 | 27 => 117 | 46 => 140 | 47 => 141 | 48 => 142 | 49 => 143 | 50 => 144 | 57 => 170 | n => n, fun | 22 => 56 | 24 => 60 | 25 => 102 | 3 => 3 | 39 => 123 | 0 => 0 | 53 => 203 | 55 => 163 | 4 => 4 | 46 => 196 | 45 => 195 | 50 => 200 | 5 => 5 | 9 => 9 | 66 => 220 | 70 => 224 | 76 => 238 | 77 => 239 | n => n, fun | n => n⟩
theorem Tryz.sortL : Go.Proofs.SlLaysF0.n6 Tryz.prog Tryz.sortL_ren := {
 mixed := by kernel_rfl
 f6 := ⟨Tryz.f47.name, by decide, Tryz.func47.trans (congrArg some (by kernel_rfl))⟩
 f14 := ⟨Tryz.f82.name, by decide, Tryz.func82.trans (congrArg some (by kernel_rfl))⟩
 f15 := Tryz.func83.trans (congrArg some (by kernel_rfl))
 f20 := ⟨Tryz.f110.name, by decide, Tryz.func110.trans (congrArg some (by kernel_rfl))⟩
 f21 := ⟨Tryz.f111.name, by decide, Tryz.func111.trans (congrArg some (by kernel_rfl))⟩
 f22 := ⟨Tryz.f112.name, by decide, Tryz.func112.trans (congrArg some (by kernel_rfl))⟩
 f23 := ⟨Tryz.f113.name, by decide, Tryz.func113.trans (congrArg some (by kernel_rfl))⟩
 f24 := ⟨Tryz.f114.name, by decide, Tryz.func114.trans (congrArg some (by kernel_rfl))⟩
 f25 := ⟨Tryz.f115.name, by decide, Tryz.func115.trans (congrArg some (by kernel_rfl))⟩
 f26 := ⟨Tryz.f116.name, by decide, Tryz.func116.trans (congrArg some (by kernel_rfl))⟩
 f27 := ⟨Tryz.f117.name, by decide, Tryz.func117.trans (congrArg some (by kernel_rfl))⟩
 f28 := Tryz.func118.trans (congrArg some (by kernel_rfl))
 f29 := Tryz.func119.trans (congrArg some (by kernel_rfl))
 f46 := ⟨Tryz.f140.name, by decide, Tryz.func140.trans (congrArg some (by kernel_rfl))⟩
 f47 := Tryz.func141.trans (congrArg some (by kernel_rfl))
 f48 := Tryz.func142.trans (congrArg some (by kernel_rfl))
 f49 := ⟨Tryz.f143.name, by decide, Tryz.func143.trans (congrArg some (by kernel_rfl))⟩
 f50 := ⟨Tryz.f144.name, by decide, Tryz.func144.trans (congrArg some (by kernel_rfl))⟩
 f57 := ⟨Tryz.f170.name, by decide, Tryz.func170.trans (congrArg some (by kernel_rfl))⟩
 t0 := Tryz.underlying0
 a0 := Tryz.isAgg0
 z0 := Tryz.sizeOf0
 v0 := Tryz.zeroValue0
 t3 := Tryz.underlying3
 a3 := Tryz.isAgg3
 z3 := Tryz.sizeOf3
 v3 := Tryz.zeroValue3
 t4 := Tryz.underlying4
 a4 := Tryz.isAgg4
 z4 := Tryz.sizeOf4
 v4 := Tryz.zeroValue4
 t5 := Tryz.underlying5
 a5 := Tryz.isAgg5
 z5 := Tryz.sizeOf5
 v5 := Tryz.zeroValue5
 t9 := Tryz.underlying9
 a9 := Tryz.isAgg9
 z9 := Tryz.sizeOf9
 v9 := Tryz.zeroValue9
 t22 := Tryz.underlying56
 a22 := Tryz.isAgg56
 z22 := Tryz.sizeOf56
 v22 := Tryz.zeroValue56
 t25 := Tryz.underlying102
 a25 := Tryz.isAgg102
 z25 := Tryz.sizeOf102
 v25 := Tryz.zeroValue102
 t39 := Tryz.underlying123
 a39 := Tryz.isAgg123
 z39 := Tryz.sizeOf123
 v39 := Tryz.zeroValue123
 t45 := Tryz.underlying195
 a45 := Tryz.isAgg195
 z45 := Tryz.sizeOf195
 v45 := Tryz.zeroValue195
 t46 := Tryz.underlying196
 a46 := Tryz.isAgg196
 z46 := Tryz.sizeOf196
 v46 := Tryz.zeroValue196
 t50 := Tryz.underlying200
 a50 := Tryz.isAgg200
 z50 := Tryz.sizeOf200
 v50 := Tryz.zeroValue200
 t53 := Tryz.underlying203
 a53 := Tryz.isAgg203
 z53 := Tryz.sizeOf203
 v53 := Tryz.zeroValue203
 t55 := Tryz.underlying163
 a55 := Tryz.isAgg163
 z55 := Tryz.sizeOf163
 v55 := Tryz.zeroValue163
 t66 := Tryz.underlying220
 a66 := Tryz.isAgg220
 z66 := Tryz.sizeOf220
 v66 := Tryz.zeroValue220
 t70 := Tryz.underlying224
 a70 := Tryz.isAgg224
 z70 := Tryz.sizeOf224
 v70 := Tryz.zeroValue224
 t76 := Tryz.underlying238
 a76 := Tryz.isAgg238
 z76 := Tryz.sizeOf238
 v76 := Tryz.zeroValue238
 t77 := Tryz.underlying239
 a77 := Tryz.isAgg239
 z77 := Tryz.sizeOf239
 v77 := Tryz.zeroValue239 }
end Go.Proofs


namespace Go.Proofs.YtliaddbbmnfioaaGreatDoor
open Go.RowKit Go.Sort
variable [AFq]
set_option linter.unusedSectionVars false
set_option linter.unusedVariables false

instance : Inhabited EnS := ⟨⟨⟨0, [], List.replicate 20 0⟩, by simp⟩⟩
theorem Be8 (x y : EnS) : ltOf A7P x y = decide (ltB (AIH x.1) (AIH y.1)) := by
 unfold ltOf A7P
 exact decide_eq_decide.2 AZy
theorem Bcp : SWO (ltOf A7P) where
 irrefl x := by rw [Be8]; simpa using ALe (AIH x.1)
 trans x y z h1 h2 := by
  rw [Be8, decide_eq_true_eq] at *
  exact ALX h1 h2
 ntrans x y z h1 h2 := by
  rw [Be8, decide_eq_false_iff_not] at *
  intro h3
  by_cases h4 : ltB (AIH y.1) (AIH x.1)
  ·exact h2 (ALX h4 h3)
  ·have e := AZt h1 h4
   rw [e] at h3; exact h2 h3
theorem BaU (c : Ctx) (w : World) (x : EnS) (us : List Value) : AFf c w (enT x.1) us ↔ us = ARO x.1 := by
 unfold ARO
 constructor
 ·intro h
  rw [AFf, AFg] at h
  obtain ⟨a, b, rfl, h1, h⟩ := h
  rw [AFg] at h
  obtain ⟨a2, b2, rfl, h2, h⟩ := h
  rw [AFg] at h
  obtain ⟨a3, b3, rfl, h3, h⟩ := h
  rw [AFg] at h
  subst h
  rw [AFf] at h1; rw [AFf] at h2; rw [AFf] at h3
  obtain ⟨_, _, h3⟩ := h3
  have := AJZ (fun y hy => by obtain ⟨b, _, rfl⟩ := List.mem_map.1 hy; exact AZC b) h3
  rw [AQ5] at this
  rw [this, h1.1, h2.1]; simp
 ·intro e
  have q3 : AFf c w (Bfe x.1.id) (x.1.id.map fun b => Value.int .u8 b.toNat) := by
   rw [AFf]
   exact ⟨by rw [List.length_map]; exact x.2.1, fun y hy => by obtain ⟨b, _, rfl⟩ := List.mem_map.1 hy; rfl, AIr _⟩
  have q1 : AFf c w (i64 x.1.mode) [.int .i64 x.1.mode] := by rw [AFf]; exact ⟨rfl, rfl⟩
  have q2 : AFf c w (ts x.1.name) [.string (str x.1.name)] := by rw [AFf]; exact ⟨rfl, rfl⟩
  have q4 : AFg c w [Bfe x.1.id] (x.1.id.map fun b => Value.int .u8 b.toNat) := by rw [AFg]; exact ⟨_, [], by simp, q3, by rw [AFg]⟩
  have q5 : AFg c w [ts x.1.name, Bfe x.1.id] (.string (str x.1.name) :: x.1.id.map fun b => Value.int .u8 b.toNat) := by rw [AFg]; exact ⟨_, _, rfl, q2, q4⟩
  rw [AFf, AFg]
  exact ⟨_, _, e, q1, q5⟩
def A9D (x : EnS) : List Value := ARO x.1
def tvS (x : EnS) : TV := enT x.1
theorem A7p (x : EnS) : (A9D x).length = 22 := by unfold A9D ARO; simp [x.2.1]
theorem A7d (x : EnS) : ∀ v ∈ A9D x, v.oneCell' = true := fun v hv => by
 unfold A9D ARO at hv
 simp only [List.mem_cons] at hv
 rcases hv with rfl | rfl | hv
 ·rfl
 ·rfl
 ·obtain ⟨b, _, rfl⟩ := List.mem_map.1 hv; rfl
theorem A5P (x : EnS) : AFo (tvS x) = 22 := rfl
theorem Bit (c : Ctx) (w : World) (x : EnS) (us : List Value) : AFf c w (tvS x) us ↔ us = A9D x := BaU c w x us
theorem Bd5 (x y : EnS) (w : World) : Calls Tryz.prog 48 (#[.agg (A9D x).toArray, .agg (A9D y).toArray] ++ #[]) w fun e w' => e = .returned (.int .i64 (A7P x y)) ∧ ∃ q os', w' = Sort.grow (w.drewN q) os' := AXA x y w
set_option maxRecDepth 100000 in
theorem Bgf {id ver N n cp : Nat} {d : List EnS} {H : List Ob} {K : TV → List Ob → Prop} (hid : H[id]? = some (.obj ver (.arr N 22 (d.map tvS)))) (hn : n = d.length) (hb : d.length ≤ 100000)
  (hK : K (.tup []) (H.set id (.obj ver (.arr N 22 ((AMW A7P d).map tvS))))) : AFl Tryz.prog 47 [.os 22 id ver [] 0 n cp, .val (.func (.func 48) #[] #[])] H K :=
 A1N Tryz.sortL (k := 22) (fun w => Tryz.isAgg60 w) (fun w => Tryz.sizeOf60 w) (enc := A9D) A7p A7d (eT := tvS) A5P Bit Bcp (g := 48) (enters_of Tryz.func48 (by kernel_rfl) rfl)
  (fun β F w v _ h => ⟨#[], Rep.val.1 (Or.inl h), fun blk off size m os dk _ x y => Bd5 x y _⟩) (rest := []) (by rw [hid, List.append_nil]) hn (by omega) (by rw [List.append_nil]; exact hK)
theorem A9z {id ver N cp : Nat} {d : List En} {H : List Ob} {K : TV → List Ob → Prop} (h20 : ∀ p ∈ d, p.id.length = 20) (hnm : ∀ p ∈ d, p.name.length ≤ 1000000000) (hid : H[id]? = some (.obj ver (.arr N 22 (d.map enT)))) (hb : d.length ≤ 100000)
  (hK : ∀ s : List En, s.Perm d → s.Pairwise (fun x y => ¬ ltB (AIH y) (AIH x)) → K (.tup []) (H.set id (.obj ver (.arr N 22 (s.map enT))))) : AFl Tryz.prog 47 [.os 22 id ver [] 0 d.length cp, .val (.func (.func 48) #[] #[])] H K := by
 have he : ∃ d' : List EnS, d'.map (·.1) = d := ⟨d.attachWith _ (fun p hp => ⟨h20 p hp, hnm p hp⟩), by simp⟩
 obtain ⟨d', rfl⟩ := he
 have e1 : ∀ l : List EnS, (l.map (·.1)).map enT = l.map tvS := fun l => by rw [List.map_map]; rfl
 have hs := A2t Bcp d'
 have hk := hK ((AMW A7P d').map (·.1)) (hs.1.map _) (List.pairwise_map.2 (hs.2.imp fun h => by rw [Be8] at h; simpa using h))
 rw [e1] at hid hk
 exact Bgf hid (List.length_map ..) (by simpa using hb) hk
theorem BcK (x y : En) (hx : x.id.length = 20) (hy : y.id.length = 20) (nx : x.name.length ≤ 1000000000) (ny : y.name.length ≤ 1000000000) : AF9 Tryz.prog 48 [enT x, enT y] (fun r => r = i64 (Lib.compareBytes (AIH x) (AIH y))) := by
 intro β F w vs hF hv
 obtain ⟨v, us, rfl, h1, hv⟩ := AFO.cons.1 hv
 obtain ⟨v2, us, rfl, h2, hv⟩ := AFO.cons.1 hv
 rw [AFO.nil] at hv; subst hv
 have c1 : v = .agg (ARO x).toArray := by
  rcases h1 with h | h | ⟨us, h, e⟩
  ·cases h
  ·cases h
  ·rw [e, (BaU _ _ ⟨x, hx, nx⟩ us).1 h]; rfl
 have c2 : v2 = .agg (ARO y).toArray := by
  rcases h2 with h | h | ⟨us, h, e⟩
  ·cases h
  ·cases h
  ·rw [e, (BaU _ _ ⟨y, hy, ny⟩ us).1 h]; rfl
 rw [c1, c2]
 refine (AXA ⟨x, hx, nx⟩ ⟨y, hy, ny⟩ w).mono ?_
 rintro e w' ⟨rfl, q, os', rfl⟩
 refine ⟨_, _, F, rfl, rfl, Rep.of_val, ⟨rfl, rfl, rfl, ?_, fun b hb => ?_, fun _ h => h, fun _ _ h => h, fun b hb => ?_⟩⟩
 ·show w.heap.size ≤ (w.heap ++ os').size
  simp
 ·show (w.heap ++ os')[b]? = w.heap[b]?
  rw [Array.getElem?_append, if_pos hb]
 ·show b < (w.heap ++ os').size
  have := hF.1 b hb
  simp; omega
end Go.Proofs.YtliaddbbmnfioaaGreatDoor


namespace Go.Proofs.YtliaddbbmnfioaaGreatDoor
open Go.RowKit
variable [AFq] [AFm] [AFn]
set_option linter.unusedSectionVars false
set_option linter.unusedVariables false
set_option linter.unusedSimpArgs false

theorem A81 {H : List Ob} {o : Ob} : (H ++ [o])[H.length]? = some o := by simp
theorem A0f {H : List Ob} {o p : Ob} : (H ++ [p] ++ [o])[H.length + 1]? = some o := by simp
theorem A1W {a z : TV} : List.take 1 ((List.replicate 1 z).set 0 a) = [a] := by simp [List.replicate]
theorem A4N : ∀ l : List UInt8, AKc (l.map by8) = true
 | [] => rfl
 | b :: l => by rw [List.map_cons, AKc, A4N l]; rfl
theorem A2x : ∀ l : List En, AKc (l.map enT) = true
 | [] => rfl
 | x :: l => by
  rw [List.map_cons, AKc, A2x l]
  show (true && (true && (AKc (x.id.map by8) && true)) && true) = true
  rw [A4N]; rfl
theorem A4t (b : List UInt8) (hb : b.length ≤ 1000000) : ALr Tryz.prog 53 [slB b] (A47 b) := by
 refine AFl.toFreshV (AU5 (by simp) ?_)
 have one_r : ∀ z a : TV, (List.replicate 1 z).set 0 a = [a] := fun z a => by simp
 have hsp : ([TV.val (.int .u8 ((0 : Nat) : Int))] : List TV) = [(0 : UInt8)].map by8 := rfl
 have hsp2 : ([TV.val (.int .u8 ((32 : Nat) : Int))] : List TV) = [(32 : UInt8)].map by8 := rfl
 have err : (∀ l, ¬ AMJ l b) → A47 b (.tup [.val (.slice none 0 0), .ifc 34 (.val (.int .i64 21))]) := fun h => ⟨fun l hl => absurd hl (h l), fun _ => rfl⟩
 simp -dsimp (disch := first | assumption | omega | (simp only [AFa]; done) | (simp only [AFa]; omega)) only [↓AFe, AFb, AFd, AFc, eq_self, ↓reduceIte, reduceCtorEq, ↓AUj, ↓AQP, ↓AQS]
 refine AIa (fun q e H => ∃ (es : List En) (rest : List UInt8) (k v cp : Nat), q = rest.length ∧ es.length + rest.length ≤ 1000000 ∧ PI b es rest ∧ SE es ∧ (∀ x ∈ es, x.name.length ≤ 1000000) ∧ H[k]? = some (.obj v (.arr es.length 22 (es.map enT))) ∧ e = [(0, slB rest), (4, .os 22 k v [] 0 es.length cp)]) b.length ?_ ?_
 ·exact ⟨[], b, 0, 0, 0, rfl, by simpa using hb, PI.start b, List.Pairwise.nil, by simp, rfl, rfl⟩
 ·rintro q e H ⟨es, rest, k, v, cp, rfl, hrl, hP, hs, hnm, hk, rfl⟩
  by_cases hr0 : rest = []
  ·subst hr0
   have hso := A9B es hP.ids (fun e he => by have := hnm e he; omega) (by omega)
   have hkt : (es.map enT).take es.length = es.map enT := List.take_of_length_le (by simp)
   simp -dsimp (disch := first | assumption | omega | (simp only [AFa]; done) | (simp only [AFa]; omega)) only [↓AFe, AFb, AFd, AFc, eq_self, Nat.reduceLT, Nat.reduceEqDiff, ↓reduceIte, reduceCtorEq, ↓AKu, ↓ART]
   refine hso.lends (args' := [.sl 22 (es.map enT)]) (by simp -dsimp (disch := first | assumption | omega | (simp only [AFa]; done) | (simp only [AFa]; omega)) only [AFd, AFc, eq_self, ↓reduceIte, hk, hkt]) fun r hr => ⟨by rw [hr]; rfl, ?_⟩
   subst hr
   obtain ⟨f1, f2⟩ := hP.fin hs
   cases hsb : ATs es with
   | false =>
    have hno : ¬ AMo es := fun h => by rw [(AXd hP.ids).2 h] at hsb; cases hsb
    simp -dsimp (disch := first | assumption | omega | (simp only [AFa]; done) | (simp only [AFa]; omega)) only [↓AFe, AFb, AFd, AFc, eq_self, Nat.reduceEqDiff, ↓reduceIte, reduceCtorEq, ↓AFB]
    exact err fun l hl => hno (f2 l hl).2
   | true =>
    have hok := (AXd hP.ids).1 hsb
    simp -dsimp (disch := first | assumption | omega | (simp only [AFa]; done) | (simp only [AFa]; omega)) only [↓AFe, AFb, AFd, AFc, eq_self, Nat.reduceEqDiff, ↓reduceIte, reduceCtorEq, hk, hkt, ↓AFB]
    rw [if_pos (A2x _)]
    exact ⟨fun l hl => by rw [(f2 l hl).1], fun h => absurd (f1 hok) (h es)⟩
  have hr1 : 0 < rest.length := List.length_pos_iff.2 hr0
  have bad : pEn rest = none → A47 b (.tup [.val (.slice none 0 0), .ifc 34 (.val (.int .i64 21))]) := fun h => err (hP.no hr0 h)
  simp -dsimp (disch := first | assumption | omega | (simp only [AFa]; done) | (simp only [AFa]; omega)) only [↓AFe, AFb, AFd, AFc, eq_self, Nat.reduceEqDiff, ↓reduceIte, reduceCtorEq, Nat.reduceLeDiff, ↓AKu, ↓ARY, one_r]
  refine A4u (by rfl) A81 (by simp) ?_
  simp -dsimp (disch := first | assumption | omega | (simp only [AFa]; done) | (simp only [AFa]; omega)) only [↓AFe, AFb, AFd, AFc, eq_self, Nat.reduceEqDiff, ↓reduceIte]
  rw [hsp2]
  refine (BfN rest 32 (by omega)).calls rfl fun r hr => ?_
  cases hA : ARL 32 rest with
  | none =>
   rw [hr.2 hA]
   clear hr
   have hp0 : pEn rest = none := by unfold pEn; rw [hA]
   simp -dsimp (disch := first | assumption | omega | (simp only [AFa]; done) | (simp only [AFa]; omega)) only [↓AFe, AFb, AFd, AFc, eq_self, Nat.reduceEqDiff, ↓reduceIte, reduceCtorEq, Nat.reduceLeDiff, ↓AKL, one_r]
   refine A4u (by rfl) A0f (by simp) ?_
   simp -dsimp (disch := first | assumption | omega | (simp only [AFa]; done) | (simp only [AFa]; omega)) only [↓AFe, AFb, AFd, AFc, eq_self, Nat.reduceEqDiff, ↓reduceIte]
   rw [hsp]
   refine ((BfN [] 0 (by simp)).argL (.cons AZn (.cons A3P.refl .nil))).calls rfl fun r hr => ?_
   rw [hr.2 rfl]
   clear hr
   simp -dsimp (disch := first | assumption | omega | (simp only [AFa]; done) | (simp only [AFa]; omega)) only [↓AFe, AFb, AFd, AFc, eq_self, Nat.reduceEqDiff, ↓reduceIte, ↓AHQ]
   refine (ATL rest (by omega)).calls rfl fun r hr => ?_
   cases hpo : pO rest with
   | none =>
    obtain ⟨m, _, rfl⟩ := hr.2 hpo
    clear hr
    simp -dsimp (disch := first | assumption | omega | (simp only [AFa]; done) | (simp only [AFa]; omega)) only [↓AFe, AFb, AFd, AFc, eq_self, Nat.reduceEqDiff, ↓reduceIte, ↓AFD, ↓AFB]
    exact bad hp0
   | some m =>
    rw [hr.1 m hpo]
    clear hr
    simp -dsimp (disch := first | assumption | omega | (simp only [AFa]; done) | (simp only [AFa]; omega)) only [↓AFe, AFb, AFd, AFc, eq_self, Nat.reduceEqDiff, ↓reduceIte, ↓AFD, ↓AFB]
    exact bad hp0
  | some i =>
   rw [hr.1 i hA]
   clear hr
   have hi := (AM1 hA).1
   simp -dsimp (disch := first | assumption | omega | (simp only [AFa]; done) | (simp only [AFa]; omega)) only [↓AFe, AFb, AFd, AFc, eq_self, Nat.reduceEqDiff, ↓reduceIte, reduceCtorEq, Nat.reduceLeDiff, ↓AKL, one_r]
   refine A4u (by rfl) A0f (by simp) ?_
   simp -dsimp (disch := first | assumption | omega | (simp only [AFa]; done) | (simp only [AFa]; omega)) only [↓AFe, AFb, AFd, AFc, eq_self, Nat.reduceEqDiff, ↓reduceIte]
   rw [hsp]
   refine (BfN (rest.drop (i + 1)) 0 (by simp; omega)).calls rfl fun r hr => ?_
   cases hB : ARL 0 (rest.drop (i + 1)) with
   | none =>
    rw [hr.2 hB]
    clear hr
    have hp0 : pEn rest = none := by unfold pEn; rw [hA]; simp only; rw [hB]
    simp -dsimp (disch := first | assumption | omega | (simp only [AFa]; done) | (simp only [AFa]; omega)) only [↓AFe, AFb, AFd, AFc, eq_self, Nat.reduceEqDiff, ↓reduceIte, ↓AHQ]
    refine (ATL (rest.take i) (by simp; omega)).calls rfl fun r hr => ?_
    cases hpo : pO (rest.take i) with
    | none =>
     obtain ⟨m, _, rfl⟩ := hr.2 hpo
     clear hr
     simp -dsimp (disch := first | assumption | omega | (simp only [AFa]; done) | (simp only [AFa]; omega)) only [↓AFe, AFb, AFd, AFc, eq_self, Nat.reduceEqDiff, ↓reduceIte, ↓AFD, ↓AFB]
     exact bad hp0
    | some m =>
     rw [hr.1 m hpo]
     clear hr
     simp -dsimp (disch := first | assumption | omega | (simp only [AFa]; done) | (simp only [AFa]; omega)) only [↓AFe, AFb, AFd, AFc, eq_self, Nat.reduceEqDiff, ↓reduceIte, ↓AFD, ↓AFB]
     exact bad hp0
   | some j =>
    rw [hr.1 j hB]
    clear hr
    have hj := (AM1 hB).1
    simp -dsimp (disch := first | assumption | omega | (simp only [AFa]; done) | (simp only [AFa]; omega)) only [↓AFe, AFb, AFd, AFc, eq_self, Nat.reduceEqDiff, ↓reduceIte, ↓AHQ]
    refine (ATL (rest.take i) (by simp; omega)).calls rfl fun r hr => ?_
    cases hpo : pO (rest.take i) with
    | none =>
     have hp0 : pEn rest = none := by unfold pEn; rw [hA]; simp only; rw [hB]; simp only; rw [hpo]
     obtain ⟨m, _, rfl⟩ := hr.2 hpo
     clear hr
     simp -dsimp (disch := first | assumption | omega | (simp only [AFa]; done) | (simp only [AFa]; omega)) only [↓AFe, AFb, AFd, AFc, eq_self, Nat.reduceEqDiff, ↓reduceIte, ↓AFD, ↓AFB]
     exact bad hp0
    | some m =>
     rw [hr.1 m hpo]
     clear hr
     have hpe : pEn rest = if (rest.take i)[0]? = some 48 ∨ ((rest.drop (i + 1)).drop (j + 1)).length < 20 then none
      else some (⟨(m : Int), (rest.drop (i + 1)).take j, ((rest.drop (i + 1)).drop (j + 1)).take 20⟩, ((rest.drop (i + 1)).drop (j + 1)).drop 20) := by
      unfold pEn; rw [hA]; simp only; rw [hB]; simp only; rw [hpo]
     have hne : rest.take i ≠ [] := by
      unfold pO at hpo
      split at hpo
      ·rename_i h; exact h.1
      ·cases hpo
     have hm : m ≤ 1048575 := by
      unfold pO at hpo
      split at hpo
      ·rename_i h; have := Option.some.inj hpo; omega
      ·cases hpo
     have hnl : ((rest.drop (i + 1)).take j).length ≤ 1000000 := by simp; omega
     have hrr : rest.length = i + 1 + (j + 1) + ((rest.drop (i + 1)).drop (j + 1)).length := by simp at hj ⊢; omega
     have hi1 : 0 < i := by
      rcases Nat.eq_zero_or_pos i with h | h
      ·subst h; exact absurd rfl hne
      ·exact h
     generalize (rest.drop (i + 1)).take j = nm at *
     generalize (rest.drop (i + 1)).drop (j + 1) = R at *
     obtain ⟨c, hc⟩ : ∃ c, (rest.take i)[0]? = some c := ⟨(rest.take i)[0]'(List.length_pos_iff.2 hne), List.getElem?_eq_getElem _⟩
     rw [hc] at hpe
     have hcl : ((rest.take i).map by8)[0]? = some (by8 c) := by rw [List.getElem?_map, hc]; rfl
     generalize rest.take i = md at *
     have hR1 : R.length ≤ 1000000 := by omega
     by_cases hc48 : c.toNat = 48
     ·have hp0 : pEn rest = none := by rw [hpe, if_pos (.inl (by rw [show c = 48 from UInt8.toNat_inj.1 hc48]))]
      simp -dsimp (disch := first | assumption | omega | (simp only [AFa]; done) | (simp only [AFa]; omega)) only [↓AFe, AFb, AFd, AFc, eq_self, Nat.reduceEqDiff, ↓reduceIte, hcl, hc48, ↓AFD, ↓AFB]
      exact bad hp0
     by_cases hR20 : R.length < 20
     ·have hp0 : pEn rest = none := by rw [hpe, if_pos (.inr hR20)]
      simp -dsimp (disch := first | assumption | omega | (simp only [AFa]; done) | (simp only [AFa]; omega)) only [↓AFe, AFb, AFd, AFc, eq_self, Nat.reduceEqDiff, ↓reduceIte, hcl, hc48, hR20, ↓AFD, ↓AFB]
      exact bad hp0
     have hp1 : pEn rest = some (⟨(m : Int), nm, R.take 20⟩, R.drop 20) := by
      rw [hpe, if_neg]
      rintro (h | h)
      ·exact hc48 (by rw [Option.some.inj h]; rfl)
      ·exact hR20 h
     clear hpe bad
     have hP2 := hP.step hp1
     have hx20 : (R.take 20).length = 20 := by simp; omega
     have hmw : (((m : Int) % 18446744073709551616 + 9223372036854775808) % 18446744073709551616 - 9223372036854775808 : Int) = (m : Int) := by omega
     simp -dsimp (disch := first | assumption | omega | (simp only [AFa]; done) | (simp only [AFa]; omega)) only [↓AFe, AFb, AFd, AFc, eq_self, Nat.reduceLT, Nat.reduceEqDiff, ↓reduceIte, Nat.reduceAdd, hcl, hc48, hR20, ↓AFD, ↓AR0]
     have hkl := (List.getElem?_eq_some_iff.1 hk).1
     obtain ⟨en, hen, hen2⟩ : ∃ en : En, en = ⟨(m : Int), nm, R.take 20⟩ ∧ TV.agg [.val (.int .i64 (m : Int)), .val (.string (str nm)), .arr 20 1 ((R.take 20).map by8)] = enT en := ⟨_, rfl, rfl⟩
     rw [← hen] at hP2
     have hnl' : en.name.length ≤ 1000000 := by rw [hen]; exact hnl
     have hx20' : en.id.length = 20 := by rw [hen]; exact hx20
     rw [hen2]
     have g1 : ∀ T : List Ob, (H ++ [Ob.gone 0] ++ [Ob.gone 0] ++ [Ob.obj 0 (enT en)] ++ T)[k]? = some (.obj v (.arr es.length 22 (es.map enT))) := fun T => by
      rw [List.append_assoc, List.append_assoc, List.append_assoc, List.getElem?_append_left hkl]; exact hk
     have g2 : ∀ T : List Ob, (H ++ [Ob.gone 0] ++ [Ob.gone 0] ++ [Ob.obj 0 (enT en)] ++ T)[H.length + 1 + 1]? = some (.obj 0 (enT en)) := fun T => by
      rw [List.getElem?_append_left (by simp), List.getElem?_append_right (by simp)]; simp
     have g1' := g1 []
     have g2' := g2 []
     rw [List.append_nil] at g1' g2'
     have gl : (H ++ [Ob.gone 0] ++ [Ob.gone 0] ++ [Ob.obj 0 (enT en)]).length = H.length + 3 := by simp
     generalize H ++ [Ob.gone 0] ++ [Ob.gone 0] ++ [Ob.obj 0 (enT en)] = H1 at *
     rcases List.eq_nil_or_concat es with rfl | ⟨ys, x, hes⟩
     ·simp -dsimp (disch := first | assumption | omega | (simp only [AFa]; done) | (simp only [AFa]; omega)) only [↓AFe, AFb, AFd, AFc, eq_self, Nat.reduceLT, Nat.reduceEqDiff, Nat.reduceMul, ↓reduceIte, Nat.reduceAdd, reduceCtorEq, Nat.reduceLeDiff, g2', g1, A1W, ↓AKJ, ↓AKr]
      have hel : ([] ++ [en] : List En).length = 1 := rfl
      refine AFW (R.drop 20).length (by simp; omega) (by simp) ⟨[] ++ [en], R.drop 20, k, v + 1, 1, rfl, by simp; omega, hP2, List.pairwise_singleton _ _, by simpa using hnl', ?_, rfl⟩
      rw [List.getElem?_append_left (by simp; omega), List.getElem?_set_self (by omega)]; rfl
     ·rw [List.concat_eq_append] at hes
      have hel : es.length = ys.length + 1 := by rw [hes]; simp
      have hlx : (es.map enT)[es.length - 1]? = some (enT x) := by rw [hes]; simp
      have hx := hP.ids x (by rw [hes]; simp)
      have hxn := hnm x (by rw [hes]; simp)
      simp -dsimp (disch := first | assumption | omega | (simp only [AFa]; done) | (simp only [AFa]; omega)) only [↓AFe, AFb, AFd, AFc, eq_self, Nat.reduceEqDiff, ↓reduceIte, Nat.reduceAdd, g1', g2', hlx, ↓AKJ, ↓AKr]
      refine (BcK x en hx hx20' (by omega) (by omega)).calls rfl fun r hr => ?_
      subst hr
      by_cases hlt : Lib.compareBytes (AIH x) (AIH en) < 0
      case neg =>
       simp -dsimp (disch := first | assumption | omega | (simp only [AFa]; done) | (simp only [AFa]; omega)) only [↓AFe, AFb, AFd, AFc, eq_self, Nat.reduceEqDiff, ↓reduceIte, ↓AFB]
       exact err (PI.unsorted (es := ys) (x := x) (e := en) (r := R.drop 20) (by rw [← hes]; exact hP2) fun h => hlt (AZy.2 h))
      simp -dsimp (disch := first | assumption | omega | (simp only [AFa]; done) | (simp only [AFa]; omega)) only [↓AFe, AFb, AFd, AFc, eq_self, Nat.reduceEqDiff, ↓reduceIte, Nat.reduceAdd, reduceCtorEq, Nat.reduceLeDiff, g2', g1, A1W]
      have hS : SE (es ++ [en]) := by rw [hes] at hs ⊢; exact hs.snoc (AZy.1 hlt)
      have hL : (es ++ [en]).length = es.length + 1 := by simp
      refine AFW (R.drop 20).length (by simp; omega) (by simp) ⟨es ++ [en], R.drop 20, k, v + 1, es.length + 1, rfl, by simp; omega, hP2, hS, ?_, ?_, by rw [hL]; rfl⟩
      ·intro y hy
       rcases List.mem_append.1 hy with hy | hy
       ·exact hnm y hy
       ·rw [List.mem_singleton] at hy; subst hy; exact hnl'
      ·rw [List.getElem?_append_left (by simp; omega), List.getElem?_set_self (by omega), hL, List.map_append]; rfl
end Go.Proofs.YtliaddbbmnfioaaGreatDoor


namespace Go.Proofs.YtliaddbbmnfioaaGreatDoor
open Go.RowKit
variable [AFq] [AFp]
set_option linter.unusedSectionVars false
set_option linter.unusedVariables false
set_option linter.unusedSimpArgs false

omit [AFp] in
theorem Bcb {l : List En} (hlen : l.length ≤ 100000) {H : List Ob} {K : TV → List Ob → Prop} (h0 : l = [] → K (.val (.slice none 0 0)) H) (h1 : K (.os 22 H.length 1 [] 0 l.length l.length) (H ++ [.obj 1 (.arr l.length 22 (l.map enT))])) :
  AFl Tryz.prog 46 [.sl 22 (l.map enT)] H K := by
 refine AHB (by simp) ?_
 by_cases hn : l = []
 ·subst hn
  simp -dsimp (disch := first | assumption | omega | (simp only [AFa]; done) | (simp only [AFa]; omega)) only [↓AFe, AFb, AFd, AFc, eq_self, ↓reduceIte, reduceCtorEq, ↓AFt]
  refine A1k ?_ ?_
  ·simp -dsimp (disch := first | assumption | omega | (simp only [AFa]; done) | (simp only [AFa]; omega)) only [↓AFe, AFb, AFd, AFc, eq_self, ↓reduceIte, reduceCtorEq, ↓AFt]
   exact h0 rfl
  ·simp -dsimp (disch := first | assumption | omega | (simp only [AFa]; done) | (simp only [AFa]; omega)) only [↓AFe, AFb, AFd, AFc, eq_self, Nat.reduceEqDiff, Nat.reduceMul, ↓reduceIte, reduceCtorEq, ↓AFt]
   simpa using h1
 ·have hn0 : l.length ≠ 0 := fun e => hn (List.length_eq_zero_iff.1 e)
  simp -dsimp (disch := first | assumption | omega | (simp only [AFa]; done) | (simp only [AFa]; omega)) only [↓AFe, AFb, AFd, AFc, eq_self, Nat.reduceEqDiff, ↓reduceIte, reduceCtorEq, ↓AFt]
  simpa using h1
def A9t (l : List En) (r : TV) : Prop := (AMo l → ∃ s, SE s ∧ s.Perm l ∧ r = .tup [slB (s.flatMap enB), .val .nilIface]) ∧ (¬ AMo l → r = .tup [.val (.slice none 0 0), eno 21])
theorem A3a (l : List En) (h20 : ∀ x ∈ l, x.id.length = 20) (hnm : ∀ x ∈ l, x.name.length ≤ 140737488351232) (hll : l.length ≤ 1000000) : ALr Tryz.prog 17 [.sl 22 (l.map enT)] (A9t l) := by
 refine AFl.toFreshV (AUn (by simp) ?_)
 have hso := A9B l h20 (fun e he => by have := hnm e he; omega) hll
 simp -dsimp (disch := first | assumption | omega | (simp only [AFa]; done) | (simp only [AFa]; omega)) only [↓AFe, AFb, AFd, AFc, eq_self, ↓reduceIte, reduceCtorEq, ↓ATp, ↓APA]
 refine hso.calls rfl fun r hr => ?_
 subst hr
 cases hs : ATs l with
 | false =>
  simp -dsimp (disch := first | assumption | omega | (simp only [AFa]; done) | (simp only [AFa]; omega)) only [↓AFe, AFb, AFd, AFc, eq_self, Nat.reduceEqDiff, ↓reduceIte, reduceCtorEq, ↓AMH]
  exact ⟨fun h => (by rw [(AXd h20).2 h] at hs; cases hs), fun _ => rfl⟩
 | true =>
  have hok := (AXd h20).1 hs
  have hnm9 : ∀ p ∈ l, p.name.length ≤ 1000000000 := fun p hp => by have := (ARc (hok.2.1 p hp).2.1).2.1; omega
  have hl2 := hok.1
  -- from the sort on
  have rest : ∀ (H : List Ob) (id v cp : Nat) (s : List En), SE s → s.Perm l → H[id]? = some (.obj v (.arr l.length 22 (s.map enT))) → vwp Tryz.prog AH2 (A27 AJ0 fun x H' => AFQ (frs H' x) (A9t l)) [(0, .os 22 id v [] 0 l.length cp)] H := by
   intro H id v cp s hse hsp hid
   have hil := AP0 hid
   have hsl := hsp.length_eq
   have hsok : ∀ e ∈ s, AZJ e := fun e he => hok.2.1 e (hsp.mem_iff.1 he)
   simp -dsimp (disch := first | assumption | omega | (simp only [AFa]; done) | (simp only [AFa]; omega)) only [↓AFe, AFb, AFd, AFc, eq_self, Nat.reduceEqDiff, ↓reduceIte, reduceCtorEq, ↓AQK, ↓AQ8, ↓AQJ]
   refine AIa (fun q e H' => ∃ (j k v' cp' : Nat), q = l.length - j ∧ j ≤ l.length ∧ H.length + 1 ≤ H'.length ∧ k ≠ id ∧ H'[id]? = some (.obj v (.arr l.length 22 (s.map enT))) ∧ H'[k]? = some (.obj v' (.arr ((s.take j).flatMap enB).length 1 (((s.take j).flatMap enB).map by8))) ∧ e = [(4, .os 1 k v' [] 0 ((s.take j).flatMap enB).length cp'), (15, .os 22 id v [] 0 l.length cp), (16, i64 (l.length : Int)), (17, i64 (j : Int))]) l.length ?_ ?_
   ·exact ⟨0, H.length, 0, 0, by simp, by simp, by simp, by omega, by rw [List.getElem?_append_left hil]; exact hid, by simp, by simp [forget, get]⟩
   ·rintro q e H' ⟨j, k, v', cp', rfl, hj, hHl, hne, hid', hk, rfl⟩
    have hkl := AP0 hk
    have hidl := AP0 hid'
    by_cases hjl : j < s.length
    ·have hg : s[j]? = some s[j] := List.getElem?_eq_getElem hjl
     have hen := hsok _ (List.mem_of_getElem? hg)
     have hx20 : (s[j].id.map by8).length = 20 := by rw [List.length_map]; exact hen.2.2
     have hsn : (s.take (j + 1)).flatMap enB = (s.take j).flatMap enB ++ enB s[j] := by rw [List.take_succ_eq_append_getElem hjl, List.flatMap_append]; simp
     have hBl := AXg (s := s.take j) (fun e he => hsok e (List.mem_of_mem_take he))
     have hBl2 : (s.take j).length ≤ 2000 := by simp; omega
     have hnl := (ARc hen.2.1).2.1
     have hol : (ANT s[j].mode).length ≤ 6 := by
      rcases AGp hen.1 with h | h | h | h <;> rw [h] <;> decide
     have hmo := A0p hen.1
     have hmz : s[j].mode = ((s[j].mode.toNat : Nat) : Int) := by rcases AGp hen.1 with h | h | h | h <;> rw [h] <;> rfl
     have hm8 : s[j].mode.toNat < 8 ^ 6 := by rcases AGp hen.1 with h | h | h | h <;> rw [h] <;> decide
     have hgE : (s.map enT)[j]? = some (enT s[j]) := by rw [List.getElem?_map, hg]; rfl
     generalize (s.take j).flatMap enB = B at *
     generalize s[j] = x at *
     have hBt : (B.map by8).take B.length = B.map by8 := List.take_of_length_le (by simp)
     have hA : ∀ (i : Nat) (T : List Ob), i < H'.length → (H' ++ T)[i]? = H'[i]? := fun i T h => List.getElem?_append_left h
     simp -dsimp (disch := first | assumption | omega | (simp only [AFa]; done) | (simp only [AFa]; omega)) only [↓AFe, AFb, AFd, AFc, eq_self, Nat.reduceEqDiff, ↓reduceIte, Nat.reduceAdd, hid', hgE, ↓AJC, ↓AJ7, ↓AQE, ↓AQU]
     rw [hmz]
     refine AYc (A2Q (L := B) (u := x.mode.toNat) (f0 := 6) (by omega) (by decide) (by decide) hm8 (by omega) (by rw [hA k _ hkl]; exact hk) fun H2 v2 hl2 hfr2 hk2 => ?_)
     rw [hmo] at hk2 ⊢
     have hlen1 : (H' ++ [Ob.obj 0 (enT x)]).length = H'.length + 1 := by simp
     have gId : H2[id]? = some (.obj v (.arr l.length 22 (s.map enT))) := by
      rw [hfr2 id (by rw [hlen1]; omega) (fun e => hne e.symm), hA id _ hidl]; exact hid'
     have gX : H2[H'.length]? = some (.obj 0 (enT x)) := by
      rw [hfr2 H'.length (by rw [hlen1]; omega) (by omega), List.getElem?_append_right (Nat.le_refl _), Nat.sub_self]; rfl
     have h2l : H'.length + 1 ≤ H2.length := by rw [← hlen1]; exact hl2
     have hB2 : ((B ++ ANT x.mode).map by8).take (B ++ ANT x.mode).length = (B ++ ANT x.mode).map by8 := List.take_of_length_le (by simp)
     generalize hBo : B ++ ANT x.mode = Bo at *
     have hBol : Bo.length ≤ B.length + 6 := by rw [← hBo, List.length_append]; omega
     generalize hN : H'.length = N at *
     clear hfr2 hA
     have hT1 : ∀ z : TV, List.take (Bo.length + 1) (Bo.map by8 ++ [z]) = Bo.map by8 ++ [z] := fun z => List.take_of_length_le (by simp)
     have hT2 : ∀ z : TV, List.take (Bo.length + 1 + x.name.length) (Bo.map by8 ++ [z] ++ x.name.map by8) = Bo.map by8 ++ [z] ++ x.name.map by8 := fun z => List.take_of_length_le (by simp; omega)
     have hT3 : ∀ z y : TV, List.take (Bo.length + 1 + x.name.length + 1) (Bo.map by8 ++ [z] ++ x.name.map by8 ++ [y]) = Bo.map by8 ++ [z] ++ x.name.map by8 ++ [y] := fun z y => List.take_of_length_le (by simp; omega)
     have hEl : AGC [(2, 2)] 1 0 20 (enT x) = some (x.id.map by8) := by
      have hw : AF0 [i64 x.mode, ts x.name] = 2 := rfl
      unfold AGC; simp [ANU, hen.2.2, hw]; exact List.take_of_length_le (by simp [hen.2.2])
     simp -dsimp (disch := first | assumption | omega | (simp only [AFa]; done) | (simp only [AFa]; omega)) only [↓AFe, AFb, AFd, AFc, eq_self, Nat.reduceEqDiff, Nat.reduceMod, ↓reduceIte, Nat.reduceAdd, Nat.reduceLeDiff, hk2, gX, hx20, hB2, A4q, hT1, hT2, hT3, hEl, AGB, ↓AQ0]
     have hNk : N ≠ k := by omega
     have gK : ∀ (o : Ob) (T : List Ob), (H2.set k o ++ T)[N]? = H2[N]? := fun o T => by rw [List.getElem?_append_left (by simp; omega), List.getElem?_set_ne (Ne.symm hNk)]
     have gK0 : ∀ (T : List Ob), (H2 ++ T)[N]? = H2[N]? := fun T => List.getElem?_append_left (by omega)
     have eB : B ++ enB x = Bo ++ [32] ++ x.name ++ [0] ++ x.id := by rw [← hBo]; simp [enB]
     have eL : (B ++ enB x).length = Bo.length + 1 + x.name.length + 1 + 20 := by rw [eB]; simp only [List.length_append, List.length_cons, List.length_nil, hen.2.2]
     have eM : (B ++ enB x).map by8 = Bo.map by8 ++ [TV.val (.int .u8 ((32 : Nat) : Int))] ++ x.name.map by8 ++ [TV.val (.int .u8 ((0 : Nat) : Int))] ++ x.id.map by8 := by rw [eB]; simp only [List.map_append]; rfl
     refine ⟨⟨⟨?_, ?_⟩, ?_⟩, ?_⟩
     ·have hkk := AP0 hk2
      have hii := AP0 gId
      refine AFW (l.length - (j + 1)) (by omega) (by simp; omega) ⟨j + 1, k, v2 + 1 + 1 + 1 + 1, Bo.length + 1 + x.name.length + 1 + 20, rfl, by omega, by simp; omega, hne, ?_, ?_, ?_⟩
      ·rw [List.append_assoc, List.getElem?_append_left (by simp; omega), List.getElem?_set_ne hne]; exact gId
      ·rw [hsn, eL, eM, List.append_assoc, List.getElem?_append_left (by simp; omega), List.getElem?_set_self hkk]
      ·rw [hsn, eL]; rfl
     ·change AR8 [34] _ _ _
      refine A0Y (id := N) (ver := 0) (p := [(2, 2)]) (by simp [get]) ?_ AZm
      rw [List.append_assoc, gK, List.append_assoc, gK]
     ·change AR8 [34] _ _ _
      refine A0Y (id := N) (ver := 0) (p := [(2, 2)]) (by simp [get]) ?_ AZm
      rw [List.append_assoc, gK, List.append_assoc, gK]
     ·change AR8 [28] _ _ _
      refine A0Y (id := N) (ver := 0) (p := [(1, 1)]) (by simp [get]) ?_ AZm
      rw [gK, gK0]
    ·have hj2 : j = s.length := by omega
     rw [hj2, List.take_length] at hk
     have htt : s.take j = s := List.take_of_length_le (by omega)
     rw [htt]
     have hBt : ((s.flatMap enB).map by8).take (s.flatMap enB).length = (s.flatMap enB).map by8 := List.take_of_length_le (by simp)
     simp -dsimp (disch := first | assumption | omega | (simp only [AFa]; done) | (simp only [AFa]; omega)) only [↓AFe, AFb, AFd, AFc, eq_self, Nat.reduceEqDiff, ↓reduceIte, hk, hBt, ↓AJC, ↓AJ7, ↓AQY, ↓AMH]
     exact ⟨fun _ => ⟨s, hse, hsp, rfl⟩, fun h => absurd hok h⟩
  simp -dsimp (disch := first | assumption | omega | (simp only [AFa]; done) | (simp only [AFa]; omega)) only [↓AFe, AFb, AFd, AFc, eq_self, ↓reduceIte, reduceCtorEq, ↓APV]
  refine AYc (Bcb (by omega) (fun h0 => ?_) ?_)
  ·have hl0 : l.length = 0 := by rw [h0]; rfl
   simp -dsimp (disch := first | assumption | omega | (simp only [AFa]; done) | (simp only [AFa]; omega)) only [↓AFe, AFb, AFd, AFc, eq_self, ↓reduceIte, ↓AID]
   refine AYc (A9z (d := []) (by simp) (by simp) rfl (by simp) fun s hp hs => ?_)
   have hs0 : s = [] := hp.eq_nil
   subst hs0
   simp -dsimp (disch := first | assumption | omega | (simp only [AFa]; done) | (simp only [AFa]; omega)) only [↓AFe, AFb, AFd, AFc, eq_self, ↓reduceIte, reduceCtorEq]
   have := rest [.obj 0 (.arr 0 22 [])] 0 0 0 [] List.Pairwise.nil (by rw [h0]) (by rw [hl0]; rfl)
   rw [hl0] at this
   exact this
  ·simp -dsimp (disch := first | assumption | omega | (simp only [AFa]; done) | (simp only [AFa]; omega)) only [↓AFe, AFb, AFd, AFc, eq_self, ↓reduceIte, ↓AID]
   refine AYc (A9z (d := l) h20 hnm9 rfl (by omega) fun s hp hs => ?_)
   simp -dsimp (disch := first | assumption | omega | (simp only [AFa]; done) | (simp only [AFa]; omega)) only [↓AFe, AFb, AFd, AFc, eq_self, ↓reduceIte, reduceCtorEq]
   exact rest _ 0 1 _ s (SE.of hs ((hp.map AIH).nodup_iff.2 (AYK hok))) hp rfl
end Go.Proofs.YtliaddbbmnfioaaGreatDoor


namespace Go.Proofs.YtliaddbbmnfioaaGreatDoor
open Go.RowKit
variable [AFq]
set_option linter.unusedSectionVars false
set_option linter.unusedVariables false
set_option linter.unusedSimpArgs false

theorem A5A {l m : List UInt8} {k : Nat} (h : l.take k = m.take k) (h1 : k < l.length) (h2 : k < m.length) (e : l[k] = m[k]) : l.take (k + 1) = m.take (k + 1) := by
 rw [List.take_succ_eq_append_getElem h1, List.take_succ_eq_append_getElem h2, h, e]
theorem BgH {x y : UInt8} (h : x ≠ y) : ¬ (x.toNat = y.toNat) := fun e => h (UInt8.toNat_inj.1 e)
theorem same (l m : List UInt8) (hl : l.length ≤ 9223372036854775807) (hm : m.length ≤ 9223372036854775807) : AF9 Tryz.prog 11 [slB l, slB m] (fun x => x = tb (decide (l = m))) := by
 refine AFl.toPureV (A0y (by simp) ?_)
 by_cases hlen : l.length = m.length
 case neg =>
  have hne : l ≠ m := fun e => hlen (by rw [e])
  simp -dsimp (disch := first | assumption | omega) only [↓AFe, AFb, AFd, AFc, eq_self, Nat.reduceEqDiff, ↓reduceIte, Nat.reduceAdd, reduceCtorEq, ↓ANe, decide_eq_false hne]
 simp -dsimp (disch := first | assumption | omega) only [↓AFe, AFb, AFd, AFc, eq_self, Nat.reduceEqDiff, ↓reduceIte, Nat.reduceAdd, reduceCtorEq, ↓ANe]
 refine AIa (fun n e H => ∃ (k : Nat), n = l.length - k ∧ k ≤ l.length ∧ l.take k = m.take k ∧ e = [(0, slB l), (1, slB m), (5, i64 (k : Int))] ∧ H = []) l.length ?_ ?_
 ·exact ⟨0, by simp, by omega, by simp, rfl, rfl⟩
 ·rintro n e H ⟨k, rfl, hk, ht, rfl, rfl⟩
  by_cases hkl : k < l.length
  ·have hkm : k < m.length := by omega
   have g1 : l[k]? = some l[k] := by simp [hkl]
   have g2 : m[k]? = some m[k] := by simp [hkm]
   by_cases he : l[k] = m[k]
   ·have hx := A5A ht hkl hkm he
    have he' : l[k].toNat = m[k].toNat := by rw [he]
    simp -dsimp (disch := first | assumption | omega) only [↓AFe, AFb, AFd, AFc, eq_self, Nat.reduceEqDiff, ↓reduceIte, reduceCtorEq, ↓ANe, g1, g2]
    exact AFW (l.length - (k + 1)) (by omega) (by simp) ⟨k + 1, rfl, by omega, hx, rfl, rfl⟩
   ·have he' := BgH he
    have hne : l ≠ m := fun e => he (by subst e; rfl)
    simp -dsimp (disch := first | assumption | omega) only [↓AFe, AFb, AFd, AFc, eq_self, Nat.reduceEqDiff, ↓reduceIte, reduceCtorEq, ↓ANe, g1, g2, decide_eq_false hne]
  ·have hke : k = l.length := by omega
   have heq : l = m := by rw [hke, List.take_length, hlen, List.take_length] at ht; exact ht
   simp -dsimp (disch := first | assumption | omega) only [↓AFe, AFb, AFd, AFc, eq_self, Nat.reduceEqDiff, ↓reduceIte, reduceCtorEq, ↓ANe, decide_eq_true heq]
theorem Bgq (l : List UInt8) (hl : l.length ≤ 1000000) {H : List Ob} {K : TV → List Ob → Prop} (hk : K (.os 1 H.length 0 [] 0 l.length (l.length + 2)) (H ++ [.obj 0 (.arr (l.length + 2) 1 ((l ++ [71, 72]).map by8))])) :
  AFl Tryz.prog 37 [slB l] H K := by
 refine AYS (by simp) ?_
 have c2 : ((l.length : Int) + 2) = ((l.length + 2 : Nat) : Int) := by omega
 have b1 : ((1 : Nat) : Int) * ((l.length + 2 : Nat) : Int) ≤ 281474976710656 := by omega
 have b2 : ((l.length + 2 : Nat) : Int) ≤ 9223372036854775807 := by omega
 have z : ∀ n : Nat, List.replicate n (TV.val (.int .u8 ((0 : Nat) : Int))) = (List.replicate n (0 : UInt8)).map by8 := fun n => by rw [List.map_replicate]; rfl
 have e1 : List.map by8 l ++ List.drop (min l.length (l.length + 2)) (List.replicate (l.length + 2) (TV.val (.int .u8 ((0 : Nat) : Int)))) = (l ++ [0, 0]).map by8 := by
  rw [z, ← List.map_drop, ← List.map_append, Nat.min_eq_left (by omega), List.drop_replicate, show l.length + 2 - l.length = 2 from by omega]; rfl
 have e2 : ((l ++ [0, 0]).map by8).set l.length (.val (.int .u8 ((71 : Nat) : Int))) = (l ++ [71, 0]).map by8 := by
  rw [List.map_append, List.set_append_right _ _ (by simp), List.map_append]; simp
 have e3 : ((l ++ [71, 0]).map by8).set (l.length + 1) (.val (.int .u8 ((72 : Nat) : Int))) = (l ++ [71, 72]).map by8 := by
  rw [List.map_append, List.set_append_right _ _ (by simp), List.map_append]; simp
 have g1 : ((l ++ [0, 0]).map by8)[l.length]? = some (by8 0) := by simp
 have g2 : ((l ++ [71, 0]).map by8)[l.length + 1]? = some (by8 0) := by simp
 simp -dsimp (disch := first | assumption | omega | (simp only [AFa]; done) | (simp only [AFa]; omega)) only [↓AFe, AFb, AFd, AFc, eq_self, Nat.reduceEqDiff, ↓reduceIte, reduceCtorEq, Nat.reduceLeDiff, ↓AZK, e1, e2, e3, g1, g2]
 exact hk
abbrev x85 (l : List UInt8) : List UInt8 := l.map (· ^^^ 85)
theorem A8D {c : List UInt8} {k : Nat} (hk : k < c.length) : (x85 (c.take k) ++ c.drop k).set k (c[k] ^^^ 85) = x85 (c.take (k + 1)) ++ c.drop (k + 1) := by
 have h1 : (x85 (c.take k)).length = k := by simp; omega
 rw [List.set_append_right _ _ (by omega), h1, Nat.sub_self, List.drop_eq_getElem_cons hk, List.set_cons_zero, List.take_succ_eq_append_getElem hk, x85, x85, List.map_append, List.append_assoc]
 rfl
theorem A1L (l : List UInt8) (hl : l.length ≤ 1000000) {H : List Ob} {id ver : Nat} {K : TV → List Ob → Prop} (ho : H[id]? = some (.obj ver (.arr (l.length + 2) 1 ((l ++ [71, 72]).map by8))))
  (hk : K (tb true) (H.set id (.obj ver (.arr (l.length + 2) 1 ((x85 (l ++ [71, 72])).map by8))))) :
  AFl Tryz.prog 39 [.os 1 id ver [] 0 l.length (l.length + 2), slB l] H K := by
 refine AZh (by simp) ?_
 have hid : id < H.length := (List.getElem?_eq_some_iff.1 ho).1
 have c2 : ((l.length : Int) + 2) = ((l.length + 2 : Nat) : Int) := by omega
 have g1 : (l ++ [71, 72])[l.length]? = some 71 := by simp
 have g2 : (l ++ [71, 72])[l.length + 1]? = some 72 := by simp
 have hL : (l ++ [71, 72]).length = l.length + 2 := by simp
 have ht : (l ++ [71, 72]).take l.length = l := by simp
 generalize hc : l ++ [71, 72] = c at *
 simp -dsimp (disch := first | assumption | omega | (simp only [AFa]; done) | (simp only [AFa]; omega)) only [↓AFe, AFb, AFd, AFc, eq_self, Nat.reduceEqDiff, ↓reduceIte, Nat.reduceAdd, reduceCtorEq, Nat.reduceLeDiff, ↓AOo]
 refine (same l l (by omega) (by omega)).lends (args' := [slB l, slB l]) (by simp -dsimp (disch := first | assumption | omega) only [AFd, AFc, eq_self, ↓reduceIte, ho, hL, ht]) ?_
 rintro x rfl
 refine ⟨rfl, ?_⟩
 rw [show tb (decide (l = l)) = tb true from by simp]
 simp -dsimp (disch := first | assumption | omega | (simp only [AFa]; done) | (simp only [AFa]; omega)) only [↓AFe, AFb, AFd, AFc, eq_self, Nat.reduceEqDiff, UInt8.reduceToNat, ↓reduceIte, ↓AOo, ho, g1, g2]
 ·refine AIa (fun n e H' => ∃ (k : Nat), n = c.length - k ∧ k ≤ c.length ∧ e = [(6, .os 1 id ver [] 0 (l.length + 2) (l.length + 2)), (7, tb true), (8, i64 (k : Int))] ∧ H' = H.set id (.obj ver (.arr (l.length + 2) 1 ((x85 (c.take k) ++ c.drop k).map by8)))) c.length ?_ ?_
  ·refine ⟨0, by simp, by omega, rfl, ?_⟩
   have e0 : x85 (c.take 0) ++ c.drop 0 = c := by simp
   obtain ⟨h1, h2⟩ := List.getElem?_eq_some_iff.1 ho
   rw [e0, ← h2, List.set_getElem_self]
  ·rintro n e H' ⟨k, rfl, hkl, rfl, rfl⟩
   have gs : ∀ o, (H.set id o)[id]? = some o := fun o => by simp [hid]
   by_cases hkc : k < c.length
   ·have hk2 : k < l.length + 2 := by omega
    have hlen : (x85 (c.take k)).length = k := by simp; omega
    have g3 : (x85 (c.take k) ++ c.drop k)[k]? = some c[k] := by
     rw [List.getElem?_append_right (by omega), hlen, Nat.sub_self, List.getElem?_drop]; simp [hkc]
    have g4 := A8D hkc
    have h85 : ∀ (t : TypeId) (x : UInt8), AHJ t .xor (.int .u8 (x.toNat : Int)) (.int .u8 ((85 : Nat) : Int)) = some (.int .u8 ((x ^^^ 85).toNat : Int)) := fun t x => A9K (t := t) (x := x) (y := 85)
    generalize x85 (c.take k) ++ c.drop k = r at *
    generalize c[k] = y at *
    simp -dsimp (disch := first | assumption | omega | (simp only [AFa]; done) | (simp only [AFa]; omega)) only [↓AFe, AFb, AFd, AFc, eq_self, Nat.reduceEqDiff, ↓reduceIte, ↓AOo, gs, g3, g4, h85, A6i]
    exact AFW (c.length - (k + 1)) (by omega) (by simp) ⟨k + 1, rfl, by omega, rfl, rfl⟩
   ·have hke : k = c.length := by omega
    have hk2 : ¬ k < l.length + 2 := by omega
    have e0 : x85 (c.take k) ++ c.drop k = x85 c := by rw [hke, List.take_length, List.drop_length, List.append_nil]
    have e1 : List.drop k c = [] := by rw [hke, List.drop_length]
    simp -dsimp (disch := first | assumption | omega | (simp only [AFa]; done) | (simp only [AFa]; omega)) only [↓AFe, AFb, AFd, AFc, eq_self, Nat.reduceEqDiff, ↓reduceIte, ↓AOo]
    rw [e1, List.append_nil]
    exact hk
end Go.Proofs.YtliaddbbmnfioaaGreatDoor


namespace Go.Proofs.YtliaddbbmnfioaaGreatDoor
open Go.RowKit
variable [AFq]
set_option linter.unusedSectionVars false
set_option linter.unusedVariables false
set_option linter.unusedSimpArgs false

set_option maxRecDepth 100000 in
theorem A2Z {t : TypeId} (ht : Tryz.prog.underlying t = some (.array 20 5)) (hn : Tryz.prog.cellsOf t = 20) : ALU Tryz.prog t (fun l : List UInt8 => .arr 20 1 (l.map by8)) (fun l => l.length = 20) :=
 AM2 (AZ8 ht (k := 1) (by kernel_rfl) (by rw [hn]) (AZT Tryz.underlying5) (fun _ _ => rfl)) fun l h => ⟨l, rfl, h.1⟩
def A94 (e : En) : Prop := e.id.length = 20 ∧ e.name.length ≤ 140737488351232
set_option maxRecDepth 100000 in
theorem A3U : ALU Tryz.prog 60 (fun e : En => enT e) A94 := by
 refine AM2 (AY2 Tryz.underlying60 (by kernel_rfl) (ASA (off := 0) (n := 1) rfl (by kernel_rfl) (A3C Tryz.underlying58) (ASA (off := 1) (n := 1) rfl (by kernel_rfl) (AYZ Tryz.underlying9)
  (ASA (off := 2) (n := 20) rfl (by kernel_rfl) (A2Z Tryz.underlying23 (by kernel_rfl)) A1A)))) fun x h => ?_
 obtain ⟨m, n, i, u⟩ := x
 exact ⟨⟨m, n, i⟩, rfl, h.2.2.1, h.2.1⟩
set_option maxRecDepth 100000 in
theorem A3x : ALU Tryz.prog 56 (fun l : List En => .sl 22 (l.map enT)) (fun l => ∀ x ∈ l, A94 x) :=
 AM2 (AWH (k := 22) (B := Tryz.prog.bytesOf 60) Tryz.underlying56 (by kernel_rfl) rfl A3U (fun a _ => rfl) (by decide)) fun l h => ⟨l, rfl, h.1⟩
variable [AGa] [AFm] [AFn] [AFp]
theorem A7V (l : List En) (h20 : ∀ x ∈ l, x.id.length = 20) (hl : l.length ≤ 1000000) : ALr Tryz.prog 18 [.sl 22 (l.map enT)] (fun r => r = .sl 22 (l.map enT)) := by
 refine AFl.toFreshV (AXS (by simp) ?_)
 simp -dsimp (disch := first | assumption | omega | (simp only [AFa]; done) | (simp only [AFa]; omega)) only [↓AFe, AFb, AFd, AFc, eq_self, Nat.reduceEqDiff, ↓reduceIte, reduceCtorEq, ↓AWR, ↓ATM, ↓AUz, ↓AUQ]
 refine AIa (fun q e H => ∃ (i k v cp : Nat), q = l.length - i ∧ i ≤ l.length ∧ H[k]? = some (.obj v (.arr i 22 ((l.take i).map enT))) ∧ e = [(0, .sl 22 (l.map enT)), (3, .os 22 k v [] 0 i cp), (4, i64 (i : Int))]) l.length ?_ ?_
 ·exact ⟨0, 0, 0, 0, rfl, Nat.zero_le _, rfl, rfl⟩
 rintro q e H ⟨i, k, v, cp, rfl, hi, hk, rfl⟩
 have hkl := AP0 hk
 have hwl : ((l.take i).map enT).length = i := by rw [List.length_map, List.length_take, Nat.min_eq_left hi]
 have hwt : ((l.take i).map enT).take i = (l.take i).map enT := List.take_of_length_le (by omega)
 by_cases hil : i < l.length
 ·have hg : l[i]? = some l[i] := List.getElem?_eq_getElem hil
  have hx20 := h20 _ (List.mem_of_getElem? hg)
  have hsn : (l.take (i + 1)).map enT = (l.take i).map enT ++ [enT l[i]] := by rw [List.take_succ_eq_append_getElem hil, List.map_append]; rfl
  generalize l[i] = x at *
  have hx : (x.id.map by8).length = 20 := by rw [List.length_map]; exact hx20
  have hA : ∀ T : List Ob, (H ++ T)[k]? = some (.obj v (.arr i 22 ((l.take i).map enT))) := fun T => by rw [List.getElem?_append_left hkl]; exact hk
  simp -dsimp (disch := first | assumption | omega | (simp only [AFa]; done) | (simp only [AFa]; omega)) only [↓AFe, AFb, AFd, AFc, eq_self, Nat.reduceEqDiff, ↓reduceIte, Nat.reduceAdd, reduceCtorEq, Nat.reduceLeDiff, hg, hA, hwl, A1W, ↓ANs, ↓AUH]
  refine AFW (l.length - (i + 1)) (by omega) (by simp) ⟨i + 1, k, v + 1, i + 1, rfl, by omega, ?_, rfl⟩
  rw [List.getElem?_append_left (by simp; omega), List.getElem?_set_self (by omega), hsn]
 ·have hi2 : i = l.length := by omega
  have htt : l.take i = l := List.take_of_length_le (by omega)
  rw [htt] at hwl hwt hk
  simp -dsimp (disch := first | assumption | omega | (simp only [AFa]; done) | (simp only [AFa]; omega)) only [↓AFe, AFb, AFd, AFc, eq_self, Nat.reduceEqDiff, ↓reduceIte, reduceCtorEq, hk, hwl, ↓ANs, ↓AUq, ↓AWT]
  rw [if_pos (AXs _)]
  exact rfl
theorem A5Z {l : List UInt8} : (l.map by8).map AVO = l := by
 rw [List.map_map]
 conv => rhs; rw [← List.map_id l]
 exact List.map_congr_left fun b _ => A9d b
theorem AYo (b : List UInt8) (hb : b.length ≤ 500000) : AF9 Tryz.prog 20 [slB b] (fun r => r = tb true) := by
 refine AFl.toPureV (AWd (by simp) ?_)
 have htk2 : ((b ++ [71, 72]).map by8).take b.length = b.map by8 := by rw [List.map_append, List.take_append_of_le_length (by simp), List.take_of_length_le (by simp)]
 have hrd := A3c b (by omega)
 have hun : ∀ l : List UInt8, (l.map by8).map AVO = l := fun l => A5Z
 simp -dsimp (disch := first | assumption | omega | (simp only [AFa]; done) | (simp only [AFa]; omega)) only [↓AFe, AFb, AFd, AFc, eq_self, ↓reduceIte, reduceCtorEq, ↓AVh, ↓ARN]
 refine AYc (Bgq b (by omega) ?_)
 simp -dsimp (disch := first | assumption | omega | (simp only [AFa]; done) | (simp only [AFa]; omega)) only [↓AFe, AFb, AFd, AFc, eq_self, ↓reduceIte, reduceCtorEq, ↓ARV]
 refine (A4t b (by omega)).lends (args' := [slB b]) (by simp -dsimp (disch := first | assumption | omega | (simp only [AFa]; done) | (simp only [AFa]; omega)) only [AFd, AFc, eq_self, ↓reduceIte, Nat.reduceAdd, htk2]) fun r hr => ?_
 by_cases h : ∃ l, AMJ l b
 ·obtain ⟨l, hl⟩ := h
  have hr1 : r = .tup [.sl 22 (l.map enT), .val .nilIface] := hr.1 l hl
  subst hr1
  have h20 : ∀ x ∈ l, x.id.length = 20 := fun x hx => (hl.1.2.1 x hx).2.2
  have hll : l.length ≤ 2000 := hl.1.1
  have hrr : ALr Tryz.prog 54 [slB b] (fun r => r = .tup [.sl 22 (l.map enT), tb true]) := hrd.mono fun r hr => hr.1 _ hl
  clear hr hrd hl
  simp -dsimp (disch := first | assumption | omega | (simp only [AFa]; done) | (simp only [AFa]; omega)) only [↓AFe, AFb, AFd, AFc, eq_self, Nat.reduceEqDiff, ↓reduceIte, reduceCtorEq, ↓AKt]
  refine BdP.calls rfl fun r hr => ?_
  subst hr
  simp -dsimp (disch := first | assumption | omega | (simp only [AFa]; done) | (simp only [AFa]; omega)) only [↓AFe, AFb, AFd, AFc, eq_self, Nat.reduceEqDiff, ↓reduceIte, reduceCtorEq, ↓AKQ]
  refine AYc (A1L b (by omega) rfl ?_)
  simp -dsimp (disch := first | assumption | omega | (simp only [AFa]; done) | (simp only [AFa]; omega)) only [↓AFe, AFb, AFd, AFc, eq_self, Nat.reduceEqDiff, ↓reduceIte, reduceCtorEq, ↓ALE]
  refine hrr.pure.calls rfl fun r hr => ?_
  subst hr
  simp -dsimp (disch := first | assumption | omega | (simp only [AFa]; done) | (simp only [AFa]; omega)) only [↓AFe, AFb, AFd, AFc, eq_self, Nat.reduceEqDiff, ↓reduceIte, reduceCtorEq, ↓ALm, ↓AS3, ↓ASz, ↓AST]
  refine AIa (fun q e H => ∃ i : Nat, q = l.length - i ∧ i ≤ l.length ∧ H = [.obj 0 (.arr (b.length + 2) 1 ((x85 (b ++ [71, 72])).map by8))] ∧ e = [(4, .sl 22 (l.map enT)), (8, .sl 22 (l.map enT)), (10, i64 (i : Int))]) l.length ?_ ?_
  ·exact ⟨0, rfl, by omega, rfl, rfl⟩
  ·rintro q e H ⟨i, rfl, hi, rfl, rfl⟩
   by_cases hil : i < l.length
   ·have hg : l[i]? = some l[i] := List.getElem?_eq_getElem hil
    have hx20 := h20 _ (List.mem_of_getElem? hg)
    have hp20 : (l[i].id.map by8).length = 20 := by rw [List.length_map]; exact hx20
    generalize l[i] = p at *
    simp -dsimp (disch := first | assumption | omega | (simp only [AFa]; done) | (simp only [AFa]; omega)) only [↓AFe, AFb, AFd, AFc, eq_self, Nat.reduceEqDiff, ↓reduceIte, Nat.reduceAdd, hg, beq_self_eq_true, ↓ALo, ↓ASP]
    exact AFW (l.length - (i + 1)) (by omega) (by simp) ⟨i + 1, rfl, by omega, rfl, rfl⟩
   ·simp -dsimp (disch := first | assumption | omega | (simp only [AFa]; done) | (simp only [AFa]; omega)) only [↓AFe, AFb, AFd, AFc, eq_self, Nat.reduceEqDiff, ↓reduceIte, ↓ALo, ↓ASb, ↓AOl]
    done
 ·have hno : ∀ l, ¬ AMJ l b := fun l hl => h ⟨l, hl⟩
  rw [hr.2 hno]
  have hrr : ALr Tryz.prog 54 [slB b] (fun r => r = .tup [.val (.slice none 0 0), tb false]) := hrd.mono fun r hr => hr.2 hno
  simp -dsimp (disch := first | assumption | omega | (simp only [AFa]; done) | (simp only [AFa]; omega)) only [↓AFe, AFb, AFd, AFc, eq_self, Nat.reduceEqDiff, ↓reduceIte, reduceCtorEq, ↓AKt]
  refine BhW.calls rfl fun r hr => ?_
  subst hr
  simp -dsimp (disch := first | assumption | omega | (simp only [AFa]; done) | (simp only [AFa]; omega)) only [↓AFe, AFb, AFd, AFc, eq_self, Nat.reduceEqDiff, ↓reduceIte, reduceCtorEq, ↓AKQ]
  refine AYc (A1L b (by omega) rfl ?_)
  simp -dsimp (disch := first | assumption | omega | (simp only [AFa]; done) | (simp only [AFa]; omega)) only [↓AFe, AFb, AFd, AFc, eq_self, Nat.reduceEqDiff, ↓reduceIte, reduceCtorEq, ↓ALE]
  refine hrr.pure.calls rfl fun r hr => ?_
  subst hr
  simp -dsimp (disch := first | assumption | omega | (simp only [AFa]; done) | (simp only [AFa]; omega)) only [↓AFe, AFb, AFd, AFc, eq_self, Nat.reduceEqDiff, ↓reduceIte, reduceCtorEq, ↓ALm, ↓ASw, ↓AOl]
theorem A9r {l : List En} {b : List UInt8} {x : TV} {n : Int} {v cp : Nat} {Q : VEx → Env → List Ob → Prop} (h20 : ∀ x ∈ l, x.id.length = 20) (hl : l.length ≤ 1000000)
  (h : Q .nor [(0, .sl 22 (l.map enT)), (1, slB b), (5, .os 22 0 v [] 0 l.length cp), (6, x), (8, i64 n), (9, i64 (l.length : Int)), (37, tb (decide (l.length < l.length)))] [.obj v (.arr l.length 22 (l.map enT))]) :
  vwp Tryz.prog AH4 Q [(0, .sl 22 (l.map enT)), (1, slB b), (5, .os 22 0 v [] 0 l.length cp), (6, x), (8, i64 n), (9, i64 ((0 : Nat) : Int))] [.obj v (.arr l.length 22 (l.map enT))] := by
 simp -dsimp (disch := first | assumption | omega | (simp only [AFa]; done) | (simp only [AFa]; omega)) only [↓AFe, ↓AQI]
 refine AIa (fun q e H => ∃ i : Nat, q = l.length - i ∧ i ≤ l.length ∧ H = [.obj v (.arr l.length 22 (l.map enT))] ∧ e = [(0, .sl 22 (l.map enT)), (1, slB b), (5, .os 22 0 v [] 0 l.length cp), (6, x), (8, i64 n), (9, i64 (i : Int))]) l.length ?_ ?_
 ·exact ⟨0, rfl, Nat.zero_le _, rfl, rfl⟩
 rintro q e H ⟨i, rfl, hi, rfl, rfl⟩
 by_cases hil : i < l.length
 ·have hg : l[i]? = some l[i] := List.getElem?_eq_getElem hil
  have hx20 := h20 _ (List.mem_of_getElem? hg)
  have hp20 : (l[i].id.map by8).length = 20 := by rw [List.length_map]; exact hx20
  generalize l[i] = p at *
  have hss : (str p.name == str p.name) = true := beq_self_eq_true (α := Array UInt8) _
  simp -dsimp (disch := first | assumption | omega | (simp only [AFa]; done) | (simp only [AFa]; omega)) only [↓AFe, AFb, AFd, AFc, eq_self, Nat.reduceEqDiff, ↓reduceIte, Nat.reduceAdd, reduceCtorEq, hg, hss, beq_self_eq_true, ↓AJu, ↓AQF]
  exact AFW (l.length - (i + 1)) (by omega) (by simp) ⟨i + 1, rfl, by omega, rfl, rfl⟩
 ·have hi2 : i = l.length := by omega
  subst hi2
  simp -dsimp (disch := first | assumption | omega | (simp only [AFa]; done) | (simp only [AFa]; omega)) only [↓AFe, AFb, AFd, AFc, eq_self, Nat.reduceEqDiff, ↓reduceIte, reduceCtorEq, ↓AJu]
  exact h
theorem A6A (l : List En) (b : List UInt8) (hl : ∀ x ∈ l, A94 x) (hb : b.length ≤ 140737488351232) : AF9 Tryz.prog 5 [.sl 22 (l.map enT), slB b] (fun r => r = tb true) := by
 refine AFl.toPureV (AUO (by simp) ?_)
 have h20 : ∀ x ∈ l, x.id.length = 20 := fun x hx => (hl x hx).1
 have hnm : ∀ x ∈ l, x.name.length ≤ 140737488351232 := fun x hx => (hl x hx).2
 by_cases hll : l.length ≤ 200
 case neg => simp -dsimp (disch := first | assumption | omega | (simp only [AFa]; done) | (simp only [AFa]; omega)) only [↓AFe, AFb, AFd, AFc, eq_self, Nat.reduceEqDiff, ↓reduceIte, Nat.reduceAdd, reduceCtorEq, ↓AIb, ↓AHu, ↓AHk]
 by_cases hbl : b.length ≤ 8000
 case neg => simp -dsimp (disch := first | assumption | omega | (simp only [AFa]; done) | (simp only [AFa]; omega)) only [↓AFe, AFb, AFd, AFc, eq_self, Nat.reduceEqDiff, ↓reduceIte, Nat.reduceAdd, reduceCtorEq, ↓AIb, ↓AHu, ↓AHk]
 have hwt := A3a l h20 hnm (by omega)
 have hrw := AXx l h20 hnm (by omega)
 have hth := A7V l h20 (by omega)
 have hrb := AYo b (by omega)
 have hlt : (l.map enT).take l.length = l.map enT := List.take_of_length_le (by simp)
 simp -dsimp (disch := first | assumption | omega | (simp only [AFa]; done) | (simp only [AFa]; omega)) only [↓AFe, AFb, AFd, AFc, eq_self, Nat.reduceEqDiff, ↓reduceIte, Nat.reduceAdd, reduceCtorEq, ↓AIb, ↓AHu, ↓AQr, ↓APU, ↓APp]
 refine hwt.lends (args' := [.sl 22 (l.map enT)]) (by simp -dsimp (disch := first | assumption | omega | (simp only [AFa]; done) | (simp only [AFa]; omega)) only [AFd, AFc, eq_self, ↓reduceIte, hlt]) fun r hr => ?_
 by_cases hok : AMo l
 ·obtain ⟨s, hs1, hs2, rfl⟩ := hr.1 hok
  clear hr
  have hrs : ALr Tryz.prog 19 [.sl 22 (l.map enT)] (fun r => r = .tup [slB (s.flatMap enB), i64 ((0 : Nat) : Int)]) := hrw.mono fun r hr => by
   obtain ⟨s', k1, k2, k3⟩ := hr.1 hok
   rw [k3, k1.ext hs1 (k2.trans hs2.symm)]
  have hxl : (s.flatMap enB).length ≤ 500000 := by
   have := AXg (s := s) (fun e he => hok.2.1 e (hs2.mem_iff.1 he))
   have := hs2.length_eq
   omega
  have hrx := AYo (s.flatMap enB) hxl
  generalize s.flatMap enB = X at *
  simp -dsimp (disch := first | assumption | omega | (simp only [AFa]; done) | (simp only [AFa]; omega)) only [↓AFe, AFb, AFd, AFc, eq_self, Nat.reduceEqDiff, ↓reduceIte, reduceCtorEq, ↓AIy]
  refine BdP.calls rfl fun r hr => ?_
  subst hr
  simp -dsimp (disch := first | assumption | omega | (simp only [AFa]; done) | (simp only [AFa]; omega)) only [↓AFe, AFb, AFd, AFc, eq_self, Nat.reduceEqDiff, ↓reduceIte, reduceCtorEq, ↓AIC]
  refine A9r h20 (by omega) ?_
  simp -dsimp (disch := first | assumption | omega | (simp only [AFa]; done) | (simp only [AFa]; omega)) only [↓AFe, AFb, AFd, AFc, eq_self, ↓reduceIte, ↓AIF]
  refine hth.pure.calls rfl fun r hr => ?_
  subst hr
  simp -dsimp (disch := first | assumption | omega | (simp only [AFa]; done) | (simp only [AFa]; omega)) only [↓AFe, AFb, AFd, AFc, eq_self, Nat.reduceEqDiff, ↓reduceIte, reduceCtorEq, ↓AJX]
  refine hrs.pure.calls rfl fun r hr => ?_
  subst hr
  simp -dsimp (disch := first | assumption | omega | (simp only [AFa]; done) | (simp only [AFa]; omega)) only [↓AFe, AFb, AFd, AFc, eq_self, Nat.reduceEqDiff, ↓reduceIte, ↓AJB]
  refine (same X X (by omega) (by omega)).calls rfl fun r hr => ?_
  subst hr
  simp -dsimp (disch := first | assumption | omega | (simp only [AFa]; done) | (simp only [AFa]; omega)) only [↓AFe, AFb, AFd, AFc, eq_self, Nat.reduceEqDiff, ↓reduceIte, ↓AJK, ↓AJj]
  refine hrb.calls rfl fun r hr => ?_
  subst hr
  simp -dsimp (disch := first | assumption | omega | (simp only [AFa]; done) | (simp only [AFa]; omega)) only [↓AFe, AFb, AFd, AFc, eq_self, Nat.reduceEqDiff, ↓reduceIte, ↓AJy]
  refine hrx.calls rfl fun r hr => ?_
  subst hr
  simp -dsimp (disch := first | assumption | omega | (simp only [AFa]; done) | (simp only [AFa]; omega)) only [↓AFe, AFb, AFd, AFc, eq_self, Nat.reduceEqDiff, ↓reduceIte, ↓AHk]
 ·have hr2 := hr.2 hok
  subst hr2
  simp -dsimp (disch := first | assumption | omega | (simp only [AFa]; done) | (simp only [AFa]; omega)) only [↓AFe, AFb, AFd, AFc, eq_self, Nat.reduceEqDiff, ↓reduceIte, reduceCtorEq, ↓AIy]
  refine BhW.calls rfl fun r hr => ?_
  subst hr
  simp -dsimp (disch := first | assumption | omega | (simp only [AFa]; done) | (simp only [AFa]; omega)) only [↓AFe, AFb, AFd, AFc, eq_self, Nat.reduceEqDiff, ↓reduceIte, reduceCtorEq, ↓AIC]
  refine A9r h20 (by omega) ?_
  simp -dsimp (disch := first | assumption | omega | (simp only [AFa]; done) | (simp only [AFa]; omega)) only [↓AFe, AFb, AFd, AFc, eq_self, ↓reduceIte, ↓AIF]
  refine hth.pure.calls rfl fun r hr => ?_
  subst hr
  simp -dsimp (disch := first | assumption | omega | (simp only [AFa]; done) | (simp only [AFa]; omega)) only [↓AFe, AFb, AFd, AFc, eq_self, Nat.reduceEqDiff, ↓reduceIte, reduceCtorEq, ↓AJX]
  refine hrw.pure.calls rfl fun r hr => ?_
  have hr2 := hr.2 hok
  subst hr2
  simp -dsimp (disch := first | assumption | omega | (simp only [AFa]; done) | (simp only [AFa]; omega)) only [↓AFe, AFb, AFd, AFc, eq_self, Nat.reduceEqDiff, ↓reduceIte, ↓AJB]
  refine ((same [] [] (by simp) (by simp)).argL (.cons AZn (.cons AZn .nil))).calls rfl fun r hr => ?_
  subst hr
  simp -dsimp (disch := first | assumption | omega | (simp only [AFa]; done) | (simp only [AFa]; omega)) only [↓AFe, AFb, AFd, AFc, eq_self, Nat.reduceEqDiff, ↓reduceIte, ↓AJK, ↓AJj]
  refine hrb.calls rfl fun r hr => ?_
  subst hr
  simp -dsimp (disch := first | assumption | omega | (simp only [AFa]; done) | (simp only [AFa]; omega)) only [↓AFe, AFb, AFd, AFc, eq_self, Nat.reduceEqDiff, ↓reduceIte, reduceCtorEq, ↓AJy, ↓AQX, ↓AHk]
end Go.Proofs.YtliaddbbmnfioaaGreatDoor


namespace Go.Proofs.YtliaddbbmnfioaaGreatDoor.objectTrees
open Go.ChangeShapes Go.WideShapes Go.ChangeAt Go.RowKit
set_option linter.unusedVariables false

theorem own : ownKnob Tryz.prog.godebug = none := by kernel_rfl
abbrev giM (t0 : TypeId) (a0 : Addr) (t1 : TypeId) (a1 : Addr) : AFq := ⟨[(1, AGh), (8, AFF), (9, AFy), (3, AFs), (5, GV.one (.iface t0 (.pointer (some a0)))), (4, GV.one (.iface t1 (.pointer (some a1))))], by kernel_rfl⟩
theorem AVa (t0 : TypeId) (a0 : Addr) (t1 : TypeId) (a1 : Addr) : @AGa (giM t0 a0 t1 a1) := @AGa.mk (giM t0 a0 t1 a1) (by kernel_rfl)
theorem AOB (t0 : TypeId) (a0 : Addr) (t1 : TypeId) (a1 : Addr) : @AGD (giM t0 a0 t1 a1) := @AGD.mk (giM t0 a0 t1 a1) (by kernel_rfl)
theorem AON (t0 : TypeId) (a0 : Addr) (t1 : TypeId) (a1 : Addr) : @AFp (giM t0 a0 t1 a1) := @AFp.mk (giM t0 a0 t1 a1) (by kernel_rfl)
theorem ALu (t0 : TypeId) (a0 : Addr) (t1 : TypeId) (a1 : Addr) : @AFi (giM t0 a0 t1 a1) := @AFi.mk (giM t0 a0 t1 a1) (by kernel_rfl)
theorem AVG (t0 : TypeId) (a0 : Addr) (t1 : TypeId) (a1 : Addr) : @AFn (giM t0 a0 t1 a1) := @AFn.mk (giM t0 a0 t1 a1) ⟨t0, a0, by kernel_rfl⟩
theorem AUg (t0 : TypeId) (a0 : Addr) (t1 : TypeId) (a1 : Addr) : @AFm (giM t0 a0 t1 a1) := @AFm.mk (giM t0 a0 t1 a1) ⟨t1, a1, by kernel_rfl⟩
theorem et : Tryz.prog.globalNamed "errors.errorType" = some 1 := by kernel_rfl
theorem rt : (Tryz.prog.cutTypes.find? (·.1 == "internal/reflectlite.rtype")).map (·.2) = some 175 := by kernel_rfl
theorem BdU : ((List.range Tryz.prog.types.size).filter fun t => Tryz.prog.rowNamed t [101, 114, 114, 111, 114]) = [31] := by kernel_rfl
theorem AYb {W : World} (h : handlesMet Tryz.prog [("errors.errorType", Rows.laid_errors_errorType)] W) : ∃ t fr, W.heap[1]? = some (.cells AGh.cells.toArray t fr) := by
 obtain ⟨name, u, ty, e1, e2, e3, e4, e5⟩ := h _ (List.mem_singleton.2 rfl)
 have en : name = [101, 114, 114, 111, 114] := (Option.some.inj e1).symm
 subst en
 obtain rfl := Option.some.inj (rt.symm.trans e2)
 have hm : ty ∈ (List.range Tryz.prog.types.size).filter fun t => Tryz.prog.rowNamed t [101, 114, 114, 111, 114] := List.mem_filter.2 ⟨List.mem_range.2 e3, e4⟩
 rw [BdU] at hm
 obtain rfl := List.mem_singleton.1 hm
 have hh : typeHandle Tryz.prog 31 = .pointer (some ⟨10, 31, none⟩) := by kernel_rfl
 rw [hh] at e5
 exact AZa et e5
def ANZ : List (DataW Unit) := [.lit (.int .u8 0), .lit (.int .u8 1), .lit (.int .u8 28), .lit (.int .u8 2), .lit (.int .u8 29), .lit (.int .u8 14), .lit (.int .u8 24), .lit (.int .u8 3), .lit (.int .u8 30), .lit (.int .u8 22), .lit (.int .u8 20), .lit (.int .u8 15), .lit (.int .u8 25), .lit (.int .u8 17), .lit (.int .u8 4), .lit (.int .u8 8), .lit (.int .u8 31), .lit (.int .u8 27), .lit (.int .u8 13), .lit (.int .u8 23), .lit (.int .u8 21), .lit (.int .u8 19), .lit (.int .u8 16), .lit (.int .u8 7), .lit (.int .u8 26), .lit (.int .u8 12), .lit (.int .u8 18), .lit (.int .u8 6), .lit (.int .u8 11), .lit (.int .u8 5), .lit (.int .u8 10), .lit (.int .u8 9)]
theorem AN3 {W : World} (h : laidMet Tryz.prog [("math/bits.deBruijn32tab", Rows.laid_math_bits_deBruijn32tab), ("math/bits.deBruijn64tab", Rows.laid_math_bits_deBruijn64tab), ("internal/strconv.uint64pow10", Rows.laid_internal_strconv_uint64pow10), ("strconv.ErrRange", Rows.laid_strconv_ErrRange), ("strconv.ErrSyntax", Rows.laid_strconv_ErrSyntax)] W) : ∃ t fr, W.heap[8]? = some (.cells AFF.cells.toArray t fr) :=
 AZI (t := (Tryz.prog.globals[8]?).elim 0 (·.type)) (e := match Tryz.prog.underlying ((Tryz.prog.globals[8]?).elim 0 (·.type)) with | some (.array _ e) => e | _ => 0) (n := AFF.cells.length) h (List.mem_of_getElem? (i := 0) (show [("math/bits.deBruijn32tab", Rows.laid_math_bits_deBruijn32tab), ("math/bits.deBruijn64tab", Rows.laid_math_bits_deBruijn64tab), ("internal/strconv.uint64pow10", Rows.laid_internal_strconv_uint64pow10), ("strconv.ErrRange", Rows.laid_strconv_ErrRange), ("strconv.ErrSyntax", Rows.laid_strconv_ErrSyntax)][0]? = some ("math/bits.deBruijn32tab", DataW.agg ANZ) by kernel_rfl)) (by kernel_rfl) (by kernel_rfl) (by kernel_rfl) (by kernel_rfl) (by kernel_rfl) (by kernel_rfl) (by kernel_rfl)
def AN0 : List (DataW Unit) := [.lit (.int .u8 0), .lit (.int .u8 1), .lit (.int .u8 56), .lit (.int .u8 2), .lit (.int .u8 57), .lit (.int .u8 49), .lit (.int .u8 28), .lit (.int .u8 3), .lit (.int .u8 61), .lit (.int .u8 58), .lit (.int .u8 42), .lit (.int .u8 50), .lit (.int .u8 38), .lit (.int .u8 29), .lit (.int .u8 17), .lit (.int .u8 4), .lit (.int .u8 62), .lit (.int .u8 47), .lit (.int .u8 59), .lit (.int .u8 36), .lit (.int .u8 45), .lit (.int .u8 43), .lit (.int .u8 51), .lit (.int .u8 22), .lit (.int .u8 53), .lit (.int .u8 39), .lit (.int .u8 33), .lit (.int .u8 30), .lit (.int .u8 24), .lit (.int .u8 18), .lit (.int .u8 12), .lit (.int .u8 5), .lit (.int .u8 63), .lit (.int .u8 55), .lit (.int .u8 48), .lit (.int .u8 27), .lit (.int .u8 60), .lit (.int .u8 41), .lit (.int .u8 37), .lit (.int .u8 16), .lit (.int .u8 46), .lit (.int .u8 35), .lit (.int .u8 44), .lit (.int .u8 21), .lit (.int .u8 52), .lit (.int .u8 32), .lit (.int .u8 23), .lit (.int .u8 11), .lit (.int .u8 54), .lit (.int .u8 26), .lit (.int .u8 40), .lit (.int .u8 15), .lit (.int .u8 34), .lit (.int .u8 20), .lit (.int .u8 31), .lit (.int .u8 10), .lit (.int .u8 25), .lit (.int .u8 14), .lit (.int .u8 19), .lit (.int .u8 9), .lit (.int .u8 13), .lit (.int .u8 8), .lit (.int .u8 7), .lit (.int .u8 6)]
theorem AN2 {W : World} (h : laidMet Tryz.prog [("math/bits.deBruijn32tab", Rows.laid_math_bits_deBruijn32tab), ("math/bits.deBruijn64tab", Rows.laid_math_bits_deBruijn64tab), ("internal/strconv.uint64pow10", Rows.laid_internal_strconv_uint64pow10), ("strconv.ErrRange", Rows.laid_strconv_ErrRange), ("strconv.ErrSyntax", Rows.laid_strconv_ErrSyntax)] W) : ∃ t fr, W.heap[9]? = some (.cells AFy.cells.toArray t fr) :=
 AZI (t := (Tryz.prog.globals[9]?).elim 0 (·.type)) (e := match Tryz.prog.underlying ((Tryz.prog.globals[9]?).elim 0 (·.type)) with | some (.array _ e) => e | _ => 0) (n := AFy.cells.length) h (List.mem_of_getElem? (i := 1) (show [("math/bits.deBruijn32tab", Rows.laid_math_bits_deBruijn32tab), ("math/bits.deBruijn64tab", Rows.laid_math_bits_deBruijn64tab), ("internal/strconv.uint64pow10", Rows.laid_internal_strconv_uint64pow10), ("strconv.ErrRange", Rows.laid_strconv_ErrRange), ("strconv.ErrSyntax", Rows.laid_strconv_ErrSyntax)][1]? = some ("math/bits.deBruijn64tab", DataW.agg AN0) by kernel_rfl)) (by kernel_rfl) (by kernel_rfl) (by kernel_rfl) (by kernel_rfl) (by kernel_rfl) (by kernel_rfl) (by kernel_rfl)
def AK3 : List (DataW Unit) := [.lit (.int .u64 1), .lit (.int .u64 10), .lit (.int .u64 100), .lit (.int .u64 1000), .lit (.int .u64 10000), .lit (.int .u64 100000), .lit (.int .u64 1000000), .lit (.int .u64 10000000), .lit (.int .u64 100000000), .lit (.int .u64 1000000000), .lit (.int .u64 10000000000), .lit (.int .u64 100000000000), .lit (.int .u64 1000000000000), .lit (.int .u64 10000000000000), .lit (.int .u64 100000000000000), .lit (.int .u64 1000000000000000), .lit (.int .u64 10000000000000000), .lit (.int .u64 100000000000000000), .lit (.int .u64 1000000000000000000), .lit (.int .u64 10000000000000000000)]
theorem ALf {W : World} (h : laidMet Tryz.prog [("math/bits.deBruijn32tab", Rows.laid_math_bits_deBruijn32tab), ("math/bits.deBruijn64tab", Rows.laid_math_bits_deBruijn64tab), ("internal/strconv.uint64pow10", Rows.laid_internal_strconv_uint64pow10), ("strconv.ErrRange", Rows.laid_strconv_ErrRange), ("strconv.ErrSyntax", Rows.laid_strconv_ErrSyntax)] W) : ∃ t fr, W.heap[3]? = some (.cells AFs.cells.toArray t fr) :=
 AZI (t := (Tryz.prog.globals[3]?).elim 0 (·.type)) (e := match Tryz.prog.underlying ((Tryz.prog.globals[3]?).elim 0 (·.type)) with | some (.array _ e) => e | _ => 0) (n := AFs.cells.length) h (List.mem_of_getElem? (i := 2) (show [("math/bits.deBruijn32tab", Rows.laid_math_bits_deBruijn32tab), ("math/bits.deBruijn64tab", Rows.laid_math_bits_deBruijn64tab), ("internal/strconv.uint64pow10", Rows.laid_internal_strconv_uint64pow10), ("strconv.ErrRange", Rows.laid_strconv_ErrRange), ("strconv.ErrSyntax", Rows.laid_strconv_ErrSyntax)][2]? = some ("internal/strconv.uint64pow10", DataW.agg AK3) by kernel_rfl)) (by kernel_rfl) (by kernel_rfl) (by kernel_rfl) (by kernel_rfl) (by kernel_rfl) (by kernel_rfl) (by kernel_rfl)
theorem BhR : "*" ++ "errors.errorString" = "*errors.errorString" := by decide
theorem A9F (u : TypeId) (h : Tryz.prog.typeName? 3 u = some "*errors.errorString") : u = 252 :=
 typeName_ptr_named (nm := "errors.errorString") (by rw [BhR]; kernel_rfl) (by kernel_rfl) (by decide) u (by rw [BhR]; exact h)
theorem ATd {W : World} (h : laidMet Tryz.prog [("math/bits.deBruijn32tab", Rows.laid_math_bits_deBruijn32tab), ("math/bits.deBruijn64tab", Rows.laid_math_bits_deBruijn64tab), ("internal/strconv.uint64pow10", Rows.laid_internal_strconv_uint64pow10), ("strconv.ErrRange", Rows.laid_strconv_ErrRange), ("strconv.ErrSyntax", Rows.laid_strconv_ErrSyntax)] W) : ∃ (a : Addr) (t : TypeId) (fr : Nat × Nat), W.heap[5]? = some (.cells #[.iface 252 (.pointer (some a))] t fr) := by
 have h2 : laidMet Tryz.prog (("strconv.ErrRange", DataW.iface "*errors.errorString" (.ptr (.agg [.lit (.string [118, 97, 108, 117, 101, 32, 111, 117, 116, 32, 111, 102, 32, 114, 97, 110, 103, 101])]))) :: [("strconv.ErrSyntax", Rows.laid_strconv_ErrSyntax)]) W := h.tail.tail.tail
 have hg : Tryz.prog.globalNamed "strconv.ErrRange" = some 5 := by kernel_rfl
 obtain ⟨a, s, hv, _⟩ := laid_sentinel h2 hg (show (Tryz.prog.globals[5]?).map (·.type) = some 31 by kernel_rfl) Tryz.underlying31 A9F Tryz.underlying252 Tryz.underlying254 rfl rfl Tryz.underlying9 (by kernel_rfl) (by kernel_rfl)
 exact ⟨a, AZa hg hv⟩
theorem ASu {W : World} (h : laidMet Tryz.prog [("math/bits.deBruijn32tab", Rows.laid_math_bits_deBruijn32tab), ("math/bits.deBruijn64tab", Rows.laid_math_bits_deBruijn64tab), ("internal/strconv.uint64pow10", Rows.laid_internal_strconv_uint64pow10), ("strconv.ErrRange", Rows.laid_strconv_ErrRange), ("strconv.ErrSyntax", Rows.laid_strconv_ErrSyntax)] W) : ∃ (a : Addr) (t : TypeId) (fr : Nat × Nat), W.heap[4]? = some (.cells #[.iface 252 (.pointer (some a))] t fr) := by
 have h2 : laidMet Tryz.prog (("strconv.ErrSyntax", DataW.iface "*errors.errorString" (.ptr (.agg [.lit (.string [105, 110, 118, 97, 108, 105, 100, 32, 115, 121, 110, 116, 97, 120])]))) :: []) W := h.tail.tail.tail.tail
 have hg : Tryz.prog.globalNamed "strconv.ErrSyntax" = some 4 := by kernel_rfl
 obtain ⟨a, s, hv, _⟩ := laid_sentinel h2 hg (show (Tryz.prog.globals[4]?).map (·.type) = some 31 by kernel_rfl) Tryz.underlying31 A9F Tryz.underlying252 Tryz.underlying254 rfl rfl Tryz.underlying9 (by kernel_rfl) (by kernel_rfl)
 exact ⟨a, AZa hg hv⟩
theorem A0d {W : World} (h : laidMetH Tryz.prog Rows.objectTreesRow.laid W) : ∃ t0 a0 t1 a1, @AMl (giM t0 a0 t1 a1) (fun b => b < W.heap.size) W := by
 have h' : laidMet Tryz.prog [("math/bits.deBruijn32tab", Rows.laid_math_bits_deBruijn32tab), ("math/bits.deBruijn64tab", Rows.laid_math_bits_deBruijn64tab), ("internal/strconv.uint64pow10", Rows.laid_internal_strconv_uint64pow10), ("strconv.ErrRange", Rows.laid_strconv_ErrRange), ("strconv.ErrSyntax", Rows.laid_strconv_ErrSyntax)] W ∧ handlesMet Tryz.prog [("errors.errorType", Rows.laid_errors_errorType)] W := h
 obtain ⟨a0, e0⟩ := ATd h'.1
 obtain ⟨a1, e1⟩ := ASu h'.1
 refine ⟨252, a0, 252, a1, ?_⟩
 letI := giM 252 a0 252 a1
 intro g x hx
 have hm := A2U hx
 have hm' : (g, x) ∈ ([(1, AGh), (8, AFF), (9, AFy), (3, AFs), (5, GV.one (.iface 252 (.pointer (some a0)))), (4, GV.one (.iface 252 (.pointer (some a1))))] : List (Nat × GV)) := hm
 simp only [List.mem_cons, List.mem_nil_iff, or_false, Prod.mk.injEq] at hm'
 have key : ∃ t fr, W.heap[g]? = some (.cells x.cells.toArray t fr) := by
  rcases hm' with ⟨rfl, rfl⟩ | ⟨rfl, rfl⟩ | ⟨rfl, rfl⟩ | ⟨rfl, rfl⟩ | ⟨rfl, rfl⟩ | ⟨rfl, rfl⟩
  ·exact AYb h'.2
  ·exact AN3 h'.1
  ·exact AN2 h'.1
  ·exact ALf h'.1
  ·exact e0
  ·exact e1
 obtain ⟨t, fr, hk⟩ := key
 exact ⟨(Array.getElem?_eq_some_iff.1 hk).1, t, fr, hk⟩
noncomputable def AZW (os : Os) : World :=
 let w0 := World.holding Tryz.prog os ⟨#[], #[.slice none 0 0, .slice none 0 0], []⟩
 let w1 := { w0 with heap := w0.heap.modify 1 fun
   | .cells _ t frozen => .cells AGh.cells.toArray t frozen
   | o => o }
 let w2 := { w1 with heap := w1.heap.modify 8 fun
   | .cells _ t frozen => .cells AFF.cells.toArray t frozen
   | o => o }
 let w3 := { w2 with heap := w2.heap.modify 9 fun
   | .cells _ t frozen => .cells AFy.cells.toArray t frozen
   | o => o }
 let w4 := { w3 with heap := w3.heap.modify 3 fun
   | .cells _ t frozen => .cells AFs.cells.toArray t frozen
   | o => o }
 let w5 := { w4 with heap := (w4.heap.push (.cells #[.string ⟨([118, 97, 108, 117, 101, 32, 111, 117, 116, 32, 111, 102, 32, 114, 97, 110, 103, 101] : List UInt8).toArray⟩] 254 (0, 0))).modify 5 fun
   | .cells _ t frozen => .cells #[.iface 252 (.pointer (some ⟨w4.heap.size, 0, none⟩))] t frozen
   | o => o }
 let w6 := { w5 with heap := (w5.heap.push (.cells #[.string ⟨([105, 110, 118, 97, 108, 105, 100, 32, 115, 121, 110, 116, 97, 120] : List UInt8).toArray⟩] 254 (0, 0))).modify 4 fun
   | .cells _ t frozen => .cells #[.iface 252 (.pointer (some ⟨w5.heap.size, 0, none⟩))] t frozen
   | o => o }
 w6
theorem AZk (os : Os) (args : Array Value) : laidMetH Tryz.prog Rows.objectTreesRow.laid ((AZW os).forCall (fun _ _ => 0) ⟨#[], args, []⟩).memory :=
 laidMetH_of_parts (laidMet_of_run' 8 (by kernel_rfl) (by kernel_rfl)) (by kernel_rfl)

theorem Bbn : laidOutB Tryz.prog = true ∧ mapsRowed Tryz.prog = true :=
 have H := ClosedOfChecked.allSpec_of Tryz.checked.wellFormed (by kernel_rfl : Tryz.checked.prog.types = Tryz.checked.src.types)
 ⟨ClosedOfChecked.laidOutB_of H (by kernel_rfl), ClosedOfChecked.mapsRowed_of H⟩
theorem AIo {a b : Bool} (h : a = true) (k : b = true) : (a && b) = true := by rw [h, k]; rfl
theorem Bf8 : (Rows.objectTreesRow.wf (OpenSpec.ofChange Rows.objectTreesSpec)) = true := by kernel_rfl
theorem Bfz : (laidOutB Tryz.prog) = true := Bbn.1
theorem Bhv : (mapsRowed Tryz.prog) = true := Bbn.2
theorem BfL : (Tryz.f5.params.all (Tryz.prog.readableRec ·)) = true := by kernel_rfl
theorem Bhx : (namedTie Tryz.prog Rows.objectTreesRow.named Rows.objectTreesSpec.vars) = true := by kernel_rfl
theorem BfW : ((Rows.objectTreesRow.stops == [])) = true := by kernel_rfl
theorem BgV : ((Tryz.prog.stops == [])) = true := by kernel_rfl
theorem Bhp : ((Rows.objectTreesRow.knobs == [])) = true := by kernel_rfl
theorem Bft : ((Tryz.prog.stopKnobs == [])) = true := by kernel_rfl
theorem BgC : ((Rows.objectTreesRow.inPlace == Tryz.prog.inPlace 5)) = true := by kernel_rfl
theorem BeQ : ((Rows.objectTreesRow.unfollowed == Tryz.prog.unfollowed 5)) = true := by kernel_rfl
theorem Be1 : ((Rows.objectTreesRow.recurses == Tryz.prog.recurses 5)) = true := by kernel_rfl
theorem BcH : ((Rows.objectTreesRow.named == Tryz.prog.varsNamed 5)) = true := by kernel_rfl
theorem Bdb : ((Rows.objectTreesRow.maps == (Tryz.f5.params.toList ++ Rows.objectTreesSpec.plain.varTypes Tryz.prog).any (Tryz.prog.mapsRec ·))) = true := by kernel_rfl
theorem BcB : ((Rows.objectTreesRow.ifaces == (Tryz.f5.params.toList ++ Rows.objectTreesSpec.plain.varTypes Tryz.prog).any (Tryz.prog.ifacesRec ·))) = true := by kernel_rfl
theorem BeW : ((Rows.objectTreesRow.mapsOut == Tryz.prog.mapsAmong Tryz.f5.resultTypes.toList)) = true := by kernel_rfl
theorem BeD : ((Rows.objectTreesRow.loops == (Tryz.f5.params.toList ++ Rows.objectTreesSpec.plain.varTypes Tryz.prog).any (Tryz.prog.loopsFrom ·))) = true := by kernel_rfl
theorem BdV : ((Rows.objectTreesRow.wideKeys == (Tryz.f5.params.toList ++ Rows.objectTreesSpec.plain.varTypes Tryz.prog ++ Tryz.f5.resultTypes.toList).any (Tryz.prog.wideKeysFrom ·))) = true := by kernel_rfl
theorem Bct : (Rows.objectTreesSpec.vars.all (Tryz.prog.varReadable ·)) = true := by kernel_rfl
theorem Bei : (Tryz.f5.resultTypes.all (fun t => Tryz.prog.readableRec t && decide (t < Tryz.prog.types.size))) = true := by kernel_rfl
theorem BcA : ((Rows.objectTreesRow.ifacesOut == Tryz.f5.resultTypes.toList.any (Tryz.prog.ifacesRec ·))) = true := by kernel_rfl
theorem BdF : ((Rows.objectTreesRow.loopsOut == Tryz.f5.resultTypes.toList.any (Tryz.prog.loopsFrom ·))) = true := by kernel_rfl
theorem BdI : ((Rows.objectTreesRow.plainKeys == Tryz.prog.plainKeys)) = true := by kernel_rfl
theorem Bdv : (Rows.objectTreesRow.shortTexts.isNone) = true := by kernel_rfl
theorem BeC : (Tryz.prog.stopsHeard) = true := by kernel_rfl
theorem Bdk : (Tryz.prog.mayEnter) = true := by kernel_rfl
theorem Bec : ((Rows.objectTreesRow.lifted == Tryz.prog.liftsFinal)) = true := by kernel_rfl
theorem Bcw : ((Tryz.prog.make == some Rows.objectTreesRow.make)) = true := by kernel_rfl
theorem Ben : ((Rows.objectTreesRow.kinds == (if Rows.objectTreesRow.domain.isEmpty then [] else Tryz.f5.params.toList.map fun t => match Tryz.prog.underlying t with | some (.int k) => some k | _ => none))) = true := by kernel_rfl
theorem BcL : ((Rows.objectTreesRow.pinned == Rows.objectTreesRow.pinnedBy)) = true := by kernel_rfl
theorem Bdm : ((Rows.objectTreesRow.veiled == (Tryz.f5.params.toList ++ Rows.objectTreesSpec.plain.varTypes Tryz.prog ++ Tryz.f5.resultTypes.toList).any (Tryz.prog.veiledRec ·))) = true := by kernel_rfl
theorem BeA : (Rows.objectTreesRow.veiledFits Tryz.prog Tryz.f5.params.toList (Tryz.f5.params.toList ++ Rows.objectTreesSpec.plain.varTypes Tryz.prog ++ Tryz.f5.resultTypes.toList)) = true := by kernel_rfl
set_option maxRecDepth 100000 in
theorem A64 : ((Rows.objectTreesRow.wf (OpenSpec.ofChange Rows.objectTreesSpec)) && (laidOutB Tryz.prog) && (mapsRowed Tryz.prog) && (Tryz.f5.params.all (Tryz.prog.readableRec ·)) && (namedTie Tryz.prog Rows.objectTreesRow.named Rows.objectTreesSpec.vars) && ((Rows.objectTreesRow.stops == [])) && ((Tryz.prog.stops == [])) && ((Rows.objectTreesRow.knobs == [])) && ((Tryz.prog.stopKnobs == [])) && ((Rows.objectTreesRow.inPlace == Tryz.prog.inPlace 5)) && ((Rows.objectTreesRow.unfollowed == Tryz.prog.unfollowed 5)) && ((Rows.objectTreesRow.recurses == Tryz.prog.recurses 5)) && ((Rows.objectTreesRow.named == Tryz.prog.varsNamed 5)) && ((Rows.objectTreesRow.maps == (Tryz.f5.params.toList ++ Rows.objectTreesSpec.plain.varTypes Tryz.prog).any (Tryz.prog.mapsRec ·))) && ((Rows.objectTreesRow.ifaces == (Tryz.f5.params.toList ++ Rows.objectTreesSpec.plain.varTypes Tryz.prog).any (Tryz.prog.ifacesRec ·))) && ((Rows.objectTreesRow.mapsOut == Tryz.prog.mapsAmong Tryz.f5.resultTypes.toList)) && ((Rows.objectTreesRow.loops == (Tryz.f5.params.toList ++ Rows.objectTreesSpec.plain.varTypes Tryz.prog).any (Tryz.prog.loopsFrom ·))) && ((Rows.objectTreesRow.wideKeys == (Tryz.f5.params.toList ++ Rows.objectTreesSpec.plain.varTypes Tryz.prog ++ Tryz.f5.resultTypes.toList).any (Tryz.prog.wideKeysFrom ·))) && (Rows.objectTreesSpec.vars.all (Tryz.prog.varReadable ·)) && (Tryz.f5.resultTypes.all (fun t => Tryz.prog.readableRec t && decide (t < Tryz.prog.types.size))) && ((Rows.objectTreesRow.ifacesOut == Tryz.f5.resultTypes.toList.any (Tryz.prog.ifacesRec ·))) && ((Rows.objectTreesRow.loopsOut == Tryz.f5.resultTypes.toList.any (Tryz.prog.loopsFrom ·))) && ((Rows.objectTreesRow.plainKeys == Tryz.prog.plainKeys)) && (Rows.objectTreesRow.shortTexts.isNone) && (Tryz.prog.stopsHeard) && (Tryz.prog.mayEnter) && ((Rows.objectTreesRow.lifted == Tryz.prog.liftsFinal)) && ((Tryz.prog.make == some Rows.objectTreesRow.make)) && ((Rows.objectTreesRow.kinds == (if Rows.objectTreesRow.domain.isEmpty then [] else Tryz.f5.params.toList.map fun t => match Tryz.prog.underlying t with | some (.int k) => some k | _ => none))) && ((Rows.objectTreesRow.pinned == Rows.objectTreesRow.pinnedBy)) && ((Rows.objectTreesRow.veiled == (Tryz.f5.params.toList ++ Rows.objectTreesSpec.plain.varTypes Tryz.prog ++ Tryz.f5.resultTypes.toList).any (Tryz.prog.veiledRec ·))) && (Rows.objectTreesRow.veiledFits Tryz.prog Tryz.f5.params.toList (Tryz.f5.params.toList ++ Rows.objectTreesSpec.plain.varTypes Tryz.prog ++ Tryz.f5.resultTypes.toList))) = true := (AIo (AIo (AIo (AIo (AIo (AIo (AIo (AIo (AIo (AIo (AIo (AIo (AIo (AIo (AIo (AIo (AIo (AIo (AIo (AIo (AIo (AIo (AIo (AIo (AIo (AIo (AIo (AIo (AIo (AIo (AIo Bf8 Bfz) Bhv) BfL) Bhx) BfW) BgV) Bhp) Bft) BgC) BeQ) Be1) BcH) Bdb) BcB) BeW) BeD) BdV) Bct) Bei) BcA) BdF) BdI) Bdv) BeC) Bdk) Bec) Bcw) Ben) BcL) Bdm) BeA)
set_option maxRecDepth 100000 in
theorem A1T : joinedFacts Tryz.prog 5 Tryz.f5 Rows.objectTreesSpec Rows.objectTreesRow = true := A64
set_option maxRecDepth 100000 in
theorem lifted (os : Os) (started : os.Started) (H : Type) (enc : TypeId × Value → H) :
  ReturnsInHanded {} Tryz.checked os 5 .any (fun w args => (Rows.objectTreesSpec.pre enc Tryz.prog Tryz.f5 [] false w args ∧ laidMetH Tryz.prog Rows.objectTreesRow.laid w) ∧ sizedMet enc Tryz.prog Tryz.f5 (OpenSpec.ofChange Rows.objectTreesSpec) false w args) (Rows.objectTreesSpec.post enc Tryz.prog Tryz.f5 false true false false) := by
 refine returnsInHanded_of_change_and (C := Tryz.checked) (X := fun w _ => laidMetH Tryz.prog Rows.objectTreesRow.laid w) (fun _ _ _ hh h => h.of_heap hh) own started (by kernel_rfl) Tryz.func5
  (ChangeSpec.witness_at (enc := enc) (C := Tryz.checked) (os := os) (X := fun w _ => laidMetH Tryz.prog Rows.objectTreesRow.laid w) false (AZW os) #[.slice none 0 0, .slice none 0 0] 8 rfl (by kernel_rfl) (by kernel_rfl) (by kernel_rfl) (by kernel_rfl) (by kernel_rfl) (AZk os _)) ?_
 intro W base args ds gs before hval0 hW hcnd hsz0 hL _
 obtain ⟨t0, a0, t1, a1, hG⟩ := A0d hL
 letI : AFq := giM t0 a0 t1 a1
 haveI : AGa := AVa t0 a0 t1 a1
 haveI : AGD := AOB t0 a0 t1 a1
 haveI : AFp := AON t0 a0 t1 a1
 haveI : AFi := ALu t0 a0 t1 a1
 haveI : AFn := AVG t0 a0 t1 a1
 haveI : AFm := AUg t0 a0 t1 a1
 have hsz : (DataW.weightsEach Tryz.prog (Tryz.f5.params.toList ++ Rows.objectTreesSpec.plain.varTypes Tryz.prog) (ds ++ gs)).all (· ≤ reachBytes) = true := hsz0
 have hval : ∀ (j : Nat) t v, Tryz.f5.params[j]? = some t → args[j]? = some v → Value.okWide Tryz.prog W .any base t v := hval0
 have hW' := hW
 obtain ⟨p, q, hA0, hV, rfl, hfz, hnd⟩ := hW
 have hA : DataW.TrodAll enc Tryz.prog W 0 (fun _ => true) true Tryz.f5.params.toList args.toList ds p := hA0
 obtain ⟨rfl, rfl⟩ := trodVars_none hV
 have hsz2 : (DataW.weightsEach Tryz.prog Tryz.f5.params.toList ds).all (· ≤ reachBytes) = true := by
  have e : Tryz.f5.params.toList ++ Rows.objectTreesSpec.plain.varTypes Tryz.prog = Tryz.f5.params.toList := by simp [ChangeSpec.plain, Rows.objectTreesSpec]; rfl
  rw [e, List.append_nil] at hsz; exact hsz
 have hA' := hA
 have hps : (Tryz.f5.params.toList.all fun t => Tryz.prog.readableRec t && decide (t < Tryz.prog.types.size)) = true := by kernel_rfl
 have hv2 : ∀ (j : Nat) t v, Tryz.f5.params.toList[j]? = some t → args.toList[j]? = some v → ∃ base, Value.okWide Tryz.prog W .any base t v := fun j t v h1 h2 => ⟨base, hval j t v (by rw [← Array.getElem?_toList]; exact h1) (by rw [← Array.getElem?_toList]; exact h2)⟩
 rw [Tryz.params5] at hA hsz2 hv2
 obtain ⟨dsE, hdsE⟩ : ∃ x, x = ds := ⟨_, rfl⟩
 refine (Bd6 (f := 5) (ATv A3x (AWF Tryz.underlying56) (fun _ => rfl) (ATv (A0M Tryz.underlying29 Tryz.underlying5 (by kernel_rfl) (by kernel_rfl)) (AWF Tryz.underlying29) (fun _ => rfl) AZj)) (fun a h => A6A a.1 a.2.1 h.1 h.2.1) hA hv2 hsz2 (hG)).mono fun e W' ⟨he, bel⟩ => ?_
 subst he
 have hB := AVE Bbn.1 bel hps hA'
 have hAo := hA
 obtain ⟨v0, vs0, d0, ds0, p0, q0, ha0, hd0, hp0, h0, r0⟩ := trodAll_cons hAo
 obtain ⟨v1, vs1, d1, ds1, p1, q1, ha1, hd1, hp1, h1, r1⟩ := trodAll_cons r0
 obtain ⟨hz1, hz2, hz3⟩ := trodAll_nil r1
 have hd : ds = [d0, d1] := by rw [hd0, hd1, hz2]
 subst hd
 exact ⟨_, rfl, _, _, _, [], _, [], hW', trodAll_mk1 (shut_bool Tryz.underlying4 _), hB, rfl, bel.frame _, fun h => by cases h⟩

theorem over : Rows.objectTreesRow.holds Tryz.pinned (OpenSpec.ofChange Rows.objectTreesSpec) :=
 OpenClaim.holds_of_wide 5 Tryz.f5 rfl rfl rfl rfl rfl rfl rfl ⟨rfl, rfl, rfl, rfl, rfl⟩ rfl rfl rfl rfl rfl (by kernel_rfl) Tryz.func5 A1T
  (of_decide_eq_true (by kernel_rfl)) (by unfold Func.isWrapper; first | (rw [if_pos (by decide +kernel)]; kernel_rfl) | (rw [if_neg (by decide +kernel)]; exact ⟨rfl, rfl⟩))
  (fun os started H enc _ => lifted os started H enc)
theorem stands : (Tryz.f5.params.toList.all fun t => !Tryz.prog.wantsStandIn t) = true := by kernel_rfl
theorem proved : Rows.ObjectTreesCardSaid :=
 Claim7.holds_tied_plain_at .later [] [.data, .data, .data, .handle, .sentinel, .sentinel] true (true, "e6ab31fe43430383ffa178a85459ae3fe14ad8d0c4adf46aafb056f087e0bfb5") true
  over (fun _ h => by cases h) (by kernel_rfl) (fun _ h => by cases h) objectTrees_row_tie rfl ⟨rfl, rfl⟩ (by kernel_rfl) rfl
  (fun f fn hf hfn => by
   obtain rfl : f = 5 := (Option.some.inj ((show Tryz.prog.funcNamed "gitlike/gitlikelaw3.ObjectTrees" = some 5 by kernel_rfl).symm.trans hf)).symm
   obtain rfl : fn = Tryz.f5 := (Option.some.inj (Tryz.func5.symm.trans hfn)).symm
   exact ⟨by kernel_rfl, fun j t ht => by
    rw [← Array.getElem?_toList] at ht
    have := List.all_eq_true.1 stands t (List.mem_of_getElem? ht)
    exact (show Tryz.prog.wantsStandIn t = false by simpa using this)⟩)
  (by kernel_rfl)
#print axioms proved
end Go.Proofs.YtliaddbbmnfioaaGreatDoor.objectTrees

