/- What the proof of GraphOrdersCard stands on (texts merged; names shortened by a program): part 6. -/
import Derived.Test.YtingoaihnlhiaaaDoorQE
import Derived.Test.YtingoaihnlhiaaaDoorQD
import Derived.Laws.Cover1
import Derived.Test.YtingoaihnlhiaaaDoorProg
import Derived.WalkKit
import Derived.LaidEql
import Derived.Stop.Asserts
import Derived.RowKitTokens
import Derived.KernelRfl
namespace Go.Proofs.YtingoaihnlhiaaaDoor
open Go.RowKit
variable [A7]
set_option linter.unusedSectionVars false
set_option linter.unusedVariables false
set_option linter.unusedSimpArgs false

/-- -1, 0, 1. -/
def An0 (a b : Int) : Int := if a < b then -1 else if b < a then 1 else 0
def orI (x y : Int) : Int := if x = 0 then y else x
theorem A2V (a : Int) : Et Tryd.prog 100 [i64 a] (fun r => r = tb false) := by
 refine Aq.toPureV (WS (by simp) ?_)
 simp -dsimp (disch := first | assumption | omega) only [↓Ag, Ad, Ai, Ah, eq_self, forall_const, Nat.reduceLT, Nat.reduceEqDiff, Nat.reduceSub, Nat.reduceMul, Nat.reduceMod, Nat.reduceDiv, Nat.reducePow, UInt8.reduceToNat, Int.reduceEq, Int.reduceLT, Int.reduceLE, ↓reduceIte, Nat.reduceAdd, Int.reduceToNat, reduceCtorEq, Nat.reduceLeDiff, ↓Xd]
theorem A3w (a b : Int) : Et Tryd.prog 99 [i64 a, i64 b] (fun r => r = i64 (An0 a b)) := by
 refine Aq.toPureV (Sj (by simp) ?_)
 simp -dsimp (disch := first | assumption | omega) only [↓Ag, Ad, Ai, Ah, eq_self, forall_const, Nat.reduceLT, Nat.reduceEqDiff, Nat.reduceSub, Nat.reduceMul, Nat.reduceMod, Nat.reduceDiv, Nat.reducePow, UInt8.reduceToNat, Int.reduceEq, Int.reduceLT, Int.reduceLE, ↓reduceIte, Nat.reduceAdd, Int.reduceToNat, reduceCtorEq, Nat.reduceLeDiff, ↓BZ]
 refine (A2V a).calls rfl ?_
 rintro _ rfl
 simp -dsimp (disch := first | assumption | omega) only [↓Ag, Ad, Ai, Ah, eq_self, forall_const, Nat.reduceLT, Nat.reduceEqDiff, Nat.reduceSub, Nat.reduceMul, Nat.reduceMod, Nat.reduceDiv, Nat.reducePow, UInt8.reduceToNat, Int.reduceEq, Int.reduceLT, Int.reduceLE, ↓reduceIte, Nat.reduceAdd, Int.reduceToNat, reduceCtorEq, Nat.reduceLeDiff, ↓BZ]
 refine (A2V b).calls rfl ?_
 rintro _ rfl
 unfold An0
 by_cases h : a < b
 ·rw [if_pos h]
  simp -dsimp (disch := first | assumption | omega) only [↓Ag, Ad, Ai, Ah, eq_self, forall_const, Nat.reduceLT, Nat.reduceEqDiff, Nat.reduceSub, Nat.reduceMul, Nat.reduceMod, Nat.reduceDiv, Nat.reducePow, UInt8.reduceToNat, Int.reduceEq, Int.reduceLT, Int.reduceLE, ↓reduceIte, Nat.reduceAdd, Int.reduceToNat, reduceCtorEq, Nat.reduceLeDiff, ↓BZ]
 ·rw [if_neg h]
  by_cases h2 : b < a
  ·rw [if_pos h2]
   simp -dsimp (disch := first | assumption | omega) only [↓Ag, Ad, Ai, Ah, eq_self, forall_const, Nat.reduceLT, Nat.reduceEqDiff, Nat.reduceSub, Nat.reduceMul, Nat.reduceMod, Nat.reduceDiv, Nat.reducePow, UInt8.reduceToNat, Int.reduceEq, Int.reduceLT, Int.reduceLE, ↓reduceIte, Nat.reduceAdd, Int.reduceToNat, reduceCtorEq, Nat.reduceLeDiff, ↓BZ]
   rfl
  ·rw [if_neg h2]
   simp -dsimp (disch := first | assumption | omega) only [↓Ag, Ad, Ai, Ah, eq_self, forall_const, Nat.reduceLT, Nat.reduceEqDiff, Nat.reduceSub, Nat.reduceMul, Nat.reduceMod, Nat.reduceDiv, Nat.reducePow, UInt8.reduceToNat, Int.reduceEq, Int.reduceLT, Int.reduceLE, ↓reduceIte, Nat.reduceAdd, Int.reduceToNat, reduceCtorEq, Nat.reduceLeDiff, ↓BZ]
   rfl
theorem orV (x y : Int) : Et Tryd.prog 98 [.sl 1 [i64 x, i64 y]] (fun r => r = i64 (orI x y)) := by
 refine Aq.toPureV (AaZ (by simp) ?_)
 simp -dsimp (disch := first | assumption | omega) only [↓Ag, Ad, Ai, Ah, eq_self, forall_const, Nat.reduceLT, Nat.reduceEqDiff, Nat.reduceSub, Nat.reduceMul, Nat.reduceMod, Nat.reduceDiv, Nat.reducePow, UInt8.reduceToNat, Int.reduceEq, Int.reduceLT, Int.reduceLE, ↓reduceIte, Nat.reduceAdd, Int.reduceToNat, reduceCtorEq, Nat.reduceLeDiff, ↓EU]
 refine BG (fun q e H => ∃ i : Nat, q = 2 - i ∧ i ≤ 2 ∧ (1 ≤ i → x = 0) ∧ (2 ≤ i → y = 0) ∧ e = [(3, i64 ((0 : Nat) : Int)), (6, .sl 1 [i64 x, i64 y]), (7, i64 ((2 : Nat) : Int)), (8, i64 ((i : Nat) : Int))] ∧ H = []) 2 ?_ ?_
 ·exact ⟨0, rfl, by omega, by omega, by omega, rfl, rfl⟩
 ·rintro q e H ⟨i, rfl, hi, h1, h2, rfl, rfl⟩
  rcases (show i = 0 ∨ i = 1 ∨ i = 2 by omega) with rfl | rfl | rfl
  ·by_cases hx : x = 0
   ·simp -dsimp (disch := first | assumption | omega) only [↓Ag, Ad, Ai, Ah, eq_self, forall_const, Nat.reduceLT, Nat.reduceEqDiff, Nat.reduceSub, Nat.reduceMul, Nat.reduceMod, Nat.reduceDiv, Nat.reducePow, UInt8.reduceToNat, Int.reduceEq, Int.reduceLT, Int.reduceLE, ↓reduceIte, Nat.reduceAdd, Int.reduceToNat, reduceCtorEq, Nat.reduceLeDiff, ↓EU]
    exact Az 1 (by omega) (by simp) ⟨1, rfl, by omega, fun _ => hx, by omega, by simp [forget, get], rfl⟩
   ·simp -dsimp (disch := first | assumption | omega) only [↓Ag, Ad, Ai, Ah, eq_self, forall_const, Nat.reduceLT, Nat.reduceEqDiff, Nat.reduceSub, Nat.reduceMul, Nat.reduceMod, Nat.reduceDiv, Nat.reducePow, UInt8.reduceToNat, Int.reduceEq, Int.reduceLT, Int.reduceLE, ↓reduceIte, Nat.reduceAdd, Int.reduceToNat, reduceCtorEq, Nat.reduceLeDiff, ↓EU]
    unfold orI; rw [if_neg hx]
  ·by_cases hy : y = 0
   ·simp -dsimp (disch := first | assumption | omega) only [↓Ag, Ad, Ai, Ah, eq_self, forall_const, Nat.reduceLT, Nat.reduceEqDiff, Nat.reduceSub, Nat.reduceMul, Nat.reduceMod, Nat.reduceDiv, Nat.reducePow, UInt8.reduceToNat, Int.reduceEq, Int.reduceLT, Int.reduceLE, ↓reduceIte, Nat.reduceAdd, Int.reduceToNat, reduceCtorEq, Nat.reduceLeDiff, ↓EU]
    exact Az 0 (by omega) (by simp) ⟨2, rfl, by omega, fun _ => h1 (by omega), fun _ => hy, by simp [forget, get], rfl⟩
   ·simp -dsimp (disch := first | assumption | omega) only [↓Ag, Ad, Ai, Ah, eq_self, forall_const, Nat.reduceLT, Nat.reduceEqDiff, Nat.reduceSub, Nat.reduceMul, Nat.reduceMod, Nat.reduceDiv, Nat.reducePow, UInt8.reduceToNat, Int.reduceEq, Int.reduceLT, Int.reduceLE, ↓reduceIte, Nat.reduceAdd, Int.reduceToNat, reduceCtorEq, Nat.reduceLeDiff, ↓EU]
    unfold orI; rw [if_pos (h1 (by omega))]
  ·simp -dsimp (disch := first | assumption | omega) only [↓Ag, Ad, Ai, Ah, eq_self, forall_const, Nat.reduceLT, Nat.reduceEqDiff, Nat.reduceSub, Nat.reduceMul, Nat.reduceMod, Nat.reduceDiv, Nat.reducePow, UInt8.reduceToNat, Int.reduceEq, Int.reduceLT, Int.reduceLE, ↓reduceIte, Nat.reduceAdd, Int.reduceToNat, reduceCtorEq, Nat.reduceLeDiff, ↓EU]
   unfold orI; rw [if_pos (h1 (by omega)), h2 (by omega)]; rfl
/-- GN a stand ahead of b? -/
def JK (a b : Nd) : Bool := decide (orI (An0 b.tm a.tm) (Lib.compareBytes b.id a.id) < 0)
/-- A queue's row: n nodes. -/
def ZO (H : List Ob) (r v : Nat) (n : Nat) (f : Nat → Nd) : Prop := ∃ N cs, H[r]? = some (.obj v (.arr N 22 cs)) ∧ (∀ i, i < n → cs[i]? = some (ndT (f i))) ∧ n ≤ 100000 ∧ ∀ i, i < n → (f i).id.length = 20
theorem lenV {H : List Ob} {r v n cp : Nat} {K : TV → List Ob → Prop} (hn : n ≤ 100000) (hK : K (i64 ((n : Nat) : Int)) H) : Aq Tryd.prog 23 [.os 22 r v [] 0 n cp] H K := by
 refine U9 (by simp) ?_
 simp -dsimp (disch := first | assumption | omega | (simp only [Ae]; done) | (simp only [Ae]; omega)) only [↓Ag, Ad, Ai, Ah, eq_self, forall_const, Nat.reduceLT, Nat.reduceEqDiff, Nat.reduceSub, Nat.reduceMul, Nat.reduceMod, Nat.reduceDiv, Nat.reducePow, UInt8.reduceToNat, Int.reduceEq, Int.reduceLT, Int.reduceLE, ↓reduceIte, Nat.reduceAdd, Int.reduceToNat, reduceCtorEq, Nat.reduceLeDiff, ↓Xc]
 exact hK
theorem Af7 {z a b : TV} : ((List.replicate 2 z).set 0 a).set 1 b = [a, b] := by simp [List.replicate_succ]
theorem AaJ {N j : Nat} {cs : List TV} {y : List UInt8} {p t : TV} (hg : cs[j]? = some (.agg [.arr 20 1 (y.map by8), p, t])) (h20 : y.length = 20) : Di [(j, j * 22), (0, 0)] 1 0 20 (.arr N 22 cs) = some (y.map by8) := by
 have h2 : (y.map by8).take 20 = y.map by8 := List.take_of_length_le (by simp [h20])
 simp [Di, Jo, hg, h20, h2, AB, BF]
theorem AhA {H : List Ob} {r v n cp : Nat} {f : Nat → Nd} (h : ZO H r v n f) {i j : Nat} (hi : i < n) (hj : j < n) {K : TV → List Ob → Prop} (hK : ∀ T, K (tb (JK (f i) (f j))) (H ++ T)) : Aq Tryd.prog 94 [.os 22 r v [] 0 n cp, i64 ((i : Nat) : Int), i64 ((j : Nat) : Int)] H K := by
 obtain ⟨N, cs, hr, hcs, hn, h20⟩ := h
 have hrl := Au hr
 have ci := hcs i hi
 have cj := hcs j hj
 rw [AP] at ci cj
 refine TQ (by simp) ?_
 have hb : ∀ l : List UInt8, l.length = 20 → (l.map by8).take 20 = l.map by8 := fun l h => List.take_of_length_le (by simp [h])
 have h1 := hb _ (h20 i hi)
 have h2 := hb _ (h20 j hj)
 simp -dsimp (disch := first | assumption | omega | (simp only [Ae]; done) | (simp only [Ae]; omega)) only [↓Ag, Ad, Ai, Ah, eq_self, forall_const, Nat.reduceLT, Nat.reduceEqDiff, Nat.reduceSub, Nat.reduceMul, Nat.reduceMod, Nat.reduceDiv, Nat.reducePow, UInt8.reduceToNat, Int.reduceEq, Int.reduceLT, Int.reduceLE, ↓reduceIte, Nat.reduceAdd, Int.reduceToNat, reduceCtorEq, Nat.reduceLeDiff, ↓DY, hr, ci, cj]
 refine ⟨i64 (An0 (f j).tm (f i).tm), (A3w _ _).calls rfl fun x hx => ⟨hx, rfl⟩, ?_⟩
 simp -dsimp (disch := first | assumption | omega | (simp only [Ae]; done) | (simp only [Ae]; omega)) only [↓Ag, Ad, Ai, Ah, eq_self, forall_const, Nat.reduceLT, Nat.reduceEqDiff, Nat.reduceSub, Nat.reduceMul, Nat.reduceMod, Nat.reduceDiv, Nat.reducePow, UInt8.reduceToNat, Int.reduceEq, Int.reduceLT, Int.reduceLE, ↓reduceIte, Nat.reduceAdd, Int.reduceToNat, reduceCtorEq, Nat.reduceLeDiff, ↓DY, hr, ci, cj]
 refine (Ake (f j).id (f i).id).lends (args' := [slB (f j).id, slB (f i).id]) ?_ fun x hx => ⟨?_, ?_⟩
 ·simp -dsimp (disch := first | assumption | omega | (simp only [Ae]; done) | (simp only [Ae]; omega)) only [↓Ag, Ad, Ai, Ah, eq_self, forall_const, Nat.reduceLT, Nat.reduceEqDiff, Nat.reduceSub, Nat.reduceMul, Nat.reduceMod, Nat.reduceDiv, Nat.reducePow, UInt8.reduceToNat, Int.reduceEq, Int.reduceLT, Int.reduceLE, ↓reduceIte, Nat.reduceAdd, Int.reduceToNat, reduceCtorEq, Nat.reduceLeDiff, hr, AaJ ci (h20 i hi), AaJ cj (h20 j hj)]
 ·subst hx; rfl
 ·subst hx
  simp -dsimp (disch := first | assumption | omega | (simp only [Ae]; done) | (simp only [Ae]; omega)) only [↓Ag, Ad, Ai, Ah, eq_self, forall_const, Nat.reduceLT, Nat.reduceEqDiff, Nat.reduceSub, Nat.reduceMul, Nat.reduceMod, Nat.reduceDiv, Nat.reducePow, UInt8.reduceToNat, Int.reduceEq, Int.reduceLT, Int.reduceLE, ↓reduceIte, Nat.reduceAdd, Int.reduceToNat, reduceCtorEq, Nat.reduceLeDiff, ↓DY, hr, ci, cj]
  refine (orV (An0 (f j).tm (f i).tm) (Lib.compareBytes (f j).id (f i).id)).lends (args' := [.sl 1 [i64 (An0 (f j).tm (f i).tm), i64 (Lib.compareBytes (f j).id (f i).id)]]) ?_ fun x hx => ⟨?_, ?_⟩
  ·simp -dsimp (disch := first | assumption | omega | (simp only [Ae]; done) | (simp only [Ae]; omega)) only [↓Ag, Ad, Ai, Ah, eq_self, forall_const, Nat.reduceLT, Nat.reduceEqDiff, Nat.reduceSub, Nat.reduceMul, Nat.reduceMod, Nat.reduceDiv, Nat.reducePow, UInt8.reduceToNat, Int.reduceEq, Int.reduceLT, Int.reduceLE, ↓reduceIte, Nat.reduceAdd, Int.reduceToNat, reduceCtorEq, Nat.reduceLeDiff, Af7]
  ·subst hx; rfl
  ·subst hx
   simp -dsimp (disch := first | assumption | omega | (simp only [Ae]; done) | (simp only [Ae]; omega)) only [↓Ag, Ad, Ai, Ah, eq_self, forall_const, Nat.reduceLT, Nat.reduceEqDiff, Nat.reduceSub, Nat.reduceMul, Nat.reduceMod, Nat.reduceDiv, Nat.reducePow, UInt8.reduceToNat, Int.reduceEq, Int.reduceLT, Int.reduceLE, ↓reduceIte, Nat.reduceAdd, Int.reduceToNat, reduceCtorEq, Nat.reduceLeDiff, ↓DY]
   exact hK _
theorem Ah5 {H : List Ob} {r v n cp : Nat} {f : Nat → Nd} (h : ZO H r v n f) {i j : Nat} (hi : i < n) (hj : j < n) {K : TV → List Ob → Prop} (hK : ∀ o, ZO (H.set r o) r v n (fun k => if k = i then f j else if k = j then f i else f k) → K (.tup []) (H.set r o)) : Aq Tryd.prog 97 [.os 22 r v [] 0 n cp, i64 ((i : Nat) : Int), i64 ((j : Nat) : Int)] H K := by
 obtain ⟨N, cs, hr, hcs, hn, h20⟩ := h
 have hrl := Au hr
 have ci := hcs i hi
 have cj := hcs j hj
 rw [AP] at ci cj
 refine Ur (by simp) ?_
 have cj' : (cs.set i (.agg [.arr 20 1 ((f j).id.map by8), .sl 20 ((f j).ps.map idT), i64 (f j).tm]))[j]? = some (.agg [.arr 20 1 ((f j).id.map by8), .sl 20 ((f j).ps.map idT), i64 (f j).tm]) := by
  by_cases e : i = j
  ·subst e; exact List.getElem?_set_self (Au ci)
  ·rw [List.getElem?_set_ne e]; exact cj
 simp -dsimp (disch := first | assumption | omega | (simp only [Ae]; done) | (simp only [Ae]; omega)) only [↓Ag, Ad, Ai, Ah, eq_self, forall_const, Nat.reduceLT, Nat.reduceEqDiff, Nat.reduceSub, Nat.reduceMul, Nat.reduceMod, Nat.reduceDiv, Nat.reducePow, UInt8.reduceToNat, Int.reduceEq, Int.reduceLT, Int.reduceLE, ↓reduceIte, Nat.reduceAdd, Int.reduceToNat, reduceCtorEq, Nat.reduceLeDiff, ↓Ve, hr, ci, cj, cj']
 rw [← AP, ← AP]
 have hl1 := Au ci
 have hl2 := Au cj
 refine hK _ ⟨N, _, List.getElem?_set_self hrl, fun k hk => ?_, hn, fun k hk => ?_⟩
 ·by_cases e2 : j = k
  ·subst e2
   rw [List.getElem?_set_self (by simpa using hl2)]
   by_cases e1 : j = i
   ·subst e1; simp
   ·simp [e1]
  ·rw [List.getElem?_set_ne e2]
   by_cases e1 : i = k
   ·subst e1; rw [List.getElem?_set_self hl1]; simp
   ·rw [List.getElem?_set_ne e1, hcs k hk]; simp [Ne.symm e1, Ne.symm e2]
 ·by_cases e1 : k = i
  ·simp only [e1, if_true]; exact h20 j hj
  ·by_cases e2 : k = j
   ·simp only [e1, e2, if_false, if_true]; split <;> first | exact h20 _ hj | exact h20 _ hi
   ·simp only [e1, e2, if_false]; exact h20 k hk
/-- Of the old objects none but two is another one. -/
def Fq (q r : Nat) (H H' : List Ob) : Prop := H.length ≤ H'.length ∧ ∀ i, i < H.length → i ≠ q → i ≠ r → H'[i]? = H[i]?
theorem Fq.refl {q r : Nat} {H : List Ob} : Fq q r H H := ⟨Nat.le_refl _, fun _ _ _ _ => rfl⟩
theorem Fq.trans {q r : Nat} {H H' H2 : List Ob} (h : Fq q r H H') (k : Fq q r H' H2) : Fq q r H H2 := ⟨Nat.le_trans h.1 k.1, fun i h1 h2 h3 => (k.2 i (Nat.lt_of_lt_of_le h1 h.1) h2 h3).trans (h.2 i h1 h2 h3)⟩
theorem Fq.setr {q r : Nat} {H : List Ob} {o : Ob} : Fq q r H (H.set r o) := ⟨by simp, fun i _ _ h => List.getElem?_set_ne (Ne.symm h)⟩
theorem Fq.setq {q r : Nat} {H : List Ob} {o : Ob} : Fq q r H (H.set q o) := ⟨by simp, fun i _ h _ => List.getElem?_set_ne (Ne.symm h)⟩
theorem Fq.app {q r : Nat} {H T : List Ob} : Fq q r H (H ++ T) := ⟨by simp, fun i h _ _ => List.getElem?_append_left h⟩
/-- A queue: n nodes. -/
def Qu (H : List Ob) (q r n : Nat) (f : Nat → Nd) : Prop := ∃ v cp, H[q]? = some (.obj 0 (.os 22 r v [] 0 n cp)) ∧ ZO H r v n f ∧ n ≤ cp ∧ q ≠ r
theorem ZO.app {H T : List Ob} {r v n : Nat} {f : Nat → Nd} (h : ZO H r v n f) : ZO (H ++ T) r v n f := by
 obtain ⟨N, cs, h1, h2⟩ := h
 exact ⟨N, cs, by rw [List.getElem?_append_left (Au h1)]; exact h1, h2⟩
theorem Qu.app {H T : List Ob} {q r n : Nat} {f : Nat → Nd} (h : Qu H q r n f) : Qu (H ++ T) q r n f := by
 obtain ⟨v, cp, h1, h2, h3⟩ := h
 exact ⟨v, cp, by rw [List.getElem?_append_left (Au h1)]; exact h1, h2.app, h3⟩
theorem Apx {H : List Ob} {q r n : Nat} {f : Nat → Nd} (h : Qu H q r n f) (hn : n < 100000) {x : Nd} (hx : x.id.length = 20) {K : TV → List Ob → Prop} (hK : ∀ H', Qu H' q r (n + 1) (fun k => if k = n then x else f k) → Fq q r H H' → K (.tup []) H') : Aq Tryd.prog 96 [.op q 0 [], .ifc 51 (ndT x)] H K := by
 obtain ⟨v, cp, hq, ⟨N, cs, hr, hcs, hn0, h20⟩, hcp, hne⟩ := h
 have hql := Au hq
 have hrl := Au hr
 refine Ul (by simp) ?_
 rw [AP]
 have hcl : n ≤ cs.length := by
  rcases Nat.eq_zero_or_pos n with h0 | h0
  ·omega
  ·have := Au (hcs (n - 1) (by omega)); omega
 simp -dsimp (disch := first | assumption | omega | (simp only [Ae]; done) | (simp only [Ae]; omega)) only [↓Ag, Ad, Ai, Ah, eq_self, forall_const, Nat.reduceLT, Nat.reduceEqDiff, Nat.reduceSub, Nat.reduceMul, Nat.reduceMod, Nat.reduceDiv, Nat.reducePow, UInt8.reduceToNat, Int.reduceEq, Int.reduceLT, Int.reduceLE, ↓reduceIte, Nat.reduceAdd, Int.reduceToNat, reduceCtorEq, Nat.reduceLeDiff, ↓UT, hq, hr, hne, Qz, Hm]
 rw [← AP]
 have hne' : r ≠ q := Ne.symm hne
 have htl : (cs.take n).length = n := by simp [hcl]
 refine hK _ (Qu.app ⟨v + 1, n + 1, List.getElem?_set_self (by simpa using hql), ⟨n + 1, _, by rw [List.getElem?_set_ne hne, List.getElem?_set_self hrl], fun i hi => ?_, by omega, fun i hi => ?_⟩, Nat.le_refl _, hne⟩) ((Fq.setr.trans Fq.setq).trans Fq.app)
 ·by_cases e : i = n
  ·subst e
   rw [List.getElem?_append_right (by omega), htl]; simp
  ·rw [List.getElem?_append_left (by omega), List.getElem?_take, if_pos (by omega), hcs i (by omega)]; simp [e]
 ·by_cases e : i = n
  ·simp only [e, if_true]; exact hx
  ·simp only [e, if_false]; exact h20 i (by omega)
theorem Ar4 {H : List Ob} {q r n : Nat} {f : Nat → Nd} (h : Qu H q r (n + 1) f) {K : TV → List Ob → Prop} (hK : ∀ H', Qu H' q r n f → Fq q r H H' → K (.ifc 51 (ndT (f n))) H') : Aq Tryd.prog 95 [.op q 0 []] H K := by
 obtain ⟨v, cp, hq, ⟨N, cs, hr, hcs, hn0, h20⟩, hcp, hne⟩ := h
 have hql := Au hq
 have hrl := Au hr
 have hc := hcs n (by omega)
 rw [AP] at hc
 refine VH (by simp) ?_
 simp -dsimp (disch := first | assumption | omega | (simp only [Ae]; done) | (simp only [Ae]; omega)) only [↓Ag, Ad, Ai, Ah, eq_self, forall_const, Nat.reduceLT, Nat.reduceEqDiff, Nat.reduceSub, Nat.reduceMul, Nat.reduceMod, Nat.reduceDiv, Nat.reducePow, UInt8.reduceToNat, Int.reduceEq, Int.reduceLT, Int.reduceLE, ↓reduceIte, Nat.reduceAdd, Int.reduceToNat, reduceCtorEq, Nat.reduceLeDiff, ↓Xm, hq, hr, hc, hne]
 rw [← AP]
 refine hK _ (Qu.app ⟨v, cp, List.getElem?_set_self hql, ⟨N, cs, by rw [List.getElem?_set_ne hne]; exact hr, fun i hi => hcs i (by omega), by omega, fun i hi => h20 i (by omega)⟩, by omega, hne⟩) (Fq.setq.trans Fq.app)
end Go.Proofs.YtingoaihnlhiaaaDoor


namespace Go.Proofs.YtingoaihnlhiaaaDoor
open Go.RowKit
variable [A7]
set_option linter.unusedSectionVars false
set_option linter.unusedVariables false
set_option linter.unusedSimpArgs false
set_option autoImplicit false

theorem I5 {a b : Nd} : JK a b = true ↔ b.tm < a.tm ∨ (b.tm = a.tm ∧ ltB b.id a.id) := by
 unfold JK orI An0
 rw [decide_eq_true_eq]
 by_cases h1 : b.tm < a.tm
 ·simp [h1]
 ·by_cases h2 : a.tm < b.tm
  ·have h3 : ¬ b.tm = a.tm := by omega
   simp [h1, h2, h3]
  ·have h3 : b.tm = a.tm := by omega
   simp [h1, h2, h3, Af1]
/-- a does not stand behind b. -/
def Ra (a b : Nd) : Prop := JK b a = false
theorem AeD {a b : Nd} : Ra a b ↔ ¬ (a.tm < b.tm ∨ (a.tm = b.tm ∧ ltB a.id b.id)) := by
 unfold Ra
 rw [← I5, Bool.not_eq_true]
theorem Ra.trans {a b c : Nd} (h : Ra a b) (k : Ra b c) : Ra a c := by
 rw [AeD] at h k ⊢
 rintro (h1 | ⟨h1, h2⟩)
 ·by_cases h3 : a.tm < b.tm
  ·exact h (.inl h3)
  ·exact k (.inl (by omega))
 ·by_cases h3 : a.tm < b.tm
  ·exact h (.inl h3)
  ·by_cases h4 : b.tm < c.tm
   ·exact k (.inl h4)
   ·have e1 : a.tm = b.tm := by omega
    have e2 : b.tm = c.tm := by omega
    by_cases h5 : ltB a.id b.id
    ·exact h (.inr ⟨e1, h5⟩)
    ·by_cases h6 : ltB b.id c.id
     ·exact k (.inr ⟨e2, h6⟩)
     ·by_cases h7 : ltB b.id a.id
      ·exact h6 (Zr h7 h2)
      ·have := Adg h5 h7
       rw [this] at h2; exact h6 h2
theorem Ra.of_less {a b : Nd} (h : JK a b = true) : Ra a b := by
 rw [AeD]
 rw [I5] at h
 rintro (h1 | ⟨h1, h2⟩)
 ·rcases h with h | ⟨h, _⟩ <;> omega
 ·rcases h with h | ⟨h, h3⟩
  ·omega
  ·exact RI _ (Zr h2 h3)
theorem Ra.refl (a : Nd) : Ra a a := by
 rw [AeD]
 rintro (h | ⟨_, h⟩)
 ·omega
 ·exact RI _ h
/-- Of two with different ids one stands ahead. -/
theorem Ra.less {a b : Nd} (h : Ra a b) (hne : a.id ≠ b.id) : JK a b = true := by
 rw [I5]
 rw [AeD] at h
 by_cases h1 : b.tm < a.tm
 ·exact .inl h1
 ·by_cases h2 : a.tm < b.tm
  ·exact absurd (.inl h2) h
  ·refine .inr ⟨by omega, ?_⟩
   by_cases h3 : ltB b.id a.id
   ·exact h3
   ·by_cases h4 : ltB a.id b.id
    ·exact absurd (.inr ⟨by omega, h4⟩) h
    ·exact absurd (Adg h4 h3) hne

def sw {α : Type} (f : Nat → α) (i j : Nat) : Nat → α := fun k => if k = i then f j else if k = j then f i else f k
theorem Aoz {α : Type} {f : Nat → α} {i j : Nat} : sw f i j i = f j := by simp [sw]
theorem Aoe {α : Type} {f : Nat → α} {i j : Nat} : sw f i j j = f i := by
 unfold sw
 by_cases h : j = i
 ·subst h; simp
 ·simp [h]
theorem AdE {α : Type} {f : Nat → α} {i j k : Nat} (h1 : k ≠ i) (h2 : k ≠ j) : sw f i j k = f k := by simp [sw, h1, h2]
/-- The same things, in another order. -/
def Sh {α : Type} (n : Nat) (f g : Nat → α) : Prop := ∃ s t : Nat → Nat, (∀ k, k < n → s k < n ∧ t k < n ∧ s (t k) = k ∧ t (s k) = k) ∧ ∀ k, k < n → g k = f (s k)
theorem Sh.refl {α : Type} (n : Nat) (f : Nat → α) : Sh n f f := ⟨id, id, fun k h => ⟨h, h, rfl, rfl⟩, fun _ _ => rfl⟩
theorem Sh.trans {α : Type} {n : Nat} {f g h : Nat → α} (a : Sh n f g) (b : Sh n g h) : Sh n f h := by
 obtain ⟨s, t, h1, h2⟩ := a
 obtain ⟨s', t', k1, k2⟩ := b
 refine ⟨fun k => s (s' k), fun k => t' (t k), fun k hk => ⟨(h1 _ (k1 k hk).1).1, (k1 _ (h1 k hk).2.1).2.1, ?_, ?_⟩, fun k hk => by rw [k2 k hk, h2 _ (k1 k hk).1]⟩
 ·show s (s' (t' (t k))) = k
  rw [(k1 _ (h1 k hk).2.1).2.2.1, (h1 k hk).2.2.1]
 ·show t' (t (s (s' k))) = k
  rw [(h1 _ (k1 k hk).1).2.2.2, (k1 k hk).2.2.2]
theorem Sh.sw {α : Type} {n i j : Nat} (f : Nat → α) (hi : i < n) (hj : j < n) : Sh n f (sw f i j) := by
 refine ⟨fun k => if k = i then j else if k = j then i else k, fun k => if k = i then j else if k = j then i else k, fun k hk => ?_, fun k hk => ?_⟩
 ·have key : ∀ m, m < n → (if m = i then j else if m = j then i else m) < n := by intro m hm; split <;> first | exact hj | (split <;> first | exact hi | exact hm)
  have inv : (if (if k = i then j else if k = j then i else k) = i then j else if (if k = i then j else if k = j then i else k) = j then i else (if k = i then j else if k = j then i else k)) = k := by
   by_cases h1 : k = i
   ·by_cases h2 : j = i <;> simp [h1, h2]
   ·by_cases h2 : k = j
    ·simp [h1, h2]
    ·simp [h1, h2]
  exact ⟨key k hk, key k hk, inv, inv⟩
 ·unfold Go.Proofs.YtingoaihnlhiaaaDoor.sw
  by_cases h1 : k = i
  ·simp [h1]
  ·by_cases h2 : k = j
   ·subst h2; simp [h1]
   ·simp [h1, h2]
/-- What comes last stays: then the others are the same, too. -/
theorem Sh.cut {α : Type} {n : Nat} {f g : Nat → α} (h : Sh (n + 1) f g) (e : ∀ k, n ≤ k → g k = f k) : Sh n f g := by
 obtain ⟨s, t, h1, h2⟩ := h
 -- what went to the last place changes with what the last one's place got
 have hn := h1 n (by omega)
 refine ⟨fun k => if s k = n then s n else s k, fun k => if t k = n then t n else t k, fun k hk => ?_, fun k hk => ?_⟩
 ·have hk1 := h1 k (by omega)
  have inj : ∀ a b, a < n + 1 → b < n + 1 → s a = s b → a = b := fun a b ha hb e => by rw [← (h1 a ha).2.2.2, e, (h1 b hb).2.2.2]
  have injt : ∀ a b, a < n + 1 → b < n + 1 → t a = t b → a = b := fun a b ha hb e => by rw [← (h1 a ha).2.2.1, e, (h1 b hb).2.2.1]
  refine ⟨?_, ?_, ?_, ?_⟩
  ·by_cases c : s k = n
   ·simp only [c, if_true]
    have : s n ≠ n := fun c2 => by have := inj k n (by omega) (by omega) (by rw [c, c2]); omega
    omega
   ·simp only [c, if_false]; omega
  ·by_cases c : t k = n
   ·simp only [c, if_true]
    have : t n ≠ n := fun c2 => by have := injt k n (by omega) (by omega) (by rw [c, c2]); omega
    omega
   ·simp only [c, if_false]; omega
  ·show (if s (if t k = n then t n else t k) = n then s n else s (if t k = n then t n else t k)) = k
   by_cases c : t k = n
   ·rw [if_pos c, hn.2.2.1, if_pos rfl, ← c, hk1.2.2.1]
   ·rw [if_neg c, hk1.2.2.1, if_neg (by omega)]
  ·show (if t (if s k = n then s n else s k) = n then t n else t (if s k = n then s n else s k)) = k
   by_cases c : s k = n
   ·rw [if_pos c, hn.2.2.2, if_pos rfl, ← c, hk1.2.2.2]
   ·rw [if_neg c, hk1.2.2.2, if_neg (by omega)]
 ·show g k = f (if s k = n then s n else s k)
  by_cases c : s k = n
  ·rw [if_pos c, h2 k (by omega), c, ← e n (Nat.le_refl _), h2 n (by omega)]
  ·rw [if_neg c, h2 k (by omega)]
theorem Sh.mem {α : Type} {n : Nat} {f g : Nat → α} (h : Sh n f g) {x : α} : (∃ k, k < n ∧ g k = x) ↔ ∃ k, k < n ∧ f k = x := by
 obtain ⟨s, t, h1, h2⟩ := h
 constructor
 ·rintro ⟨k, hk, rfl⟩; exact ⟨s k, (h1 k hk).1, (h2 k hk).symm⟩
 ·rintro ⟨k, hk, rfl⟩; exact ⟨t k, (h1 k hk).2.1, by rw [h2 _ (h1 k hk).2.1, (h1 k hk).2.2.1]⟩
theorem Sh.inj {α β : Type} {n : Nat} {f g : Nat → α} (p : α → β) (h : Sh n f g) (hf : ∀ i j, i < n → j < n → p (f i) = p (f j) → i = j) : ∀ i j, i < n → j < n → p (g i) = p (g j) → i = j := by
 obtain ⟨s, t, h1, h2⟩ := h
 intro i j hi hj e
 rw [h2 i hi, h2 j hj] at e
 have := hf _ _ (h1 i hi).1 (h1 j hj).1 e
 rw [← (h1 i hi).2.2.2, this, (h1 j hj).2.2.2]

/-- A heap from lo on. -/
def Hp (lo n : Nat) (f : Nat → Nd) : Prop := ∀ j, 0 < j → j < n → lo ≤ (j - 1) / 2 → Ra (f ((j - 1) / 2)) (f j)
/-- .. but for what stands at i and its children. -/
def Dn (lo n : Nat) (f : Nat → Nd) (i : Nat) : Prop := (∀ j, 0 < j → j < n → lo ≤ (j - 1) / 2 → (j - 1) / 2 ≠ i → Ra (f ((j - 1) / 2)) (f j)) ∧ (0 < i → lo ≤ (i - 1) / 2 → ∀ c, 0 < c → c < n → (c - 1) / 2 = i → Ra (f ((i - 1) / 2)) (f c))
theorem Dn.start {lo n : Nat} {f : Nat → Nd} (h : Hp (lo + 1) n f) : Dn lo n f lo := by
 refine ⟨fun j h1 h2 h3 h4 => h j h1 h2 (by omega), fun h1 h2 c h3 h4 h5 => ?_⟩
 omega
theorem Dn.last {lo n : Nat} {f : Nat → Nd} {i : Nat} (h : Dn lo n f i) (hn : n ≤ 2 * i + 1) : Hp lo n f := fun j h1 h2 h3 => h.1 j h1 h2 h3 (by omega)
theorem Dn.done {lo n : Nat} {f : Nat → Nd} {i c : Nat} (h : Dn lo n f i) (hc : ∀ d, 0 < d → d < n → (d - 1) / 2 = i → Ra (f c) (f d)) (hr : Ra (f i) (f c)) : Hp lo n f := fun j h1 h2 h3 => by
 by_cases e : (j - 1) / 2 = i
 ·rw [e]; exact hr.trans (hc j h1 h2 e)
 ·exact h.1 j h1 h2 h3 e
theorem Dn.step {lo n : Nat} {f : Nat → Nd} {i c : Nat} (h : Dn lo n f i) (hlo : lo ≤ i) (hc0 : 0 < c) (hcn : c < n) (hci : (c - 1) / 2 = i) (hc : ∀ d, 0 < d → d < n → (d - 1) / 2 = i → Ra (f c) (f d)) (hl : JK (f c) (f i) = true) : Dn lo n (sw f i c) c := by
 have hic : i < c := by omega
 refine ⟨fun j h1 h2 h3 h4 => ?_, fun h1 h2 d h3 h4 h5 => ?_⟩
 ·by_cases e : (j - 1) / 2 = i
  ·rw [e, Aoz]
   by_cases e2 : j = c
   ·subst e2; rw [Aoe]; exact Ra.of_less hl
   ·rw [AdE (by omega) e2]; exact hc j h1 h2 e
  ·rw [AdE e h4]
   by_cases e2 : j = i
   ·subst e2
    rw [Aoz]
    exact h.2 h1 h3 c hc0 hcn hci
   ·by_cases e3 : j = c
    ·subst e3; exact absurd hci e
    ·rw [AdE e2 e3]; exact h.1 j h1 h2 h3 e
 ·rw [hci, Aoz, AdE (by omega) (by omega)]
  have := h.1 d h3 h4 (by omega) (by omega)
  rwa [h5] at this
/-- A heap but for what stands at j. -/
def Up (n : Nat) (f : Nat → Nd) (j : Nat) : Prop := (∀ k, 0 < k → k < n → k ≠ j → Ra (f ((k - 1) / 2)) (f k)) ∧ (0 < j → ∀ c, 0 < c → c < n → (c - 1) / 2 = j → Ra (f ((j - 1) / 2)) (f c))
theorem Up.start {n : Nat} {f : Nat → Nd} (h : Hp 0 n f) (x : Nd) : Up (n + 1) (fun k => if k = n then x else f k) n := by
 refine ⟨fun k h1 h2 h3 => ?_, fun h1 c h2 h3 h4 => by omega⟩
 have e : (k - 1) / 2 ≠ n := by omega
 simp only [h3, e, if_false]
 exact h k h1 (by omega) (by omega)
theorem Up.top {n : Nat} {f : Nat → Nd} (h : Up n f 0) : Hp 0 n f := fun k h1 h2 _ => h.1 k h1 h2 (by omega)
theorem Up.done {n j : Nat} {f : Nat → Nd} (h : Up n f j) (hr : Ra (f ((j - 1) / 2)) (f j)) : Hp 0 n f := fun k h1 h2 _ => by
 by_cases e : k = j
 ·subst e; exact hr
 ·exact h.1 k h1 h2 e
theorem Up.step {n j : Nat} {f : Nat → Nd} (h : Up n f j) (hj : 0 < j) (hjn : j < n) (hl : JK (f j) (f ((j - 1) / 2)) = true) : Up n (sw f ((j - 1) / 2) j) ((j - 1) / 2) := by
 generalize hi : (j - 1) / 2 = i at *
 have hij : i < j := by omega
 have hr := Ra.of_less hl
 refine ⟨fun k h1 h2 h3 => ?_, fun h0 c h1 h2 h3 => ?_⟩
 ·by_cases e : k = j
  ·subst e; rw [hi, Aoz, Aoe]; exact hr
  ·by_cases e2 : (k - 1) / 2 = i
   ·rw [e2, Aoz, AdE h3 e]
    have := h.1 k h1 h2 e
    rw [e2] at this; exact hr.trans this
   ·by_cases e3 : (k - 1) / 2 = j
    ·rw [e3, Aoe, AdE h3 e]
     have := h.2 hj k h1 h2 e3
     rwa [hi] at this
    ·rw [AdE e2 e3, AdE h3 e]; exact h.1 k h1 h2 e
 ·have hp : (i - 1) / 2 ≠ i := by omega
  have hp2 : (i - 1) / 2 ≠ j := by omega
  have hpi := h.1 i h0 (by omega) (by omega)
  rw [AdE hp hp2]
  by_cases e : c = j
  ·subst e; rw [Aoe]; exact hpi
  ·rw [AdE (by omega) e]
   have := h.1 c h1 h2 e
   rw [h3] at this
   exact hpi.trans this
/-- The first one stands behind none. -/
theorem Hp.first {n : Nat} {f : Nat → Nd} (h : Hp 0 n f) : ∀ k, k < n → Ra (f 0) (f k) := by
 intro k
 induction k using Nat.strongRecOn with
 | ind k ih =>
  intro hk
  rcases Nat.eq_zero_or_pos k with rfl | h0
  ·exact Ra.refl _
  ·exact (ih ((k - 1) / 2) (by omega) (by omega)).trans (h k h0 hk (by omega))
/-- The first one and the last one change places. -/
theorem Hp.cut {n : Nat} {f : Nat → Nd} (h : Hp 0 (n + 1) f) : Hp 1 n (sw f 0 n) := fun j h1 h2 h3 => by
 rw [AdE (by omega) (by omega), AdE (by omega) (by omega)]
 exact h j h1 (by omega) (by omega)
end Go.Proofs.YtingoaihnlhiaaaDoor


namespace Go.Proofs.YtingoaihnlhiaaaDoor
open Go.RowKit
variable [A7]
set_option linter.unusedSectionVars false
set_option linter.unusedVariables false
set_option linter.unusedSimpArgs false

theorem AlA {ids : List (List UInt8)} (hlen : ids.length ≤ 100000) {H : List Ob} {K : TV → List Ob → Prop} (h0 : ids = [] → K (.val (.slice none 0 0)) H) (h1 : K (.os 20 H.length 1 [] 0 ids.length ids.length) (H ++ [.obj 1 (.arr ids.length 20 (ids.map idT))])) :
  Aq Tryd.prog 38 [.sl 20 (ids.map idT)] H K := by
 refine H6 (by simp) ?_
 by_cases hn : ids = []
 ·subst hn
  simp -dsimp (disch := first | assumption | omega | (simp only [Ae]; done) | (simp only [Ae]; omega)) only [↓Ag, Ad, Ai, Ah, eq_self, forall_const, Nat.reduceLT, Nat.reduceEqDiff, Nat.reduceSub, Nat.reduceMul, Nat.reduceMod, Nat.reduceDiv, Nat.reducePow, UInt8.reduceToNat, Int.reduceEq, Int.reduceLT, Int.reduceLE, ↓reduceIte, Nat.reduceAdd, Int.reduceToNat, reduceCtorEq, Nat.reduceLeDiff, ↓Bz]
  refine Ad2 ?_ ?_
  ·simp -dsimp (disch := first | assumption | omega | (simp only [Ae]; done) | (simp only [Ae]; omega)) only [↓Ag, Ad, Ai, Ah, eq_self, forall_const, Nat.reduceLT, Nat.reduceEqDiff, Nat.reduceSub, Nat.reduceMul, Nat.reduceMod, Nat.reduceDiv, Nat.reducePow, UInt8.reduceToNat, Int.reduceEq, Int.reduceLT, Int.reduceLE, ↓reduceIte, Nat.reduceAdd, Int.reduceToNat, reduceCtorEq, Nat.reduceLeDiff, ↓Bz]
   exact h0 rfl
  ·simp -dsimp (disch := first | assumption | omega | (simp only [Ae]; done) | (simp only [Ae]; omega)) only [↓Ag, Ad, Ai, Ah, eq_self, forall_const, Nat.reduceLT, Nat.reduceEqDiff, Nat.reduceSub, Nat.reduceMul, Nat.reduceMod, Nat.reduceDiv, Nat.reducePow, UInt8.reduceToNat, Int.reduceEq, Int.reduceLT, Int.reduceLE, ↓reduceIte, Nat.reduceAdd, Int.reduceToNat, reduceCtorEq, Nat.reduceLeDiff, ↓Bz]
   simpa using h1
 ·have hn0 : ids.length ≠ 0 := fun e => hn (List.length_eq_zero_iff.1 e)
  simp -dsimp (disch := first | assumption | omega | (simp only [Ae]; done) | (simp only [Ae]; omega)) only [↓Ag, Ad, Ai, Ah, eq_self, forall_const, Nat.reduceLT, Nat.reduceEqDiff, Nat.reduceSub, Nat.reduceMul, Nat.reduceMod, Nat.reduceDiv, Nat.reducePow, UInt8.reduceToNat, Int.reduceEq, Int.reduceLT, Int.reduceLE, ↓reduceIte, Nat.reduceAdd, Int.reduceToNat, reduceCtorEq, Nat.reduceLeDiff, ↓Bz]
  simpa using h1
theorem A3r {es : List (List UInt8 × TV)} {H : List Ob} {m : Nat} (hm : H[m]? = some (.mpo (.arr 20) es)) (hes : ∀ k y, Fb k es = some y → y = .agg []) (x : List UInt8) {K : TV → List Ob → Prop} (hK : ∀ T, K (tb ((es.map (·.1)).contains x)) (H ++ T)) :
  Aq Tryd.prog 25 [.mp m 0, idT x] H K := by
 have h3 := Au hm
 refine Oi (by simp) ?_
 have hk : ∀ {es : List (List UInt8 × TV)}, (Fb x es).isSome = (es.map (·.1)).contains x := by
  intro es
  induction es with
  | nil => rw [Fb]; rfl
  | cons e es ih =>
   obtain ⟨k, y⟩ := e
   rw [Fb]
   by_cases h : k = x
   ·subst h; simp
   ·rw [if_neg h, ih]
    have : (x == k) = false := by simpa using fun e => h e.symm
    simp [this, List.contains_cons]
 rw [← hk] at hK
 cases hl : Fb x es with
 | none =>
  rw [hl] at hK
  simp -dsimp (disch := first | assumption | omega | (simp only [Ae]; done) | (simp only [Ae]; omega)) only [↓Ag, Ad, Ai, Ah, eq_self, forall_const, Nat.reduceLT, Nat.reduceEqDiff, Nat.reduceSub, Nat.reduceMul, Nat.reduceMod, Nat.reduceDiv, Nat.reducePow, UInt8.reduceToNat, Int.reduceEq, Int.reduceLT, Int.reduceLE, ↓reduceIte, Nat.reduceAdd, Int.reduceToNat, reduceCtorEq, Nat.reduceLeDiff, ↓FN, hm, AZ, hl]
  simp only [List.append_assoc]
  exact hK _
 | some y =>
  rw [hl] at hK
  have hy := hes x y hl
  subst hy
  simp -dsimp (disch := first | assumption | omega | (simp only [Ae]; done) | (simp only [Ae]; omega)) only [↓Ag, Ad, Ai, Ah, eq_self, forall_const, Nat.reduceLT, Nat.reduceEqDiff, Nat.reduceSub, Nat.reduceMul, Nat.reduceMod, Nat.reduceDiv, Nat.reducePow, UInt8.reduceToNat, Int.reduceEq, Int.reduceLT, Int.reduceLE, ↓reduceIte, Nat.reduceAdd, Int.reduceToNat, reduceCtorEq, Nat.reduceLeDiff, ↓FN, hm, AZ, hl]
  simp only [List.append_assoc]
  exact hK _
/-- A set of ids. -/
def MR (seen : List (List UInt8)) : List (List UInt8 × TV) := seen.map fun k => (k, .agg [])
theorem Zp {seen : List (List UInt8)} : (MR seen).map (·.1) = seen := by simp [MR, Function.comp_def]
theorem Aef {seen : List (List UInt8)} : ∀ k y, Fb k (MR seen) = some y → y = .agg [] := by
 intro k y
 induction seen with
 | nil => intro h; simp [MR, Fb] at h
 | cons a seen ih =>
  intro h
  rw [MR, List.map_cons, Fb] at h
  split at h
  ·cases h; rfl
  ·exact ih h
theorem Ale {seen : List (List UInt8)} {x : List UInt8} (h : ¬ x ∈ seen) : EZ x (.agg []) (MR seen) = MR (seen ++ [x]) := by
 rw [AbI (by rw [Zp]; exact h)]; simp [MR]
theorem Ago {l : List Nd} (hok : GOk l) (hl : l.length ≤ 1000) (hp : ∀ n ∈ l, n.ps.length ≤ 1000) {S : List (List UInt8)} (hlen : S.length ≤ 100000) (hS : ∀ x ∈ S, x ∈ AA l) {H : List Ob} {gi mi : Nat} (hg : H[gi]? = some (.obj 0 (.agg [.mp mi 0, .val (.map none)]))) (hm : H[mi]? = some (.mpo (.arr 20) (AY l))) {A : TV} (hA1 : BU A = false)
  (hA : ∀ K : TV → List Ob → Prop, (S = [] → K (.val (.slice none 0 0)) (H ++ [.mpo (.arr 20) []])) → K (.os 20 (H ++ [Ob.mpo (.arr 20) []]).length 1 [] 0 S.length S.length) (H ++ [.mpo (.arr 20) []] ++ [.obj 1 (.arr S.length 20 (S.map idT))]) → Aq Tryd.prog 38 [A] (H ++ [.mpo (.arr 20) []]) K) {K : TV → List Ob → Prop}
  (hK : ∀ seen T, seen.Nodup → (∀ x, x ∈ seen ↔ Rc l S x) → K (.mp H.length 0) (H ++ .mpo (.arr 20) (MR seen) :: T)) : Aq Tryd.prog 21 [.op gi 0 [], A] H K := by
 have h2 := Au hg
 have h3 := Au hm
 have loop : ∀ (e0 : Env) (H0 : List Ob) (v N cp : Nat) (cs : List TV), H0 = H ++ [.mpo (.arr 20) [], .obj v (.arr N 20 cs)] → forget [0, 5, 6] e0 = [(0, .op gi 0 []), (5, .mp H.length 0), (6, .os 20 (H.length + 1) v [] 0 S.length cp)] → cs.take S.length = S.map idT → S.length ≤ cs.length → S.length ≤ cp →
   vwp Tryd.prog (.loop [0, 5, 6] DV) (Blk 0 (Thn Tryd.prog DX (Zq ED K))) e0 H0 := by
  intro e0 H0 v0 N0 cp0 cs0 hH0 he0 hcs0 hlc0 hcp0
  have hsum : ∀ m : List Nd, (∀ n ∈ m, n.ps.length ≤ 1000) → (m.map fun n => n.ps.length + 1).sum ≤ 1001 * m.length := by
   intro m
   induction m with
   | nil => simp
   | cons a m ih =>
    intro h
    have h1 := h a (by simp)
    have h2 := ih fun n hn => h n (by simp [hn])
    rw [List.map_cons, List.sum_cons, List.length_cons]; omega
  refine BG (fun q e H' => ∃ (seen todo : List (List UInt8)) (v N cp : Nat) (cs : List TV) (T : List Ob), q = Yy.left l seen todo ∧ q ≤ 2000000 ∧ Yy l S seen todo ∧ cs.take todo.length = todo.map idT ∧ todo.length ≤ cs.length ∧ todo.length ≤ cp ∧
   e = [(0, .op gi 0 []), (5, .mp H.length 0), (6, .os 20 (H.length + 1) v [] 0 todo.length cp)] ∧ H' = H ++ [.mpo (.arr 20) (MR seen), .obj v (.arr N 20 cs)] ++ T) (Yy.left l [] S) ?_ ?_
  ·refine ⟨[], S, v0, N0, cp0, cs0, [], rfl, ?_, Yy.start, hcs0, hlc0, hcp0, he0, by rw [hH0]; simp [MR]⟩
   have h1 := hsum l hp
   have h2 : (l.filter fun n => !([] : List (List UInt8)).contains n.id) = l := by simp
   unfold Yy.left
   rw [h2]; omega
  ·rintro q e H' ⟨seen, todo, v, N, cp, cs, T, rfl, hq, hs, hcs, hlc, hcp, rfl, rfl⟩
   rcases List.eq_nil_or_concat todo with rfl | ⟨t, x, rfl⟩
   ·simp -dsimp (disch := first | assumption | omega | (simp only [Ae]; done) | (simp only [Ae]; omega)) only [↓Ag, Ad, Ai, Ah, eq_self, forall_const, Nat.reduceLT, Nat.reduceEqDiff, Nat.reduceSub, Nat.reduceMul, Nat.reduceMod, Nat.reduceDiv, Nat.reducePow, UInt8.reduceToNat, Int.reduceEq, Int.reduceLT, Int.reduceLE, ↓reduceIte, Nat.reduceAdd, Int.reduceToNat, reduceCtorEq, Nat.reduceLeDiff, ↓Bl]
    rw [List.append_assoc]
    exact hK seen _ hs.nodup hs.done
   ·simp only [List.concat_eq_append, List.length_append, List.length_singleton, List.map_append, List.map_cons, List.map_nil] at *
    have hlast : cs[t.length]? = some (idT x) := by
     have h0 : (cs.take (t.length + 1))[t.length]? = some (idT x) := by
      rw [hcs, List.getElem?_append_right (by simp)]; simp
     rwa [List.getElem?_take, if_pos (by omega)] at h0
    have htk : cs.take t.length = t.map idT := by
     have h0 := congrArg (List.take t.length) hcs
     rw [List.take_take, Nat.min_eq_left (by omega)] at h0
     rw [h0, List.take_left' (by simp)]
    rw [AZ] at hlast
    have hqt : t.length + 1 ≤ 2000000 := by
     have := hq
     unfold Yy.left at this
     rw [List.length_append, List.length_singleton] at this
     omega
    have hx : x ∈ AA l := Rc.there hok.1 hS (hs.htodo x (by simp))
    obtain ⟨n, hn, rfl⟩ := List.mem_map.1 hx
    have hlook : Fb n.id (AY l) = some (ndT n) := Eu hok.1.nodup hn
    have hpn := hp n hn
    have hpo : pOf l n.id = n.ps := ZA hok.1.nodup hn
    simp -dsimp (disch := first | assumption | omega | (simp only [Ae]; done) | (simp only [Ae]; omega)) only [↓Ag, Ad, Ai, Ah, eq_self, forall_const, Nat.reduceLT, Nat.reduceEqDiff, Nat.reduceSub, Nat.reduceMul, Nat.reduceMod, Nat.reduceDiv, Nat.reducePow, UInt8.reduceToNat, Int.reduceEq, Int.reduceLT, Int.reduceLE, ↓reduceIte, Nat.reduceAdd, Int.reduceToNat, reduceCtorEq, Nat.reduceLeDiff, ↓Bl, hlast]
    rw [← AZ]
    refine Ea (A3r (es := MR seen) (by rw [List.append_assoc, List.append_assoc, Acu rfl]; rfl) Aef n.id fun T' => ?_)
    rw [Zp]
    by_cases hsn : n.id ∈ seen
    ·have hc : seen.contains n.id = true := by simpa using hsn
     rw [hc]
     simp -dsimp (disch := first | assumption | omega | (simp only [Ae]; done) | (simp only [Ae]; omega)) only [↓Ag, Ad, Ai, Ah, eq_self, forall_const, Nat.reduceLT, Nat.reduceEqDiff, Nat.reduceSub, Nat.reduceMul, Nat.reduceMod, Nat.reduceDiv, Nat.reducePow, UInt8.reduceToNat, Int.reduceEq, Int.reduceLT, Int.reduceLE, ↓reduceIte, Nat.reduceAdd, Int.reduceToNat, reduceCtorEq, Nat.reduceLeDiff, ↓Bl]
     have hlt : Yy.left l seen t < Yy.left l seen (t ++ [n.id]) := by unfold Yy.left; rw [List.length_append, List.length_singleton]; omega
     exact Az (Yy.left l seen t) hlt (by rw [hH0]; simp) ⟨seen, t, v, N, cp, cs, T ++ [Ob.obj 0 (idT n.id)] ++ T', rfl, by omega, hs.skip hsn, htk, by omega, by omega, by simp [forget, get], by simp⟩
    ·have hc : seen.contains n.id = false := by simpa using hsn
     rw [hc]
     simp -dsimp (disch := first | assumption | omega | (simp only [Ae]; done) | (simp only [Ae]; omega)) only [↓Ag, Ad, Ai, Ah, eq_self, forall_const, Nat.reduceLT, Nat.reduceEqDiff, Nat.reduceSub, Nat.reduceMul, Nat.reduceMod, Nat.reduceDiv, Nat.reducePow, UInt8.reduceToNat, Int.reduceEq, Int.reduceLT, Int.reduceLE, ↓reduceIte, Nat.reduceAdd, Int.reduceToNat, reduceCtorEq, Nat.reduceLeDiff, ↓Bl, hlook, AZ, AP, hg, hm, Ale hsn]
     have hlt := Yy.le hok.1.nodup (todo := t) hn hsn
     have htake := hs.take hsn
     rw [hpo] at htake
     rw [htk, ← List.map_append]
     exact Az _ hlt (by rw [hH0]; simp) ⟨seen ++ [n.id], t ++ n.ps, v + 1, t.length + n.ps.length, t.length + n.ps.length, (t ++ n.ps).map idT, T ++ [Ob.obj 0 (.arr 20 1 (n.id.map by8))] ++ T', rfl, by omega, htake, by rw [List.take_of_length_le (by simp)], by simp, by simp, by simp [forget, get], by simp⟩
 refine SH (by simp) ?_
 simp -dsimp (disch := first | assumption | omega | (simp only [Ae]; done) | (simp only [Ae]; omega)) only [↓Ag, Ad, Ai, Ah, eq_self, forall_const, Nat.reduceLT, Nat.reduceEqDiff, Nat.reduceSub, Nat.reduceMul, Nat.reduceMod, Nat.reduceDiv, Nat.reducePow, UInt8.reduceToNat, Int.reduceEq, Int.reduceLT, Int.reduceLE, ↓reduceIte, Nat.reduceAdd, Int.reduceToNat, reduceCtorEq, Nat.reduceLeDiff, ↓Bl, hA1]
 refine Ea (hA _ (fun hS0 => ?_) ?_)
 ·subst hS0
  simp -dsimp (disch := first | assumption | omega | (simp only [Ae]; done) | (simp only [Ae]; omega)) only [↓Ag, Ad, Ai, Ah, eq_self, forall_const, Nat.reduceLT, Nat.reduceEqDiff, Nat.reduceSub, Nat.reduceMul, Nat.reduceMod, Nat.reduceDiv, Nat.reducePow, UInt8.reduceToNat, Int.reduceEq, Int.reduceLT, Int.reduceLE, ↓reduceIte, Nat.reduceAdd, Int.reduceToNat, reduceCtorEq, Nat.reduceLeDiff, ↓Bl]
  exact loop _ _ 0 0 0 [] (by simp) (by simp [forget, get]) rfl (by simp) (by simp)
 ·simp -dsimp (disch := first | assumption | omega | (simp only [Ae]; done) | (simp only [Ae]; omega)) only [↓Ag, Ad, Ai, Ah, eq_self, forall_const, Nat.reduceLT, Nat.reduceEqDiff, Nat.reduceSub, Nat.reduceMul, Nat.reduceMod, Nat.reduceDiv, Nat.reducePow, UInt8.reduceToNat, Int.reduceEq, Int.reduceLT, Int.reduceLE, ↓reduceIte, Nat.reduceAdd, Int.reduceToNat, reduceCtorEq, Nat.reduceLeDiff, ↓Bl]
  exact loop _ _ 1 S.length S.length (S.map idT) (by simp) (by simp [forget, get]) (by rw [List.take_of_length_le (by simp)]) (by simp) (by simp)
end Go.Proofs.YtingoaihnlhiaaaDoor


namespace Go.Proofs.YtingoaihnlhiaaaDoor
open Go.RowKit
variable [A7]
set_option linter.unusedSectionVars false
set_option linter.unusedVariables false
set_option linter.unusedSimpArgs false

theorem Anm {n : Nd} {k : Nat} : shT k (ndT n) = ndT n := by rw [AP]; simp [shT, shL]
theorem Aey {k : Nat} {q : List UInt8} {x : TV} (hx : shT k x = x) : ∀ {es : List (List UInt8 × TV)}, AeJ k es = es → AeJ k (EZ q x es) = EZ q x es
 | [], _ => by simp [EZ, AeJ, hx]
 | e :: es, h => by
  rw [AeJ] at h
  have h1 := (List.cons.inj h).1
  have h2 := (List.cons.inj h).2
  obtain ⟨a, y⟩ := e
  rw [EZ]
  split
  ·rw [AeJ, hx, h2]
  ·rw [AeJ, h1, Aey hx h2]
theorem AeU {k : Nat} : ∀ (l : List Nd), AeJ k (AY l) = AY l := by
 refine YZ ?_ fun l n ih => ?_
 ·rw [AY, List.foldl_nil, AeJ]
 ·rw [I8]; exact Aey Anm ih
/-- of, among objects. -/
theorem ofH (l : List Nd) (hl : l.length ≤ 1000) (hp : ∀ n ∈ l, n.ps.length ≤ 1000) (ids : List (List UInt8)) (hlen : ids.length ≤ 100000) {H : List Ob} {K : TV → List Ob → Prop}
  (h1 : AcD l ids → ∀ T, K (.tup [.op (1 + H.length) 0 [], .val .nilIface]) (H ++ [.mpo (.arr 20) (AY l), .obj 0 (.agg [.mp (0 + H.length) 0, .val (.map none)])] ++ T))
  (h2 : ¬ AcD l ids → ∀ g H', K (.tup [g, .ifc 36 (i64 ((80 : Nat) : Int))]) H') : Aq Tryd.prog 19 [.sl 22 (l.map ndT), .sl 20 (ids.map idT)] H K := by
 refine (ofV l hl hp ids hlen).behind rfl ?_
 rintro x H' ⟨k1, k2⟩
 by_cases h : AcD l ids
 ·obtain ⟨rfl, T, rfl⟩ := k1 h
  have := h1 h (T.map (shO H.length))
  simpa [shT, shL, shO, AeU] using this
 ·obtain ⟨g, rfl⟩ := k2 h
  have := h2 h (shT H.length g) (H ++ H'.map (shO H.length))
  simpa [shT, shL] using this
noncomputable def dec (p : Prop) : Bool := @decide p (Classical.propDecidable p)
theorem ArY {p : Prop} (h : p) : dec p = true := by unfold dec; simpa using h
theorem Ar9 {p : Prop} (h : ¬ p) : dec p = false := by unfold dec; simpa using h
end Go.Proofs.YtingoaihnlhiaaaDoor


namespace Go.Proofs.YtingoaihnlhiaaaDoor
open Go.RowKit
variable [A7]
set_option linter.unusedSectionVars false
set_option linter.unusedVariables false
set_option linter.unusedSimpArgs false
set_option autoImplicit false

/-- Nothing that is left has it aS a parent. -/
def Fre (l : List Nd) (S : List UInt8 → Prop) (x : List UInt8) : Prop := S x ∧ ∀ y, S y → ¬ x ∈ pOf l y
theorem Fre.congr {l : List Nd} {S T : List UInt8 → Prop} (h : ∀ x, S x ↔ T x) {x : List UInt8} : Fre l S x ↔ Fre l T x := by
 unfold Fre
 rw [h x]
 exact and_congr Iff.rfl ⟨fun k y hy => k y ((h y).2 hy), fun k y hy => k y ((h y).1 hy)⟩
/-- The nodes of some, one behind the other: each time the first one of those that are free. -/
inductive Abg (l : List Nd) : (List UInt8 → Prop) → List (List UInt8) → Prop
 | none {S : List UInt8 → Prop} : (∀ x, ¬ Fre l S x) → Abg l S []
 | take {S : List UInt8 → Prop} {n : Nd} {ids : List (List UInt8)} : n ∈ l → Fre l S n.id → (∀ m ∈ l, Fre l S m.id → m.id ≠ n.id → JK n m = true) → Abg l (fun y => S y ∧ y ≠ n.id) ids → Abg l S (n.id :: ids)
theorem Abg.congr {l : List Nd} {S : List UInt8 → Prop} {ids : List (List UInt8)} (h : Abg l S ids) : ∀ {T : List UInt8 → Prop}, (∀ x, S x ↔ T x) → Abg l T ids := by
 induction h with
 | none h1 => exact fun e => .none fun x hx => h1 x ((Fre.congr e).2 hx)
 | take h1 h2 h3 _ ih => exact fun e => .take h1 ((Fre.congr e).1 h2) (fun m hm hf hne => h3 m hm ((Fre.congr e).2 hf) hne) (ih fun x => and_congr (e x) Iff.rfl)
theorem Abg.uniq {l : List Nd} {S : List UInt8 → Prop} {a : List (List UInt8)} (h : Abg l S a) : ∀ {b : List (List UInt8)}, Abg l S b → a = b := by
 induction h with
 | none h1 =>
  intro b k
  cases k with
  | none _ => rfl
  | take k1 k2 k3 k4 => exact absurd k2 (h1 _)
 | @take S n ids h1 h2 h3 h4 ih =>
  intro b k
  cases k with
  | none k1 => exact absurd h2 (k1 _)
  | @take _ m ids2 k1 k2 k3 k4 =>
   have e : n.id = m.id := Classical.byContradiction fun hne => by
    have q1 := h3 m k1 k2 (Ne.symm hne)
    have q2 := Ra.of_less (k3 n h1 h2 hne)
    unfold Ra at q2
    rw [q1] at q2; cases q2
   rw [ih (k4.congr fun x => by rw [e]), e]
/-- What some reach, and others don't. -/
def Aol (l : List Nd) (a b : List (List UInt8)) (x : List UInt8) : Prop := Rc l a x ∧ ¬ Rc l b x
end Go.Proofs.YtingoaihnlhiaaaDoor


namespace Go.Proofs.YtingoaihnlhiaaaDoor
open Go.RowKit
variable [A7]
set_option linter.unusedSectionVars false
set_option linter.unusedVariables false
set_option linter.unusedSimpArgs false

theorem AsH : Aes Tryd.prog 64 "Len" = some (23, some (false, 1)) := by kernel_rfl
theorem AhN : Aes Tryd.prog 64 "Less" = some (94, some (false, 1)) := by kernel_rfl
theorem Agz : Aes Tryd.prog 64 "Swap" = some (97, some (false, 1)) := by kernel_rfl
theorem A2C : Aes Tryd.prog 64 "Push" = some (96, none) := by kernel_rfl
theorem A3s : Aes Tryd.prog 64 "Pop" = some (95, none) := by kernel_rfl
theorem A13 : Tj Tryd.prog 23 = true := by kernel_rfl
theorem Aiq : Tj Tryd.prog 94 = true := by kernel_rfl
theorem Agr : Tj Tryd.prog 97 = true := by kernel_rfl
theorem A2m : Tj Tryd.prog 96 = true := by kernel_rfl
theorem A3G : Tj Tryd.prog 95 = true := by kernel_rfl
theorem Qu.bound {H : List Ob} {q r n : Nat} {f : Nat → Nd} (h : Qu H q r n f) : n ≤ 100000 := by
 obtain ⟨_, _, _, ⟨_, _, _, _, h, _⟩, _⟩ := h; exact h
theorem Qu.set {H : List Ob} {q r n v cp : Nat} {g : Nat → Nd} {o : Ob} (hq : H[q]? = some (.obj 0 (.os 22 r v [] 0 n cp))) (hcp : n ≤ cp) (hne : q ≠ r) (h : ZO (H.set r o) r v n g) : Qu (H.set r o) q r n g := ⟨v, cp, by rw [List.getElem?_set_ne (Ne.symm hne)]; exact hq, h, hcp, hne⟩

theorem Ap0 {H : List Ob} {q r N n i0 : Nat} {f : Nat → Nd} (hQ : Qu H q r N f) (hn : n ≤ N) (hp : Hp (i0 + 1) n f) (hi0 : i0 ≤ 100000) {K : TV → List Ob → Prop}
  (hK : ∀ H' f' b, Qu H' q r N f' → Fq q r H H' → Sh N f f' → (∀ k, n ≤ k → f' k = f k) → Hp i0 n f' → K (tb b) H') : Aq Tryd.prog 39 [.ifc 64 (.op q 0 []), i64 ((i0 : Nat) : Int), i64 ((n : Nat) : Int)] H K := by
 have hb := hQ.bound
 refine Pq (by simp) ?_
 simp -dsimp (disch := first | assumption | omega | (simp only [Ae]; done) | (simp only [Ae]; omega)) only [↓Ag, Ad, Ai, Ah, eq_self, forall_const, Nat.reduceLT, Nat.reduceEqDiff, Nat.reduceSub, Nat.reduceMul, Nat.reduceMod, Nat.reduceDiv, Nat.reducePow, UInt8.reduceToNat, Int.reduceEq, Int.reduceLT, Int.reduceLE, ↓reduceIte, Nat.reduceAdd, Int.reduceToNat, reduceCtorEq, Nat.reduceLeDiff, ↓Am]
 refine BG (fun m e H' => ∃ (i : Nat) (f1 : Nat → Nd), m = n - i ∧ i0 ≤ i ∧ i ≤ 100000 ∧ Dn i0 n f1 i ∧ Qu H' q r N f1 ∧ Fq q r H H' ∧ Sh N f f1 ∧ (∀ k, n ≤ k → f1 k = f k) ∧ e = [(0, .ifc 64 (.op q 0 [])), (1, i64 ((i0 : Nat) : Int)), (2, i64 ((n : Nat) : Int)), (7, i64 ((i : Nat) : Int))]) (n - i0) ?_ ?_
 ·exact ⟨i0, f, rfl, Nat.le_refl _, hi0, Dn.start hp, hQ, Fq.refl, Sh.refl _ _, fun _ _ => rfl, rfl⟩
 ·rintro m e H1 ⟨i, f1, rfl, hi, hib, hD, hQ1, hF, hS, ht, rfl⟩
  by_cases hlast : n ≤ 2 * i + 1
  ·simp -dsimp (disch := first | assumption | omega | (simp only [Ae]; done) | (simp only [Ae]; omega)) only [↓Ag, Ad, Ai, Ah, eq_self, forall_const, Nat.reduceLT, Nat.reduceEqDiff, Nat.reduceSub, Nat.reduceMul, Nat.reduceMod, Nat.reduceDiv, Nat.reducePow, UInt8.reduceToNat, Int.reduceEq, Int.reduceLT, Int.reduceLE, ↓reduceIte, Nat.reduceAdd, Int.reduceToNat, reduceCtorEq, Nat.reduceLeDiff, ↓Am]
   exact hK _ _ _ hQ1 hF hS ht (hD.last hlast)
  have hQ1' := hQ1
  obtain ⟨v, cp, hq, hrow, hcp, hne⟩ := hQ1
  have hql := Au hq
  have hD1 : ∀ d, 0 < d → (d - 1) / 2 = i → d = 2 * i + 1 ∨ d = 2 * i + 1 + 1 := by omega
  by_cases h2 : 2 * i + 1 + 1 < n
  ·simp -dsimp (disch := first | assumption | omega | (simp only [Ae]; done) | (simp only [Ae]; omega)) only [↓Ag, Ad, Ai, Ah, eq_self, forall_const, Nat.reduceLT, Nat.reduceEqDiff, Nat.reduceSub, Nat.reduceMul, Nat.reduceMod, Nat.reduceDiv, Nat.reducePow, UInt8.reduceToNat, Int.reduceEq, Int.reduceLT, Int.reduceLE, ↓reduceIte, Nat.reduceAdd, Int.reduceToNat, reduceCtorEq, Nat.reduceLeDiff, ↓Am, AhN, Aiq, hq]
   refine Ea (AhA hrow (i := 2 * i + 1 + 1) (j := 2 * i + 1) (by omega) (by omega) fun T => ?_)
   cases hl : JK (f1 (2 * i + 1 + 1)) (f1 (2 * i + 1)) with
   | true =>
    simp -dsimp (disch := first | assumption | omega | (simp only [Ae]; done) | (simp only [Ae]; omega)) only [↓Ag, Ad, Ai, Ah, eq_self, forall_const, Nat.reduceLT, Nat.reduceEqDiff, Nat.reduceSub, Nat.reduceMul, Nat.reduceMod, Nat.reduceDiv, Nat.reducePow, UInt8.reduceToNat, Int.reduceEq, Int.reduceLT, Int.reduceLE, ↓reduceIte, Nat.reduceAdd, Int.reduceToNat, reduceCtorEq, Nat.reduceLeDiff, ↓Am, AhN, Aiq, hq, Us]
    have hch : ∀ d, 0 < d → d < n → (d - 1) / 2 = i → Ra (f1 (2 * i + 1 + 1)) (f1 d) := fun d d1 d2 d3 => by
      rcases hD1 d d1 d3 with rfl | rfl
      ·exact Ra.of_less hl
      ·exact Ra.refl _
    refine Ea (AhA (hrow.app) (i := 2 * i + 1 + 1) (j := i) (by omega) (by omega) fun T2 => ?_)
    cases hl2 : JK (f1 (2 * i + 1 + 1)) (f1 i) with
    | false =>
     simp -dsimp (disch := first | assumption | omega | (simp only [Ae]; done) | (simp only [Ae]; omega)) only [↓Ag, Ad, Ai, Ah, eq_self, forall_const, Nat.reduceLT, Nat.reduceEqDiff, Nat.reduceSub, Nat.reduceMul, Nat.reduceMod, Nat.reduceDiv, Nat.reducePow, UInt8.reduceToNat, Int.reduceEq, Int.reduceLT, Int.reduceLE, ↓reduceIte, Nat.reduceAdd, Int.reduceToNat, reduceCtorEq, Nat.reduceLeDiff, ↓Am]
     exact hK _ _ _ (Qu.app (Qu.app hQ1')) ((hF.trans (Fq.app (T := T))).trans Fq.app) hS ht (hD.done hch hl2)
    | true =>
     simp -dsimp (disch := first | assumption | omega | (simp only [Ae]; done) | (simp only [Ae]; omega)) only [↓Ag, Ad, Ai, Ah, eq_self, forall_const, Nat.reduceLT, Nat.reduceEqDiff, Nat.reduceSub, Nat.reduceMul, Nat.reduceMod, Nat.reduceDiv, Nat.reducePow, UInt8.reduceToNat, Int.reduceEq, Int.reduceLT, Int.reduceLE, ↓reduceIte, Nat.reduceAdd, Int.reduceToNat, reduceCtorEq, Nat.reduceLeDiff, ↓Am, Agz, Agr, hq, Us]
     refine Ea (Ah5 (ZO.app (hrow.app)) (i := i) (j := 2 * i + 1 + 1) (by omega) (by omega) fun o hro => ?_)
     simp -dsimp (disch := first | assumption | omega | (simp only [Ae]; done) | (simp only [Ae]; omega)) only [↓Ag, Ad, Ai, Ah, eq_self, forall_const, Nat.reduceLT, Nat.reduceEqDiff, Nat.reduceSub, Nat.reduceMul, Nat.reduceMod, Nat.reduceDiv, Nat.reducePow, UInt8.reduceToNat, Int.reduceEq, Int.reduceLT, Int.reduceLE, ↓reduceIte, Nat.reduceAdd, Int.reduceToNat, reduceCtorEq, Nat.reduceLeDiff, ↓Am]
     exact Az (n - (2 * i + 1 + 1)) (by omega) (by have := hF.1; simp; omega) ⟨2 * i + 1 + 1, sw f1 i (2 * i + 1 + 1), rfl, by omega, by omega, hD.step hi (by omega) (by omega) (by omega) hch hl2, Qu.set (by rw [List.append_assoc, Bf hql]; exact hq) hcp hne hro, ((hF.trans (Fq.app (T := T))).trans Fq.app).trans Fq.setr, hS.trans (Sh.sw f1 (by omega) (by omega)), fun k hk => by rw [AdE (by omega) (by omega)]; exact ht k hk, by simp [forget, get]⟩
   | false =>
    simp -dsimp (disch := first | assumption | omega | (simp only [Ae]; done) | (simp only [Ae]; omega)) only [↓Ag, Ad, Ai, Ah, eq_self, forall_const, Nat.reduceLT, Nat.reduceEqDiff, Nat.reduceSub, Nat.reduceMul, Nat.reduceMod, Nat.reduceDiv, Nat.reducePow, UInt8.reduceToNat, Int.reduceEq, Int.reduceLT, Int.reduceLE, ↓reduceIte, Nat.reduceAdd, Int.reduceToNat, reduceCtorEq, Nat.reduceLeDiff, ↓Am, AhN, Aiq, hq, Us]
    have hch : ∀ d, 0 < d → d < n → (d - 1) / 2 = i → Ra (f1 (2 * i + 1)) (f1 d) := fun d d1 d2 d3 => by
      rcases hD1 d d1 d3 with rfl | rfl
      ·exact Ra.refl _
      ·exact hl
    refine Ea (AhA (hrow.app) (i := 2 * i + 1) (j := i) (by omega) (by omega) fun T2 => ?_)
    cases hl2 : JK (f1 (2 * i + 1)) (f1 i) with
    | false =>
     simp -dsimp (disch := first | assumption | omega | (simp only [Ae]; done) | (simp only [Ae]; omega)) only [↓Ag, Ad, Ai, Ah, eq_self, forall_const, Nat.reduceLT, Nat.reduceEqDiff, Nat.reduceSub, Nat.reduceMul, Nat.reduceMod, Nat.reduceDiv, Nat.reducePow, UInt8.reduceToNat, Int.reduceEq, Int.reduceLT, Int.reduceLE, ↓reduceIte, Nat.reduceAdd, Int.reduceToNat, reduceCtorEq, Nat.reduceLeDiff, ↓Am]
     exact hK _ _ _ (Qu.app (Qu.app hQ1')) ((hF.trans (Fq.app (T := T))).trans Fq.app) hS ht (hD.done hch hl2)
    | true =>
     simp -dsimp (disch := first | assumption | omega | (simp only [Ae]; done) | (simp only [Ae]; omega)) only [↓Ag, Ad, Ai, Ah, eq_self, forall_const, Nat.reduceLT, Nat.reduceEqDiff, Nat.reduceSub, Nat.reduceMul, Nat.reduceMod, Nat.reduceDiv, Nat.reducePow, UInt8.reduceToNat, Int.reduceEq, Int.reduceLT, Int.reduceLE, ↓reduceIte, Nat.reduceAdd, Int.reduceToNat, reduceCtorEq, Nat.reduceLeDiff, ↓Am, Agz, Agr, hq, Us]
     refine Ea (Ah5 (ZO.app (hrow.app)) (i := i) (j := 2 * i + 1) (by omega) (by omega) fun o hro => ?_)
     simp -dsimp (disch := first | assumption | omega | (simp only [Ae]; done) | (simp only [Ae]; omega)) only [↓Ag, Ad, Ai, Ah, eq_self, forall_const, Nat.reduceLT, Nat.reduceEqDiff, Nat.reduceSub, Nat.reduceMul, Nat.reduceMod, Nat.reduceDiv, Nat.reducePow, UInt8.reduceToNat, Int.reduceEq, Int.reduceLT, Int.reduceLE, ↓reduceIte, Nat.reduceAdd, Int.reduceToNat, reduceCtorEq, Nat.reduceLeDiff, ↓Am]
     exact Az (n - (2 * i + 1)) (by omega) (by have := hF.1; simp; omega) ⟨2 * i + 1, sw f1 i (2 * i + 1), rfl, by omega, by omega, hD.step hi (by omega) (by omega) (by omega) hch hl2, Qu.set (by rw [List.append_assoc, Bf hql]; exact hq) hcp hne hro, ((hF.trans (Fq.app (T := T))).trans Fq.app).trans Fq.setr, hS.trans (Sh.sw f1 (by omega) (by omega)), fun k hk => by rw [AdE (by omega) (by omega)]; exact ht k hk, by simp [forget, get]⟩
  ·simp -dsimp (disch := first | assumption | omega | (simp only [Ae]; done) | (simp only [Ae]; omega)) only [↓Ag, Ad, Ai, Ah, eq_self, forall_const, Nat.reduceLT, Nat.reduceEqDiff, Nat.reduceSub, Nat.reduceMul, Nat.reduceMod, Nat.reduceDiv, Nat.reducePow, UInt8.reduceToNat, Int.reduceEq, Int.reduceLT, Int.reduceLE, ↓reduceIte, Nat.reduceAdd, Int.reduceToNat, reduceCtorEq, Nat.reduceLeDiff, ↓Am, AhN, Aiq, hq]
   have hch : ∀ d, 0 < d → d < n → (d - 1) / 2 = i → Ra (f1 (2 * i + 1)) (f1 d) := fun d d1 d2 d3 => by
     rcases hD1 d d1 d3 with rfl | rfl
     ·exact Ra.refl _
     ·omega
   refine Ea (AhA (hrow) (i := 2 * i + 1) (j := i) (by omega) (by omega) fun T2 => ?_)
   cases hl2 : JK (f1 (2 * i + 1)) (f1 i) with
   | false =>
    simp -dsimp (disch := first | assumption | omega | (simp only [Ae]; done) | (simp only [Ae]; omega)) only [↓Ag, Ad, Ai, Ah, eq_self, forall_const, Nat.reduceLT, Nat.reduceEqDiff, Nat.reduceSub, Nat.reduceMul, Nat.reduceMod, Nat.reduceDiv, Nat.reducePow, UInt8.reduceToNat, Int.reduceEq, Int.reduceLT, Int.reduceLE, ↓reduceIte, Nat.reduceAdd, Int.reduceToNat, reduceCtorEq, Nat.reduceLeDiff, ↓Am]
    exact hK _ _ _ (Qu.app hQ1') (hF.trans Fq.app) hS ht (hD.done hch hl2)
   | true =>
    simp -dsimp (disch := first | assumption | omega | (simp only [Ae]; done) | (simp only [Ae]; omega)) only [↓Ag, Ad, Ai, Ah, eq_self, forall_const, Nat.reduceLT, Nat.reduceEqDiff, Nat.reduceSub, Nat.reduceMul, Nat.reduceMod, Nat.reduceDiv, Nat.reducePow, UInt8.reduceToNat, Int.reduceEq, Int.reduceLT, Int.reduceLE, ↓reduceIte, Nat.reduceAdd, Int.reduceToNat, reduceCtorEq, Nat.reduceLeDiff, ↓Am, Agz, Agr, hq, Us]
    refine Ea (Ah5 (ZO.app (hrow)) (i := i) (j := 2 * i + 1) (by omega) (by omega) fun o hro => ?_)
    simp -dsimp (disch := first | assumption | omega | (simp only [Ae]; done) | (simp only [Ae]; omega)) only [↓Ag, Ad, Ai, Ah, eq_self, forall_const, Nat.reduceLT, Nat.reduceEqDiff, Nat.reduceSub, Nat.reduceMul, Nat.reduceMod, Nat.reduceDiv, Nat.reducePow, UInt8.reduceToNat, Int.reduceEq, Int.reduceLT, Int.reduceLE, ↓reduceIte, Nat.reduceAdd, Int.reduceToNat, reduceCtorEq, Nat.reduceLeDiff, ↓Am]
    exact Az (n - (2 * i + 1)) (by omega) (by have := hF.1; simp; omega) ⟨2 * i + 1, sw f1 i (2 * i + 1), rfl, by omega, by omega, hD.step hi (by omega) (by omega) (by omega) hch hl2, Qu.set (by rw [Bf hql]; exact hq) hcp hne hro, (hF.trans Fq.app).trans Fq.setr, hS.trans (Sh.sw f1 (by omega) (by omega)), fun k hk => by rw [AdE (by omega) (by omega)]; exact ht k hk, by simp [forget, get]⟩
theorem upV {H : List Ob} {q r n j0 : Nat} {f : Nat → Nd} (hQ : Qu H q r n f) (hp : Up n f j0) (hj0 : j0 < n) {K : TV → List Ob → Prop}
  (hK : ∀ H' f', Qu H' q r n f' → Fq q r H H' → Sh n f f' → Hp 0 n f' → K (.tup []) H') : Aq Tryd.prog 40 [.ifc 64 (.op q 0 []), i64 ((j0 : Nat) : Int)] H K := by
 have hb := hQ.bound
 refine Sl (by simp) ?_
 simp -dsimp (disch := first | assumption | omega | (simp only [Ae]; done) | (simp only [Ae]; omega)) only [↓Ag, Ad, Ai, Ah, eq_self, forall_const, Nat.reduceLT, Nat.reduceEqDiff, Nat.reduceSub, Nat.reduceMul, Nat.reduceMod, Nat.reduceDiv, Nat.reducePow, UInt8.reduceToNat, Int.reduceEq, Int.reduceLT, Int.reduceLE, ↓reduceIte, Nat.reduceAdd, Int.reduceToNat, reduceCtorEq, Nat.reduceLeDiff, ↓BM]
 refine BG (fun m e H' => ∃ (j : Nat) (f1 : Nat → Nd), m = j ∧ j < n ∧ Up n f1 j ∧ Qu H' q r n f1 ∧ Fq q r H H' ∧ Sh n f f1 ∧ e = [(0, .ifc 64 (.op q 0 [])), (1, i64 ((j : Nat) : Int))]) j0 ?_ ?_
 ·exact ⟨j0, f, rfl, hj0, hp, hQ, Fq.refl, Sh.refl _ _, rfl⟩
 ·rintro j e H1 ⟨_, f1, rfl, hj, hU, hQ1, hF, hS, rfl⟩
  rcases Nat.eq_zero_or_pos j with rfl | hpos
  ·have hq0 : H9 3 .quo (.int .i64 (((0 : Nat) : Int) - ((1 : Nat) : Int))) (.int .i64 ((2 : Nat) : Int)) = some (.int .i64 ((0 : Nat) : Int)) := by rfl
   simp -dsimp (disch := first | assumption | omega | (simp only [Ae]; done) | (simp only [Ae]; omega)) only [↓Ag, Ad, Ai, Ah, eq_self, forall_const, Nat.reduceLT, Nat.reduceEqDiff, Nat.reduceSub, Nat.reduceMul, Nat.reduceMod, Nat.reduceDiv, Nat.reducePow, UInt8.reduceToNat, Int.reduceEq, Int.reduceLT, Int.reduceLE, ↓reduceIte, Nat.reduceAdd, Int.reduceToNat, reduceCtorEq, Nat.reduceLeDiff, ↓BM, hq0]
   exact hK _ _ hQ1 hF hS hU.top
  ·have hQ1' := hQ1
   obtain ⟨v, cp, hq, hrow, hcp, hne⟩ := hQ1
   have hql := Au hq
   have hij : (j - 1) / 2 < j := by omega
   have hne2 : ¬ (j - 1) / 2 = j := by omega
   simp -dsimp (disch := first | assumption | omega | (simp only [Ae]; done) | (simp only [Ae]; omega)) only [↓Ag, Ad, Ai, Ah, eq_self, forall_const, Nat.reduceLT, Nat.reduceEqDiff, Nat.reduceSub, Nat.reduceMul, Nat.reduceMod, Nat.reduceDiv, Nat.reducePow, UInt8.reduceToNat, Int.reduceEq, Int.reduceLT, Int.reduceLE, ↓reduceIte, Nat.reduceAdd, Int.reduceToNat, reduceCtorEq, Nat.reduceLeDiff, ↓BM, AhN, Aiq, hq]
   refine Ea (AhA hrow (i := j) (j := (j - 1) / 2) hj (by omega) fun T => ?_)
   cases hl : JK (f1 j) (f1 ((j - 1) / 2)) with
   | false =>
    simp -dsimp (disch := first | assumption | omega | (simp only [Ae]; done) | (simp only [Ae]; omega)) only [↓Ag, Ad, Ai, Ah, eq_self, forall_const, Nat.reduceLT, Nat.reduceEqDiff, Nat.reduceSub, Nat.reduceMul, Nat.reduceMod, Nat.reduceDiv, Nat.reducePow, UInt8.reduceToNat, Int.reduceEq, Int.reduceLT, Int.reduceLE, ↓reduceIte, Nat.reduceAdd, Int.reduceToNat, reduceCtorEq, Nat.reduceLeDiff, ↓BM]
    exact hK _ _ hQ1'.app (hF.trans Fq.app) hS (hU.done hl)
   | true =>
    simp -dsimp (disch := first | assumption | omega | (simp only [Ae]; done) | (simp only [Ae]; omega)) only [↓Ag, Ad, Ai, Ah, eq_self, forall_const, Nat.reduceLT, Nat.reduceEqDiff, Nat.reduceSub, Nat.reduceMul, Nat.reduceMod, Nat.reduceDiv, Nat.reducePow, UInt8.reduceToNat, Int.reduceEq, Int.reduceLT, Int.reduceLE, ↓reduceIte, Nat.reduceAdd, Int.reduceToNat, reduceCtorEq, Nat.reduceLeDiff, ↓BM, Agz, Agr, hq, Us]
    refine Ea (Ah5 hrow.app (i := (j - 1) / 2) (j := j) (by omega) hj fun o hro => ?_)
    simp -dsimp (disch := first | assumption | omega | (simp only [Ae]; done) | (simp only [Ae]; omega)) only [↓Ag, Ad, Ai, Ah, eq_self, forall_const, Nat.reduceLT, Nat.reduceEqDiff, Nat.reduceSub, Nat.reduceMul, Nat.reduceMod, Nat.reduceDiv, Nat.reducePow, UInt8.reduceToNat, Int.reduceEq, Int.reduceLT, Int.reduceLE, ↓reduceIte, Nat.reduceAdd, Int.reduceToNat, reduceCtorEq, Nat.reduceLeDiff, ↓BM]
    exact Az ((j - 1) / 2) hij (by have := hF.1; simp; omega) ⟨(j - 1) / 2, sw f1 ((j - 1) / 2) j, rfl, by omega, hU.step hpos hj hl, Qu.set (by rw [Bf hql]; exact hq) hcp hne hro, (hF.trans Fq.app).trans Fq.setr, hS.trans (Sh.sw f1 (by omega) hj), by simp [forget, get]⟩
theorem Ar3 {H : List Ob} {q r n : Nat} {f : Nat → Nd} (hQ : Qu H q r n f) (hn : n < 100000) (hh : Hp 0 n f) {x : Nd} (hx : x.id.length = 20) {K : TV → List Ob → Prop}
  (hK : ∀ H' f', Qu H' q r (n + 1) f' → Fq q r H H' → Sh (n + 1) (fun k => if k = n then x else f k) f' → Hp 0 (n + 1) f' → K (.tup []) H') : Aq Tryd.prog 26 [.ifc 64 (.op q 0 []), .ifc 51 (ndT x)] H K := by
 refine PE (by simp) ?_
 simp -dsimp (disch := first | assumption | omega | (simp only [Ae]; done) | (simp only [Ae]; omega)) only [↓Ag, Ad, Ai, Ah, eq_self, forall_const, Nat.reduceLT, Nat.reduceEqDiff, Nat.reduceSub, Nat.reduceMul, Nat.reduceMod, Nat.reduceDiv, Nat.reducePow, UInt8.reduceToNat, Int.reduceEq, Int.reduceLT, Int.reduceLE, ↓reduceIte, Nat.reduceAdd, Int.reduceToNat, reduceCtorEq, Nat.reduceLeDiff, ↓CY, A2C, A2m]
 refine Ea (Apx hQ hn hx fun H1 hQ1 hF1 => ?_)
 have hQ1' := hQ1
 obtain ⟨v, cp, hq, hrow, hcp, hne⟩ := hQ1
 simp -dsimp (disch := first | assumption | omega | (simp only [Ae]; done) | (simp only [Ae]; omega)) only [↓Ag, Ad, Ai, Ah, eq_self, forall_const, Nat.reduceLT, Nat.reduceEqDiff, Nat.reduceSub, Nat.reduceMul, Nat.reduceMod, Nat.reduceDiv, Nat.reducePow, UInt8.reduceToNat, Int.reduceEq, Int.reduceLT, Int.reduceLE, ↓reduceIte, Nat.reduceAdd, Int.reduceToNat, reduceCtorEq, Nat.reduceLeDiff, ↓CY, AsH, A13, hq]
 refine Ea (lenV (by omega) ?_)
 simp -dsimp (disch := first | assumption | omega | (simp only [Ae]; done) | (simp only [Ae]; omega)) only [↓Ag, Ad, Ai, Ah, eq_self, forall_const, Nat.reduceLT, Nat.reduceEqDiff, Nat.reduceSub, Nat.reduceMul, Nat.reduceMod, Nat.reduceDiv, Nat.reducePow, UInt8.reduceToNat, Int.reduceEq, Int.reduceLT, Int.reduceLE, ↓reduceIte, Nat.reduceAdd, Int.reduceToNat, reduceCtorEq, Nat.reduceLeDiff, ↓CY]
 refine Ea (upV hQ1' (Up.start hh x) (by omega) fun H2 f2 a1 a2 a3 a4 => ?_)
 simp -dsimp (disch := first | assumption | omega | (simp only [Ae]; done) | (simp only [Ae]; omega)) only [↓Ag, Ad, Ai, Ah, eq_self, forall_const, Nat.reduceLT, Nat.reduceEqDiff, Nat.reduceSub, Nat.reduceMul, Nat.reduceMod, Nat.reduceDiv, Nat.reducePow, UInt8.reduceToNat, Int.reduceEq, Int.reduceLT, Int.reduceLE, ↓reduceIte, Nat.reduceAdd, Int.reduceToNat, reduceCtorEq, Nat.reduceLeDiff, ↓CY]
 exact hK _ _ a1 (hF1.trans a2) a3 a4
theorem A3n {H : List Ob} {q r n : Nat} {f : Nat → Nd} (hQ : Qu H q r (n + 1) f) (hh : Hp 0 (n + 1) f) {K : TV → List Ob → Prop}
  (hK : ∀ H' f', Qu H' q r n f' → Fq q r H H' → Sh n (sw f 0 n) f' → Hp 0 n f' → K (.ifc 51 (ndT (f 0))) H') : Aq Tryd.prog 24 [.ifc 64 (.op q 0 [])] H K := by
 have hb := hQ.bound
 have hQ' := hQ
 obtain ⟨v, cp, hq, hrow, hcp, hne⟩ := hQ
 have hql := Au hq
 refine Qr (by simp) ?_
 simp -dsimp (disch := first | assumption | omega | (simp only [Ae]; done) | (simp only [Ae]; omega)) only [↓Ag, Ad, Ai, Ah, eq_self, forall_const, Nat.reduceLT, Nat.reduceEqDiff, Nat.reduceSub, Nat.reduceMul, Nat.reduceMod, Nat.reduceDiv, Nat.reducePow, UInt8.reduceToNat, Int.reduceEq, Int.reduceLT, Int.reduceLE, ↓reduceIte, Nat.reduceAdd, Int.reduceToNat, reduceCtorEq, Nat.reduceLeDiff, ↓BV, AsH, A13, hq]
 refine Ea (lenV (by omega) ?_)
 simp -dsimp (disch := first | assumption | omega | (simp only [Ae]; done) | (simp only [Ae]; omega)) only [↓Ag, Ad, Ai, Ah, eq_self, forall_const, Nat.reduceLT, Nat.reduceEqDiff, Nat.reduceSub, Nat.reduceMul, Nat.reduceMod, Nat.reduceDiv, Nat.reducePow, UInt8.reduceToNat, Int.reduceEq, Int.reduceLT, Int.reduceLE, ↓reduceIte, Nat.reduceAdd, Int.reduceToNat, reduceCtorEq, Nat.reduceLeDiff, ↓BV, Agz, Agr, hq]
 refine Ea (Ah5 hrow (i := 0) (j := n) (by omega) (by omega) fun o hro => ?_)
 have hQ1 : Qu (H.set r o) q r (n + 1) (sw f 0 n) := Qu.set hq hcp hne hro
 simp -dsimp (disch := first | assumption | omega | (simp only [Ae]; done) | (simp only [Ae]; omega)) only [↓Ag, Ad, Ai, Ah, eq_self, forall_const, Nat.reduceLT, Nat.reduceEqDiff, Nat.reduceSub, Nat.reduceMul, Nat.reduceMod, Nat.reduceDiv, Nat.reducePow, UInt8.reduceToNat, Int.reduceEq, Int.reduceLT, Int.reduceLE, ↓reduceIte, Nat.reduceAdd, Int.reduceToNat, reduceCtorEq, Nat.reduceLeDiff, ↓BV]
 refine Ea (Ap0 hQ1 (n := n) (i0 := 0) (by omega) hh.cut (by omega) fun H2 f2 b a1 a2 a3 a4 a5 => ?_)
 simp -dsimp (disch := first | assumption | omega | (simp only [Ae]; done) | (simp only [Ae]; omega)) only [↓Ag, Ad, Ai, Ah, eq_self, forall_const, Nat.reduceLT, Nat.reduceEqDiff, Nat.reduceSub, Nat.reduceMul, Nat.reduceMod, Nat.reduceDiv, Nat.reducePow, UInt8.reduceToNat, Int.reduceEq, Int.reduceLT, Int.reduceLE, ↓reduceIte, Nat.reduceAdd, Int.reduceToNat, reduceCtorEq, Nat.reduceLeDiff, ↓BV, A3s, A3G]
 refine Ea (Ar4 a1 fun H3 c1 c2 => ?_)
 rw [a4 n (Nat.le_refl _), Aoe]
 simp -dsimp (disch := first | assumption | omega | (simp only [Ae]; done) | (simp only [Ae]; omega)) only [↓Ag, Ad, Ai, Ah, eq_self, forall_const, Nat.reduceLT, Nat.reduceEqDiff, Nat.reduceSub, Nat.reduceMul, Nat.reduceMod, Nat.reduceDiv, Nat.reducePow, UInt8.reduceToNat, Int.reduceEq, Int.reduceLT, Int.reduceLE, ↓reduceIte, Nat.reduceAdd, Int.reduceToNat, reduceCtorEq, Nat.reduceLeDiff, ↓BV, AP]
 rw [← AP]
 exact hK _ _ c1 ((Fq.setr.trans a2).trans c2) (a3.cut a4) a5
theorem A2A {H : List Ob} {q r n : Nat} {f : Nat → Nd} (hQ : Qu H q r n f) {K : TV → List Ob → Prop}
  (hK : ∀ H' f', Qu H' q r n f' → Fq q r H H' → Sh n f f' → Hp 0 n f' → K (.tup []) H') : Aq Tryd.prog 22 [.ifc 64 (.op q 0 [])] H K := by
 have hb := hQ.bound
 have hQ' := hQ
 obtain ⟨v, cp, hq, hrow, hcp, hne⟩ := hQ
 refine Pv (by simp) ?_
 simp -dsimp (disch := first | assumption | omega | (simp only [Ae]; done) | (simp only [Ae]; omega)) only [↓Ag, Ad, Ai, Ah, eq_self, forall_const, Nat.reduceLT, Nat.reduceEqDiff, Nat.reduceSub, Nat.reduceMul, Nat.reduceMod, Nat.reduceDiv, Nat.reducePow, UInt8.reduceToNat, Int.reduceEq, Int.reduceLT, Int.reduceLE, ↓reduceIte, Nat.reduceAdd, Int.reduceToNat, reduceCtorEq, Nat.reduceLeDiff, ↓BP, AsH, A13, hq]
 refine Ea (lenV (by omega) ?_)
 simp -dsimp (disch := first | assumption | omega | (simp only [Ae]; done) | (simp only [Ae]; omega)) only [↓Ag, Ad, Ai, Ah, eq_self, forall_const, Nat.reduceLT, Nat.reduceEqDiff, Nat.reduceSub, Nat.reduceMul, Nat.reduceMod, Nat.reduceDiv, Nat.reducePow, UInt8.reduceToNat, Int.reduceEq, Int.reduceLT, Int.reduceLE, ↓reduceIte, Nat.reduceAdd, Int.reduceToNat, reduceCtorEq, Nat.reduceLeDiff, ↓BP]
 refine BG (fun m e H' => ∃ (i : Nat) (f1 : Nat → Nd), m = i ∧ i ≤ n ∧ Hp i n f1 ∧ Qu H' q r n f1 ∧ Fq q r H H' ∧ Sh n f f1 ∧ e = [(0, .ifc 64 (.op q 0 [])), (2, i64 ((n : Nat) : Int)), (3, i64 ((i : Int) - ((1 : Nat) : Int)))]) (n / 2) ?_ ?_
 ·exact ⟨n / 2, f, rfl, by omega, fun j h1 h2 h3 => by omega, hQ', Fq.refl, Sh.refl _ _, rfl⟩
 ·rintro i e H1 ⟨_, f1, rfl, hi, hh, hQ1, hF, hS, rfl⟩
  rcases Nat.eq_zero_or_pos i with rfl | hpos
  ·simp -dsimp (disch := first | assumption | omega | (simp only [Ae]; done) | (simp only [Ae]; omega)) only [↓Ag, Ad, Ai, Ah, eq_self, forall_const, Nat.reduceLT, Nat.reduceEqDiff, Nat.reduceSub, Nat.reduceMul, Nat.reduceMod, Nat.reduceDiv, Nat.reducePow, UInt8.reduceToNat, Int.reduceEq, Int.reduceLT, Int.reduceLE, ↓reduceIte, Nat.reduceAdd, Int.reduceToNat, reduceCtorEq, Nat.reduceLeDiff, ↓BP]
   exact hK _ _ hQ1 hF hS hh
  ·obtain ⟨k, rfl⟩ : ∃ k, i = k + 1 := ⟨i - 1, by omega⟩
   have ek : (((k + 1 : Nat) : Int) - ((1 : Nat) : Int)) = ((k : Nat) : Int) := by omega
   rw [ek]
   simp -dsimp (disch := first | assumption | omega | (simp only [Ae]; done) | (simp only [Ae]; omega)) only [↓Ag, Ad, Ai, Ah, eq_self, forall_const, Nat.reduceLT, Nat.reduceEqDiff, Nat.reduceSub, Nat.reduceMul, Nat.reduceMod, Nat.reduceDiv, Nat.reducePow, UInt8.reduceToNat, Int.reduceEq, Int.reduceLT, Int.reduceLE, ↓reduceIte, Nat.reduceAdd, Int.reduceToNat, reduceCtorEq, Nat.reduceLeDiff, ↓BP]
   refine Ea (Ap0 hQ1 (n := n) (i0 := k) (Nat.le_refl _) hh (by omega) fun H2 f2 b a1 a2 a3 a4 a5 => ?_)
   simp -dsimp (disch := first | assumption | omega | (simp only [Ae]; done) | (simp only [Ae]; omega)) only [↓Ag, Ad, Ai, Ah, eq_self, forall_const, Nat.reduceLT, Nat.reduceEqDiff, Nat.reduceSub, Nat.reduceMul, Nat.reduceMod, Nat.reduceDiv, Nat.reducePow, UInt8.reduceToNat, Int.reduceEq, Int.reduceLT, Int.reduceLE, ↓reduceIte, Nat.reduceAdd, Int.reduceToNat, reduceCtorEq, Nat.reduceLeDiff, ↓BP]
   exact Az k (by omega) (by have h1 := hF.1; have h2 := a2.1; omega) ⟨k, f2, rfl, by omega, a5, a1, hF.trans a2, hS.trans a3, by simp [forget, get]⟩
end Go.Proofs.YtingoaihnlhiaaaDoor


namespace Go.Proofs.YtingoaihnlhiaaaDoor
open Go.RowKit
variable [A7]
set_option linter.unusedSectionVars false
set_option linter.unusedVariables false

variable {P : Program}
/-- A CALL THAT LEAVES NOTHING BEHIND, AND YIELDS NEW MEMORY ALONE, or ends in a panic. -/
def AdQ (P : Program) (f : FuncId) (args : List TV) (R : TV → Prop) (RP : Value → Prop) : Prop :=
 ∀ (β : Nat → Nat → Option (Nat × Nat)) (F : Nat → Prop) (w : World) (vs : List Value), ((∀ b, F b → b < w.heap.size) ∧ Jz F w) → Ba ⟨β, [], F⟩ w args vs →
  Calls P f vs.toArray w fun e w' => ∃ F', Pz F w F' w' ∧ ((∃ v x, e = .returned v ∧ R x ∧ Rep ⟨β, [], fun b => F' b ∧ w.heap.size ≤ b⟩ w' x v) ∨ ∃ u, e = .panicked [{ v := u, recovered := false }] ∧ RP u)
theorem AdQ.mono {f : FuncId} {args : List TV} {R R' : TV → Prop} {RP RP' : Value → Prop} (h : AdQ P f args R RP) (hr : ∀ x, R x → R' x) (hp : ∀ u, RP u → RP' u) : AdQ P f args R' RP' :=
 fun β F w vs hF hv => (h β F w vs hF hv).mono fun _ _ ⟨F', h1, h2⟩ => ⟨F', h1, h2.imp (fun ⟨v, x, k1, k2, k3⟩ => ⟨v, x, k1, hr _ k2, k3⟩) fun ⟨u, k1, k2⟩ => ⟨u, k1, hp _ k2⟩⟩

def Ase (x x' : TV) : Prop := ∀ (c : Ctx) (w : World) (v : Value), Ada c w x v → Ada c w x' v
inductive AdF : List TV → List TV → Prop
 | nil : AdF [] []
 | cons {x x' : TV} {xs xs' : List TV} : Ase x x' → AdF xs xs' → AdF (x :: xs) (x' :: xs')
theorem AdF.rep {c : Ctx} {w : World} {xs xs' : List TV} (h : AdF xs xs') : ∀ {vs : List Value}, Ba c w xs vs → Ba c w xs' vs := by
 induction h with
 | nil => exact fun h => h
 | cons h1 h2 ih =>
  intro vs hv
  rw [Ba.cons] at hv ⊢
  obtain ⟨u, us, rfl, k1, k2⟩ := hv
  exact ⟨u, us, rfl, h1 _ _ _ k1, ih k2⟩
theorem AdF.tup {xs xs' : List TV} (h : AdF xs xs') : ∀ (c : Ctx) (w : World) (v : Value), Rep c w (.tup xs) v → Rep c w (.tup xs') v := by
 rintro c w v ((h1 | h1 | ⟨us, h1, _⟩) | ⟨ys, vs, h1, h2, h3⟩)
 ·cases h1
 ·cases h1
 ·rw [Aj] at h1; exact h1.elim
 ·cases h1
  exact .inr ⟨xs', vs, rfl, h2, h.rep h3⟩
end Go.Proofs.YtingoaihnlhiaaaDoor


namespace Go.Proofs.YtingoaihnlhiaaaDoor
open Go.RowKit
variable [A7]
set_option linter.unusedSectionVars false
set_option linter.unusedVariables false
set_option linter.unusedSimpArgs false

theorem AcX : ∀ {l : List (List UInt8)}, J5 (l.map idT) = true
 | [] => rfl
 | x :: l => by rw [List.map_cons, J5, AcX, AZ, Acw, AcC]; rfl
theorem AmB (n : Nat) (hn : n ≤ 1000000) {H : List Ob} : Aq Tryd.prog 37 [.val (.slice none 0 0), i64 (n : Int)] H (fun x H' => (n = 0 ∧ x = .val (.slice none 0 0) ∧ H' = H) ∨ (0 < n ∧ x = .os 20 H.length 0 [] 0 0 n ∧ ∃ cs, H' = H ++ [.obj 0 (.arr n 20 cs)])) := by
 refine Ik (by simp) ?_
 by_cases h0 : 0 < n
 ·simp -dsimp (disch := first | assumption | omega) only [↓Ag, Ad, Ai, Ah, eq_self, forall_const, Nat.reduceLT, Nat.reduceEqDiff, Nat.reduceSub, Nat.reduceMul, Nat.reduceMod, Nat.reduceDiv, Nat.reducePow, UInt8.reduceToNat, Int.reduceEq, Int.reduceLT, Int.reduceLE, ↓reduceIte, Nat.reduceAdd, Int.reduceToNat, reduceCtorEq, Nat.reduceLeDiff, ↓D9]
  refine .inr ⟨h0, ?_⟩
  first | exact ⟨rfl, _, rfl⟩ | exact ⟨_, rfl⟩
 ·have h1 : n = 0 := by omega
  subst h1
  simp -dsimp (disch := first | assumption | omega) only [↓Ag, Ad, Ai, Ah, eq_self, forall_const, Nat.reduceLT, Nat.reduceEqDiff, Nat.reduceSub, Nat.reduceMul, Nat.reduceMod, Nat.reduceDiv, Nat.reducePow, UInt8.reduceToNat, Int.reduceEq, Int.reduceLT, Int.reduceLE, ↓reduceIte, Nat.reduceAdd, Int.reduceToNat, reduceCtorEq, Nat.reduceLeDiff, ↓D9]
  exact .inl trivial
theorem Ann (ls : List (List (List UInt8))) (hl : ls.length ≤ 1000) (hs : ls.flatten.length ≤ 1000000) : TB Tryd.prog 20 [.sl 1 (ls.map fun l => .sl 20 (l.map idT))] (fun x => x = .sl 20 (ls.flatten.map idT)) := by
 refine Aq.toFreshV (He (by simp) ?_)
 have hsum : ∀ i, (ls.take i).flatten.length ≤ ls.flatten.length := fun i => by
  conv => rhs; rw [← List.take_append_drop i ls]
  rw [List.flatten_append, List.length_append]; omega
 have hsucc : ∀ i l, ls[i]? = some l → (ls.take (i + 1)).flatten = (ls.take i).flatten ++ l := fun i l h => by
  rw [List.take_add_one, h]; simp
 simp -dsimp (disch := first | assumption | omega | (simp only [Ae]; done) | (simp only [Ae]; omega)) only [↓Ag, Ad, Ai, Ah, eq_self, forall_const, Nat.reduceLT, Nat.reduceEqDiff, Nat.reduceSub, Nat.reduceMul, Nat.reduceMod, Nat.reduceDiv, Nat.reducePow, UInt8.reduceToNat, Int.reduceEq, Int.reduceLT, Int.reduceLE, ↓reduceIte, Nat.reduceAdd, Int.reduceToNat, reduceCtorEq, Nat.reduceLeDiff, ↓Bh]
 refine BG (fun q e H' => ∃ i, q = ls.length - i ∧ i ≤ ls.length ∧ e = [(0, .sl 1 (ls.map fun l => .sl 20 (l.map idT))), (3, i64 (((ls.take i).flatten.length : Nat) : Int)), (9, .sl 1 (ls.map fun l => .sl 20 (l.map idT))), (10, i64 (ls.length : Int)), (11, i64 (i : Int))] ∧ H' = []) ls.length ?_ ?_
 ·exact ⟨0, rfl, by omega, rfl, rfl⟩
 ·rintro q e H ⟨i, hq, hi, rfl, rfl⟩
  by_cases h1 : i < ls.length
  ·obtain ⟨l, hg⟩ : ∃ l, ls[i]? = some l := ⟨_, List.getElem?_eq_getElem h1⟩
   have e1 := hsucc i l hg
   have e2 := hsum (i + 1)
   have e3 : (ls.take (i + 1)).flatten.length = (ls.take i).flatten.length + l.length := by rw [e1, List.length_append]
   generalize (ls.take i).flatten.length = a at *
   simp -dsimp (disch := first | assumption | omega | (simp only [Ae]; done) | (simp only [Ae]; omega)) only [↓Ag, Ad, Ai, Ah, eq_self, forall_const, Nat.reduceLT, Nat.reduceEqDiff, Nat.reduceSub, Nat.reduceMul, Nat.reduceMod, Nat.reduceDiv, Nat.reducePow, UInt8.reduceToNat, Int.reduceEq, Int.reduceLT, Int.reduceLE, ↓reduceIte, Nat.reduceAdd, Int.reduceToNat, reduceCtorEq, Nat.reduceLeDiff, ↓Bh, hg]
   exact Az (ls.length - (i + 1)) (by omega) (by simp) ⟨i + 1, rfl, by omega, by rw [e3]; rfl, rfl⟩
  ·have hil : i = ls.length := by omega
   subst hil
   rw [List.take_length]
   simp -dsimp (disch := first | assumption | omega | (simp only [Ae]; done) | (simp only [Ae]; omega)) only [↓Ag, Ad, Ai, Ah, eq_self, forall_const, Nat.reduceLT, Nat.reduceEqDiff, Nat.reduceSub, Nat.reduceMul, Nat.reduceMod, Nat.reduceDiv, Nat.reducePow, UInt8.reduceToNat, Int.reduceEq, Int.reduceLT, Int.reduceLE, ↓reduceIte, Nat.reduceAdd, Int.reduceToNat, reduceCtorEq, Nat.reduceLeDiff, ↓CU, ↓CP, ↓CQ]
   refine Ea ((AmB _ hs).mono fun x H' hx => ?_)
   have fin : ∀ (v : Nat) (cs : List TV) (N cp : Nat), vwp Tryd.prog (.loop [6, 25, 26, 27] BJ) (Blk 2 (Thn Tryd.prog BI (Zq BR fun x H' => Be (frs H' x) fun x => x = .sl 20 (ls.flatten.map idT))))
     [(6, .os 20 0 v [] 0 0 cp), (25, .sl 1 (ls.map fun l => .sl 20 (l.map idT))), (26, i64 (ls.length : Int)), (27, i64 ((0 : Nat) : Int))] [.obj v (.arr N 20 cs)] := by
    intro v cs N cp
    refine BG (fun q e H' => ∃ i v cs N cp, q = ls.length - i ∧ i ≤ ls.length ∧ (ls.take i).flatten.length ≤ cs.length ∧ cs.take (ls.take i).flatten.length = (ls.take i).flatten.map idT ∧ e = [(6, .os 20 0 v [] 0 (ls.take i).flatten.length cp), (25, .sl 1 (ls.map fun l => .sl 20 (l.map idT))), (26, i64 (ls.length : Int)), (27, i64 (i : Int))] ∧ H' = [.obj v (.arr N 20 cs)]) ls.length ?_ ?_
    ·exact ⟨0, v, cs, N, cp, rfl, by omega, by simp, by simp, rfl, rfl⟩
    ·rintro q e H' ⟨i, v, cs, N, cp, hq, hi, hc1, hc2, rfl, rfl⟩
     by_cases h1 : i < ls.length
     ·obtain ⟨l, hg⟩ : ∃ l, ls[i]? = some l := ⟨_, List.getElem?_eq_getElem h1⟩
      have e1 := hsucc i l hg
      have e2 := hsum (i + 1)
      have e3 : (ls.take (i + 1)).flatten.length = (ls.take i).flatten.length + l.length := by rw [e1, List.length_append]
      obtain ⟨a, ha⟩ : ∃ a, a = (ls.take i).flatten := ⟨_, rfl⟩
      rw [← ha] at hc1 hc2 e1 e3
      rw [← ha]
      have htk : (a.map idT).take a.length = a.map idT := List.take_of_length_le (by simp)
      simp -dsimp (disch := first | assumption | omega | (simp only [Ae]; done) | (simp only [Ae]; omega)) only [↓Ag, Ad, Ai, Ah, eq_self, forall_const, Nat.reduceLT, Nat.reduceEqDiff, Nat.reduceSub, Nat.reduceMul, Nat.reduceMod, Nat.reduceDiv, Nat.reducePow, UInt8.reduceToNat, Int.reduceEq, Int.reduceLT, Int.reduceLE, ↓reduceIte, Nat.reduceAdd, Int.reduceToNat, reduceCtorEq, Nat.reduceLeDiff, ↓Bh, hg, hc2, htk]
      exact Az (ls.length - (i + 1)) (by omega) (by simp) ⟨i + 1, v + 1, a.map idT ++ l.map idT, a.length + l.length, a.length + l.length, rfl, by omega, by rw [e3]; simp, by rw [e3, e1, List.map_append]; exact List.take_of_length_le (by simp), by rw [e3]; rfl, rfl⟩
     ·have hil : i = ls.length := by omega
      subst hil
      rw [List.take_length] at hc1 hc2
      rw [List.take_length]
      simp -dsimp (disch := first | assumption | omega | (simp only [Ae]; done) | (simp only [Ae]; omega)) only [↓Ag, Ad, Ai, Ah, eq_self, forall_const, Nat.reduceLT, Nat.reduceEqDiff, Nat.reduceSub, Nat.reduceMul, Nat.reduceMod, Nat.reduceDiv, Nat.reducePow, UInt8.reduceToNat, Int.reduceEq, Int.reduceLT, Int.reduceLE, ↓reduceIte, Nat.reduceAdd, Int.reduceToNat, reduceCtorEq, Nat.reduceLeDiff, ↓Bh, hc2, AcX]
   rcases hx with ⟨h0, rfl, rfl⟩ | ⟨h0, rfl, cs, rfl⟩
   ·simp -dsimp (disch := first | assumption | omega | (simp only [Ae]; done) | (simp only [Ae]; omega)) only [↓Ag, Ad, Ai, Ah, eq_self, forall_const, Nat.reduceLT, Nat.reduceEqDiff, Nat.reduceSub, Nat.reduceMul, Nat.reduceMod, Nat.reduceDiv, Nat.reducePow, UInt8.reduceToNat, Int.reduceEq, Int.reduceLT, Int.reduceLE, ↓reduceIte, Nat.reduceAdd, Int.reduceToNat, reduceCtorEq, Nat.reduceLeDiff, ↓BA]
    exact fin _ _ _ _
   ·simp -dsimp (disch := first | assumption | omega | (simp only [Ae]; done) | (simp only [Ae]; omega)) only [↓Ag, Ad, Ai, Ah, eq_self, forall_const, Nat.reduceLT, Nat.reduceEqDiff, Nat.reduceSub, Nat.reduceMul, Nat.reduceMod, Nat.reduceDiv, Nat.reducePow, UInt8.reduceToNat, Int.reduceEq, Int.reduceLT, Int.reduceLE, ↓reduceIte, Nat.reduceAdd, Int.reduceToNat, reduceCtorEq, Nat.reduceLeDiff, ↓BA]
    exact fin _ _ _ _
end Go.Proofs.YtingoaihnlhiaaaDoor


namespace Go.Proofs.YtingoaihnlhiaaaDoor
open Go.RowKit
variable [A7]
set_option linter.unusedSectionVars false
set_option linter.unusedVariables false
set_option linter.unusedSimpArgs false
set_option autoImplicit false

/-- How often some name it aS a parent. -/
def cnt (l : List Nd) (D : List (List UInt8)) (y : List UInt8) : Nat := (D.flatMap (pOf l)).count y
theorem Al1 {l : List Nd} {y : List UInt8} : cnt l [] y = 0 := by simp [cnt]
theorem AnI {l : List Nd} {D : List (List UInt8)} {x y : List UInt8} : cnt l (D ++ [x]) y = cnt l D y + (pOf l x).count y := by simp [cnt, List.count_append]
theorem Ael {l : List Nd} {D E : List (List UInt8)} (h : D.Perm E) (y : List UInt8) : cnt l D y = cnt l E y := by
 unfold cnt; exact (h.flatMap_right _).count_eq y
theorem AhF {l : List Nd} {D : List (List UInt8)} {x : List UInt8} (h : x ∈ D) (y : List UInt8) : cnt l D y = cnt l (D.erase x) y + (pOf l x).count y := by
 rw [Ael (List.perm_cons_erase h) y]
 simp [cnt, List.count_append, Nat.add_comm]
theorem Aeg {l : List Nd} {D : List (List UInt8)} {y : List UInt8} : cnt l D y = 0 ↔ ∀ x ∈ D, ¬ y ∈ pOf l x := by
 unfold cnt
 rw [List.count_eq_zero, List.mem_flatMap]
 exact ⟨fun h x hx hy => h ⟨x, hx, hy⟩, fun h ⟨x, hx, hy⟩ => h x hx hy⟩
theorem AlN {l : List Nd} (hp : ∀ n ∈ l, n.ps.length ≤ 1000) (D : List (List UInt8)) (y : List UInt8) : cnt l D y ≤ 1000 * D.length := by
 unfold cnt
 have key : ∀ D : List (List UInt8), (D.flatMap (pOf l)).length ≤ 1000 * D.length := by
  intro D
  induction D with
  | nil => simp
  | cons a D ih =>
   have h1 : (pOf l a).length ≤ 1000 := by
    unfold pOf
    cases hf : l.find? (fun n => n.id == a) with
    | none => simp
    | some n => simpa using hp n (List.mem_of_find?_eq_some hf)
   rw [List.flatMap_cons, List.length_append, List.length_cons]; omega
 exact Nat.le_trans List.count_le_length (key D)
theorem Adn {l : List Nd} {R : List (List UInt8)} {x : List UInt8} : Fre l (· ∈ R) x ↔ x ∈ R ∧ cnt l R x = 0 := by
 unfold Fre
 rw [Aeg]
/-- What the queue holds: of those that are left the ones that nobody names. -/
structure QIn (l : List Nd) (R : List (List UInt8)) (f : List UInt8 → Nat) (n : Nat) (g : Nat → Nd) : Prop where
 mem : ∀ x, (∃ k, k < n ∧ g k = x) ↔ x ∈ l ∧ x.id ∈ R ∧ f x.id = 0
 inj : ∀ i j, i < n → j < n → (g i).id = (g j).id → i = j
theorem QIn.sh {l : List Nd} {R : List (List UInt8)} {f : List UInt8 → Nat} {n : Nat} {g g' : Nat → Nd} (h : QIn l R f n g) (k : Sh n g g') : QIn l R f n g' := ⟨fun x => k.mem.trans (h.mem x), k.inj (·.id) h.inj⟩
theorem QIn.le {l : List Nd} {R : List (List UInt8)} {f : List UInt8 → Nat} {n : Nat} {g : Nat → Nd} (h : QIn l R f n g) : n ≤ l.length := by
 have h1 := JY (d := (List.range n).map fun k => (g k).id) (e := AA l) ?_ ?_
 ·simpa [AA] using h1
 ·unfold List.Nodup
  rw [List.pairwise_map]
  refine List.Pairwise.imp_of_mem (fun {a b} ha hb hlt e => ?_) (List.pairwise_lt_range (n := n))
  have := h.inj a b (List.mem_range.1 ha) (List.mem_range.1 hb) e
  omega
 ·intro x hx
  obtain ⟨k, hk, rfl⟩ := List.mem_map.1 hx
  exact JQ ((h.mem (g k)).1 ⟨k, List.mem_range.1 hk, rfl⟩).1
theorem QIn.congr {l : List Nd} {R : List (List UInt8)} {f f' : List UInt8 → Nat} {n : Nat} {g : Nat → Nd} (h : QIn l R f n g) (e : ∀ y, f' y = f y) : QIn l R f' n g := ⟨fun x => by rw [h.mem, e], h.inj⟩
/-- The first one is taken out (and the last one stands in its place). -/
theorem QIn.pop {l : List Nd} (hn : (AA l).Nodup) {R : List (List UInt8)} (hR : R.Nodup) {f : List UInt8 → Nat} {n : Nat} {g : Nat → Nd} (h : QIn l R f (n + 1) g) : QIn l (R.erase (g 0).id) f n (sw g 0 n) := by
 have hs := h.sh (Sh.sw g (Nat.succ_pos n) (Nat.lt_succ_self n))
 refine ⟨fun x => ?_, fun i j hi hj e => hs.inj i j (by omega) (by omega) e⟩
 have h0 : sw g 0 n n = g 0 := Aoe
 constructor
 ·rintro ⟨k, hk, rfl⟩
  obtain ⟨a, b, c⟩ := (hs.mem _).1 ⟨k, Nat.lt_succ_of_lt hk, rfl⟩
  refine ⟨a, ?_, c⟩
  rw [hR.mem_erase_iff]
  refine ⟨fun e => ?_, b⟩
  have := hs.inj k n (by omega) (by omega) (by rw [h0]; exact e)
  omega
 ·rintro ⟨a, b, c⟩
  rw [hR.mem_erase_iff] at b
  obtain ⟨k, hk, rfl⟩ := (hs.mem x).2 ⟨a, b.2, c⟩
  refine ⟨k, ?_, rfl⟩
  rcases Nat.lt_succ_iff_lt_or_eq.1 hk with hk | rfl
  ·exact hk
  ·exact absurd (by rw [h0]) b.1
/-- One is named once less. -/
theorem QIn.dec {l : List Nd} {R : List (List UInt8)} {f : List UInt8 → Nat} {n : Nat} {g : Nat → Nd} (h : QIn l R f n g) {p : List UInt8} (hf : 1 ≤ f p) (hno : f p = 1 → ¬ p ∈ R) : QIn l R (fun y => if p = y then f p - 1 else f y) n g := by
 refine ⟨fun x => ?_, h.inj⟩
 rw [h.mem x]
 refine and_congr Iff.rfl ⟨fun ⟨a, b⟩ => ⟨a, ?_⟩, fun ⟨a, b⟩ => ⟨a, ?_⟩⟩
 ·have : p ≠ x.id := fun e => by rw [e] at hf; omega
  simp [this, b]
 ·by_cases e : p = x.id
  ·subst e
   simp only [if_true] at b
   exact absurd a (hno (by omega))
  ·simpa [e] using b
theorem QIn.push {l : List Nd} (hn : (AA l).Nodup) {R : List (List UInt8)} {f : List UInt8 → Nat} {n : Nat} {g : Nat → Nd} (h : QIn l R f n g) {m : Nd} (hm : m ∈ l) (hf : f m.id = 1) (hR : m.id ∈ R) : QIn l R (fun y => if m.id = y then f m.id - 1 else f y) (n + 1) (fun k => if k = n then m else g k) := by
 have hold : ∀ k, k < n → (g k).id ≠ m.id := fun k hk e => by
  have := ((h.mem (g k)).1 ⟨k, hk, rfl⟩).2.2
  rw [e, hf] at this; cases this
 refine ⟨fun x => ?_, fun i j hi hj e => ?_⟩
 ·constructor
  ·rintro ⟨k, hk, rfl⟩
   by_cases c : k = n
   ·simp only [c, if_true]; exact ⟨hm, hR, by rw [hf]⟩
   ·simp only [c, if_false]
    obtain ⟨a, b, d⟩ := (h.mem (g k)).1 ⟨k, by omega, rfl⟩
    refine ⟨a, b, ?_⟩
    have : ¬ m.id = (g k).id := fun e => hold k (by omega) e.symm
    simp [this, d]
  ·rintro ⟨a, b, d⟩
   by_cases c : m.id = x.id
   ·refine ⟨n, Nat.lt_succ_self n, ?_⟩
    simp only [if_true]
    have h1 := Eu hn hm
    have h2 := Eu hn a
    obtain ⟨i, hi, rfl⟩ := List.getElem_of_mem hm
    obtain ⟨j, hj, rfl⟩ := List.getElem_of_mem a
    have w1 := FO hn hi
    have w2 := FO hn hj
    rw [c, w2] at w1
    have : i = j := by omega
    subst this; rfl
   ·have d' : f x.id = 0 := by simpa [c] using d
    obtain ⟨k, hk, rfl⟩ := (h.mem x).2 ⟨a, b, d'⟩
    exact ⟨k, by omega, by simp [Nat.ne_of_lt hk]⟩
 ·by_cases c : i = n <;> by_cases d : j = n
  ·omega
  ·simp only [c, d, if_true, if_false] at e; exact absurd e.symm (hold j (by omega))
  ·simp only [c, d, if_true, if_false] at e; exact absurd e (hold i (by omega))
  ·simp only [c, d, if_false] at e; exact h.inj i j (by omega) (by omega) e
end Go.Proofs.YtingoaihnlhiaaaDoor


namespace Go.Proofs.YtingoaihnlhiaaaDoor
open Go.RowKit
variable [A7]
set_option linter.unusedSectionVars false
set_option linter.unusedVariables false
set_option linter.unusedSimpArgs false

/-- The objects of graph.Order. -/
structure OH (l : List Nd) (X : List (List UInt8)) (gi mi mn ml q r io : Nat) (H : List Ob) (f : List UInt8 → Nat) (n : Nat) (g : Nat → Nd) (pre : List (List UInt8)) (v : Nat) : Prop where
 ix : mi < gi ∧ gi < mn ∧ mn < ml ∧ ml < r ∧ r < q ∧ q < io
 gr : H[gi]? = some (.obj 0 (.agg [.mp mi 0, .val (.map none)]))
 nm : H[mi]? = some (.mpo (.arr 20) (AY l))
 inn : PD (.arr 20) H[mn]? = some (MR X)
 cn : ∃ es, H[ml]? = some (.mpo (.arr 20) es) ∧ Y0 es f
 qu : Qu H q r n g
 ou : H[io]? = some (.obj v (.arr pre.length 20 (pre.map idT)))
section
variable {l : List Nd} {X : List (List UInt8)} {gi mi mn ml q r io : Nat} {H : List Ob} {f : List UInt8 → Nat} {n : Nat} {g : Nat → Nd} {pre : List (List UInt8)} {v : Nat}
theorem Nu {kk : MK} {id : Nat} {es : List (List UInt8 × TV)} (h : PD kk H[id]? = some es) : id < H.length := by
 rcases Nat.lt_or_ge id H.length with h1 | h1
 ·exact h1
 ·rw [List.getElem?_eq_none h1] at h; cases h
theorem OH.app (h : OH l X gi mi mn ml q r io H f n g pre v) {T : List Ob} : OH l X gi mi mn ml q r io (H ++ T) f n g pre v where
 ix := h.ix
 gr := by rw [Bf (Au h.gr)]; exact h.gr
 nm := by rw [Bf (Au h.nm)]; exact h.nm
 inn := by rw [Bf (Nu h.inn)]; exact h.inn
 cn := by obtain ⟨es, h1, h2⟩ := h.cn; exact ⟨es, by rw [Bf (Au h1)]; exact h1, h2⟩
 qu := h.qu.app
 ou := by rw [Bf (Au h.ou)]; exact h.ou
theorem OH.fq (h : OH l X gi mi mn ml q r io H f n g pre v) {H' : List Ob} {n' : Nat} {g' : Nat → Nd} (hf : Fq q r H H') (hq : Qu H' q r n' g') : OH l X gi mi mn ml q r io H' f n' g' pre v := by
 obtain ⟨i1, i2, i3, i4, i5, i6⟩ := h.ix
 have hio := Au h.ou
 refine ⟨h.ix, ?_, ?_, ?_, ?_, hq, ?_⟩
 ·rw [hf.2 gi (by omega) (by omega) (by omega)]; exact h.gr
 ·rw [hf.2 mi (by omega) (by omega) (by omega)]; exact h.nm
 ·rw [hf.2 mn (by omega) (by omega) (by omega)]; exact h.inn
 ·obtain ⟨es, h1, h2⟩ := h.cn
  exact ⟨es, by rw [hf.2 ml (by omega) (by omega) (by omega)]; exact h1, h2⟩
 ·rw [hf.2 io hio (by omega) (by omega)]; exact h.ou
theorem Qu.seti {H : List Ob} {q r n : Nat} {f : Nat → Nd} (h : Qu H q r n f) {i : Nat} {o : Ob} (h1 : i ≠ q) (h2 : i ≠ r) : Qu (H.set i o) q r n f := by
 obtain ⟨v, cp, a, ⟨N, cs, b, c⟩, d⟩ := h
 exact ⟨v, cp, by rw [List.getElem?_set_ne h1]; exact a, ⟨N, cs, by rw [List.getElem?_set_ne h2]; exact b, c⟩, d⟩
theorem OH.setml (h : OH l X gi mi mn ml q r io H f n g pre v) {es : List (List UInt8 × TV)} {f' : List UInt8 → Nat} (hc : Y0 es f') : OH l X gi mi mn ml q r io (H.set ml (.mpo (.arr 20) es)) f' n g pre v := by
 obtain ⟨i1, i2, i3, i4, i5, i6⟩ := h.ix
 have hio := Au h.ou
 refine ⟨h.ix, ?_, ?_, ?_, ⟨es, List.getElem?_set_self (by omega), hc⟩, h.qu.seti (by omega) (by omega), ?_⟩
 ·rw [List.getElem?_set_ne (by omega)]; exact h.gr
 ·rw [List.getElem?_set_ne (by omega)]; exact h.nm
 ·rw [List.getElem?_set_ne (by omega)]; exact h.inn
 ·rw [List.getElem?_set_ne (by omega)]; exact h.ou
theorem OH.seto (h : OH l X gi mi mn ml q r io H f n g pre v) {pre' : List (List UInt8)} {v' : Nat} : OH l X gi mi mn ml q r io (H.set io (.obj v' (.arr pre'.length 20 (pre'.map idT)))) f n g pre' v' := by
 obtain ⟨i1, i2, i3, i4, i5, i6⟩ := h.ix
 have hio := Au h.ou
 refine ⟨h.ix, ?_, ?_, ?_, ?_, h.qu.seti (by omega) (by omega), List.getElem?_set_self hio⟩
 ·rw [List.getElem?_set_ne (by omega)]; exact h.gr
 ·rw [List.getElem?_set_ne (by omega)]; exact h.nm
 ·rw [List.getElem?_set_ne (by omega)]; exact h.inn
 ·obtain ⟨es, h1, h2⟩ := h.cn
  exact ⟨es, by rw [List.getElem?_set_ne (by omega)]; exact h1, h2⟩
end
theorem A3u {X : List (List UInt8)} {H : List Ob} {m : Nat} (hm : PD (.arr 20) H[m]? = some (MR X)) (x : List UInt8) {K : TV → List Ob → Prop} (hK : ∀ T, K (tb (X.contains x)) (H ++ T)) :
  Aq Tryd.prog 25 [.mp m 0, idT x] H K := by
 have h3 := Nu hm
 refine Oi (by simp) ?_
 have hk : (Fb x (MR X)).isSome = X.contains x := by
  rw [MR]
  induction X with
  | nil => rfl
  | cons k X ih =>
   rw [List.map_cons, Fb]
   by_cases h : k = x
   ·subst h; simp
   ·have : (x == k) = false := by simpa using fun e => h e.symm
    rw [if_neg h, List.contains_cons, this, Bool.false_or]
    have key : ∀ X : List (List UInt8), (Fb x (X.map fun k => (k, TV.agg []))).isSome = X.contains x := by
     intro X
     induction X with
     | nil => rfl
     | cons k X ih =>
      rw [List.map_cons, Fb]
      by_cases h : k = x
      ·subst h; simp
      ·have : (x == k) = false := by simpa using fun e => h e.symm
       rw [if_neg h, List.contains_cons, this, Bool.false_or, ih]
    exact key X
 rw [← hk] at hK
 cases hl : Fb x (MR X) with
 | none =>
  rw [hl] at hK
  simp -dsimp (disch := first | assumption | omega | (simp only [Ae]; done) | (simp only [Ae]; omega)) only [↓Ag, Ad, Ai, Ah, eq_self, forall_const, Nat.reduceLT, Nat.reduceEqDiff, Nat.reduceSub, Nat.reduceMul, Nat.reduceMod, Nat.reduceDiv, Nat.reducePow, UInt8.reduceToNat, Int.reduceEq, Int.reduceLT, Int.reduceLE, ↓reduceIte, Nat.reduceAdd, Int.reduceToNat, reduceCtorEq, Nat.reduceLeDiff, ↓FN, hm, AZ, hl]
  simp only [List.append_assoc]
  exact hK _
 | some y =>
  rw [hl] at hK
  have hy := Aef x y hl
  subst hy
  simp -dsimp (disch := first | assumption | omega | (simp only [Ae]; done) | (simp only [Ae]; omega)) only [↓Ag, Ad, Ai, Ah, eq_self, forall_const, Nat.reduceLT, Nat.reduceEqDiff, Nat.reduceSub, Nat.reduceMul, Nat.reduceMod, Nat.reduceDiv, Nat.reducePow, UInt8.reduceToNat, Int.reduceEq, Int.reduceLT, Int.reduceLE, ↓reduceIte, Nat.reduceAdd, Int.reduceToNat, reduceCtorEq, Nat.reduceLeDiff, ↓FN, hm, AZ, hl]
  simp only [List.append_assoc]
  exact hK _
theorem AhO {l : List Nd} (hok : GOk l) (hl : l.length ≤ 100) (hp : ∀ n ∈ l, n.ps.length ≤ 1000) (h20 : ∀ n ∈ l, n.id.length = 20) {X R : List (List UInt8)} (hX : ∀ x ∈ X, x ∈ AA l) (hRX : ∀ x ∈ R, x ∈ X) (hRn : R.Nodup) {gi mi mn ml q r io v cp : Nat} {H : List Ob} {n : Nat} {g : Nat → Nd} {pre : List (List UInt8)} {y : Nd} (hy : y ∈ l)
  (hpar : ∀ p ∈ y.ps, p ∈ X → p ∈ R) (hH : OH l X gi mi mn ml q r io H (fun z => cnt l R z + y.ps.count z) n g pre v) (hq0 : QIn l R (fun z => cnt l R z + y.ps.count z) n g) (hh : Hp 0 n g) {Q : VEx → Env → List Ob → Prop}
  (hQ : ∀ e' H' n' g', get e' 8 = .op gi 0 [] → get e' 11 = .mp mn 0 → get e' 13 = .mp ml 0 → get e' 17 = .op q 0 [] → get e' 19 = .os 20 io v [] 0 pre.length cp → OH l X gi mi mn ml q r io H' (cnt l R) n' g' pre v → H.length ≤ H'.length → QIn l R (cnt l R) n' g' → Hp 0 n' g' → Q .nor e' H') :
  vwp Tryd.prog Gy Q [(8, .op gi 0 []), (11, .mp mn 0), (13, .mp ml 0), (17, .op q 0 []), (19, .os 20 io v [] 0 pre.length cp), (118, .sl 20 (y.ps.map idT)), (119, i64 (y.ps.length : Int)), (120, i64 ((0 : Nat) : Int))] H := by
 have hpy := hp y hy
 have hRl : R.length ≤ l.length := by
  have := JY hRn fun x hx => hX x (hRX x hx)
  simpa [AA] using this
 simp -dsimp (disch := first | assumption | omega | (simp only [Ae]; done) | (simp only [Ae]; omega)) only [↓Ag, Ad, Ai, Ah, eq_self, forall_const, Nat.reduceLT, Nat.reduceEqDiff, Nat.reduceSub, Nat.reduceMul, Nat.reduceMod, Nat.reduceDiv, Nat.reducePow, UInt8.reduceToNat, Int.reduceEq, Int.reduceLT, Int.reduceLE, ↓reduceIte, Nat.reduceAdd, Int.reduceToNat, reduceCtorEq, Nat.reduceLeDiff, ↓Ub]
 refine BG (fun m e H' => ∃ (j n' : Nat) (g' : Nat → Nd) (f : List UInt8 → Nat), m = y.ps.length - j ∧ j ≤ y.ps.length ∧ (∀ z, f z = cnt l R z + (y.ps.drop j).count z) ∧ OH l X gi mi mn ml q r io H' f n' g' pre v ∧ H.length ≤ H'.length ∧ QIn l R f n' g' ∧ Hp 0 n' g' ∧
  e = [(8, .op gi 0 []), (11, .mp mn 0), (13, .mp ml 0), (17, .op q 0 []), (19, .os 20 io v [] 0 pre.length cp), (118, .sl 20 (y.ps.map idT)), (119, i64 (y.ps.length : Int)), (120, i64 (j : Int))]) y.ps.length ?_ ?_
 ·exact ⟨0, n, g, _, rfl, by omega, fun z => rfl, hH, Nat.le_refl _, hq0, hh, rfl⟩
 ·clear hH hq0 hh
  rintro m e H1 ⟨j, n', g', f, rfl, hj, hf, hH, hHl, hqi, hh, rfl⟩
  by_cases h : j < y.ps.length
  case neg =>
   have hj2 : j = y.ps.length := by omega
   subst hj2
   have hfe : ∀ z, cnt l R z = f z := fun z => by rw [hf z, List.drop_length]; simp
   have hH' : OH l X gi mi mn ml q r io H1 (cnt l R) n' g' pre v := ⟨hH.ix, hH.gr, hH.nm, hH.inn, by obtain ⟨es, h1, h2⟩ := hH.cn; exact ⟨es, h1, h2.congr hfe⟩, hH.qu, hH.ou⟩
   simp -dsimp (disch := first | assumption | omega | (simp only [Ae]; done) | (simp only [Ae]; omega)) only [↓Ag, Ad, Ai, Ah, eq_self, forall_const, Nat.reduceLT, Nat.reduceEqDiff, Nat.reduceSub, Nat.reduceMul, Nat.reduceMod, Nat.reduceDiv, Nat.reducePow, UInt8.reduceToNat, Int.reduceEq, Int.reduceLT, Int.reduceLE, ↓reduceIte, Nat.reduceAdd, Int.reduceToNat, reduceCtorEq, Nat.reduceLeDiff, ↓EG, ↓EF]
   exact hQ _ _ _ _ rfl rfl rfl rfl rfl hH' hHl (hqi.congr hfe) hh
  have hg2 : y.ps[j]? = some y.ps[j] := List.getElem?_eq_getElem h
  have hdrop := List.drop_eq_getElem_cons h
  have hpm := List.getElem_mem h
  generalize y.ps[j] = p at *
  obtain ⟨es, hml, hc⟩ := hH.cn
  have hcp := hc p
  have hmll := Au hml
  have hcnt : (y.ps.drop j).count p ≤ y.ps.length := Nat.le_trans List.count_le_length (by simp)
  have hfp := hf p
  have hcl := AlN hp R p
  have hf1 : 1 ≤ f p := by rw [hfp, hdrop]; simp; omega
  have hf' : ∀ z, (if p = z then f p - 1 else f z) = cnt l R z + (y.ps.drop (j + 1)).count z := by
   intro z
   have h9 := hf z
   rw [hdrop, List.count_cons] at h9
   by_cases e : p = z
   ·subst e; simp at h9 ⊢; omega
   ·simp [e] at h9 ⊢; omega
  obtain ⟨pn, hpn, hpne⟩ := List.mem_map.1 (hok.1.there y hy p hpm)
  have hc' := hc.put p (f p - 1)
  have hcp2 : (Fb p (EZ p (i64 ((f p - 1 : Nat) : Int)) es)).getD (i64 ((0 : Nat) : Int)) = i64 ((f p - 1 : Nat) : Int) := by rw [AhY, if_pos rfl]; rfl
  have hfb : f p ≤ 1000000 := by omega
  by_cases h0 : f p = 1
  ·rw [h0] at hcp hcp2
   simp -dsimp (disch := first | assumption | omega | (simp only [Ae]; done) | (simp only [Ae]; omega)) only [↓Ag, Ad, Ai, Ah, eq_self, forall_const, Nat.reduceLT, Nat.reduceEqDiff, Nat.reduceSub, Nat.reduceMul, Nat.reduceMod, Nat.reduceDiv, Nat.reducePow, UInt8.reduceToNat, Int.reduceEq, Int.reduceLT, Int.reduceLE, ↓reduceIte, Nat.reduceAdd, Int.reduceToNat, reduceCtorEq, Nat.reduceLeDiff, ↓EG, ↓EF, ↓Je, ↓I7, ↓IC, hg2, AZ, hml, hcp, TJ, MW, pr1, pr2, hcp2]
   have hc0 : Y0 (EZ p (i64 ((0 : Nat) : Int)) es) (fun z => if p = z then f p - 1 else f z) := by rw [h0] at hc'; rw [h0]; exact hc'
   have hH2 := (hH.setml hc0).app (T := [Ob.obj 0 (idT p)])
   rw [AZ] at hH2
   rw [← AZ] at hH2 ⊢
   refine Ea (A3u hH2.inn p fun T => ?_)
   by_cases hpX : p ∈ X
   ·have hpR := hpar p hpm hpX
    have hcont : X.contains p = true := by simpa using hpX
    rw [hcont]
    have hH3 := hH2.app (T := T)
    have hgr := hH3.gr
    have hnm := hH3.nm
    have hlook : Fb p (AY l) = some (ndT pn) := by rw [← hpne]; exact Eu hok.1.nodup hpn
    have hqu := hH3.qu
    have hlen3 : (H1.set ml (Ob.mpo (MK.arr 20) (EZ p (i64 ((0 : Nat) : Int)) es)) ++ [Ob.obj 0 (idT p)] ++ T).length = H1.length + 1 + T.length := by simp; omega
    have hpo : (H1.set ml (Ob.mpo (MK.arr 20) (EZ p (i64 ((0 : Nat) : Int)) es)) ++ [Ob.obj 0 (idT p)] ++ T)[H1.length]? = some (Ob.obj 0 (idT p)) := by
     rw [List.append_assoc, List.getElem?_append_right (by simp)]; simp
    generalize H1.set ml (Ob.mpo (MK.arr 20) (EZ p (i64 ((0 : Nat) : Int)) es)) ++ [Ob.obj 0 (idT p)] ++ T = H3 at *
    have hq1 : pn.id = p := hpne
    simp -dsimp (disch := first | assumption | omega | (simp only [Ae]; done) | (simp only [Ae]; omega)) only [↓Ag, Ad, Ai, Ah, eq_self, forall_const, Nat.reduceLT, Nat.reduceEqDiff, Nat.reduceSub, Nat.reduceMul, Nat.reduceMod, Nat.reduceDiv, Nat.reducePow, UInt8.reduceToNat, Int.reduceEq, Int.reduceLT, Int.reduceLE, ↓reduceIte, Nat.reduceAdd, Int.reduceToNat, reduceCtorEq, Nat.reduceLeDiff, ↓Uo, hgr, hnm, hpo, MQ, FQ, AZ, hlook, AP]
    rw [← AP]
    have hle := hqi.le
    refine Ea (Ar3 hqu (by omega) hh (h20 pn hpn) fun H4 g4 a1 a2 a3 a4 => ?_)
    simp -dsimp (disch := first | assumption | omega | (simp only [Ae]; done) | (simp only [Ae]; omega)) only [↓Ag, Ad, Ai, Ah, eq_self, forall_const, Nat.reduceLT, Nat.reduceEqDiff, Nat.reduceSub, Nat.reduceMul, Nat.reduceMod, Nat.reduceDiv, Nat.reducePow, UInt8.reduceToNat, Int.reduceEq, Int.reduceLT, Int.reduceLE, ↓reduceIte, Nat.reduceAdd, Int.reduceToNat, reduceCtorEq, Nat.reduceLeDiff]
    subst hq1
    exact Az (y.ps.length - (j + 1)) (by omega) (by have := a2.1; omega) ⟨j + 1, n' + 1, g4, _, rfl, by omega, hf', hH3.fq a2 a1, by have := a2.1; omega, (hqi.push hok.1.nodup hpn h0 hpR).sh a3, a4, by simp [forget, get]⟩
   ·have hcont : X.contains p = false := by simpa using hpX
    rw [hcont]
    simp -dsimp (disch := first | assumption | omega | (simp only [Ae]; done) | (simp only [Ae]; omega)) only [↓Ag, Ad, Ai, Ah, eq_self, forall_const, Nat.reduceLT, Nat.reduceEqDiff, Nat.reduceSub, Nat.reduceMul, Nat.reduceMod, Nat.reduceDiv, Nat.reducePow, UInt8.reduceToNat, Int.reduceEq, Int.reduceLT, Int.reduceLE, ↓reduceIte, Nat.reduceAdd, Int.reduceToNat, reduceCtorEq, Nat.reduceLeDiff]
    exact Az (y.ps.length - (j + 1)) (by omega) (by simp; omega) ⟨j + 1, n', g', _, rfl, by omega, hf', hH2.app, by simp; omega, hqi.dec hf1 (fun _ hr => hpX (hRX p hr)), hh, by simp [forget, get]⟩
  ·simp -dsimp (disch := first | assumption | omega | (simp only [Ae]; done) | (simp only [Ae]; omega)) only [↓Ag, Ad, Ai, Ah, eq_self, forall_const, Nat.reduceLT, Nat.reduceEqDiff, Nat.reduceSub, Nat.reduceMul, Nat.reduceMod, Nat.reduceDiv, Nat.reducePow, UInt8.reduceToNat, Int.reduceEq, Int.reduceLT, Int.reduceLE, ↓reduceIte, Nat.reduceAdd, Int.reduceToNat, reduceCtorEq, Nat.reduceLeDiff, ↓EG, ↓EF, ↓Je, ↓I7, ↓IC, hg2, AZ, hml, hcp, TJ, MW, pr1, pr2, hcp2]
   exact Az (y.ps.length - (j + 1)) (by omega) (by simp; omega) ⟨j + 1, n', g', _, rfl, by omega, hf', (hH.setml hc').app, by simp; omega, hqi.dec hf1 (fun h => absurd h h0), hh, by simp [forget, get]⟩
end Go.Proofs.YtingoaihnlhiaaaDoor


namespace Go.Proofs.YtingoaihnlhiaaaDoor
open Go.RowKit
variable [A7]
set_option linter.unusedSectionVars false
set_option linter.unusedVariables false
set_option linter.unusedSimpArgs false

theorem OH.congr {l : List Nd} {X : List (List UInt8)} {gi mi mn ml q r io : Nat} {H : List Ob} {f f' : List UInt8 → Nat} {n : Nat} {g : Nat → Nd} {pre : List (List UInt8)} {v : Nat} (h : OH l X gi mi mn ml q r io H f n g pre v) (e : ∀ z, f' z = f z) : OH l X gi mi mn ml q r io H f' n g pre v :=
 ⟨h.ix, h.gr, h.nm, h.inn, by obtain ⟨es, h1, h2⟩ := h.cn; exact ⟨es, h1, h2.congr e⟩, h.qu, h.ou⟩
theorem Aky {l : List Nd} (hok : GOk l) (hl : l.length ≤ 100) (hp : ∀ n ∈ l, n.ps.length ≤ 1000) (h20 : ∀ n ∈ l, n.id.length = 20) {X : List (List UInt8)} (hXn : X.Nodup) (hX : ∀ x ∈ X, x ∈ AA l) {gi mi mn ml q r : Nat} {H : List Ob} {n0 : Nat} {g0 : Nat → Nd}
  (ix : mi < gi ∧ gi < mn ∧ mn < ml ∧ ml < r ∧ r < q) (hgr : H[gi]? = some (.obj 0 (.agg [.mp mi 0, .val (.map none)]))) (hnm : H[mi]? = some (.mpo (.arr 20) (AY l))) (hin : PD (.arr 20) H[mn]? = some (MR X)) (hcn : ∃ es, H[ml]? = some (.mpo (.arr 20) es) ∧ Y0 es (cnt l X)) (hqu : Qu H q r n0 g0)
  (hqi : QIn l X (cnt l X) n0 g0) (hh : Hp 0 n0 g0) {K : TV → List Ob → Prop} (hK : ∀ ids H' io v cp, Abg l (· ∈ X) ids → ids.length ≤ l.length → H'[io]? = some (.obj v (.arr ids.length 20 (ids.map idT))) → K (.tup [.os 20 io v [] 0 ids.length cp, .val .nilIface]) H') :
  vwp Tryd.prog GG (Zq Ef K) [(8, .op gi 0 []), (11, .mp mn 0), (13, .mp ml 0), (17, .op q 0 [])] H := by
 have hql : q < H.length := by obtain ⟨_, _, h1, _⟩ := hqu; exact Au h1
 have hXl : X.length ≤ l.length := by
  have := JY hXn hX
  simpa [AA] using this
 simp -dsimp (disch := first | assumption | omega | (simp only [Ae]; done) | (simp only [Ae]; omega)) only [↓Ag, Ad, Ai, Ah, eq_self, forall_const, Nat.reduceLT, Nat.reduceEqDiff, Nat.reduceSub, Nat.reduceMul, Nat.reduceMod, Nat.reduceDiv, Nat.reducePow, UInt8.reduceToNat, Int.reduceEq, Int.reduceLT, Int.reduceLE, ↓reduceIte, Nat.reduceAdd, Int.reduceToNat, reduceCtorEq, Nat.reduceLeDiff, ↓UB, ↓TT]
 refine BG (fun m e H' => ∃ (R pre : List (List UInt8)) (n : Nat) (g : Nat → Nd) (v cp : Nat), m = R.length ∧ OH l X gi mi mn ml q r H.length H' (cnt l R) n g pre v ∧ QIn l R (cnt l R) n g ∧ Hp 0 n g ∧ (∀ rest, Abg l (· ∈ R) rest → Abg l (· ∈ X) (pre ++ rest)) ∧ R.Nodup ∧ (∀ x ∈ R, x ∈ X) ∧ (∀ x ∈ X, ¬ x ∈ R → ∀ z ∈ R, ¬ x ∈ pOf l z) ∧
  pre.length + R.length ≤ l.length ∧ pre.length ≤ cp ∧ H.length < H'.length ∧ e = [(8, .op gi 0 []), (11, .mp mn 0), (13, .mp ml 0), (17, .op q 0 []), (19, .os 20 H.length v [] 0 pre.length cp)]) X.length ?_ ?_
 ·refine ⟨X, [], n0, g0, 0, 0, rfl, ⟨⟨ix.1, ix.2.1, ix.2.2.1, ix.2.2.2.1, ix.2.2.2.2, hql⟩, ?_, ?_, ?_, ?_, hqu.app, ?_⟩, hqi, hh, fun rest h => h, hXn, fun x hx => hx, fun x hx hno => absurd hx hno, by simpa using hXl, Nat.le_refl _, by simp, by simp [forget, get]⟩
  ·rw [Bf (Au hgr)]; exact hgr
  ·rw [Bf (Au hnm)]; exact hnm
  ·rw [Bf (Nu hin)]; exact hin
  ·obtain ⟨es, h1, h2⟩ := hcn; exact ⟨es, by rw [Bf (Au h1)]; exact h1, h2⟩
  ·rw [Acu rfl]; rfl
 ·clear hgr hnm hin hcn hqi hh hqu
  rintro m e H1 ⟨R, pre, n, g, v, cp, rfl, hH, hqi, hh, hrest, hRn, hRX, hcl, hlen, hcp, hHl, rfl⟩
  have hle := hqi.le
  obtain ⟨vq, cpq, hq, hrow, hcpq, hne⟩ := hH.qu
  have hou := hH.ou
  simp -dsimp (disch := first | assumption | omega | (simp only [Ae]; done) | (simp only [Ae]; omega)) only [↓Ag, Ad, Ai, Ah, eq_self, forall_const, Nat.reduceLT, Nat.reduceEqDiff, Nat.reduceSub, Nat.reduceMul, Nat.reduceMod, Nat.reduceDiv, Nat.reducePow, UInt8.reduceToNat, Int.reduceEq, Int.reduceLT, Int.reduceLE, ↓reduceIte, Nat.reduceAdd, Int.reduceToNat, reduceCtorEq, Nat.reduceLeDiff, ↓UE, hq]
  refine Ea (lenV (by omega) ?_)
  rcases n with _ | n
  ·have hfin := hrest [] (.none fun x hx => by
    obtain ⟨h1, h2⟩ := Adn.1 hx
    obtain ⟨nd, hnd, rfl⟩ := List.mem_map.1 (hX x (hRX x h1))
    obtain ⟨k, hk, _⟩ := (hqi.mem nd).2 ⟨hnd, h1, h2⟩
    omega)
   rw [List.append_nil] at hfin
   simp -dsimp (disch := first | assumption | omega | (simp only [Ae]; done) | (simp only [Ae]; omega)) only [↓Ag, Ad, Ai, Ah, eq_self, forall_const, Nat.reduceLT, Nat.reduceEqDiff, Nat.reduceSub, Nat.reduceMul, Nat.reduceMod, Nat.reduceDiv, Nat.reducePow, UInt8.reduceToNat, Int.reduceEq, Int.reduceLT, Int.reduceLE, ↓reduceIte, Nat.reduceAdd, Int.reduceToNat, reduceCtorEq, Nat.reduceLeDiff, ↓UO, ↓QV]
   exact hK pre _ _ _ _ hfin (by omega) hou
  ·simp -dsimp (disch := first | assumption | omega | (simp only [Ae]; done) | (simp only [Ae]; omega)) only [↓Ag, Ad, Ai, Ah, eq_self, forall_const, Nat.reduceLT, Nat.reduceEqDiff, Nat.reduceSub, Nat.reduceMul, Nat.reduceMod, Nat.reduceDiv, Nat.reducePow, UInt8.reduceToNat, Int.reduceEq, Int.reduceLT, Int.reduceLE, ↓reduceIte, Nat.reduceAdd, Int.reduceToNat, reduceCtorEq, Nat.reduceLeDiff, ↓Iz]
   refine Ea (A3n hH.qu hh fun H2 g2 a1 a2 a3 a4 => ?_)
   obtain ⟨y, hy0⟩ : ∃ y, y = g 0 := ⟨_, rfl⟩
   have hyc := (hqi.mem y).1 ⟨0, by omega, hy0.symm⟩
   obtain ⟨hyl, hyR, hy0c⟩ := hyc
   rw [← hy0]
   have hH2 := hH.fq a2 a1
   have hou2 := hH2.ou
   have hH2l := Au hou2
   have hpt : (pre.map idT).take pre.length = pre.map idT := Ec rfl
   simp -dsimp (disch := first | assumption | omega | (simp only [Ae]; done) | (simp only [Ae]; omega)) only [↓Ag, Ad, Ai, Ah, eq_self, forall_const, Nat.reduceLT, Nat.reduceEqDiff, Nat.reduceSub, Nat.reduceMul, Nat.reduceMod, Nat.reduceDiv, Nat.reducePow, UInt8.reduceToNat, Int.reduceEq, Int.reduceLT, Int.reduceLE, ↓reduceIte, Nat.reduceAdd, Int.reduceToNat, reduceCtorEq, Nat.reduceLeDiff, ↓Iz, ↓Un, ↓TN, AP, Qz, Hm, hou2, hpt]
   have hset : H2.set H.length (Ob.obj (v + 1) (.arr (pre.length + 1) 20 (pre.map idT ++ [.arr 20 1 (y.id.map by8)]))) = H2.set H.length (Ob.obj (v + 1) (.arr (pre ++ [y.id]).length 20 ((pre ++ [y.id]).map idT))) := by simp [AZ]
   rw [hset]
   have hpy : pOf l y.id = y.ps := ZA hok.1.nodup hyl
   have hce : ∀ z, cnt l (R.erase y.id) z + y.ps.count z = cnt l R z := fun z => by rw [AhF hyR z, hpy]
   have hH3 := ((((hH2.seto (pre' := pre ++ [y.id]) (v' := v + 1)).congr hce).app (T := [Ob.obj 0 (TV.agg [TV.arr 20 1 (List.map by8 y.id), TV.sl 20 (List.map idT y.ps), i64 y.tm])])).app (T := [Ob.obj 0 (TV.arr 1 20 [TV.arr 20 1 (List.map by8 y.id)])]))
   have hqi2 : QIn l (R.erase y.id) (fun z => cnt l (R.erase y.id) z + y.ps.count z) n g2 := by
    have h1 := hqi.pop hok.1.nodup hRn
    rw [← hy0] at h1
    exact (h1.sh a3).congr hce
   have hRn' := hRn.erase y.id
   have hRl' : (R.erase y.id).length + 1 = R.length := by
    rw [List.length_erase_of_mem hyR]
    have := List.length_pos_of_mem hyR
    omega
   have hRX' : ∀ x ∈ R.erase y.id, x ∈ X := fun x hx => hRX x (List.mem_of_mem_erase hx)
   have hnc : ∀ p ∈ y.ps, p ≠ y.id := fun p hp e => hok.2 ⟨y, hyl, .base (by rw [← e]; exact hp)⟩
   have e1 : (H2.set H.length (Ob.obj (v + 1) (.arr (pre ++ [y.id]).length 20 ((pre ++ [y.id]).map idT)))).length = H2.length := by simp
   have el : pre.length + 1 = (pre ++ [y.id]).length := by simp
   rw [el]
   refine AhO hok hl hp h20 hX hRX' hRn' hyl (fun p hp hpX => ?_) hH3 hqi2 a4 fun e' H4 n4 g4 q8 q11 q13 q17 q19 b1 b2 b3 b4 => ?_
   ·rw [hRn.mem_erase_iff]
    refine ⟨hnc p hp, Classical.byContradiction fun hno => ?_⟩
    have := hcl p hpX hno y.id hyR
    rw [hpy] at this; exact this hp
   ·have hb2 : H.length < H4.length := by simp at b2; omega
    rw [Ahx]
    refine Az (R.erase y.id).length (by omega) (by omega) ⟨R.erase y.id, pre ++ [y.id], n4, g4, v + 1, (pre ++ [y.id]).length, rfl, b1, b3, b4, fun rest hr => ?_, hRn', hRX', fun x hx hxR z hz => ?_, by simp; omega, Nat.le_refl _, hb2, by simp [forget, q8, q11, q13, q17, q19]⟩
    ·rw [List.append_assoc]
     refine hrest _ (.take hyl (Adn.2 ⟨hyR, hy0c⟩) (fun m hm hf hne => ?_) (hr.congr fun z => ?_))
     ·obtain ⟨hmR, hm0⟩ := Adn.1 hf
      obtain ⟨k, hk, rfl⟩ := (hqi.mem m).2 ⟨hm, hmR, hm0⟩
      have := hh.first k hk
      rw [← hy0] at this
      exact this.less (Ne.symm hne)
     ·rw [hRn.mem_erase_iff]; exact and_comm
    ·have hzR := List.mem_of_mem_erase hz
     by_cases c : x ∈ R
     ·have : x = y.id := Classical.byContradiction fun hne => hxR (hRn.mem_erase_iff.2 ⟨hne, c⟩)
      subst this
      exact Aeg.1 hy0c z hzR
     ·exact hcl x hx c z hzR
end Go.Proofs.YtingoaihnlhiaaaDoor


namespace Go.Proofs.YtingoaihnlhiaaaDoor
open Go.RowKit
variable [A7]
set_option linter.unusedSectionVars false
set_option linter.unusedVariables false
set_option linter.unusedSimpArgs false

theorem AdP {l : List Nd} {x : List UInt8} (h : ¬ x ∈ AA l) : fnd l x = -1 := by
 unfold fnd
 rw [if_neg]
 rintro ⟨n, hn, e⟩; exact h (e ▸ JQ hn)
theorem ApP (l : List Nd) (hl : l.length ≤ 1000) (hp : ∀ n ∈ l, n.ps.length ≤ 1000) (a b : List UInt8) : Et Tryd.prog 14 [.sl 22 (l.map ndT), idT a, idT b] (fun r =>
  (AcD l [a, b] → r = .tup [tb (dec (Rc l [a] b)), i64 ((0 : Nat) : Int)]) ∧ (¬ AcD l [a, b] → r = .tup [tb false, i64 ((80 : Nat) : Int)])) := by
 refine Aq.toPureV (Zx (by simp) ?_)
 simp -dsimp (disch := first | assumption | omega | (simp only [Ae]; done) | (simp only [Ae]; omega)) only [↓Ag, Ad, Ai, Ah, eq_self, forall_const, Nat.reduceLT, Nat.reduceEqDiff, Nat.reduceSub, Nat.reduceMul, Nat.reduceMod, Nat.reduceDiv, Nat.reducePow, UInt8.reduceToNat, Int.reduceEq, Int.reduceLT, Int.reduceLE, ↓reduceIte, Nat.reduceAdd, Int.reduceToNat, reduceCtorEq, Nat.reduceLeDiff, ↓BD, AZ]
 refine (AlE l hl hp).calls rfl fun r hr => ?_
 subst hr
 by_cases hok : GOk l
 ·rw [Adt hok]
  simp -dsimp (disch := first | assumption | omega | (simp only [Ae]; done) | (simp only [Ae]; omega)) only [↓Ag, Ad, Ai, Ah, eq_self, forall_const, Nat.reduceLT, Nat.reduceEqDiff, Nat.reduceSub, Nat.reduceMul, Nat.reduceMod, Nat.reduceDiv, Nat.reducePow, UInt8.reduceToNat, Int.reduceEq, Int.reduceLT, Int.reduceLE, ↓reduceIte, Nat.reduceAdd, Int.reduceToNat, reduceCtorEq, Nat.reduceLeDiff, ↓BD, AZ]
  refine (Acj l a (by omega)).calls rfl fun r hr => ?_
  subst hr
  by_cases ha : a ∈ AA l
  case neg =>
   have hno : ¬ AcD l [a, b] := fun h => ha (FD.1 (List.all_eq_true.1 h.2 a (by simp)))
   rw [AdP ha]
   simp -dsimp (disch := first | assumption | omega | (simp only [Ae]; done) | (simp only [Ae]; omega)) only [↓Ag, Ad, Ai, Ah, eq_self, forall_const, Nat.reduceLT, Nat.reduceEqDiff, Nat.reduceSub, Nat.reduceMul, Nat.reduceMod, Nat.reduceDiv, Nat.reducePow, UInt8.reduceToNat, Int.reduceEq, Int.reduceLT, Int.reduceLE, ↓reduceIte, Nat.reduceAdd, Int.reduceToNat, reduceCtorEq, Nat.reduceLeDiff, ↓BD, AZ]
   exact ⟨fun h => absurd h hno, fun _ => trivial⟩
  obtain ⟨i, hi, hfi, hid⟩ := Vz ha
  rw [hfi]
  simp -dsimp (disch := first | assumption | omega | (simp only [Ae]; done) | (simp only [Ae]; omega)) only [↓Ag, Ad, Ai, Ah, eq_self, forall_const, Nat.reduceLT, Nat.reduceEqDiff, Nat.reduceSub, Nat.reduceMul, Nat.reduceMod, Nat.reduceDiv, Nat.reducePow, UInt8.reduceToNat, Int.reduceEq, Int.reduceLT, Int.reduceLE, ↓reduceIte, Nat.reduceAdd, Int.reduceToNat, reduceCtorEq, Nat.reduceLeDiff, ↓BD, AZ]
  refine (Acj l b (by omega)).calls rfl fun r hr => ?_
  subst hr
  by_cases hb : b ∈ AA l
  case neg =>
   have hno : ¬ AcD l [a, b] := fun h => hb (FD.1 (List.all_eq_true.1 h.2 b (by simp)))
   rw [AdP hb]
   simp -dsimp (disch := first | assumption | omega | (simp only [Ae]; done) | (simp only [Ae]; omega)) only [↓Ag, Ad, Ai, Ah, eq_self, forall_const, Nat.reduceLT, Nat.reduceEqDiff, Nat.reduceSub, Nat.reduceMul, Nat.reduceMod, Nat.reduceDiv, Nat.reducePow, UInt8.reduceToNat, Int.reduceEq, Int.reduceLT, Int.reduceLE, ↓reduceIte, Nat.reduceAdd, Int.reduceToNat, reduceCtorEq, Nat.reduceLeDiff, ↓BD, AZ]
   exact ⟨fun h => absurd h hno, fun _ => trivial⟩
  obtain ⟨j, hj, hfj, hjd⟩ := Vz hb
  rw [hfj]
  have hyes : AcD l [a, b] := ⟨hok, List.all_eq_true.2 fun x hx => by
   rcases List.mem_cons.1 hx with rfl | hx
   ·exact FD.2 ha
   ·rw [List.mem_singleton] at hx; subst hx; exact FD.2 hb⟩
  simp -dsimp (disch := first | assumption | omega | (simp only [Ae]; done) | (simp only [Ae]; omega)) only [↓Ag, Ad, Ai, Ah, eq_self, forall_const, Nat.reduceLT, Nat.reduceEqDiff, Nat.reduceSub, Nat.reduceMul, Nat.reduceMod, Nat.reduceDiv, Nat.reducePow, UInt8.reduceToNat, Int.reduceEq, Int.reduceLT, Int.reduceLE, ↓reduceIte, Nat.reduceAdd, Int.reduceToNat, reduceCtorEq, Nat.reduceLeDiff, ↓BD, AZ]
  refine Ao9 (by rfl) (by rfl) (by simp) ?_
  simp -dsimp (disch := first | assumption | omega | (simp only [Ae]; done) | (simp only [Ae]; omega)) only [↓Ag, Ad, Ai, Ah, eq_self, forall_const, Nat.reduceLT, Nat.reduceEqDiff, Nat.reduceSub, Nat.reduceMul, Nat.reduceMod, Nat.reduceDiv, Nat.reducePow, UInt8.reduceToNat, Int.reduceEq, Int.reduceLT, Int.reduceLE, ↓reduceIte, Nat.reduceAdd, Int.reduceToNat, reduceCtorEq, Nat.reduceLeDiff, ↓BD, AqG]
  refine (show Et _ _ [.sl 22 (l.map ndT), .sl 20 ([a].map idT)] _ from Ahd l [a] hok.1 hl (fun x hx => by rw [List.mem_singleton] at hx; subst hx; exact ha) (fun n hn => Nat.le_trans (hp n hn) (by omega)) (by simp)).calls rfl fun r hr => ?_
  subst hr
  simp -dsimp (disch := first | assumption | omega | (simp only [Ae]; done) | (simp only [Ae]; omega)) only [↓Ag, Ad, Ai, Ah, eq_self, forall_const, Nat.reduceLT, Nat.reduceEqDiff, Nat.reduceSub, Nat.reduceMul, Nat.reduceMod, Nat.reduceDiv, Nat.reducePow, UInt8.reduceToNat, Int.reduceEq, Int.reduceLT, Int.reduceLE, ↓reduceIte, Nat.reduceAdd, Int.reduceToNat, reduceCtorEq, Nat.reduceLeDiff, ↓BD, AZ]
  refine (Acj l b (by omega)).calls rfl fun r hr => ?_
  subst hr
  rw [hfj]
  have hget : ((BB l [a]).map tb)[j]? = some (tb (dec (Rc l [a] b))) := by
   rw [List.getElem?_map]
   have h1 := GH (l := l) (S := [a]) hj
   rw [hjd] at h1
   have h2 : j < (BB l [a]).length := by rw [Gp]; exact hj
   rw [List.getElem?_eq_getElem h2] at h1 ⊢
   by_cases h : Rc l [a] b
   ·have h3 := h1.2 h
    rw [Option.map_some, ArY h]; rw [Option.some.inj h3]
   ·have h3 : (BB l [a])[j] ≠ true := fun e => h (h1.1 (by rw [e]))
    rw [Option.map_some, Ar9 h]
    have h4 : (BB l [a])[j] = false := by simpa using h3
    rw [h4]
  simp -dsimp (disch := first | assumption | omega | (simp only [Ae]; done) | (simp only [Ae]; omega)) only [↓Ag, Ad, Ai, Ah, eq_self, forall_const, Nat.reduceLT, Nat.reduceEqDiff, Nat.reduceSub, Nat.reduceMul, Nat.reduceMod, Nat.reduceDiv, Nat.reducePow, UInt8.reduceToNat, Int.reduceEq, Int.reduceLT, Int.reduceLE, ↓reduceIte, Nat.reduceAdd, Int.reduceToNat, reduceCtorEq, Nat.reduceLeDiff, ↓BD, AZ, hget]
  exact ⟨fun _ => trivial, fun h => absurd hyes h⟩
 ·rw [Zj hok]
  have hno : ¬ AcD l [a, b] := fun h => hok h.1
  simp -dsimp (disch := first | assumption | omega | (simp only [Ae]; done) | (simp only [Ae]; omega)) only [↓Ag, Ad, Ai, Ah, eq_self, forall_const, Nat.reduceLT, Nat.reduceEqDiff, Nat.reduceSub, Nat.reduceMul, Nat.reduceMod, Nat.reduceDiv, Nat.reducePow, UInt8.reduceToNat, Int.reduceEq, Int.reduceLT, Int.reduceLE, ↓reduceIte, Nat.reduceAdd, Int.reduceToNat, reduceCtorEq, Nat.reduceLeDiff, ↓BD, AZ]
  exact ⟨fun h => absurd h hno, fun _ => trivial⟩
theorem AoK {l : List Nd} {x : List UInt8} (h : x ∈ AA l) : ∃ i : Nat, fnd l x = i := by
 obtain ⟨i, _, e, _⟩ := Vz h; exact ⟨i, e⟩
theorem Agg (l : List Nd) (hl : l.length ≤ 1000) (ids : List (List UInt8)) (hlen : ids.length ≤ 100000) : Et Tryd.prog 28 [.sl 22 (l.map ndT), .sl 20 (ids.map idT)] (fun r => r = tb (ids.all (Aab l))) := by
 refine Aq.toPureV (Abh (by simp) ?_)
 simp -dsimp (disch := first | assumption | omega | (simp only [Ae]; done) | (simp only [Ae]; omega)) only [↓Ag, Ad, Ai, Ah, eq_self, forall_const, Nat.reduceLT, Nat.reduceEqDiff, Nat.reduceSub, Nat.reduceMul, Nat.reduceMod, Nat.reduceDiv, Nat.reducePow, UInt8.reduceToNat, Int.reduceEq, Int.reduceLT, Int.reduceLE, ↓reduceIte, Nat.reduceAdd, Int.reduceToNat, reduceCtorEq, Nat.reduceLeDiff, ↓Hg]
 refine BG (fun q e H => ∃ i : Nat, q = ids.length - i ∧ i ≤ ids.length ∧ (∀ x ∈ ids.take i, Aab l x = true) ∧ e = [(0, .sl 22 (l.map ndT)), (1, .sl 20 (ids.map idT)), (5, i64 (i : Int))] ∧ H = []) ids.length ?_ ?_
 ·exact ⟨0, by simp, by simp, by simp, rfl, rfl⟩
 ·rintro q e H ⟨i, rfl, hi, hall, rfl, rfl⟩
  by_cases h : i < ids.length
  ·have hg : ids[i]? = some ids[i] := List.getElem?_eq_getElem h
   have hsucc := List.take_succ_eq_append_getElem h
   have hmem := List.getElem_mem h
   generalize ids[i] = x at *
   simp -dsimp (disch := first | assumption | omega | (simp only [Ae]; done) | (simp only [Ae]; omega)) only [↓Ag, Ad, Ai, Ah, eq_self, forall_const, Nat.reduceLT, Nat.reduceEqDiff, Nat.reduceSub, Nat.reduceMul, Nat.reduceMod, Nat.reduceDiv, Nat.reducePow, UInt8.reduceToNat, Int.reduceEq, Int.reduceLT, Int.reduceLE, ↓reduceIte, Nat.reduceAdd, Int.reduceToNat, reduceCtorEq, Nat.reduceLeDiff, ↓Hg, hg, PL, MQ, FQ]
   refine (Acj l x (by omega)).calls rfl fun r hr => ?_
   subst hr
   by_cases hx : x ∈ AA l
   ·obtain ⟨j, hj⟩ := AoK hx
    rw [hj]
    simp -dsimp (disch := first | assumption | omega | (simp only [Ae]; done) | (simp only [Ae]; omega)) only [↓Ag, Ad, Ai, Ah, eq_self, forall_const, Nat.reduceLT, Nat.reduceEqDiff, Nat.reduceSub, Nat.reduceMul, Nat.reduceMod, Nat.reduceDiv, Nat.reducePow, UInt8.reduceToNat, Int.reduceEq, Int.reduceLT, Int.reduceLE, ↓reduceIte, Nat.reduceAdd, Int.reduceToNat, reduceCtorEq, Nat.reduceLeDiff, ↓Hg]
    refine Az (ids.length - (i + 1)) (by omega) (by simp) ⟨i + 1, rfl, by omega, fun y hy => ?_, by simp [forget, get], rfl⟩
    rw [hsucc, List.mem_append, List.mem_singleton] at hy
    rcases hy with hy | rfl
    ·exact hall y hy
    ·exact FD.2 hx
   ·rw [AdP hx]
    have hno : ids.all (Aab l) = false := by
     rw [List.all_eq_false]
     exact ⟨x, hmem, fun e => hx (FD.1 e)⟩
    rw [hno]
    simp -dsimp (disch := first | assumption | omega | (simp only [Ae]; done) | (simp only [Ae]; omega)) only [↓Ag, Ad, Ai, Ah, eq_self, forall_const, Nat.reduceLT, Nat.reduceEqDiff, Nat.reduceSub, Nat.reduceMul, Nat.reduceMod, Nat.reduceDiv, Nat.reducePow, UInt8.reduceToNat, Int.reduceEq, Int.reduceLT, Int.reduceLE, ↓reduceIte, Nat.reduceAdd, Int.reduceToNat, reduceCtorEq, Nat.reduceLeDiff, ↓Hg]
  ·have hi2 : i = ids.length := by omega
   subst hi2
   rw [List.take_length] at hall
   have hyes : ids.all (Aab l) = true := List.all_eq_true.2 hall
   rw [hyes]
   simp -dsimp (disch := first | assumption | omega | (simp only [Ae]; done) | (simp only [Ae]; omega)) only [↓Ag, Ad, Ai, Ah, eq_self, forall_const, Nat.reduceLT, Nat.reduceEqDiff, Nat.reduceSub, Nat.reduceMul, Nat.reduceMod, Nat.reduceDiv, Nat.reducePow, UInt8.reduceToNat, Int.reduceEq, Int.reduceLT, Int.reduceLE, ↓reduceIte, Nat.reduceAdd, Int.reduceToNat, reduceCtorEq, Nat.reduceLeDiff, ↓Hg]
end Go.Proofs.YtingoaihnlhiaaaDoor


namespace Go.Proofs.YtingoaihnlhiaaaDoor
open Go.RowKit
variable [A7]
set_option linter.unusedSectionVars false
set_option linter.unusedVariables false
set_option linter.unusedSimpArgs false

end Go.Proofs.YtingoaihnlhiaaaDoor


namespace Go.Proofs.YtingoaihnlhiaaaDoor
open Go.RowKit
variable [A7]
set_option linter.unusedSectionVars false
set_option linter.unusedVariables false
set_option linter.unusedSimpArgs false

/-- Another one of these reaches it. -/
def A2l (l : List Nd) (s : List (List UInt8)) (x : List UInt8) : Prop := ∃ k ∈ s, k ≠ x ∧ Rc l [k] x
noncomputable def A3I (l : List Nd) (s : List (List UInt8)) : List (List UInt8) := s.filter fun x => !dec (A2l l s x)
end Go.Proofs.YtingoaihnlhiaaaDoor


namespace Go.Proofs.YtingoaihnlhiaaaDoor
open Go.RowKit
variable [A7]
set_option linter.unusedSectionVars false
set_option linter.unusedVariables false
set_option linter.unusedSimpArgs false

end Go.Proofs.YtingoaihnlhiaaaDoor


namespace Go.Proofs.YtingoaihnlhiaaaDoor
open Go.RowKit
variable [A7]
set_option linter.unusedSectionVars false
set_option linter.unusedVariables false
set_option linter.unusedSimpArgs false

theorem Arr (A : List (List UInt8)) (hA : A.length ≤ 100000) : Et Tryd.prog 11 [.sl 20 (A.map idT), .sl 20 (A.map idT)] (fun r => r = tb true) := by
 refine Aq.toPureV (YB (by simp) ?_)
 simp -dsimp (disch := first | assumption | omega | (simp only [Ae]; done) | (simp only [Ae]; omega)) only [↓Ag, Ad, Ai, Ah, eq_self, forall_const, Nat.reduceLT, Nat.reduceEqDiff, Nat.reduceSub, Nat.reduceMul, Nat.reduceMod, Nat.reduceDiv, Nat.reducePow, UInt8.reduceToNat, Int.reduceEq, Int.reduceLT, Int.reduceLE, ↓reduceIte, Nat.reduceAdd, Int.reduceToNat, reduceCtorEq, Nat.reduceLeDiff, ↓IX]
 refine BG (fun q e H => ∃ i : Nat, q = A.length - i ∧ i ≤ A.length ∧ e = [(0, .sl 20 (A.map idT)), (1, .sl 20 (A.map idT)), (5, i64 (i : Int))] ∧ H = []) A.length ?_ ?_
 ·exact ⟨0, by simp, by simp, by simp [forget, get], rfl⟩
 ·rintro q e H ⟨i, rfl, hi, rfl, rfl⟩
  by_cases h : i < A.length
  ·have hg : A[i]? = some A[i] := List.getElem?_eq_getElem h
   generalize A[i] = x at *
   have hb : (x == x) = true := by simp
   simp -dsimp (disch := first | assumption | omega | (simp only [Ae]; done) | (simp only [Ae]; omega)) only [↓Ag, Ad, Ai, Ah, eq_self, forall_const, Nat.reduceLT, Nat.reduceEqDiff, Nat.reduceSub, Nat.reduceMul, Nat.reduceMod, Nat.reduceDiv, Nat.reducePow, UInt8.reduceToNat, Int.reduceEq, Int.reduceLT, Int.reduceLE, ↓reduceIte, Nat.reduceAdd, Int.reduceToNat, reduceCtorEq, Nat.reduceLeDiff, ↓IX, hg, AZ, hb]
   exact Az (A.length - (i + 1)) (by omega) (by simp) ⟨i + 1, rfl, by omega, by simp [forget, get], rfl⟩
  ·have hi2 : i = A.length := by omega
   subst hi2
   simp -dsimp (disch := first | assumption | omega | (simp only [Ae]; done) | (simp only [Ae]; omega)) only [↓Ag, Ad, Ai, Ah, eq_self, forall_const, Nat.reduceLT, Nat.reduceEqDiff, Nat.reduceSub, Nat.reduceMul, Nat.reduceMod, Nat.reduceDiv, Nat.reducePow, UInt8.reduceToNat, Int.reduceEq, Int.reduceLT, Int.reduceLE, ↓reduceIte, Nat.reduceAdd, Int.reduceToNat, reduceCtorEq, Nat.reduceLeDiff, ↓IX]
theorem Ar7 : Et Tryd.prog 11 [.val (.slice none 0 0), .val (.slice none 0 0)] (fun r => r = tb true) := by
 refine Aq.toPureV (YB (by simp) ?_)
 simp -dsimp (disch := first | assumption | omega | (simp only [Ae]; done) | (simp only [Ae]; omega)) only [↓Ag, Ad, Ai, Ah, eq_self, forall_const, Nat.reduceLT, Nat.reduceEqDiff, Nat.reduceSub, Nat.reduceMul, Nat.reduceMod, Nat.reduceDiv, Nat.reducePow, UInt8.reduceToNat, Int.reduceEq, Int.reduceLT, Int.reduceLE, ↓reduceIte, Nat.reduceAdd, Int.reduceToNat, reduceCtorEq, Nat.reduceLeDiff, ↓IX]
 refine BG (fun q e H => e = [(0, .val (.slice none 0 0)), (1, .val (.slice none 0 0)), (5, i64 ((0 : Nat) : Int))] ∧ H = []) 0 ?_ ?_
 ·exact ⟨by simp [forget, get], rfl⟩
 ·rintro q e H ⟨rfl, rfl⟩
  simp -dsimp (disch := first | assumption | omega | (simp only [Ae]; done) | (simp only [Ae]; omega)) only [↓Ag, Ad, Ai, Ah, eq_self, forall_const, Nat.reduceLT, Nat.reduceEqDiff, Nat.reduceSub, Nat.reduceMul, Nat.reduceMod, Nat.reduceDiv, Nat.reducePow, UInt8.reduceToNat, Int.reduceEq, Int.reduceLT, Int.reduceLE, ↓reduceIte, Nat.reduceAdd, Int.reduceToNat, reduceCtorEq, Nat.reduceLeDiff, ↓IX]
end Go.Proofs.YtingoaihnlhiaaaDoor


namespace Go.Proofs.YtingoaihnlhiaaaDoor
open Go.RowKit
variable [A7]
set_option linter.unusedSectionVars false
set_option linter.unusedVariables false
set_option linter.unusedSimpArgs false

end Go.Proofs.YtingoaihnlhiaaaDoor


namespace Go.Proofs.YtingoaihnlhiaaaDoor
open Go.RowKit
variable [A7]
set_option linter.unusedSectionVars false
set_option linter.unusedVariables false
set_option linter.unusedSimpArgs false

end Go.Proofs.YtingoaihnlhiaaaDoor


namespace Go.Proofs.YtingoaihnlhiaaaDoor
open Go.RowKit
variable [A7]
set_option linter.unusedSectionVars false
set_option linter.unusedVariables false
set_option linter.unusedSimpArgs false

end Go.Proofs.YtingoaihnlhiaaaDoor


namespace Go.Proofs.YtingoaihnlhiaaaDoor
open Go.RowKit
variable [A7]
set_option linter.unusedSectionVars false
set_option linter.unusedVariables false
set_option linter.unusedSimpArgs false

/-- A slice of ids, maybe no slice where there are none. -/
def Ids (s : List (List UInt8)) (x : TV) : Prop := x = .sl 20 (s.map idT) ∨ (s = [] ∧ x = .val (.slice none 0 0))
theorem AiC {n : Nat} {k : List UInt8} : kTV (.arr n) k = .arr n 1 (k.map by8) := by rw [kTV]
end Go.Proofs.YtingoaihnlhiaaaDoor


namespace Go.Proofs.YtingoaihnlhiaaaDoor
open Go.RowKit
variable [A7]
set_option linter.unusedSectionVars false
set_option linter.unusedVariables false
set_option linter.unusedSimpArgs false

theorem AmY {l : List Nd} (hn : (AA l).Nodup) {i j : Nat} {x y : Nd} (hx : l[i]? = some x) (hy : l[j]? = some y) (e : x.id = y.id) : i = j := by
 obtain ⟨q1, rfl⟩ := List.getElem?_eq_some_iff.1 hx
 obtain ⟨q2, rfl⟩ := List.getElem?_eq_some_iff.1 hy
 have w1 := FO hn q1
 have w2 := FO hn q2
 rw [e, w2] at w1; omega
/-- None but some of the old objects is another one. -/
def Fz (S : List Nat) (H H' : List Ob) : Prop := H.length ≤ H'.length ∧ ∀ i, i < H.length → ¬ i ∈ S → H'[i]? = H[i]?
theorem Fz.trans {S : List Nat} {H H' H2 : List Ob} (h : Fz S H H') (k : Fz S H' H2) : Fz S H H2 := ⟨Nat.le_trans h.1 k.1, fun i h1 h2 => (k.2 i (Nat.lt_of_lt_of_le h1 h.1) h2).trans (h.2 i h1 h2)⟩
theorem Fz.set {S : List Nat} {H : List Ob} {i : Nat} {o : Ob} (hi : i ∈ S) : Fz S H (H.set i o) := ⟨by simp, fun j _ h => List.getElem?_set_ne (fun (e : i = j) => h (e ▸ hi))⟩
/-- A set of ids, in a map: none is gone, or some are. -/
def InS (o : Option Ob) (X : List (List UInt8)) (zs : List (Nat × List UInt8 × TV)) (cl : Nat) : Prop := stO o = some (.arr 20, zs, cl) ∧ zs.map (·.2) = MR X ∧ (zs.map (·.1)).Nodup ∧ ∀ z ∈ zs, z.1 < cl
theorem InS.new {X : List (List UInt8)} : InS (some (.mpo (.arr 20) (MR X))) X (IP 0 (MR X)) X.length := by
 have hl : (MR X).length = X.length := by simp [MR]
 refine ⟨by rw [Ahv, hl], RU _ _, by rw [RQ]; exact List.nodup_range', fun z hz => ?_⟩
 have := (Ac4 z hz).2
 omega
theorem InS.rd {o : Option Ob} {X : List (List UInt8)} {zs : List (Nat × List UInt8 × TV)} {cl : Nat} (h : InS o X zs cl) : PD (.arr 20) o = some (MR X) := by
 obtain ⟨h1, h2, _⟩ := h
 unfold stO at h1
 split at h1
 ·rename_i kk es
  simp only [Option.some.injEq, Prod.mk.injEq] at h1
  obtain ⟨rfl, rfl, rfl⟩ := h1
  rw [RU] at h2
  simp [PD, h2]
 ·rename_i kk zs' cl'
  simp only [Option.some.injEq, Prod.mk.injEq] at h1
  obtain ⟨rfl, rfl, rfl⟩ := h1
  simp [PD, h2]
 ·cases h1
theorem InS.stIn {o : Option Ob} {X : List (List UInt8)} {zs : List (Nat × List UInt8 × TV)} {cl : Nat} (h : InS o X zs cl) : stIn (.arr 20) o = some (zs, cl) := by
 unfold Go.Proofs.YtingoaihnlhiaaaDoor.stIn
 rw [h.1]; simp
theorem InS.val {o : Option Ob} {X : List (List UInt8)} {zs : List (Nat × List UInt8 × TV)} {cl : Nat} (h : InS o X zs cl) {z : Nat × List UInt8 × TV} (hz : z ∈ zs) : z.2.1 ∈ X ∧ z.2.2 = .agg [] := by
 have h1 : z.2 ∈ MR X := by rw [← h.2.1]; exact List.mem_map_of_mem hz
 obtain ⟨k, hk, e⟩ := List.mem_map.1 h1
 rw [← e]; exact ⟨hk, rfl⟩
theorem UX {α β : Type} (f : α → β) : ∀ (l : List α) (i : Nat), (l.eraseIdx i).map f = (l.map f).eraseIdx i
 | [], _ => by simp
 | a :: l, 0 => by simp
 | a :: l, i + 1 => by simp [UX f l i]
theorem AfN (X : List (List UInt8)) (k : List UInt8) : (MR X).eraseIdx (SC k (MR X)) = MR (X.erase k) := by
 induction X with
 | nil => rfl
 | cons a X ih =>
  unfold MR at ih ⊢
  rw [List.map_cons, SC]
  by_cases h : a = k
  ·subst h; simp
  ·have h2 : (a == k) = false := by simpa using h
   rw [if_neg h, List.eraseIdx_cons_succ, ih, List.erase_cons_tail (by simp [h2]), List.map_cons]
theorem InS.del {o : Option Ob} {X : List (List UInt8)} {zs : List (Nat × List UInt8 × TV)} {cl : Nat} (h : InS o X zs cl) (k : List UInt8) : InS (some (.mpd (.arr 20) (zs.eraseIdx (SC k (zs.map (·.2)))) cl)) (X.erase k) (zs.eraseIdx (SC k (zs.map (·.2)))) cl := by
 obtain ⟨h1, h2, h3, h4⟩ := h
 refine ⟨by rw [Ahj], ?_, ?_, fun z hz => h4 z ((List.eraseIdx_sublist _ _).subset hz)⟩
 ·rw [UX, h2, AfN]
 ·exact h3.sublist ((List.eraseIdx_sublist _ _).map _)
/-- A range: what was seen of its stamps, of its ids. -/
structure Rng (zs : List (Nat × List UInt8 × TV)) (X : List (List UInt8)) (sn : List Nat) (D : List (List UInt8)) : Prop where
 nd : D.Nodup
 eq : ∀ z ∈ zs, (z.1 ∈ sn ↔ z.2.1 ∈ D)
 sub : ∀ x ∈ D, x ∈ X
theorem Rng.start {zs : List (Nat × List UInt8 × TV)} {X : List (List UInt8)} : Rng zs X [] [] := ⟨List.nodup_nil, fun z _ => by simp, by simp⟩
theorem Rng.next {o : Option Ob} {X : List (List UInt8)} {zs : List (Nat × List UInt8 × TV)} {cl : Nat} (h : InS o X zs cl) (hX : X.Nodup) {sn : List Nat} {D : List (List UInt8)} (hr : Rng zs X sn D) {z : Nat × List UInt8 × TV} (hz : z ∈ zs) (hn : z.1 ∉ sn) : Rng zs X (sn ++ [z.1]) (D ++ [z.2.1]) ∧ ¬ z.2.1 ∈ D := by
 have hnew : ¬ z.2.1 ∈ D := fun k => hn ((hr.eq z hz).2 k)
 have hkeys : (zs.map fun z => z.2.1).Nodup := by
  have : (zs.map fun z => z.2.1) = X := by
   have := congrArg (List.map (·.1)) h.2.1
   rw [Zp, List.map_map] at this
   exact this
  rw [this]; exact hX
 have inj : ∀ {α : Type} (f : Nat × List UInt8 × TV → α), (zs.map f).Nodup → ∀ a ∈ zs, ∀ b ∈ zs, f a = f b → a = b := by
  intro α f hnd a ha b hb e
  obtain ⟨i, hi, rfl⟩ := List.getElem_of_mem ha
  obtain ⟨j, hj, rfl⟩ := List.getElem_of_mem hb
  have := (List.getElem_inj (xs := zs.map f) (i := i) (j := j) (h₀ := by simpa using hi) (h₁ := by simpa using hj) hnd).1 (by simpa using e)
  subst this; rfl
 refine ⟨⟨?_, fun z' hz' => ?_, fun x hx => ?_⟩, hnew⟩
 ·rw [List.nodup_append]
  exact ⟨hr.nd, by simp, fun a ha b hb e => by rw [List.mem_singleton] at hb; subst hb; subst e; exact hnew ha⟩
 ·rw [List.mem_append, List.mem_append, List.mem_singleton, List.mem_singleton, hr.eq z' hz']
  refine or_congr Iff.rfl ⟨fun e => ?_, fun e => ?_⟩
  ·rw [inj (·.1) h.2.2.1 z' hz' z hz e]
  ·rw [inj (fun z => z.2.1) hkeys z' hz' z hz e]
 ·rcases List.mem_append.1 hx with hx | hx
  ·exact hr.sub x hx
  ·rw [List.mem_singleton.1 hx]; exact (h.val hz).1
theorem Rng.all {o : Option Ob} {X : List (List UInt8)} {zs : List (Nat × List UInt8 × TV)} {cl : Nat} (h : InS o X zs cl) {sn : List Nat} {D : List (List UInt8)} (hr : Rng zs X sn D) (ha : ∀ z ∈ zs, z.1 ∈ sn) : ∀ x, x ∈ D ↔ x ∈ X := fun x => by
 refine ⟨hr.sub x, fun hx => ?_⟩
 have h1 : (x, TV.agg []) ∈ zs.map (·.2) := by rw [h.2.1]; exact List.mem_map.2 ⟨x, hx, rfl⟩
 obtain ⟨z, hz, e⟩ := List.mem_map.1 h1
 have := (hr.eq z hz).1 (ha z hz)
 rw [e] at this; exact this
theorem Rng.le {zs : List (Nat × List UInt8 × TV)} {X : List (List UInt8)} {sn : List Nat} {D : List (List UInt8)} (hr : Rng zs X sn D) : D.length ≤ X.length := JY hr.nd hr.sub
theorem InS.ent {o : Option Ob} {X : List (List UInt8)} {zs : List (Nat × List UInt8 × TV)} {cl m : Nat} (h : InS o X zs cl) {sn : List Nat} {z : Nat × List UInt8 × TV} (hz : z ∈ zs) : AgN (m, sn ++ [z.1], cl) (.arr 20, zs, cl) = some (.tup [.arr 20 1 (z.2.1.map by8), .agg []]) := by
 rw [AfJ h.2.2.1 hz, AiC, (h.val hz).2]
end Go.Proofs.YtingoaihnlhiaaaDoor


namespace Go.Proofs.YtingoaihnlhiaaaDoor
open Go.RowKit
variable [A7]
set_option linter.unusedSectionVars false
set_option linter.unusedVariables false
set_option linter.unusedSimpArgs false

theorem Qu.pushed {H : List Ob} {q r v n : Nat} {cs : List TV} {f : Nat → Nd} (hq : q < H.length) (hr : r < H.length) (hcs : ∀ i, i < n → cs[i]? = some (ndT (f i))) (hn : n < 100000) (h20 : ∀ i, i < n → (f i).id.length = 20) (hne : q ≠ r) {x : Nd} (hx : x.id.length = 20) :
  Qu ((H.set r (.obj (v + 1) (.arr (n + 1) 22 (cs.take n ++ [ndT x])))).set q (.obj 0 (.os 22 r (v + 1) [] 0 (n + 1) (n + 1)))) q r (n + 1) (fun k => if k = n then x else f k) := by
 have hcl : n ≤ cs.length := by
  rcases Nat.eq_zero_or_pos n with h0 | h0
  ·omega
  ·have := Au (hcs (n - 1) (by omega)); omega
 have htl : (cs.take n).length = n := by simp [hcl]
 refine ⟨v + 1, n + 1, List.getElem?_set_self (by simpa using hq), ⟨n + 1, _, by rw [List.getElem?_set_ne hne, List.getElem?_set_self hr], fun i hi => ?_, by omega, fun i hi => ?_⟩, Nat.le_refl _, hne⟩
 ·by_cases e : i = n
  ·subst e
   rw [List.getElem?_append_right (by omega), htl]; simp
  ·rw [List.getElem?_append_left (by omega), List.getElem?_take, if_pos (by omega), hcs i (by omega)]; simp [e]
 ·by_cases e : i = n
  ·simp only [e, if_true]; exact hx
  ·simp only [e, if_false]; exact h20 i (by omega)
theorem QIn.add {l : List Nd} (hn : (AA l).Nodup) {D : List (List UInt8)} {f : List UInt8 → Nat} {n : Nat} {g : Nat → Nd} (h : QIn l D f n g) {m : Nd} (hm : m ∈ l) (hf : f m.id = 0) (hD : ¬ m.id ∈ D) : QIn l (D ++ [m.id]) f (n + 1) (fun k => if k = n then m else g k) := by
 have hold : ∀ k, k < n → (g k).id ≠ m.id := fun k hk e => hD (by have := ((h.mem (g k)).1 ⟨k, hk, rfl⟩).2.1; rwa [e] at this)
 refine ⟨fun x => ?_, fun i j hi hj e => ?_⟩
 ·constructor
  ·rintro ⟨k, hk, rfl⟩
   by_cases c : k = n
   ·simp only [c, if_true]; exact ⟨hm, by simp, hf⟩
   ·simp only [c, if_false]
    obtain ⟨a, b, d⟩ := (h.mem (g k)).1 ⟨k, by omega, rfl⟩
    exact ⟨a, List.mem_append_left _ b, d⟩
  ·rintro ⟨a, b, d⟩
   rcases List.mem_append.1 b with b | b
   ·obtain ⟨k, hk, rfl⟩ := (h.mem x).2 ⟨a, b, d⟩
    exact ⟨k, by omega, by simp [Nat.ne_of_lt hk]⟩
   ·have e := List.mem_singleton.1 b
    obtain ⟨i, hi⟩ := List.getElem?_of_mem hm
    obtain ⟨j, hj⟩ := List.getElem?_of_mem a
    have : i = j := AmY hn hi hj e.symm
    subst this
    rw [hi] at hj; cases hj
    exact ⟨n, Nat.lt_succ_self n, by simp⟩
 ·by_cases c : i = n <;> by_cases d : j = n
  ·omega
  ·simp only [c, d, if_true, if_false] at e; exact absurd e.symm (hold j (by omega))
  ·simp only [c, d, if_true, if_false] at e; exact absurd e (hold i (by omega))
  ·simp only [c, d, if_false] at e; exact h.inj i j (by omega) (by omega) e
theorem QIn.skip {l : List Nd} {D : List (List UInt8)} {f : List UInt8 → Nat} {n : Nat} {g : Nat → Nd} (h : QIn l D f n g) {k : List UInt8} (hf : f k ≠ 0) : QIn l (D ++ [k]) f n g := by
 refine ⟨fun x => ?_, h.inj⟩
 rw [h.mem x]
 refine and_congr Iff.rfl ⟨fun ⟨a, b⟩ => ⟨List.mem_append_left _ a, b⟩, fun ⟨a, b⟩ => ⟨?_, b⟩⟩
 rcases List.mem_append.1 a with a | a
 ·exact a
 ·rw [List.mem_singleton.1 a] at b; exact absurd b hf
theorem QIn.same {l : List Nd} {D E : List (List UInt8)} {f : List UInt8 → Nat} {n : Nat} {g : Nat → Nd} (h : QIn l D f n g) (e : ∀ x, x ∈ D ↔ x ∈ E) : QIn l E f n g := ⟨fun x => by rw [h.mem x, e], h.inj⟩
theorem Ajf {l : List Nd} (hok : GOk l) (hl : l.length ≤ 100) (hp : ∀ n ∈ l, n.ps.length ≤ 1000) (h20 : ∀ n ∈ l, n.id.length = 20) {X : List (List UInt8)} (hXn : X.Nodup) (hX : ∀ x ∈ X, x ∈ AA l) {gi mi mn ml cl : Nat} {zs : List (Nat × List UInt8 × TV)} {H : List Ob} {es : List (List UInt8 × TV)}
  (ix : mi < gi ∧ gi < mn ∧ mn < ml) (hgr : H[gi]? = some (.obj 0 (.agg [.mp mi 0, .val (.map none)]))) (hnm : H[mi]? = some (.mpo (.arr 20) (AY l))) (hin : InS H[mn]? X zs cl) (hml : H[ml]? = some (.mpo (.arr 20) es)) (hcn : Y0 es (cnt l X)) {K : TV → List Ob → Prop}
  (hK : ∀ ids H' io v cp, Abg l (· ∈ X) ids → ids.length ≤ l.length → H'[io]? = some (.obj v (.arr ids.length 20 (ids.map idT))) → K (.tup [.os 20 io v [] 0 ids.length cp, .val .nilIface]) H') :
  vwp Tryd.prog Gx (Zq Ef K) [(8, .op gi 0 []), (11, .mp mn 0), (13, .mp ml 0)] H := by
 have hmll := Au hml
 have hst := hin.1
 simp -dsimp (disch := first | assumption | omega | (simp only [Ae]; done) | (simp only [Ae]; omega)) only [↓Ag, Ad, Ai, Ah, eq_self, forall_const, Nat.reduceLT, Nat.reduceEqDiff, Nat.reduceSub, Nat.reduceMul, Nat.reduceMod, Nat.reduceDiv, Nat.reducePow, UInt8.reduceToNat, Int.reduceEq, Int.reduceLT, Int.reduceLE, ↓reduceIte, Nat.reduceAdd, Int.reduceToNat, reduceCtorEq, Nat.reduceLeDiff, ↓Uk, ↓Uj, ↓TS, hst]
 refine BG (fun m e H' => ∃ (sn : List Nat) (D : List (List UInt8)) (n : Nat) (g : Nat → Nd), m = X.length - D.length ∧ Rng zs X sn D ∧ (∀ i, i < H.length → H'[i]? = H[i]?) ∧ H.length + 3 ≤ H'.length ∧ H'[H.length + 1 + 1]? = some (.mit mn sn cl) ∧ Qu H' (H.length + 1) H.length n g ∧ QIn l D (cnt l X) n g ∧
  e = [(8, .op gi 0 []), (11, .mp mn 0), (13, .mp ml 0), (17, .op (H.length + 1) 0 []), (78, .op (H.length + 1 + 1) 0 [])]) X.length ?_ ?_
 ·refine ⟨[], [], 0, fun _ => ⟨[], [], 0⟩, by simp, Rng.start, fun i hi => ?_, by simp, ?_, ⟨0, 0, ?_, ⟨0, [], ?_, fun i h => by omega, by omega, fun i h => by omega⟩, by omega, by omega⟩, ⟨fun x => ⟨fun ⟨k, hk, _⟩ => by omega, fun ⟨_, h, _⟩ => by simp at h⟩, fun i j h => by omega⟩, rfl⟩
  ·rw [Bf (by simp; omega), Bf (by simp; omega), Bf hi]
  ·rw [List.getElem?_append_right (by simp)]; simp
  ·rw [Bf (by simp), List.getElem?_append_right (by simp)]; simp
  ·rw [Bf (by simp), Bf (by simp), List.getElem?_append_right (by simp)]; simp
 ·rintro m e H1 ⟨sn, D, n, g, rfl, hR, hlow, hlen, hit, hQ, hqi, rfl⟩
  have hst1 : stO H1[mn]? = some (.arr 20, zs, cl) := by rw [hlow mn (by omega)]; exact hst
  simp -dsimp (disch := first | assumption | omega | (simp only [Ae]; done) | (simp only [Ae]; omega)) only [↓Ag, Ad, Ai, Ah, eq_self, forall_const, Nat.reduceLT, Nat.reduceEqDiff, Nat.reduceSub, Nat.reduceMul, Nat.reduceMod, Nat.reduceDiv, Nat.reducePow, UInt8.reduceToNat, Int.reduceEq, Int.reduceLT, Int.reduceLE, ↓reduceIte, Nat.reduceAdd, Int.reduceToNat, reduceCtorEq, Nat.reduceLeDiff, ↓UK, hit, hst1]
  refine X9 rfl hin.2.2.2 (fun z hz hzn => ?_) (fun hall => ?_)
  ·obtain ⟨hR', hzD⟩ := hR.next hin hXn hz hzn
   have hRl := hR'.le
   rw [List.length_append, List.length_singleton] at hRl
   have hent := hin.ent (m := mn) (sn := sn) hz
   have hzX := (hin.val hz).1
   have hit2 : (H1.set (H.length + 1 + 1) (.mit mn (sn ++ [z.1]) cl))[H.length + 1 + 1]? = some (.mit mn (sn ++ [z.1]) cl) := List.getElem?_set_self (by omega)
   have hlow2 : ∀ i, i < H.length → (H1.set (H.length + 1 + 1) (.mit mn (sn ++ [z.1]) cl))[i]? = H[i]? := fun i hi => by rw [List.getElem?_set_ne (by omega)]; exact hlow i hi
   have hlen2 : (H1.set (H.length + 1 + 1) (.mit mn (sn ++ [z.1]) cl)).length = H1.length := by simp
   have hQ2 := hQ.seti (i := H.length + 1 + 1) (o := .mit mn (sn ++ [z.1]) cl) (by omega) (by omega)
   generalize H1.set (H.length + 1 + 1) (.mit mn (sn ++ [z.1]) cl) = H2 at *
   have hst2 : stO H2[mn]? = some (.arr 20, zs, cl) := by rw [hlow2 mn (by omega)]; exact hst
   have hml2 : H2[ml]? = some (.mpo (.arr 20) es) := by rw [hlow2 ml hmll]; exact hml
   have hgr2 : H2[gi]? = some (.obj 0 (.agg [.mp mi 0, .val (.map none)])) := by rw [hlow2 gi (by omega)]; exact hgr
   have hnm2 : H2[mi]? = some (.mpo (.arr 20) (AY l)) := by rw [hlow2 mi (by omega)]; exact hnm
   obtain ⟨y, hy, hyz⟩ := List.mem_map.1 (hX _ hzX)
   have hcp := hcn z.2.1
   have hlook : Fb z.2.1 (AY l) = some (ndT y) := by rw [← hyz]; exact Eu hok.1.nodup hy
   have hle := hqi.le
   by_cases h0 : cnt l X z.2.1 = 0
   ·rw [h0] at hcp
    obtain ⟨v, cp, hq, ⟨N, cs, hr, hcs, _, hr20⟩, hcpn, hne⟩ := hQ2
    have hcl : n ≤ cs.length := by
     rcases Nat.eq_zero_or_pos n with h0 | h0
     ·omega
     ·have := Au (hcs (n - 1) (by omega)); omega
    simp -dsimp (disch := first | assumption | omega | (simp only [Ae]; done) | (simp only [Ae]; omega)) only [↓Ag, Ad, Ai, Ah, eq_self, forall_const, Nat.reduceLT, Nat.reduceEqDiff, Nat.reduceSub, Nat.reduceMul, Nat.reduceMod, Nat.reduceDiv, Nat.reducePow, UInt8.reduceToNat, Int.reduceEq, Int.reduceLT, Int.reduceLE, ↓reduceIte, Nat.reduceAdd, Int.reduceToNat, reduceCtorEq, Nat.reduceLeDiff, ↓EK, ↓IW, ↓IB, ↓IU, ↓Ux, hit2, hst2, hent, hml2, hcp, hgr2, hnm2, hlook, AP, hq, hr, Qz, Hm]
    rw [← AP]
    have hpu := Qu.pushed (H := H2) (q := H.length + 1) (r := H.length) (v := v) (cs := cs) (x := y) (by omega) (by omega) hcs (by omega) hr20 hne (h20 y hy)
    rw [← hyz] at hR' h0 hzD
    refine Az (X.length - (D.length + 1)) (by omega) (by simp; omega) ⟨sn ++ [z.1], D ++ [y.id], n + 1, _, by simp, hR', fun i hi => ?_, by simp; omega, ?_, hpu.app.app, hqi.add hok.1.nodup hy h0 hzD, by simp [forget, get]⟩
    ·rw [Bf (by simp; omega), Bf (by simp; omega), List.getElem?_set_ne (by omega), List.getElem?_set_ne (by omega)]; exact hlow2 i hi
    ·rw [Bf (by simp; omega), Bf (by simp; omega), List.getElem?_set_ne (by omega), List.getElem?_set_ne (by omega)]; exact hit2
   ·simp -dsimp (disch := first | assumption | omega | (simp only [Ae]; done) | (simp only [Ae]; omega)) only [↓Ag, Ad, Ai, Ah, eq_self, forall_const, Nat.reduceLT, Nat.reduceEqDiff, Nat.reduceSub, Nat.reduceMul, Nat.reduceMod, Nat.reduceDiv, Nat.reducePow, UInt8.reduceToNat, Int.reduceEq, Int.reduceLT, Int.reduceLE, ↓reduceIte, Nat.reduceAdd, Int.reduceToNat, reduceCtorEq, Nat.reduceLeDiff, ↓EK, ↓IW, ↓IB, ↓IU, hit2, hst2, hent, hml2, hcp]
    exact Az (X.length - (D.length + 1)) (by omega) (by simp; omega) ⟨sn ++ [z.1], D ++ [z.2.1], n, g, by simp, hR', fun i hi => by rw [Bf (by omega)]; exact hlow2 i hi, by simp; omega, by rw [Bf (by omega)]; exact hit2, hQ2.app, hqi.skip h0, by simp [forget, get]⟩
  ·have hDX := hR.all hin hall
   simp -dsimp (disch := first | assumption | omega | (simp only [Ae]; done) | (simp only [Ae]; omega)) only [↓Ag, Ad, Ai, Ah, eq_self, forall_const, Nat.reduceLT, Nat.reduceEqDiff, Nat.reduceSub, Nat.reduceMul, Nat.reduceMod, Nat.reduceDiv, Nat.reducePow, UInt8.reduceToNat, Int.reduceEq, Int.reduceLT, Int.reduceLE, ↓reduceIte, Nat.reduceAdd, Int.reduceToNat, reduceCtorEq, Nat.reduceLeDiff, ↓EK, ↓Ut]
   refine Ea (A2A hQ fun H2 g2 a1 a2 a3 a4 => ?_)
   simp -dsimp (disch := first | assumption | omega | (simp only [Ae]; done) | (simp only [Ae]; omega)) only [↓Ag, Ad, Ai, Ah, eq_self, forall_const, Nat.reduceLT, Nat.reduceEqDiff, Nat.reduceSub, Nat.reduceMul, Nat.reduceMod, Nat.reduceDiv, Nat.reducePow, UInt8.reduceToNat, Int.reduceEq, Int.reduceLT, Int.reduceLE, ↓reduceIte, Nat.reduceAdd, Int.reduceToNat, reduceCtorEq, Nat.reduceLeDiff]
   have hlow2 : ∀ i, i < H.length → H2[i]? = H[i]? := fun i hi => by rw [a2.2 i (by omega) (by omega) (by omega)]; exact hlow i hi
   exact Aky hok hl hp h20 hXn hX ⟨ix.1, ix.2.1, ix.2.2, hmll, Nat.lt_succ_self _⟩ (by rw [hlow2 gi (by omega)]; exact hgr) (by rw [hlow2 mi (by omega)]; exact hnm) (by rw [hlow2 mn (by omega)]; exact hin.rd) ⟨es, by rw [hlow2 ml hmll]; exact hml, hcn⟩ a1 ((hqi.same hDX).sh a3) a4 hK
end Go.Proofs.YtingoaihnlhiaaaDoor


namespace Go.Proofs.YtingoaihnlhiaaaDoor
open Go.RowKit
variable [A7]
set_option linter.unusedSectionVars false
set_option linter.unusedVariables false
set_option linter.unusedSimpArgs false

/-- How often each one is named. -/
theorem Ah9 {l : List Nd} (hok : GOk l) (hl : l.length ≤ 100) (hp : ∀ n ∈ l, n.ps.length ≤ 1000) (h20 : ∀ n ∈ l, n.id.length = 20) {X : List (List UInt8)} (hXn : X.Nodup) (hX : ∀ x ∈ X, x ∈ AA l) {gi mi mn cl : Nat} {zs : List (Nat × List UInt8 × TV)} {H : List Ob}
  (ix : mi < gi ∧ gi < mn) (hgr : H[gi]? = some (.obj 0 (.agg [.mp mi 0, .val (.map none)]))) (hnm : H[mi]? = some (.mpo (.arr 20) (AY l))) (hin : InS H[mn]? X zs cl) {K : TV → List Ob → Prop}
  (hK : ∀ ids H' io v cp, Abg l (· ∈ X) ids → ids.length ≤ l.length → H'[io]? = some (.obj v (.arr ids.length 20 (ids.map idT))) → K (.tup [.os 20 io v [] 0 ids.length cp, .val .nilIface]) H') :
  vwp Tryd.prog Gz (Zq Ef K) [(8, .op gi 0 []), (11, .mp mn 0)] H := by
 have hst := hin.1
 have hmnl : mn < H.length := Nu hin.rd
 have hXl : X.length ≤ l.length := by
  have := JY hXn hX
  simpa [AA] using this
 simp -dsimp (disch := first | assumption | omega | (simp only [Ae]; done) | (simp only [Ae]; omega)) only [↓Ag, Ad, Ai, Ah, eq_self, forall_const, Nat.reduceLT, Nat.reduceEqDiff, Nat.reduceSub, Nat.reduceMul, Nat.reduceMod, Nat.reduceDiv, Nat.reducePow, UInt8.reduceToNat, Int.reduceEq, Int.reduceLT, Int.reduceLE, ↓reduceIte, Nat.reduceAdd, Int.reduceToNat, reduceCtorEq, Nat.reduceLeDiff, ↓Uf, ↓TR, ↓UI, hst]
 refine BG (fun m e H' => ∃ (sn : List Nat) (D : List (List UInt8)) (es : List (List UInt8 × TV)), m = X.length - D.length ∧ Rng zs X sn D ∧ (∀ i, i < H.length → H'[i]? = H[i]?) ∧ H.length + 2 ≤ H'.length ∧ H'[H.length + 1]? = some (.mit mn sn cl) ∧ H'[H.length]? = some (.mpo (.arr 20) es) ∧ Y0 es (cnt l D) ∧
  e = [(8, .op gi 0 []), (11, .mp mn 0), (13, .mp H.length 0), (51, .op (H.length + 1) 0 [])]) X.length ?_ ?_
 ·refine ⟨[], [], [], by simp, Rng.start, fun i hi => ?_, by simp, ?_, ?_, Y0.nil.congr fun y => Al1, by simp [forget, get]⟩
  ·rw [Bf (by simp; omega), Bf hi]
  ·rw [List.getElem?_append_right (by simp)]; simp
  ·rw [Bf (by simp), List.getElem?_append_right (by simp)]; simp
 ·rintro m e H1 ⟨sn, D, es, rfl, hR, hlow, hlen, hit, hml, hc, rfl⟩
  have hst1 : stO H1[mn]? = some (.arr 20, zs, cl) := by rw [hlow mn hmnl]; exact hst
  simp -dsimp (disch := first | assumption | omega | (simp only [Ae]; done) | (simp only [Ae]; omega)) only [↓Ag, Ad, Ai, Ah, eq_self, forall_const, Nat.reduceLT, Nat.reduceEqDiff, Nat.reduceSub, Nat.reduceMul, Nat.reduceMod, Nat.reduceDiv, Nat.reducePow, UInt8.reduceToNat, Int.reduceEq, Int.reduceLT, Int.reduceLE, ↓reduceIte, Nat.reduceAdd, Int.reduceToNat, reduceCtorEq, Nat.reduceLeDiff, ↓WA, hit, hst1]
  refine X9 rfl hin.2.2.2 (fun z hz hzn => ?_) (fun hall => ?_)
  ·obtain ⟨hR', hzD⟩ := hR.next hin hXn hz hzn
   have hRl := hR'.le
   rw [List.length_append, List.length_singleton] at hRl
   have hent := hin.ent (m := mn) (sn := sn) hz
   have hzX := (hin.val hz).1
   have hit2 : (H1.set (H.length + 1) (.mit mn (sn ++ [z.1]) cl))[H.length + 1]? = some (.mit mn (sn ++ [z.1]) cl) := List.getElem?_set_self (by omega)
   have hlow2 : ∀ i, i < H.length → (H1.set (H.length + 1) (.mit mn (sn ++ [z.1]) cl))[i]? = H[i]? := fun i hi => by rw [List.getElem?_set_ne (by omega)]; exact hlow i hi
   have hlen2 : (H1.set (H.length + 1) (.mit mn (sn ++ [z.1]) cl)).length = H1.length := by simp
   have hml2 : (H1.set (H.length + 1) (.mit mn (sn ++ [z.1]) cl))[H.length]? = some (.mpo (.arr 20) es) := by rw [List.getElem?_set_ne (by omega)]; exact hml
   generalize H1.set (H.length + 1) (.mit mn (sn ++ [z.1]) cl) = H2 at *
   have hst2 : stO H2[mn]? = some (.arr 20, zs, cl) := by rw [hlow2 mn hmnl]; exact hst
   have hgr2 : H2[gi]? = some (.obj 0 (.agg [.mp mi 0, .val (.map none)])) := by rw [hlow2 gi (by omega)]; exact hgr
   have hnm2 : H2[mi]? = some (.mpo (.arr 20) (AY l)) := by rw [hlow2 mi (by omega)]; exact hnm
   obtain ⟨y, hy, hyz⟩ := List.mem_map.1 (hX _ hzX)
   have hlook : Fb z.2.1 (AY l) = some (ndT y) := by rw [← hyz]; exact Eu hok.1.nodup hy
   have hpy : pOf l z.2.1 = y.ps := by rw [← hyz]; exact ZA hok.1.nodup hy
   have hpl := hp y hy
   have hDb := fun q => AlN hp D q
   simp -dsimp (disch := first | assumption | omega | (simp only [Ae]; done) | (simp only [Ae]; omega)) only [↓Ag, Ad, Ai, Ah, eq_self, forall_const, Nat.reduceLT, Nat.reduceEqDiff, Nat.reduceSub, Nat.reduceMul, Nat.reduceMod, Nat.reduceDiv, Nat.reducePow, UInt8.reduceToNat, Int.reduceEq, Int.reduceLT, Int.reduceLE, ↓reduceIte, Nat.reduceAdd, Int.reduceToNat, reduceCtorEq, Nat.reduceLeDiff, ↓Jr, ↓VB, ↓WE, ↓UZ, hit2, hst2, hent, hgr2, hnm2, hlook, AP]
   refine BG (fun m e H' => ∃ (j : Nat) (es : List (List UInt8 × TV)) (f : List UInt8 → Nat), m = y.ps.length - j ∧ j ≤ y.ps.length ∧ (∀ q, f q = cnt l D q + (y.ps.take j).count q) ∧ (∀ i, i < H.length → H'[i]? = H[i]?) ∧ H2.length + 1 ≤ H'.length ∧ H'[H.length + 1]? = some (.mit mn (sn ++ [z.1]) cl) ∧ H'[H.length]? = some (.mpo (.arr 20) es) ∧ Y0 es f ∧
    e = [(8, .op gi 0 []), (11, .mp mn 0), (13, .mp H.length 0), (51, .op (H.length + 1) 0 []), (62, .sl 20 (y.ps.map idT)), (63, i64 (y.ps.length : Int)), (64, i64 (j : Int))]) y.ps.length ?_ ?_
   ·refine ⟨0, es, cnt l D, rfl, by omega, by simp, fun i hi => by rw [Bf (by omega)]; exact hlow2 i hi, by simp, by rw [Bf (by omega)]; exact hit2, by rw [Bf (by omega)]; exact hml2, hc, by simp [forget, get]⟩
   ·clear hit2 hml2 hlow2 hst2 hgr2 hnm2 hc hml
    rintro m e H3 ⟨j, es, f, rfl, hj, hf, hlow3, hlen3, hit3, hml3, hc, rfl⟩
    by_cases h : j < y.ps.length
    ·have hg2 : y.ps[j]? = some y.ps[j] := List.getElem?_eq_getElem h
     have hsucc := List.take_succ_eq_append_getElem h
     generalize y.ps[j] = p at *
     have hcp := hc p
     have hfp := hf p
     have hfb : (y.ps.take j).count p ≤ j := Nat.le_trans List.count_le_length (by rw [List.length_take]; omega)
     have hDp := hDb p
     have hfm : f p ≤ 1000000 := by omega
     simp -dsimp (disch := first | assumption | omega | (simp only [Ae]; done) | (simp only [Ae]; omega)) only [↓Ag, Ad, Ai, Ah, eq_self, forall_const, Nat.reduceLT, Nat.reduceEqDiff, Nat.reduceSub, Nat.reduceMul, Nat.reduceMod, Nat.reduceDiv, Nat.reducePow, UInt8.reduceToNat, Int.reduceEq, Int.reduceLT, Int.reduceLE, ↓reduceIte, Nat.reduceAdd, Int.reduceToNat, reduceCtorEq, Nat.reduceLeDiff, ↓JJ, ↓JE, ↓Vs, hg2, AZ, hml3, hcp, TJ, MW, pr1, pr2]
     refine Az (y.ps.length - (j + 1)) (by omega) (by simp; omega) ⟨j + 1, _, _, rfl, by omega, fun q => ?_, fun i hi => ?_, by simp; omega, ?_, ?_, hc.put p (f p + 1), by simp [forget, get]⟩
     ·rw [hsucc, List.count_append, ← Nat.add_assoc, ← hf q]
      by_cases e : p = q
      ·subst e; simp
      ·simp [e]
     ·rw [Bf (by simp; omega), List.getElem?_set_ne (by omega)]; exact hlow3 i hi
     ·rw [Bf (by simp; omega), List.getElem?_set_ne (by omega)]; exact hit3
     ·rw [Bf (by simp; omega), List.getElem?_set_self (by omega)]
    ·have hj2 : j = y.ps.length := by omega
     rw [hj2, List.take_length] at hf
     simp -dsimp (disch := first | assumption | omega | (simp only [Ae]; done) | (simp only [Ae]; omega)) only [↓Ag, Ad, Ai, Ah, eq_self, forall_const, Nat.reduceLT, Nat.reduceEqDiff, Nat.reduceSub, Nat.reduceMul, Nat.reduceMod, Nat.reduceDiv, Nat.reducePow, UInt8.reduceToNat, Int.reduceEq, Int.reduceLT, Int.reduceLE, ↓reduceIte, Nat.reduceAdd, Int.reduceToNat, reduceCtorEq, Nat.reduceLeDiff, ↓JJ, ↓JE]
     exact Az (X.length - (D.length + 1)) (by omega) (by omega) ⟨sn ++ [z.1], D ++ [z.2.1], es, by simp, hR', hlow3, by omega, hit3, hml3, hc.congr fun q => by rw [AnI, hpy, hf q], by simp [forget, get]⟩
  ·have hDX := hR.all hin hall
   have hperm : D.Perm X := (List.perm_ext_iff_of_nodup hR.nd hXn).2 hDX
   simp -dsimp (disch := first | assumption | omega | (simp only [Ae]; done) | (simp only [Ae]; omega)) only [↓Ag, Ad, Ai, Ah, eq_self, forall_const, Nat.reduceLT, Nat.reduceEqDiff, Nat.reduceSub, Nat.reduceMul, Nat.reduceMod, Nat.reduceDiv, Nat.reducePow, UInt8.reduceToNat, Int.reduceEq, Int.reduceLT, Int.reduceLE, ↓reduceIte, Nat.reduceAdd, Int.reduceToNat, reduceCtorEq, Nat.reduceLeDiff, ↓Jr]
   exact Ajf hok hl hp h20 hXn hX (es := es) ⟨ix.1, ix.2, hmnl⟩ (by rw [hlow gi (by omega)]; exact hgr) (by rw [hlow mi (by omega)]; exact hnm) (by rw [hlow mn hmnl]; exact hin) hml (hc.congr fun q => (Ael hperm q).symm) hK
theorem AnX {l : List Nd} (hok : GOk l) (hl : l.length ≤ 100) (hp : ∀ n ∈ l, n.ps.length ≤ 1000) (h20 : ∀ n ∈ l, n.id.length = 20) {a b A B : List (List UInt8)} (hAn : A.Nodup) (hBn : B.Nodup) (hA : ∀ x ∈ A, x ∈ AA l) (hAr : ∀ x, x ∈ A ↔ Rc l a x) (hBr : ∀ x, x ∈ B ↔ Rc l b x) {gi mi mo mn : Nat} {H : List Ob}
  (ix : mi < gi ∧ gi < mo ∧ mo < mn) (hgr : H[gi]? = some (.obj 0 (.agg [.mp mi 0, .val (.map none)]))) (hnm : H[mi]? = some (.mpo (.arr 20) (AY l))) (ho : H[mo]? = some (.mpo (.arr 20) (MR B))) (hi : H[mn]? = some (.mpo (.arr 20) (MR A))) {K : TV → List Ob → Prop}
  (hK : ∀ ids H' io v cp, Abg l (Aol l a b) ids → ids.length ≤ l.length → H'[io]? = some (.obj v (.arr ids.length 20 (ids.map idT))) → K (.tup [.os 20 io v [] 0 ids.length cp, .val .nilIface]) H') :
  vwp Tryd.prog GK (Zq Ef K) [(8, .op gi 0 []), (10, .mp mo 0), (11, .mp mn 0)] H := by
 have hmnl := Au hi
 have hin : InS (some (.mpo (.arr 20) (MR B))) B (IP 0 (MR B)) B.length := InS.new
 have hBl : (MR B).length = B.length := by simp [MR]
 simp -dsimp (disch := first | assumption | omega | (simp only [Ae]; done) | (simp only [Ae]; omega)) only [↓Ag, Ad, Ai, Ah, eq_self, forall_const, Nat.reduceLT, Nat.reduceEqDiff, Nat.reduceSub, Nat.reduceMul, Nat.reduceMod, Nat.reduceDiv, Nat.reducePow, UInt8.reduceToNat, Int.reduceEq, Int.reduceLT, Int.reduceLE, ↓reduceIte, Nat.reduceAdd, Int.reduceToNat, reduceCtorEq, Nat.reduceLeDiff, ↓Ug, ho, hBl]
 refine BG (fun m e H' => ∃ (sn : List Nat) (D X : List (List UInt8)) (zs : List (Nat × List UInt8 × TV)) (cl : Nat), m = B.length - D.length ∧ Rng (IP 0 (MR B)) B sn D ∧ (∀ i, i < H.length → i ≠ mn → H'[i]? = H[i]?) ∧ H.length + 1 ≤ H'.length ∧ H'[H.length]? = some (.mit mo sn B.length) ∧ InS H'[mn]? X zs cl ∧ X.Nodup ∧ (∀ x, x ∈ X ↔ x ∈ A ∧ ¬ x ∈ D) ∧
  e = [(8, .op gi 0 []), (11, .mp mn 0), (42, .op H.length 0 [])]) B.length ?_ ?_
 ·refine ⟨[], [], A, IP 0 (MR A), A.length, by simp, Rng.start, fun i h _ => Bf h, by simp, by rw [Acu rfl]; rfl, ?_, hAn, by simp, by simp [forget, get]⟩
  rw [Bf hmnl, hi]; exact InS.new
 ·rintro m e H1 ⟨sn, D, X, zs, cl, rfl, hR, hlow, hlen, hit, hX, hXn, hXm, rfl⟩
  have ho1 : H1[mo]? = some (.mpo (.arr 20) (MR B)) := by rw [hlow mo (by omega) (by omega)]; exact ho
  simp -dsimp (disch := first | assumption | omega | (simp only [Ae]; done) | (simp only [Ae]; omega)) only [↓Ag, Ad, Ai, Ah, eq_self, forall_const, Nat.reduceLT, Nat.reduceEqDiff, Nat.reduceSub, Nat.reduceMul, Nat.reduceMod, Nat.reduceDiv, Nat.reducePow, UInt8.reduceToNat, Int.reduceEq, Int.reduceLT, Int.reduceLE, ↓reduceIte, Nat.reduceAdd, Int.reduceToNat, reduceCtorEq, Nat.reduceLeDiff, ↓JH, hit, ho1, hBl]
  refine X9 rfl hin.2.2.2 (fun z hz hzn => ?_) (fun hall => ?_)
  ·obtain ⟨hR', hzD⟩ := hR.next hin hBn hz hzn
   have hRl := hR'.le
   rw [List.length_append, List.length_singleton] at hRl
   have hent := hin.ent (m := mo) (sn := sn) hz
   have hit2 : (H1.set H.length (.mit mo (sn ++ [z.1]) B.length))[H.length]? = some (.mit mo (sn ++ [z.1]) B.length) := List.getElem?_set_self (by omega)
   have hlow2 : ∀ i, i < H.length → i ≠ mn → (H1.set H.length (.mit mo (sn ++ [z.1]) B.length))[i]? = H[i]? := fun i h h2 => by rw [List.getElem?_set_ne (by omega)]; exact hlow i h h2
   have hlen2 : (H1.set H.length (.mit mo (sn ++ [z.1]) B.length)).length = H1.length := by simp
   have hX2 : InS (H1.set H.length (.mit mo (sn ++ [z.1]) B.length))[mn]? X zs cl := by rw [List.getElem?_set_ne (by omega)]; exact hX
   generalize H1.set H.length (.mit mo (sn ++ [z.1]) B.length) = H2 at *
   have ho2 : H2[mo]? = some (.mpo (.arr 20) (MR B)) := by rw [hlow2 mo (by omega) (by omega)]; exact ho
   have hsi := hX2.stIn
   have hdl := hX2.del z.2.1
   simp -dsimp (disch := first | assumption | omega | (simp only [Ae]; done) | (simp only [Ae]; omega)) only [↓Ag, Ad, Ai, Ah, eq_self, forall_const, Nat.reduceLT, Nat.reduceEqDiff, Nat.reduceSub, Nat.reduceMul, Nat.reduceMod, Nat.reduceDiv, Nat.reducePow, UInt8.reduceToNat, Int.reduceEq, Int.reduceLT, Int.reduceLE, ↓reduceIte, Nat.reduceAdd, Int.reduceToNat, reduceCtorEq, Nat.reduceLeDiff, ↓JH, hit2, ho2, hBl, hent, hsi]
   refine Az (B.length - (D.length + 1)) (by omega) (by simp; omega) ⟨sn ++ [z.1], D ++ [z.2.1], X.erase z.2.1, zs.eraseIdx (SC z.2.1 (zs.map (·.2))), cl, by simp, hR', fun i h h2 => ?_, by simp; omega, ?_, ?_, hXn.erase _, fun x => ?_, by simp [forget, get]⟩
   ·rw [Bf (by simp; omega), List.getElem?_set_ne (by omega)]; exact hlow2 i h h2
   ·rw [Bf (by simp; omega), List.getElem?_set_ne (by omega)]; exact hit2
   ·rw [Bf (by simp; omega), List.getElem?_set_self (by omega)]; exact hdl
   ·rw [hXn.mem_erase_iff, hXm x, List.mem_append, List.mem_singleton]
    constructor
    ·rintro ⟨h1, h2, h3⟩; exact ⟨h2, fun h => h.elim h3 h1⟩
    ·rintro ⟨h1, h2⟩; exact ⟨fun h => h2 (.inr h), h1, fun h => h2 (.inl h)⟩
  ·have hDB := hR.all hin hall
   simp -dsimp (disch := first | assumption | omega | (simp only [Ae]; done) | (simp only [Ae]; omega)) only [↓Ag, Ad, Ai, Ah, eq_self, forall_const, Nat.reduceLT, Nat.reduceEqDiff, Nat.reduceSub, Nat.reduceMul, Nat.reduceMod, Nat.reduceDiv, Nat.reducePow, UInt8.reduceToNat, Int.reduceEq, Int.reduceLT, Int.reduceLE, ↓reduceIte, Nat.reduceAdd, Int.reduceToNat, reduceCtorEq, Nat.reduceLeDiff]
   have hS : ∀ x, x ∈ X ↔ Aol l a b x := fun x => by
    rw [hXm x, hDB x, hAr x, hBr x]; rfl
   refine Ah9 hok hl hp h20 hXn (fun x hx => hA x ((hXm x).1 hx).1) ⟨ix.1, by omega⟩ (by rw [hlow gi (by omega) (by omega)]; exact hgr) (by rw [hlow mi (by omega) (by omega)]; exact hnm) hX fun ids H' io v cp h1 h2 h3 => hK ids H' io v cp (h1.congr hS) h2 h3
theorem AmV (l : List Nd) (hl : l.length ≤ 100) (hp : ∀ n ∈ l, n.ps.length ≤ 1000) (h20 : ∀ n ∈ l, n.id.length = 20) (a b : List (List UInt8)) (ha : a.length ≤ 1000) (hb : b.length ≤ 1000) : Et Tryd.prog 7 [.sl 22 (l.map ndT), .sl 20 (a.map idT), .sl 20 (b.map idT)] (fun r =>
  (AcD l (a ++ b) → ∃ ids, r = .tup [.sl 20 (ids.map idT), .val .nilIface] ∧ Abg l (Aol l a b) ids ∧ ids.length ≤ l.length) ∧ (¬ AcD l (a ++ b) → r = .tup [.val (.slice none 0 0), .ifc 36 (i64 ((80 : Nat) : Int))])) := by
 refine Aq.toPureV (ZR (by simp) ?_)
 simp -dsimp (disch := first | assumption | omega | (simp only [Ae]; done) | (simp only [Ae]; omega)) only [↓Ag, Ad, Ai, Ah, eq_self, forall_const, Nat.reduceLT, Nat.reduceEqDiff, Nat.reduceSub, Nat.reduceMul, Nat.reduceMod, Nat.reduceDiv, Nat.reducePow, UInt8.reduceToNat, Int.reduceEq, Int.reduceLT, Int.reduceLE, ↓reduceIte, Nat.reduceAdd, Int.reduceToNat, reduceCtorEq, Nat.reduceLeDiff, ↓QN, ↓IE]
 refine (Ann [a, b] (by simp) (by simp; omega)).lends (args' := [.sl 1 ([a, b].map fun l => .sl 20 (l.map idT))]) ?_ ?_
 ·simp -dsimp (disch := first | assumption | omega | (simp only [Ae]; done) | (simp only [Ae]; omega)) only [↓Ag, Ad, Ai, Ah, eq_self, forall_const, Nat.reduceLT, Nat.reduceEqDiff, Nat.reduceSub, Nat.reduceMul, Nat.reduceMod, Nat.reduceDiv, Nat.reducePow, UInt8.reduceToNat, Int.reduceEq, Int.reduceLT, Int.reduceLE, ↓reduceIte, Nat.reduceAdd, Int.reduceToNat, reduceCtorEq, Nat.reduceLeDiff, Af7]
 rintro x rfl
 have hfl : [a, b].flatten = a ++ b := by simp
 rw [hfl]
 simp -dsimp (disch := first | assumption | omega | (simp only [Ae]; done) | (simp only [Ae]; omega)) only [↓Ag, Ad, Ai, Ah, eq_self, forall_const, Nat.reduceLT, Nat.reduceEqDiff, Nat.reduceSub, Nat.reduceMul, Nat.reduceMod, Nat.reduceDiv, Nat.reducePow, UInt8.reduceToNat, Int.reduceEq, Int.reduceLT, Int.reduceLE, ↓reduceIte, Nat.reduceAdd, Int.reduceToNat, reduceCtorEq, Nat.reduceLeDiff, ↓QN, ↓IE]
 refine Ea (ofH l (by omega) hp (a ++ b) (by simp; omega) (fun hok T => ?_) (fun hno g H' => ?_))
 ·have hin : ∀ x ∈ a ++ b, x ∈ AA l := fun x hx => FD.1 (List.all_eq_true.1 hok.2 x hx)
  have hina : ∀ x ∈ a, x ∈ AA l := fun x hx => hin x (List.mem_append_left _ hx)
  have hinb : ∀ x ∈ b, x ∈ AA l := fun x hx => hin x (List.mem_append_right _ hx)
  simp -dsimp (disch := first | assumption | omega | (simp only [Ae]; done) | (simp only [Ae]; omega)) only [↓Ag, Ad, Ai, Ah, eq_self, forall_const, Nat.reduceLT, Nat.reduceEqDiff, Nat.reduceSub, Nat.reduceMul, Nat.reduceMod, Nat.reduceDiv, Nat.reducePow, UInt8.reduceToNat, Int.reduceEq, Int.reduceLT, Int.reduceLE, ↓reduceIte, Nat.reduceAdd, Int.reduceToNat, reduceCtorEq, Nat.reduceLeDiff, ↓IQ, ↓Uc]
  refine Ea (Ago hok.1 (by omega) hp (S := b) (by omega) hinb (gi := 2) (mi := 1) rfl rfl rfl (fun K k0 k1 => AlA (by omega) k0 k1) (fun B T1 hndB hmB => ?_))
  simp -dsimp (disch := first | assumption | omega | (simp only [Ae]; done) | (simp only [Ae]; omega)) only [↓Ag, Ad, Ai, Ah, eq_self, forall_const, Nat.reduceLT, Nat.reduceEqDiff, Nat.reduceSub, Nat.reduceMul, Nat.reduceMod, Nat.reduceDiv, Nat.reducePow, UInt8.reduceToNat, Int.reduceEq, Int.reduceLT, Int.reduceLE, ↓reduceIte, Nat.reduceAdd, Int.reduceToNat, reduceCtorEq, Nat.reduceLeDiff, ↓TL]
  refine Ea (Ago hok.1 (by omega) hp (S := a) (by omega) hina (gi := 2) (mi := 1) rfl rfl rfl (fun K k0 k1 => AlA (by omega) k0 k1) (fun A T2 hndA hmA => ?_))
  simp -dsimp (disch := first | assumption | omega | (simp only [Ae]; done) | (simp only [Ae]; omega)) only [↓Ag, Ad, Ai, Ah, eq_self, forall_const, Nat.reduceLT, Nat.reduceEqDiff, Nat.reduceSub, Nat.reduceMul, Nat.reduceMod, Nat.reduceDiv, Nat.reducePow, UInt8.reduceToNat, Int.reduceEq, Int.reduceLT, Int.reduceLE, ↓reduceIte, Nat.reduceAdd, Int.reduceToNat, reduceCtorEq, Nat.reduceLeDiff]
  refine AnX hok.1 hl hp h20 (a := a) (b := b) hndA hndB (fun x hx => Rc.there hok.1.1 hina ((hmA x).1 hx)) hmA hmB (gi := 2) (mi := 1) ?_ rfl rfl ?_ ?_ fun ids H' io v cp h1 h2 h3 => ?_
  ·omega
  ·simp only [List.getElem?_cons_succ]
   rw [List.append_assoc, List.getElem?_append_right (Nat.le_refl _)]; simp
  ·simp only [List.getElem?_cons_succ]
   rw [List.getElem?_append_right (by simp)]; simp
  ·have hpt : (ids.map idT).take ids.length = ids.map idT := Ec rfl
   simp -dsimp (disch := first | assumption | omega | (simp only [Ae]; done) | (simp only [Ae]; omega)) only [↓Ag, Ad, Ai, Ah, eq_self, forall_const, Nat.reduceLT, Nat.reduceEqDiff, Nat.reduceSub, Nat.reduceMul, Nat.reduceMod, Nat.reduceDiv, Nat.reducePow, UInt8.reduceToNat, Int.reduceEq, Int.reduceLT, Int.reduceLE, ↓reduceIte, Nat.reduceAdd, Int.reduceToNat, reduceCtorEq, Nat.reduceLeDiff, h3, hpt]
   exact ⟨fun _ => ⟨ids, rfl, h1, h2⟩, fun h => absurd hok h⟩
 ·simp -dsimp (disch := first | assumption | omega | (simp only [Ae]; done) | (simp only [Ae]; omega)) only [↓Ag, Ad, Ai, Ah, eq_self, forall_const, Nat.reduceLT, Nat.reduceEqDiff, Nat.reduceSub, Nat.reduceMul, Nat.reduceMod, Nat.reduceDiv, Nat.reducePow, UInt8.reduceToNat, Int.reduceEq, Int.reduceLT, Int.reduceLE, ↓reduceIte, Nat.reduceAdd, Int.reduceToNat, reduceCtorEq, Nat.reduceLeDiff, ↓IQ, ↓QV]
  exact ⟨fun h => absurd h hno, fun _ => trivial⟩
end Go.Proofs.YtingoaihnlhiaaaDoor


namespace Go.Proofs.YtingoaihnlhiaaaDoor
open Go.RowKit
variable [A7]
set_option linter.unusedSectionVars false
set_option linter.unusedVariables false
set_option linter.unusedSimpArgs false

/-- What is marked. -/
def Mk (l : List Nd) (m : List Bool) (x : List UInt8) : Prop := ∃ (i : Nat) (n : Nd), l[i]? = some n ∧ n.id = x ∧ m[i]? = some true
theorem Mk.at {l : List Nd} (hn : (AA l).Nodup) {m : List Bool} {i : Nat} {n : Nd} (h : l[i]? = some n) : Mk l m n.id ↔ m[i]? = some true := by
 constructor
 ·rintro ⟨j, k, h1, h2, h3⟩
  have e : i = j := by
   obtain ⟨hi, rfl⟩ := List.getElem?_eq_some_iff.1 h
   obtain ⟨hj, rfl⟩ := List.getElem?_eq_some_iff.1 h1
   have q1 := FO hn hi
   have q2 := FO hn hj
   rw [h2, q1] at q2; omega
  rw [e]; exact h3
 ·intro k; exact ⟨i, n, h, rfl, k⟩
theorem AlJ {t : TypeId} {a b : List UInt8} : H9 t .gtr (.string (str a)) (.string (str b)) = some (.bool (decide (ltB b a))) := by
 unfold H9
 rw [binOp_string_gtr]
 simp only [Lib.toList_data, str, Ane]
 show some (Value.bool (!(decide (a < b) || a == b))) = _
 congr 2
 by_cases h1 : a < b
 ·have h2 : ¬ ltB b a := fun h => RI _ (Zr h1 h)
  simp [h1, h2]
 ·by_cases h3 : a = b
  ·subst h3
   have h2 : ¬ ltB a a := RI _
   simp [h2]
  ·have h2 : ltB b a := Classical.byContradiction fun h => h3 (Adg h1 h)
   simp [h1, h2, h3]
/-- Has it still a child among the first k? -/
def An1 (l : List Nd) (m : List Bool) (k : Nat) (x : List UInt8) : Prop := ∃ j, j < k ∧ ∃ n, l[j]? = some n ∧ m[j]? = some true ∧ x ∈ n.ps
theorem Anw {l : List Nd} (hn : (AA l).Nodup) {m : List Bool} {x : List UInt8} : Fre l (Mk l m) x ↔ Mk l m x ∧ ¬ An1 l m l.length x := by
 unfold Fre
 refine and_congr Iff.rfl ⟨?_, ?_⟩
 ·rintro h ⟨j, hj, n, h1, h2, h3⟩
  have := h n.id ⟨j, n, h1, rfl, h2⟩
  rw [ZA hn (List.mem_of_getElem? h1)] at this
  exact this h3
 ·rintro h y ⟨i, n, h1, rfl, h2⟩ hx
  rw [ZA hn (List.mem_of_getElem? h1)] at hx
  exact h ⟨i, (List.getElem?_eq_some_iff.1 h1).1, n, h1, h2, hx⟩
/-- The place of the first one of the free ones that are among the first k; -1: none is. -/
def AlF (l : List Nd) (m : List Bool) (k : Nat) (b : Int) : Prop := (b = -1 ∧ ∀ (i : Nat) n, i < k → l[i]? = some n → ¬ Fre l (Mk l m) n.id) ∨
 ∃ (i : Nat) (n : Nd), b = i ∧ i < k ∧ l[i]? = some n ∧ Fre l (Mk l m) n.id ∧ ∀ (j : Nat) q, j < k → j ≠ i → l[j]? = some q → Fre l (Mk l m) q.id → JK n q = true
set_option maxHeartbeats 2000000 in
theorem Ah4 {l : List Nd} (hn : (AA l).Nodup) (hl : l.length ≤ 1000) (h20 : ∀ n ∈ l, n.id.length = 20) {m : List Bool} (hm : m.length = l.length) {K : TV → List Ob → Prop} {i : Nat} {x : Nd} {b : Int} (h : i < l.length) (hg : l[i]? = some x) (hx20 : x.id.length = 20) (hb : AlF l m i b) :
  ∀ (fr : Bool), (fr = true ↔ Fre l (Mk l m) x.id) → ∀ e : Env, get e 0 = .sl 22 (l.map ndT) → get e 1 = .sl 1 (m.map tb) → get e 5 = i64 b → get e 6 = i64 (i : Int) → get e 7 = tb fr → vwp Tryd.prog JU (Blk 1 (Thn Tryd.prog IJ (Rnd 0 [0, 1, 5, 6] (Blk 0 (Thn Tryd.prog IM (Zq Uz K))) (fun q e H => ∃ (i : Nat) (b : Int), q = l.length - i ∧ i ≤ l.length ∧ AlF l m i b ∧ e = [(0, .sl 22 (l.map ndT)), (1, .sl 1 (m.map tb)), (5, i64 b), (6, i64 (i : Int))] ∧ H = []) (l.length - i)))) e [] := by
 intro fr hfr e g0 g1 g5 g6 g7
 have keep : (¬ Fre l (Mk l m) x.id → AlF l m (i + 1) b) := fun hno => by
  rcases hb with ⟨rfl, hb⟩ | ⟨c, n, rfl, hc, hcn, hcf, hall⟩
  ·refine .inl ⟨rfl, fun j n hj hjn => ?_⟩
   by_cases e : j = i
   ·subst e; rw [hg] at hjn; cases hjn; exact hno
   ·exact hb j n (by omega) hjn
  ·refine .inr ⟨c, n, rfl, by omega, hcn, hcf, fun j q hj hjc hjq hjf => ?_⟩
   by_cases e : j = i
   ·subst e; rw [hg] at hjq; cases hjq; exact absurd hjf hno
   ·exact hall j q (by omega) hjc hjq hjf
 cases fr with
 | false =>
  have hno : ¬ Fre l (Mk l m) x.id := fun h => by have := hfr.2 h; cases this
  simp -dsimp (disch := first | assumption | omega | (simp only [Ae]; done) | (simp only [Ae]; omega)) only [↓Ag, Ad, Ai, Ah, eq_self, forall_const, Nat.reduceLT, Nat.reduceEqDiff, Nat.reduceSub, Nat.reduceMul, Nat.reduceMod, Nat.reduceDiv, Nat.reducePow, UInt8.reduceToNat, Int.reduceEq, Int.reduceLT, Int.reduceLE, ↓reduceIte, Nat.reduceAdd, Int.reduceToNat, reduceCtorEq, Nat.reduceLeDiff, ↓Eb, g0, g1, g5, g6, g7]
  exact Az (l.length - (i + 1)) (by omega) (by simp) ⟨i + 1, b, rfl, by omega, keep hno, by simp [forget, get], rfl⟩
 | true =>
  have hyes := hfr.1 rfl
  rcases hb with ⟨rfl, hb⟩ | ⟨c, n, rfl, hc, hcn, hcf, hall⟩
  ·simp -dsimp (disch := first | assumption | omega | (simp only [Ae]; done) | (simp only [Ae]; omega)) only [↓Ag, Ad, Ai, Ah, eq_self, forall_const, Nat.reduceLT, Nat.reduceEqDiff, Nat.reduceSub, Nat.reduceMul, Nat.reduceMod, Nat.reduceDiv, Nat.reducePow, UInt8.reduceToNat, Int.reduceEq, Int.reduceLT, Int.reduceLE, ↓reduceIte, Nat.reduceAdd, Int.reduceToNat, reduceCtorEq, Nat.reduceLeDiff, ↓Eb, g0, g1, g5, g6, g7]
   exact Az (l.length - (i + 1)) (by omega) (by simp) ⟨i + 1, i, rfl, by omega, .inr ⟨i, x, rfl, by omega, hg, hyes, fun j q hj hji hjq hjf => absurd hjf (hb j q (by omega) hjq)⟩, by simp [forget, get], rfl⟩
  ·have hn20 := h20 n (List.mem_of_getElem? hcn)
   have hne : n.id ≠ x.id := fun e => by
    obtain ⟨q1, rfl⟩ := List.getElem?_eq_some_iff.1 hcn
    obtain ⟨q2, rfl⟩ := List.getElem?_eq_some_iff.1 hg
    have w1 := FO hn q1
    have w2 := FO hn q2
    rw [e, w2] at w1; omega
   have new : JK x n = true → AlF l m (i + 1) i := fun hl => .inr ⟨i, x, rfl, by omega, hg, hyes, fun j q hj hji hjq hjf => by
    by_cases e : j = c
    ·subst e; rw [hcn] at hjq; cases hjq; exact hl
    ·have h1 := hall j q (by omega) e hjq hjf
     have hqx : x.id ≠ q.id := fun e => by
      obtain ⟨q1, rfl⟩ := List.getElem?_eq_some_iff.1 hjq
      obtain ⟨q2, rfl⟩ := List.getElem?_eq_some_iff.1 hg
      have w1 := FO hn q1
      have w2 := FO hn q2
      rw [← e, w2] at w1; omega
     exact ((Ra.of_less hl).trans (Ra.of_less h1)).less hqx⟩
   have old : JK x n = false → AlF l m (i + 1) c := fun hl => .inr ⟨c, n, rfl, by omega, hcn, hcf, fun j q hj hjc hjq hjf => by
    by_cases e : j = i
    ·subst e; rw [hg] at hjq; cases hjq; exact Ra.less hl hne
    ·exact hall j q (by omega) hjc hjq hjf⟩
   by_cases t1 : n.tm < x.tm
   ·have hl : JK x n = true := I5.2 (.inl t1)
    simp -dsimp (disch := first | assumption | omega | (simp only [Ae]; done) | (simp only [Ae]; omega)) only [↓Ag, Ad, Ai, Ah, eq_self, forall_const, Nat.reduceLT, Nat.reduceEqDiff, Nat.reduceSub, Nat.reduceMul, Nat.reduceMod, Nat.reduceDiv, Nat.reducePow, UInt8.reduceToNat, Int.reduceEq, Int.reduceLT, Int.reduceLE, ↓reduceIte, Nat.reduceAdd, Int.reduceToNat, reduceCtorEq, Nat.reduceLeDiff, ↓Eb, g0, g1, g5, g6, g7, hg, hcn, AP]
    exact Az (l.length - (i + 1)) (by omega) (by simp) ⟨i + 1, i, rfl, by omega, new hl, by simp [forget, get], rfl⟩
   ·by_cases t2 : x.tm = n.tm
    ·have hxt : (x.id.map by8).take 20 = x.id.map by8 := List.take_of_length_le (by simp [hx20])
     have hnt : (n.id.map by8).take 20 = n.id.map by8 := List.take_of_length_le (by simp [hn20])
     by_cases t3 : ltB n.id x.id
     ·have hl : JK x n = true := I5.2 (.inr ⟨t2.symm, t3⟩)
      have d3 : decide (ltB n.id x.id) = true := decide_eq_true t3
      simp -dsimp (disch := first | assumption | omega | (simp only [Ae]; done) | (simp only [Ae]; omega)) only [↓Ag, Ad, Ai, Ah, eq_self, forall_const, Nat.reduceLT, Nat.reduceEqDiff, Nat.reduceSub, Nat.reduceMul, Nat.reduceMod, Nat.reduceDiv, Nat.reducePow, UInt8.reduceToNat, Int.reduceEq, Int.reduceLT, Int.reduceLE, ↓reduceIte, Nat.reduceAdd, Int.reduceToNat, reduceCtorEq, Nat.reduceLeDiff, ↓Eb, g0, g1, g5, g6, g7, hg, hcn, AP, hxt, hnt, AlJ, d3]
      exact Az (l.length - (i + 1)) (by omega) (by simp) ⟨i + 1, i, rfl, by omega, new hl, by simp [forget, get], rfl⟩
     ·have hl : JK x n = false := by
       rw [← Bool.not_eq_true, I5]
       rintro (h1 | ⟨_, h1⟩)
       ·omega
       ·exact t3 h1
      have d3 : decide (ltB n.id x.id) = false := decide_eq_false t3
      simp -dsimp (disch := first | assumption | omega | (simp only [Ae]; done) | (simp only [Ae]; omega)) only [↓Ag, Ad, Ai, Ah, eq_self, forall_const, Nat.reduceLT, Nat.reduceEqDiff, Nat.reduceSub, Nat.reduceMul, Nat.reduceMod, Nat.reduceDiv, Nat.reducePow, UInt8.reduceToNat, Int.reduceEq, Int.reduceLT, Int.reduceLE, ↓reduceIte, Nat.reduceAdd, Int.reduceToNat, reduceCtorEq, Nat.reduceLeDiff, ↓Eb, g0, g1, g5, g6, g7, hg, hcn, AP, hxt, hnt, AlJ, d3]
      exact Az (l.length - (i + 1)) (by omega) (by simp) ⟨i + 1, c, rfl, by omega, old hl, by simp [forget, get], rfl⟩
    ·have hl : JK x n = false := by
      rw [← Bool.not_eq_true, I5]
      rintro (h1 | ⟨h1, _⟩) <;> omega
     simp -dsimp (disch := first | assumption | omega | (simp only [Ae]; done) | (simp only [Ae]; omega)) only [↓Ag, Ad, Ai, Ah, eq_self, forall_const, Nat.reduceLT, Nat.reduceEqDiff, Nat.reduceSub, Nat.reduceMul, Nat.reduceMod, Nat.reduceDiv, Nat.reducePow, UInt8.reduceToNat, Int.reduceEq, Int.reduceLT, Int.reduceLE, ↓reduceIte, Nat.reduceAdd, Int.reduceToNat, reduceCtorEq, Nat.reduceLeDiff, ↓Eb, g0, g1, g5, g6, g7, hg, hcn, AP]
     exact Az (l.length - (i + 1)) (by omega) (by simp) ⟨i + 1, c, rfl, by omega, old hl, by simp [forget, get], rfl⟩
set_option maxHeartbeats 2000000 in
theorem A2n {l : List Nd} (hn : (AA l).Nodup) (hl : l.length ≤ 1000) (hp : ∀ n ∈ l, n.ps.length ≤ 1000) (h20 : ∀ n ∈ l, n.id.length = 20) {m : List Bool} (hm : m.length = l.length) {K : TV → List Ob → Prop} (hK : ∀ b, AlF l m l.length b → K (i64 b) []) : Aq Tryd.prog 30 [.sl 22 (l.map ndT), .sl 1 (m.map tb)] [] K := by
 refine AbZ (by simp) ?_
 simp -dsimp (disch := first | assumption | omega | (simp only [Ae]; done) | (simp only [Ae]; omega)) only [↓Ag, Ad, Ai, Ah, eq_self, forall_const, Nat.reduceLT, Nat.reduceEqDiff, Nat.reduceSub, Nat.reduceMul, Nat.reduceMod, Nat.reduceDiv, Nat.reducePow, UInt8.reduceToNat, Int.reduceEq, Int.reduceLT, Int.reduceLE, ↓reduceIte, Nat.reduceAdd, Int.reduceToNat, reduceCtorEq, Nat.reduceLeDiff, ↓Eb]
 refine BG (fun q e H => ∃ (i : Nat) (b : Int), q = l.length - i ∧ i ≤ l.length ∧ AlF l m i b ∧ e = [(0, .sl 22 (l.map ndT)), (1, .sl 1 (m.map tb)), (5, i64 b), (6, i64 (i : Int))] ∧ H = []) l.length ?_ ?_
 ·exact ⟨0, -1, rfl, by omega, .inl ⟨rfl, fun i n h => by omega⟩, rfl, rfl⟩
 ·rintro q e H ⟨i, b, rfl, hi, hb, rfl, rfl⟩
  by_cases h : i < l.length
  case neg =>
   have hi2 : i = l.length := by omega
   subst hi2
   simp -dsimp (disch := first | assumption | omega | (simp only [Ae]; done) | (simp only [Ae]; omega)) only [↓Ag, Ad, Ai, Ah, eq_self, forall_const, Nat.reduceLT, Nat.reduceEqDiff, Nat.reduceSub, Nat.reduceMul, Nat.reduceMod, Nat.reduceDiv, Nat.reducePow, UInt8.reduceToNat, Int.reduceEq, Int.reduceLT, Int.reduceLE, ↓reduceIte, Nat.reduceAdd, Int.reduceToNat, reduceCtorEq, Nat.reduceLeDiff, ↓Eb]
   exact hK b hb
  have hg : l[i]? = some l[i] := List.getElem?_eq_getElem h
  have hmi : m[i]? = some m[i] := List.getElem?_eq_getElem (by omega)
  have hxm := List.getElem_mem h
  generalize l[i] = x at *
  generalize hm0 : m[i] = mi at *
  have hx20 := h20 x hxm
  have hMk := Mk.at hn (m := m) hg
  rw [hmi] at hMk
  -- what follows once it is known whether it is free
  have tail := Ah4 hn hl h20 hm (K := K) h hg hx20 hb
  have hfree : ∀ fr : Bool, (fr = true → mi = true ∧ ¬ An1 l m l.length x.id) → (fr = false → mi = false ∨ An1 l m l.length x.id) → (fr = true ↔ Fre l (Mk l m) x.id) := fun fr f1 f2 => by
   rw [Anw hn, hMk]
   cases fr with
   | true => obtain ⟨a, b⟩ := f1 rfl; simp [a, b]
   | false =>
    rcases f2 rfl with a | a
    ·simp [a]
    ·simp [a]
  simp -dsimp (disch := first | assumption | omega | (simp only [Ae]; done) | (simp only [Ae]; omega)) only [↓Ag, Ad, Ai, Ah, eq_self, forall_const, Nat.reduceLT, Nat.reduceEqDiff, Nat.reduceSub, Nat.reduceMul, Nat.reduceMod, Nat.reduceDiv, Nat.reducePow, UInt8.reduceToNat, Int.reduceEq, Int.reduceLT, Int.reduceLE, ↓reduceIte, Nat.reduceAdd, Int.reduceToNat, reduceCtorEq, Nat.reduceLeDiff, ↓KF, ↓Ll, ↓J3, ↓Oa, ↓OB, hmi]
  refine BG (fun q e H => ∃ (k : Nat) (fr : Bool), q = l.length - k ∧ k ≤ l.length ∧ (fr = true → mi = true ∧ ¬ An1 l m k x.id) ∧ (fr = false → mi = false ∨ An1 l m l.length x.id) ∧ e = [(0, .sl 22 (l.map ndT)), (1, .sl 1 (m.map tb)), (5, i64 b), (6, i64 (i : Int)), (7, tb fr), (8, i64 (k : Int))] ∧ H = []) l.length ?_ ?_
  ·refine ⟨0, mi, by omega, by omega, fun h => ⟨h, ?_⟩, fun h => .inl h, rfl, rfl⟩
   rintro ⟨j, hj, _⟩; omega
  ·rintro q e H ⟨k, fr, rfl, hk, hf1, hf2, rfl, rfl⟩
   cases fr with
   | false =>
    have hff := hfree false (fun h => by cases h) hf2
    by_cases h2 : k < l.length
    ·simp -dsimp (disch := first | assumption | omega | (simp only [Ae]; done) | (simp only [Ae]; omega)) only [↓Ag, Ad, Ai, Ah, eq_self, forall_const, Nat.reduceLT, Nat.reduceEqDiff, Nat.reduceSub, Nat.reduceMul, Nat.reduceMod, Nat.reduceDiv, Nat.reducePow, UInt8.reduceToNat, Int.reduceEq, Int.reduceLT, Int.reduceLE, ↓reduceIte, Nat.reduceAdd, Int.reduceToNat, reduceCtorEq, Nat.reduceLeDiff, ↓DL]
     exact tail false hff _ rfl rfl rfl rfl rfl
    ·simp -dsimp (disch := first | assumption | omega | (simp only [Ae]; done) | (simp only [Ae]; omega)) only [↓Ag, Ad, Ai, Ah, eq_self, forall_const, Nat.reduceLT, Nat.reduceEqDiff, Nat.reduceSub, Nat.reduceMul, Nat.reduceMod, Nat.reduceDiv, Nat.reducePow, UInt8.reduceToNat, Int.reduceEq, Int.reduceLT, Int.reduceLE, ↓reduceIte, Nat.reduceAdd, Int.reduceToNat, reduceCtorEq, Nat.reduceLeDiff, ↓DL]
     exact tail false hff _ rfl rfl rfl rfl rfl
   | true =>
    obtain ⟨hmt, hnk⟩ := hf1 rfl
    by_cases h2 : k < l.length
    case neg =>
     have hk2 : k = l.length := by omega
     subst hk2
     simp -dsimp (disch := first | assumption | omega | (simp only [Ae]; done) | (simp only [Ae]; omega)) only [↓Ag, Ad, Ai, Ah, eq_self, forall_const, Nat.reduceLT, Nat.reduceEqDiff, Nat.reduceSub, Nat.reduceMul, Nat.reduceMod, Nat.reduceDiv, Nat.reducePow, UInt8.reduceToNat, Int.reduceEq, Int.reduceLT, Int.reduceLE, ↓reduceIte, Nat.reduceAdd, Int.reduceToNat, reduceCtorEq, Nat.reduceLeDiff, ↓DL]
     exact tail true (hfree true hf1 hf2) _ rfl rfl rfl rfl rfl
    have hgk : l[k]? = some l[k] := List.getElem?_eq_getElem h2
    have hmk : m[k]? = some m[k] := List.getElem?_eq_getElem (by omega)
    have hym := List.getElem_mem h2
    generalize l[k] = y at *
    generalize hmk0 : m[k] = mk at *
    have hpy := hp y hym
    have hnext : ∀ fr : Bool, (fr = false ↔ mk = true ∧ x.id ∈ y.ps) → (fr = true → mi = true ∧ ¬ An1 l m (k + 1) x.id) ∧ (fr = false → mi = false ∨ An1 l m l.length x.id) := fun fr hfr => by
     refine ⟨fun h => ⟨hmt, ?_⟩, fun h => .inr ⟨k, h2, y, hgk, by rw [hmk, (hfr.1 h).1], (hfr.1 h).2⟩⟩
     rintro ⟨j, hj, n, h1, h3, h4⟩
     by_cases e : j = k
     ·subst e
      rw [hgk] at h1; cases h1
      rw [hmk] at h3; cases h3
      have := hfr.2 ⟨rfl, h4⟩
      rw [h] at this; cases this
     ·exact hnk ⟨j, by omega, n, h1, h3, h4⟩
    simp -dsimp (disch := first | assumption | omega | (simp only [Ae]; done) | (simp only [Ae]; omega)) only [↓Ag, Ad, Ai, Ah, eq_self, forall_const, Nat.reduceLT, Nat.reduceEqDiff, Nat.reduceSub, Nat.reduceMul, Nat.reduceMod, Nat.reduceDiv, Nat.reducePow, UInt8.reduceToNat, Int.reduceEq, Int.reduceLT, Int.reduceLE, ↓reduceIte, Nat.reduceAdd, Int.reduceToNat, reduceCtorEq, Nat.reduceLeDiff, ↓DL, ↓O1, ↓NP]
    refine BG (fun q e H => ∃ (j : Nat) (fr : Bool), q = y.ps.length - j ∧ j ≤ y.ps.length ∧ (fr = false ↔ mk = true ∧ x.id ∈ y.ps.take j) ∧ e = [(0, .sl 22 (l.map ndT)), (1, .sl 1 (m.map tb)), (5, i64 b), (6, i64 (i : Int)), (7, tb fr), (8, i64 (k : Int)), (9, i64 (j : Int))] ∧ H = []) y.ps.length ?_ ?_
    ·exact ⟨0, true, by omega, by omega, by simp, rfl, rfl⟩
    ·rintro q e H ⟨j, fr, rfl, hj, hfj, rfl, rfl⟩
     by_cases h3 : j < y.ps.length
     case neg =>
      have hj2 : j = y.ps.length := by omega
      subst hj2
      rw [List.take_length] at hfj
      obtain ⟨n1, n2⟩ := hnext fr hfj
      simp -dsimp (disch := first | assumption | omega | (simp only [Ae]; done) | (simp only [Ae]; omega)) only [↓Ag, Ad, Ai, Ah, eq_self, forall_const, Nat.reduceLT, Nat.reduceEqDiff, Nat.reduceSub, Nat.reduceMul, Nat.reduceMod, Nat.reduceDiv, Nat.reducePow, UInt8.reduceToNat, Int.reduceEq, Int.reduceLT, Int.reduceLE, ↓reduceIte, Nat.reduceAdd, Int.reduceToNat, reduceCtorEq, Nat.reduceLeDiff, ↓DK, ↓NC, hgk, AP]
      exact Az (l.length - (k + 1)) (by omega) (by simp) ⟨k + 1, fr, rfl, by omega, n1, n2, by simp [forget, get], rfl⟩
     have hgj : y.ps[j]? = some y.ps[j] := List.getElem?_eq_getElem h3
     have hsucc := List.take_succ_eq_append_getElem h3
     generalize y.ps[j] = z at *
     cases mk with
     | false =>
      simp -dsimp (disch := first | assumption | omega | (simp only [Ae]; done) | (simp only [Ae]; omega)) only [↓Ag, Ad, Ai, Ah, eq_self, forall_const, Nat.reduceLT, Nat.reduceEqDiff, Nat.reduceSub, Nat.reduceMul, Nat.reduceMod, Nat.reduceDiv, Nat.reducePow, UInt8.reduceToNat, Int.reduceEq, Int.reduceLT, Int.reduceLE, ↓reduceIte, Nat.reduceAdd, Int.reduceToNat, reduceCtorEq, Nat.reduceLeDiff, ↓DK, ↓Ez, hgk, hmk, AP]
      refine Az (y.ps.length - (j + 1)) (by omega) (by simp) ⟨j + 1, fr, rfl, by omega, ?_, by simp [forget, get], rfl⟩
      rw [hfj]; simp
     | true =>
      by_cases hzx : z = x.id
      ·subst hzx
       have hb2 : (x.id == x.id) = true := by simp
       simp -dsimp (disch := first | assumption | omega | (simp only [Ae]; done) | (simp only [Ae]; omega)) only [↓Ag, Ad, Ai, Ah, eq_self, forall_const, Nat.reduceLT, Nat.reduceEqDiff, Nat.reduceSub, Nat.reduceMul, Nat.reduceMod, Nat.reduceDiv, Nat.reducePow, UInt8.reduceToNat, Int.reduceEq, Int.reduceLT, Int.reduceLE, ↓reduceIte, Nat.reduceAdd, Int.reduceToNat, reduceCtorEq, Nat.reduceLeDiff, ↓DK, ↓Ez, hgk, hmk, hgj, hg, AP, AZ, hb2]
       refine Az (y.ps.length - (j + 1)) (by omega) (by simp) ⟨j + 1, false, rfl, by omega, ?_, by simp [forget, get], rfl⟩
       rw [hsucc]; simp
      ·have hb2 : (z == x.id) = false := by simpa using hzx
       simp -dsimp (disch := first | assumption | omega | (simp only [Ae]; done) | (simp only [Ae]; omega)) only [↓Ag, Ad, Ai, Ah, eq_self, forall_const, Nat.reduceLT, Nat.reduceEqDiff, Nat.reduceSub, Nat.reduceMul, Nat.reduceMod, Nat.reduceDiv, Nat.reducePow, UInt8.reduceToNat, Int.reduceEq, Int.reduceLT, Int.reduceLE, ↓reduceIte, Nat.reduceAdd, Int.reduceToNat, reduceCtorEq, Nat.reduceLeDiff, ↓DK, ↓Ez, hgk, hmk, hgj, hg, AP, AZ, hb2]
       refine Az (y.ps.length - (j + 1)) (by omega) (by simp) ⟨j + 1, fr, rfl, by omega, ?_, by simp [forget, get], rfl⟩
       rw [hfj, hsucc, List.mem_append, List.mem_singleton]
       simp [Ne.symm hzx]
end Go.Proofs.YtingoaihnlhiaaaDoor


namespace Go.Proofs.YtingoaihnlhiaaaDoor
open Go.RowKit
variable [A7]
set_option linter.unusedSectionVars false
set_option linter.unusedVariables false
set_option linter.unusedSimpArgs false

theorem Ars {l : List Nd} (hn : (AA l).Nodup) (hl : l.length ≤ 1000) (hp : ∀ n ∈ l, n.ps.length ≤ 1000) (h20 : ∀ n ∈ l, n.id.length = 20) {m : List Bool} (hm : m.length = l.length) : Et Tryd.prog 30 [.sl 22 (l.map ndT), .sl 1 (m.map tb)] (fun r => ∃ b, r = i64 b ∧ AlF l m l.length b) :=
 Aq.toPureV (A2n hn hl hp h20 hm fun b hb => by simp -dsimp (disch := first | assumption | omega | (simp only [Ae]; done) | (simp only [Ae]; omega)) only [↓Ag, Ad, Ai, Ah, eq_self, forall_const, Nat.reduceLT, Nat.reduceEqDiff, Nat.reduceSub, Nat.reduceMul, Nat.reduceMod, Nat.reduceDiv, Nat.reducePow, UInt8.reduceToNat, Int.reduceEq, Int.reduceLT, Int.reduceLE, ↓reduceIte, Nat.reduceAdd, Int.reduceToNat, reduceCtorEq, Nat.reduceLeDiff]; exact ⟨b, rfl, hb⟩)
theorem ApV {l : List Nd} (hn : (AA l).Nodup) {i j : Nat} {x y : Nd} (hx : l[i]? = some x) (hy : l[j]? = some y) (e : x.id = y.id) : i = j := by
 obtain ⟨q1, rfl⟩ := List.getElem?_eq_some_iff.1 hx
 obtain ⟨q2, rfl⟩ := List.getElem?_eq_some_iff.1 hy
 have w1 := FO hn q1
 have w2 := FO hn q2
 rw [e, w2] at w1; omega
theorem Mk.clear {l : List Nd} (hn : (AA l).Nodup) {m : List Bool} {i : Nat} {n : Nd} (h : l[i]? = some n) (y : List UInt8) : (Mk l m y ∧ y ≠ n.id) ↔ Mk l (m.set i false) y := by
 constructor
 ·rintro ⟨⟨j, q, h1, rfl, h2⟩, h3⟩
  have hji : i ≠ j := fun e => by subst e; rw [h] at h1; cases h1; exact h3 rfl
  exact ⟨j, q, h1, rfl, by rw [List.getElem?_set_ne hji]; exact h2⟩
 ·rintro ⟨j, q, h1, rfl, h2⟩
  by_cases e : i = j
  ·subst e
   rw [List.getElem?_set] at h2
   split at h2
   ·split at h2 <;> cases h2
   ·rename_i hc; exact absurd rfl hc
  ·rw [List.getElem?_set_ne e] at h2
   exact ⟨⟨j, q, h1, rfl, h2⟩, fun he => e (ApV hn h h1 he.symm)⟩
theorem Adi {m : List Bool} {i : Nat} (h : m[i]? = some true) : (m.set i false).count true + 1 = m.count true := by
 induction m generalizing i with
 | nil => simp at h
 | cons a m ih =>
  cases i with
  | zero => simp at h; subst h; simp
  | succ i =>
   have := ih (by simpa using h)
   rw [List.set_cons_succ, List.count_cons, List.count_cons]; omega
/-- Ky of what some reach, and others don't. -/
def A2Y (A B : List Bool) (i : Nat) (m : List Bool) : Prop := m.length = A.length ∧ ∀ j : Nat, m[j]? = if j < i then (A[j]?).bind fun a => (B[j]?).map fun b => a && !b else A[j]?
theorem AhJ (l : List Nd) (hl : l.length ≤ 100) (hp : ∀ n ∈ l, n.ps.length ≤ 1000) (h20 : ∀ n ∈ l, n.id.length = 20) (a b : List (List UInt8)) (ha : a.length ≤ 1000) (hb : b.length ≤ 1000) : Et Tryd.prog 10 [.sl 22 (l.map ndT), .sl 20 (a.map idT), .sl 20 (b.map idT)] (fun r =>
  (AcD l (a ++ b) → ∃ ids, r = .tup [.sl 20 (ids.map idT), i64 ((0 : Nat) : Int)] ∧ Abg l (Aol l a b) ids ∧ ids.length ≤ l.length) ∧ (¬ AcD l (a ++ b) → r = .tup [.val (.slice none 0 0), i64 ((80 : Nat) : Int)])) := by
 have hall : (a ++ b).all (Aab l) = (a.all (Aab l) && b.all (Aab l)) := List.all_append
 refine Aq.toPureV (Abb (by simp) ?_)
 simp -dsimp (disch := first | assumption | omega | (simp only [Ae]; done) | (simp only [Ae]; omega)) only [↓Ag, Ad, Ai, Ah, eq_self, forall_const, Nat.reduceLT, Nat.reduceEqDiff, Nat.reduceSub, Nat.reduceMul, Nat.reduceMod, Nat.reduceDiv, Nat.reducePow, UInt8.reduceToNat, Int.reduceEq, Int.reduceLT, Int.reduceLE, ↓reduceIte, Nat.reduceAdd, Int.reduceToNat, reduceCtorEq, Nat.reduceLeDiff, ↓BX]
 refine (AlE l (by omega) hp).calls rfl fun r hr => ?_
 subst hr
 simp -dsimp (disch := first | assumption | omega | (simp only [Ae]; done) | (simp only [Ae]; omega)) only [↓Ag, Ad, Ai, Ah, eq_self, forall_const, Nat.reduceLT, Nat.reduceEqDiff, Nat.reduceSub, Nat.reduceMul, Nat.reduceMod, Nat.reduceDiv, Nat.reducePow, UInt8.reduceToNat, Int.reduceEq, Int.reduceLT, Int.reduceLE, ↓reduceIte, Nat.reduceAdd, Int.reduceToNat, reduceCtorEq, Nat.reduceLeDiff, ↓BX]
 refine (Agg l (by omega) a (by omega)).calls rfl fun r hr => ?_
 subst hr
 simp -dsimp (disch := first | assumption | omega | (simp only [Ae]; done) | (simp only [Ae]; omega)) only [↓Ag, Ad, Ai, Ah, eq_self, forall_const, Nat.reduceLT, Nat.reduceEqDiff, Nat.reduceSub, Nat.reduceMul, Nat.reduceMod, Nat.reduceDiv, Nat.reducePow, UInt8.reduceToNat, Int.reduceEq, Int.reduceLT, Int.reduceLE, ↓reduceIte, Nat.reduceAdd, Int.reduceToNat, reduceCtorEq, Nat.reduceLeDiff, ↓BX]
 refine (Agg l (by omega) b (by omega)).calls rfl fun r hr => ?_
 subst hr
 by_cases hok : GOk l
 case neg =>
  rw [Zj hok]
  simp -dsimp (disch := first | assumption | omega | (simp only [Ae]; done) | (simp only [Ae]; omega)) only [↓Ag, Ad, Ai, Ah, eq_self, forall_const, Nat.reduceLT, Nat.reduceEqDiff, Nat.reduceSub, Nat.reduceMul, Nat.reduceMod, Nat.reduceDiv, Nat.reducePow, UInt8.reduceToNat, Int.reduceEq, Int.reduceLT, Int.reduceLE, ↓reduceIte, Nat.reduceAdd, Int.reduceToNat, reduceCtorEq, Nat.reduceLeDiff, ↓BX]
  exact ⟨fun h => absurd h.1 hok, fun _ => trivial⟩
 rw [Adt hok]
 cases hka : a.all (Aab l) with
 | false =>
  simp -dsimp (disch := first | assumption | omega | (simp only [Ae]; done) | (simp only [Ae]; omega)) only [↓Ag, Ad, Ai, Ah, eq_self, forall_const, Nat.reduceLT, Nat.reduceEqDiff, Nat.reduceSub, Nat.reduceMul, Nat.reduceMod, Nat.reduceDiv, Nat.reducePow, UInt8.reduceToNat, Int.reduceEq, Int.reduceLT, Int.reduceLE, ↓reduceIte, Nat.reduceAdd, Int.reduceToNat, reduceCtorEq, Nat.reduceLeDiff, ↓BX]
  exact ⟨fun h => (by have := h.2; rw [hall, hka] at this; cases this), fun _ => trivial⟩
 | true =>
 cases hkb : b.all (Aab l) with
 | false =>
  simp -dsimp (disch := first | assumption | omega | (simp only [Ae]; done) | (simp only [Ae]; omega)) only [↓Ag, Ad, Ai, Ah, eq_self, forall_const, Nat.reduceLT, Nat.reduceEqDiff, Nat.reduceSub, Nat.reduceMul, Nat.reduceMod, Nat.reduceDiv, Nat.reducePow, UInt8.reduceToNat, Int.reduceEq, Int.reduceLT, Int.reduceLE, ↓reduceIte, Nat.reduceAdd, Int.reduceToNat, reduceCtorEq, Nat.reduceLeDiff, ↓BX]
  exact ⟨fun h => (by have := h.2; rw [hall, hkb, Bool.and_false] at this; cases this), fun _ => trivial⟩
 | true =>
 have hyes : AcD l (a ++ b) := ⟨hok, by rw [hall, hka, hkb]; rfl⟩
 have hina : ∀ x ∈ a, x ∈ AA l := fun x hx => FD.1 (List.all_eq_true.1 hka x hx)
 have hinb : ∀ x ∈ b, x ∈ AA l := fun x hx => FD.1 (List.all_eq_true.1 hkb x hx)
 simp -dsimp (disch := first | assumption | omega | (simp only [Ae]; done) | (simp only [Ae]; omega)) only [↓Ag, Ad, Ai, Ah, eq_self, forall_const, Nat.reduceLT, Nat.reduceEqDiff, Nat.reduceSub, Nat.reduceMul, Nat.reduceMod, Nat.reduceDiv, Nat.reducePow, UInt8.reduceToNat, Int.reduceEq, Int.reduceLT, Int.reduceLE, ↓reduceIte, Nat.reduceAdd, Int.reduceToNat, reduceCtorEq, Nat.reduceLeDiff, ↓Jq, ↓FI, ↓FP]
 refine Ea ((AlB l a hok.1 (by omega) hina (fun n hn => Nat.le_trans (hp n hn) (by omega)) (by omega)).mono ?_)
 rintro x H' ⟨rfl, rfl⟩
 simp -dsimp (disch := first | assumption | omega | (simp only [Ae]; done) | (simp only [Ae]; omega)) only [↓Ag, Ad, Ai, Ah, eq_self, forall_const, Nat.reduceLT, Nat.reduceEqDiff, Nat.reduceSub, Nat.reduceMul, Nat.reduceMod, Nat.reduceDiv, Nat.reducePow, UInt8.reduceToNat, Int.reduceEq, Int.reduceLT, Int.reduceLE, ↓reduceIte, Nat.reduceAdd, Int.reduceToNat, reduceCtorEq, Nat.reduceLeDiff, ↓FI, ↓FP]
 refine (Ahd l b hok.1 (by omega) hinb (fun n hn => Nat.le_trans (hp n hn) (by omega)) (by omega)).calls rfl fun r hr => ?_
 subst hr
 have hAl : (BB l a).length = l.length := Gp
 have hBl : (BB l b).length = l.length := Gp
 simp -dsimp (disch := first | assumption | omega | (simp only [Ae]; done) | (simp only [Ae]; omega)) only [↓Ag, Ad, Ai, Ah, eq_self, forall_const, Nat.reduceLT, Nat.reduceEqDiff, Nat.reduceSub, Nat.reduceMul, Nat.reduceMod, Nat.reduceDiv, Nat.reducePow, UInt8.reduceToNat, Int.reduceEq, Int.reduceLT, Int.reduceLE, ↓reduceIte, Nat.reduceAdd, Int.reduceToNat, reduceCtorEq, Nat.reduceLeDiff, ↓J8, ↓Lj]
 refine BG (fun q e H => ∃ (i : Nat) (m : List Bool), q = l.length - i ∧ i ≤ l.length ∧ A2Y (BB l a) (BB l b) i m ∧ e = [(0, .sl 22 (l.map ndT)), (11, .os 1 0 0 [] 0 l.length l.length), (12, .sl 1 ((BB l b).map tb)), (13, i64 (i : Int))] ∧ H = [.obj 0 (.arr l.length 1 (m.map tb))]) l.length ?_ ?_
 ·exact ⟨0, BB l a, rfl, by omega, ⟨rfl, fun j => by simp⟩, rfl, rfl⟩
 ·rintro q e H ⟨i, m, rfl, hi, hm, rfl, rfl⟩
  by_cases h : i < l.length
  ·have hA : (BB l a)[i]? = some (BB l a)[i] := List.getElem?_eq_getElem (by omega)
   have hB : (BB l b)[i]? = some (BB l b)[i] := List.getElem?_eq_getElem (by omega)
   generalize (BB l a)[i] = va at *
   generalize (BB l b)[i] = vb at *
   have hmi : m[i]? = some va := by rw [hm.2 i, if_neg (Nat.lt_irrefl _)]; exact hA
   have hmt : (m.map tb)[i]? = some (tb va) := by rw [List.getElem?_map, hmi]; rfl
   have hBt : ((BB l b).map tb)[i]? = some (tb vb) := by rw [List.getElem?_map, hB]; rfl
   have hml : i < m.length := by rw [hm.1]; omega
   have hstep : A2Y (BB l a) (BB l b) (i + 1) (m.set i (va && !vb)) := by
    refine ⟨by simp [hm.1], fun j => ?_⟩
    by_cases e : i = j
    ·subst e; rw [List.getElem?_set_self hml, if_pos (by omega), hA, hB]; rfl
    ·rw [List.getElem?_set_ne e, hm.2 j]
     by_cases h2 : j < i
     ·rw [if_pos h2, if_pos (by omega)]
     ·rw [if_neg h2, if_neg (by omega)]
   have hset : (m.map tb).set i (tb (va && !vb)) = (m.set i (va && !vb)).map tb := by rw [List.map_set]
   cases va with
   | false =>
    simp -dsimp (disch := first | assumption | omega | (simp only [Ae]; done) | (simp only [Ae]; omega)) only [↓Ag, Ad, Ai, Ah, eq_self, forall_const, Nat.reduceLT, Nat.reduceEqDiff, Nat.reduceSub, Nat.reduceMul, Nat.reduceMod, Nat.reduceDiv, Nat.reducePow, UInt8.reduceToNat, Int.reduceEq, Int.reduceLT, Int.reduceLE, ↓reduceIte, Nat.reduceAdd, Int.reduceToNat, reduceCtorEq, Nat.reduceLeDiff, ↓BX, hmt, hBt]
    exact Az (l.length - (i + 1)) (by omega) (by simp) ⟨i + 1, _, rfl, by omega, hstep, by simp [forget, get], by rw [← hset]; rfl⟩
   | true =>
    simp -dsimp (disch := first | assumption | omega | (simp only [Ae]; done) | (simp only [Ae]; omega)) only [↓Ag, Ad, Ai, Ah, eq_self, forall_const, Nat.reduceLT, Nat.reduceEqDiff, Nat.reduceSub, Nat.reduceMul, Nat.reduceMod, Nat.reduceDiv, Nat.reducePow, UInt8.reduceToNat, Int.reduceEq, Int.reduceLT, Int.reduceLE, ↓reduceIte, Nat.reduceAdd, Int.reduceToNat, reduceCtorEq, Nat.reduceLeDiff, ↓BX, hmt, hBt]
    exact Az (l.length - (i + 1)) (by omega) (by simp) ⟨i + 1, _, rfl, by omega, hstep, by simp [forget, get], by rw [← hset]; rfl⟩
  ·have hi2 : i = l.length := by omega
   subst hi2
   have hS : ∀ x, Aol l a b x ↔ Mk l m x := fun x => by
    constructor
    ·rintro ⟨r1, r2⟩
     obtain ⟨j, hj, _, hjd⟩ := Vz (Rc.there hok.1 hina r1)
     refine ⟨j, l[j], List.getElem?_eq_getElem hj, hjd, ?_⟩
     rw [← hjd] at r1 r2
     have h1 := (GH hj).2 r1
     have h2 : (BB l b)[j]? = some false := Air (List.getElem?_eq_getElem (by omega)) fun e => r2 ((GH hj).1 (by rw [List.getElem?_eq_getElem (by omega), e]))
     rw [hm.2 j, if_pos hj, h1, h2]; rfl
    ·rintro ⟨j, n, h1, rfl, h2⟩
     obtain ⟨hj, rfl⟩ := List.getElem?_eq_some_iff.1 h1
     rw [hm.2 j, if_pos hj] at h2
     cases hA : (BB l a)[j]? with
     | none => rw [hA] at h2; cases h2
     | some va =>
      cases hB : (BB l b)[j]? with
      | none => rw [hA, hB] at h2; cases h2
      | some vb =>
       rw [hA, hB] at h2
       cases va <;> cases vb <;> simp at h2
       exact ⟨(GH hj).1 hA, fun h => by have := (GH hj).2 h; rw [hB] at this; cases this⟩
   have hml : m.length = l.length := by rw [hm.1, hAl]
   clear hm
   have hcm : m.count true ≤ l.length := by rw [← hml]; exact List.count_le_length
   simp -dsimp (disch := first | assumption | omega | (simp only [Ae]; done) | (simp only [Ae]; omega)) only [↓Ag, Ad, Ai, Ah, eq_self, forall_const, Nat.reduceLT, Nat.reduceEqDiff, Nat.reduceSub, Nat.reduceMul, Nat.reduceMod, Nat.reduceDiv, Nat.reducePow, UInt8.reduceToNat, Int.reduceEq, Int.reduceLT, Int.reduceLE, ↓reduceIte, Nat.reduceAdd, Int.reduceToNat, reduceCtorEq, Nat.reduceLeDiff, ↓J4, ↓LD, ↓KA]
   refine BG (fun q e H => ∃ (m : List Bool) (pre : List (List UInt8)) (v cp : Nat) (T : List Ob), q = m.count true ∧ m.length = l.length ∧ pre.length + m.count true ≤ l.length ∧ (∀ rest, Abg l (Mk l m) rest → Abg l (Aol l a b) (pre ++ rest)) ∧ pre.length ≤ cp ∧
    e = [(0, .sl 22 (l.map ndT)), (11, .os 1 0 0 [] 0 l.length l.length), (14, .os 20 1 v [] 0 pre.length cp)] ∧ H = .obj 0 (.arr l.length 1 (m.map tb)) :: .obj v (.arr pre.length 20 (pre.map idT)) :: T) (m.count true) ?_ ?_
   ·exact ⟨m, [], 0, 0, [], rfl, hml, by simpa using hcm, fun rest h => by simpa using h.congr fun x => (hS x).symm, Nat.le_refl _, by simp [forget, get], rfl⟩
   ·clear hS hml hcm
    rintro q e H ⟨m, pre, v, cp, T, rfl, hml, hpm, hrest, hcp, rfl, rfl⟩
    have hmt : (m.map tb).take l.length = m.map tb := List.take_of_length_le (by simp [hml])
    simp -dsimp (disch := first | assumption | omega | (simp only [Ae]; done) | (simp only [Ae]; omega)) only [↓Ag, Ad, Ai, Ah, eq_self, forall_const, Nat.reduceLT, Nat.reduceEqDiff, Nat.reduceSub, Nat.reduceMul, Nat.reduceMod, Nat.reduceDiv, Nat.reducePow, UInt8.reduceToNat, Int.reduceEq, Int.reduceLT, Int.reduceLE, ↓reduceIte, Nat.reduceAdd, Int.reduceToNat, reduceCtorEq, Nat.reduceLeDiff, ↓J6]
    refine (Ars hok.1.nodup (by omega) hp h20 hml).lends (args' := [.sl 22 (l.map ndT), .sl 1 (m.map tb)]) ?_ ?_
    ·simp -dsimp (disch := first | assumption | omega | (simp only [Ae]; done) | (simp only [Ae]; omega)) only [↓Ag, Ad, Ai, Ah, eq_self, forall_const, Nat.reduceLT, Nat.reduceEqDiff, Nat.reduceSub, Nat.reduceMul, Nat.reduceMod, Nat.reduceDiv, Nat.reducePow, UInt8.reduceToNat, Int.reduceEq, Int.reduceLT, Int.reduceLE, ↓reduceIte, Nat.reduceAdd, Int.reduceToNat, reduceCtorEq, Nat.reduceLeDiff, hmt]
    ·rintro x ⟨b', rfl, hbest⟩
     refine ⟨rfl, ?_⟩
     rcases hbest with ⟨rfl, hno⟩ | ⟨c, n, rfl, hc, hcn, hcf, hbst⟩
     ·have hfin := hrest [] (.none fun x hx => by
       obtain ⟨j, n, h1, rfl, h2⟩ := hx.1
       exact hno j n (List.getElem?_eq_some_iff.1 h1).1 h1 hx)
      rw [List.append_nil] at hfin
      have hpt : (pre.map idT).take pre.length = pre.map idT := Ec rfl
      simp -dsimp (disch := first | assumption | omega | (simp only [Ae]; done) | (simp only [Ae]; omega)) only [↓Ag, Ad, Ai, Ah, eq_self, forall_const, Nat.reduceLT, Nat.reduceEqDiff, Nat.reduceSub, Nat.reduceMul, Nat.reduceMod, Nat.reduceDiv, Nat.reducePow, UInt8.reduceToNat, Int.reduceEq, Int.reduceLT, Int.reduceLE, ↓reduceIte, Nat.reduceAdd, Int.reduceToNat, reduceCtorEq, Nat.reduceLeDiff, ↓BX, hpt]
      exact ⟨fun _ => ⟨pre, rfl, hfin, by omega⟩, fun h => absurd hyes h⟩
     ·have hmc : m[c]? = some true := (Mk.at hok.1.nodup hcn).1 hcf.1
      have hmct : (m.map tb)[c]? = some (tb true) := by rw [List.getElem?_map, hmc]; rfl
      have hcc := Adi hmc
      have hpt : (pre.map idT).take pre.length = pre.map idT := Ec rfl
      have hset : (m.map tb).set c (tb false) = (m.set c false).map tb := by rw [List.map_set]
      simp -dsimp (disch := first | assumption | omega | (simp only [Ae]; done) | (simp only [Ae]; omega)) only [↓Ag, Ad, Ai, Ah, eq_self, forall_const, Nat.reduceLT, Nat.reduceEqDiff, Nat.reduceSub, Nat.reduceMul, Nat.reduceMod, Nat.reduceDiv, Nat.reducePow, UInt8.reduceToNat, Int.reduceEq, Int.reduceLT, Int.reduceLE, ↓reduceIte, Nat.reduceAdd, Int.reduceToNat, reduceCtorEq, Nat.reduceLeDiff, ↓BX, hmct, hcn, AP, hpt, Qz, Hm]
      refine Az ((m.set c false).count true) (by omega) (by simp) ⟨m.set c false, pre ++ [n.id], v + 1, _, _, rfl, by simp [hml], by simp; omega, fun rest hr => ?_, Nat.le_refl _, by simp [forget, get], by simp [AZ, ← hset]; rfl⟩
      rw [List.append_assoc]
      refine hrest _ (.take (List.mem_of_getElem? hcn) hcf (fun q hq hqf hqn => ?_) (hr.congr fun y => (Mk.clear hok.1.nodup hcn y).symm))
      obtain ⟨j, hj⟩ := List.getElem?_of_mem hq
      exact hbst j q (List.getElem?_eq_some_iff.1 hj).1 (fun e => hqn (by subst e; rw [hcn] at hj; cases hj; rfl)) hj hqf
end Go.Proofs.YtingoaihnlhiaaaDoor


namespace Go.Proofs.YtingoaihnlhiaaaDoor
open Go.RowKit
variable [A7]
set_option linter.unusedSectionVars false
set_option linter.unusedVariables false
set_option linter.unusedSimpArgs false

theorem AdL {l : List Nd} {n : Nd} : l.map ndT ++ [TV.agg [.arr 20 1 (n.id.map by8), .sl 20 (n.ps.map idT), i64 n.tm]] = (l ++ [n]).map ndT := by simp [AP]
theorem Ahu (l : List Nd) (hl : l.length ≤ 1000) (hp : ∀ n ∈ l, n.ps.length ≤ 1000) : Et Tryd.prog 8 [.sl 22 (l.map ndT)] (fun r => r = .sl 22 (l.map ndT)) := by
 refine Aq.toPureV (ZY (by simp) ?_)
 simp -dsimp (disch := first | assumption | omega) only [↓Ag, Ad, Ai, Ah, eq_self, forall_const, Nat.reduceLT, Nat.reduceEqDiff, Nat.reduceSub, Nat.reduceMul, Nat.reduceMod, Nat.reduceDiv, Nat.reducePow, UInt8.reduceToNat, Int.reduceEq, Int.reduceLT, Int.reduceLE, ↓reduceIte, Nat.reduceAdd, Int.reduceToNat, reduceCtorEq, Nat.reduceLeDiff, ↓Il]
 refine BG (fun m e H => ∃ i v : Nat, m = l.length - i ∧ i ≤ l.length ∧ e = [(0, .sl 22 (l.map ndT)), (3, .os 22 0 v [] 0 i i), (4, i64 (i : Int))] ∧ H = [.obj v (.arr i 22 ((l.take i).map ndT))]) l.length ?_ ?_
 ·exact ⟨0, 0, by simp, by simp, rfl, by simp⟩
 ·rintro m e H ⟨i, v, rfl, hi, rfl, rfl⟩
  by_cases h : i < l.length
  ·have hg : l[i]? = some l[i] := List.getElem?_eq_getElem h
   have hpi := hp l[i] (List.getElem_mem h)
   have hti : (l.take i).length = i := by simp; omega
   have htk : ((l.take i).map ndT).take i = (l.take i).map ndT := Ec hti.symm
   have hsucc := List.take_succ_eq_append_getElem h
   generalize hr : l.take i = r at *
   generalize hn : l[i] = n at *
   simp -dsimp (disch := first | assumption | omega) only [↓Ag, Ad, Ai, Ah, eq_self, forall_const, Nat.reduceLT, Nat.reduceEqDiff, Nat.reduceSub, Nat.reduceMul, Nat.reduceMod, Nat.reduceDiv, Nat.reducePow, UInt8.reduceToNat, Int.reduceEq, Int.reduceLT, Int.reduceLE, ↓reduceIte, Nat.reduceAdd, Int.reduceToNat, reduceCtorEq, Nat.reduceLeDiff, ↓Il, hg, AP]
   refine (Ab0 n.ps hpi).calls rfl ?_
   rintro x rfl
   simp -dsimp (disch := first | assumption | omega) only [↓Ag, Ad, Ai, Ah, eq_self, forall_const, Nat.reduceLT, Nat.reduceEqDiff, Nat.reduceSub, Nat.reduceMul, Nat.reduceMod, Nat.reduceDiv, Nat.reducePow, UInt8.reduceToNat, Int.reduceEq, Int.reduceLT, Int.reduceLE, ↓reduceIte, Nat.reduceAdd, Int.reduceToNat, reduceCtorEq, Nat.reduceLeDiff, ↓Il, hg, AP, Qz, Hm, htk, hti, AdL]
   exact JP (l.length - (i + 1)) 1 (by omega) (by omega) rfl rfl ⟨i + 1, v + 1, rfl, by omega, rfl, by rw [hsucc]; rfl⟩
  ·have hi2 : i = l.length := by omega
   subst hi2
   rw [List.take_length]
   have htk : (l.map ndT).take l.length = l.map ndT := Ec rfl
   simp -dsimp (disch := first | assumption | omega) only [↓Ag, Ad, Ai, Ah, eq_self, forall_const, Nat.reduceLT, Nat.reduceEqDiff, Nat.reduceSub, Nat.reduceMul, Nat.reduceMod, Nat.reduceDiv, Nat.reducePow, UInt8.reduceToNat, Int.reduceEq, Int.reduceLT, Int.reduceLE, ↓reduceIte, Nat.reduceAdd, Int.reduceToNat, reduceCtorEq, Nat.reduceLeDiff, ↓Il, htk]
end Go.Proofs.YtingoaihnlhiaaaDoor


namespace Go.Proofs.YtingoaihnlhiaaaDoor
open Go.RowKit Go.Extern.Stop Go.Stop Go.Extern
variable [A7]
set_option linter.unusedSectionVars false


theorem Aea (t : Addr) (w : World) : (ReflectliteValue.unpack (.iface 79 (.pointer (some t)))).run Tryd.prog w
  = .ok (.agg #[.pointer (some ⟨2, 79, none⟩), .pointer (some ⟨w.heap.size, 0, none⟩), .int .u64 150]) (w.alloc (.cells #[.pointer (some t)] 79)) := by kernel_rfl
theorem AkJ (a : Addr) (w : World) : (ReflectliteValue.methodAny (ReflectliteValue.valueError "reflectlite.Value.Type" 0) (fun t _ _ _ => ReflectliteType.toType t) #[.agg #[.pointer (some ⟨2, 79, none⟩), .pointer (some a), .int .u64 150]]).run Tryd.prog w
  = .ok (.iface 118 (.agg #[.pointer (some ⟨2, 79, none⟩)])) w := by kernel_rfl
theorem Ab9 (h : Value) (w : World) : (Go.method 288 118 (.agg #[h]) "Kind").run Tryd.prog w = .ok (89, h) w := by kernel_rfl
theorem Aix (w : World) : ((ReflectliteType.abiMethod fun t => (fun a : Nat => Value.int IntKind.u8 (a : Int)) <$> Rtype.kind t) #[.pointer (some ⟨2, 79, none⟩)]).run Tryd.prog w = .ok (.int .u8 22) w := by kernel_rfl
theorem Aju (w : World) : ((ReflectliteType.abiMethod fun t => (fun a : Nat => Value.int IntKind.u8 (a : Int)) <$> Rtype.kind t) #[.pointer (some ⟨2, 36, none⟩)]).run Tryd.prog w = .ok (.int .u8 2) w := by kernel_rfl

theorem rlm (z : Sem Value) (f : TypeId → Addr → Nat → Nat → Sem Value) (v : Value) :
  ReflectliteValue.method z f #[v] = (do match ← ReflectliteValue.parts v with | none => z | some (t, a, fl) => f t a fl (fl % 32)) := rfl
theorem AbM (a : Addr) (w : World) : (ReflectliteValue.parts (.agg #[.pointer (some ⟨2, 79, none⟩), .pointer (some a), .int .u64 150])).run Tryd.prog w = .ok (some (79, a, 150)) w := by kernel_rfl
/-- (Value).IsNil at the Value of a **p.E that is not nil. -/
theorem AhU (a p : Addr) (W : World) (ha : W.cell? a = some (.pointer (some p))) :
  (ReflectliteValue.method (ReflectliteValue.valueError "reflectlite.Value.IsNil" 0) ReflectliteValue.isNil #[.agg #[.pointer (some ⟨2, 79, none⟩), .pointer (some a), .int .u64 150]]).run Tryd.prog W = .ok (.bool false) W := by
 rw [rlm]
 simp only [Sem.run_bind, AbM, Result.andThen]
 simp [ReflectliteValue.isNil, loadVar, isAgg, underlying, Tryd.underlying79, ha, Result.andThen]

theorem Aci (h : Value) (w : World) : (Go.method 288 118 (.agg #[h]) "Elem").run Tryd.prog w = .ok (108, .agg #[h]) w := by kernel_rfl
theorem Vj (h : Value) (w : World) : (Go.method 288 118 (.agg #[h]) "Implements").run Tryd.prog w = .ok (109, .agg #[h]) w := by kernel_rfl
theorem Sr (h : Value) (w : World) : (Go.method 288 118 (.agg #[h]) "AssignableTo").run Tryd.prog w = .ok (106, .agg #[h]) w := by kernel_rfl
theorem AjO (w : World) : (ReflectliteType.method ReflectliteType.elem #[.agg #[.pointer (some ⟨2, 79, none⟩)]]).run Tryd.prog w = .ok (.iface 118 (.agg #[.pointer (some ⟨2, 36, none⟩)])) w := by kernel_rfl
theorem Aam (w : World) : (ReflectliteType.relation "Implements" ReflectliteType.implements_ #[.agg #[.pointer (some ⟨2, 36, none⟩)], .iface 118 (.agg #[.pointer (some ⟨2, 26, none⟩)])]).run Tryd.prog w = .ok (.bool true) w := by kernel_rfl
theorem Aff (v : Value) (w : World) : (ReflectliteType.typeOf #[.iface 36 v]).run Tryd.prog w = .ok (.iface 118 (.agg #[.pointer (some ⟨2, 36, none⟩)])) w := by kernel_rfl
theorem Aaa (w : World) : (ReflectliteType.relation "AssignableTo" ReflectliteType.assignableTo #[.agg #[.pointer (some ⟨2, 36, none⟩)], .iface 118 (.agg #[.pointer (some ⟨2, 36, none⟩)])]).run Tryd.prog w = .ok (.bool true) w := by kernel_rfl
theorem Adz (e : Int) (w : World) : (ReflectliteValue.unpack (.iface 36 (.int .i64 e))).run Tryd.prog w
  = .ok (.agg #[.pointer (some ⟨2, 36, none⟩), .pointer (some ⟨w.heap.size, 0, none⟩), .int .u64 130]) (w.alloc (.cells #[.int .i64 e] 36)) := by kernel_rfl

theorem Ae9 (w : World) : (Rtype.elem? 79).run Tryd.prog w = .ok (some 36) w := by kernel_rfl
theorem AoS (p : Addr) (w : World) : (ReflectliteValue.mk 36 p ReflectliteValue.flagAddr).run Tryd.prog w = .ok (.agg #[.pointer (some ⟨2, 36, none⟩), .pointer (some p), .int .u64 386]) w := by kernel_rfl
/-- (Value).Elem at the Value of a **p.E that is not nil: the Value of the *p.E variable that it points to, addressable. -/
theorem AgI (a p : Addr) (W : World) (ha : W.cell? a = some (.pointer (some p))) :
  (ReflectliteValue.method (ReflectliteValue.valueError "reflectlite.Value.Elem" 0) ReflectliteValue.elem #[.agg #[.pointer (some ⟨2, 79, none⟩), .pointer (some a), .int .u64 150]]).run Tryd.prog W
   = .ok (.agg #[.pointer (some ⟨2, 36, none⟩), .pointer (some p), .int .u64 386]) W := by
 rw [rlm]
 simp only [Sem.run_bind, AbM, Result.andThen]
 simp [ReflectliteValue.elem, loadVar, isAgg, underlying, Tryd.underlying79, ha, Result.andThen, Ae9, AoS]
theorem rls (v x : Value) : ReflectliteValue.set #[v, x] = (do
  let (some (dst, a, fl), some (src, b, _)) := (← ReflectliteValue.parts v, ← ReflectliteValue.parts x)
   | unsupported (.noEntry "extern/(internal/reflectlite.Value).Set.zeroValue")
  if fl / ReflectliteValue.flagAddr % 2 == 0 then unsupported (.noEntry "extern/(internal/reflectlite.Value).Set.unaddressable")
  let val ← loadVar src b
  if ← Rtype.directlyAssignable dst src then storeVar dst a val
  else if ← Rtype.implements dst src then
   if (← Rtype.kind src) == 20 then
    match val with
    | .nilIface => unsupported (.noEntry "extern/reflectlite: a nil value of one interface type handed on as a value of another")
    | _ => storeVar dst a val
   else storeVar dst a (.iface src val)
  else panicString ("reflectlite.Set: value of type " ++ (← Rtype.spelt src) ++ " is not assignable to type " ++ (← Rtype.spelt dst))
  pure (.tuple #[])) := rfl
theorem Ae7 (a : Addr) (w : World) : (ReflectliteValue.parts (.agg #[.pointer (some ⟨2, 36, none⟩), .pointer (some a), .int .u64 386])).run Tryd.prog w = .ok (some (36, a, 386)) w := by kernel_rfl
theorem Ag3 (a : Addr) (w : World) : (ReflectliteValue.parts (.agg #[.pointer (some ⟨2, 36, none⟩), .pointer (some a), .int .u64 130])).run Tryd.prog w = .ok (some (36, a, 130)) w := by kernel_rfl
theorem Afl (w : World) : (Rtype.directlyAssignable 36 36).run Tryd.prog w = .ok true w := by kernel_rfl
/-- (Value).Set: the *p.E variable at 'ta' gets what the Value's own variable 'b' holds. -/
theorem Al2 (ta b : Addr) (e : Int) (old : Value) (W : World) (hb : W.cell? b = some (.int .i64 e)) (ht : W.cell? ta = some old) (hf : W.frozen? ta = false) :
  (ReflectliteValue.set #[.agg #[.pointer (some ⟨2, 36, none⟩), .pointer (some ta), .int .u64 386], .agg #[.pointer (some ⟨2, 36, none⟩), .pointer (some b), .int .u64 130]]).run Tryd.prog W
   = .ok (.tuple #[]) (W.setCell ta (.int .i64 e)) := by
 rw [rls]
 simp only [Sem.run_bind, Ae7, Ag3, Result.andThen]
 simp [ReflectliteValue.flagAddr, loadVar, isAgg, underlying, Tryd.underlying36, hb, Result.andThen, Afl, storeVar, Value.cells, storeCells, Addr.add]
 rw [run_store Tryd.prog W ta _ _ (by rfl)]
 simp [ht, hf]

set_option maxHeartbeats 4000000 in
theorem Aon (e : Int) (t : Addr) (old : Value) (w : World) (hg : w.cell? ⟨0, 0, none⟩ = some (.iface 118 (.agg #[.pointer (some ⟨2, 26, none⟩)]))) (ht0 : w.cell? t = some old) (hf0 : w.frozen? t = false) :
  Calls Tryd.prog 31 #[.iface 36 (.int .i64 e), .iface 79 (.pointer (some t))] w fun ev w' => ev = .returned (.bool true) ∧ w' = ((((w.alloc (.cells #[.pointer (some t)] 79)).alloc (.cells #[.pointer (some ⟨2, 79, none⟩), .pointer (some ⟨w.heap.size, 0, none⟩), .int .u64 150] 100)).alloc (.cells #[.pointer (some ⟨2, 79, none⟩), .pointer (some ⟨w.heap.size, 0, none⟩), .int .u64 150] 100)).alloc (.cells #[.int .i64 e] 36)).setCell t (.int .i64 e) := by
 have h6 := @run_callFunc_extern Tryd.prog 41 _ (fun args => ReflectliteValue.unpack (args.getD 0 (.tuple #[]))) Tryd.func41 (by kernel_rfl) (by kernel_rfl) (by kernel_rfl) (by kernel_rfl)
 have h7 := @run_callFunc_extern Tryd.prog 42 _ (ReflectliteValue.methodAny (ReflectliteValue.valueError "reflectlite.Value.Type" 0) (fun t _ _ _ => ReflectliteType.toType t)) Tryd.func42 (by kernel_rfl) (by kernel_rfl) (by kernel_rfl) (by kernel_rfl)
 have h8 := @run_callFunc_extern Tryd.prog 43 _ (ReflectliteValue.method (ReflectliteValue.valueError "reflectlite.Value.IsNil" 0) ReflectliteValue.isNil) Tryd.func43 (by kernel_rfl) (by kernel_rfl) (by kernel_rfl) (by kernel_rfl)
 have h27 := @run_callFunc_extern Tryd.prog 89 _ (ReflectliteType.abiMethod fun t => do pure (.int .u8 (← Rtype.kind t))) Tryd.func89 (by kernel_rfl) (by kernel_rfl) (by kernel_rfl) (by kernel_rfl)
 have h37 := @run_callFunc_extern Tryd.prog 108 _ (ReflectliteType.method ReflectliteType.elem) Tryd.func108 (by kernel_rfl) (by kernel_rfl) (by kernel_rfl) (by kernel_rfl)
 have h38 := @run_callFunc_extern Tryd.prog 109 _ (ReflectliteType.relation "Implements" ReflectliteType.implements_) Tryd.func109 (by kernel_rfl) (by kernel_rfl) (by kernel_rfl) (by kernel_rfl)
 have h10 := @run_callFunc_extern Tryd.prog 52 _ ReflectliteType.typeOf Tryd.func52 (by kernel_rfl) (by kernel_rfl) (by kernel_rfl) (by kernel_rfl)
 have h35 := @run_callFunc_extern Tryd.prog 106 _ (ReflectliteType.relation "AssignableTo" ReflectliteType.assignableTo) Tryd.func106 (by kernel_rfl) (by kernel_rfl) (by kernel_rfl) (by kernel_rfl)
 have h11 := @run_callFunc_extern Tryd.prog 53 _ (ReflectliteValue.method (ReflectliteValue.valueError "reflectlite.Value.Elem" 0) ReflectliteValue.elem) Tryd.func53 (by kernel_rfl) (by kernel_rfl) (by kernel_rfl) (by kernel_rfl)
 have h12 := @run_callFunc_extern Tryd.prog 54 _ ReflectliteValue.set Tryd.func54 (by kernel_rfl) (by kernel_rfl) (by kernel_rfl) (by kernel_rfl)
 have tO := Aff
 have mA := Sr
 have a25 := Aaa
 have v25 := Adz
 have f6 := Aea
 have f7 := AkJ
 have mK := Ab9
 have mE := Aci
 have mI := Vj
 have k27 := Aix
 have k25 := Aju
 have e27 := AjO
 have i25 := Aam
 have n8 := AhU ⟨w.heap.size, 0, none⟩ t ((w.alloc (.cells #[.pointer (some t)] 79)).alloc (.cells #[.pointer (some ⟨2, 79, none⟩), .pointer (some ⟨w.heap.size, 0, none⟩), .int .u64 150] 100)) (by simp)
 have hlt : 0 < w.heap.size := by
  rcases Nat.lt_or_ge 0 w.heap.size with h | h
  ·exact h
  ·simp [World.cell?, Array.getElem?_eq_none h] at hg
 have hg2 : ((w.alloc (.cells #[.pointer (some t)] 79)).alloc (.cells #[.pointer (some ⟨2, 79, none⟩), .pointer (some ⟨w.heap.size, 0, none⟩), .int .u64 150] 100)).cell? ⟨0, 0, none⟩ = some (.iface 118 (.agg #[.pointer (some ⟨2, 26, none⟩)])) := by
  rw [World.cell?_alloc_lt _ _ ⟨0, 0, none⟩ (by simp), World.cell?_alloc_lt _ _ ⟨0, 0, none⟩ hlt]; exact hg
 have htl : t.block < w.heap.size := by
  rcases Nat.lt_or_ge t.block w.heap.size with h | h
  ·exact h
  ·simp [World.cell?, Array.getElem?_eq_none h] at ht0
 have el := AgI ⟨w.heap.size, 0, none⟩ t (((w.alloc (.cells #[.pointer (some t)] 79)).alloc (.cells #[.pointer (some ⟨2, 79, none⟩), .pointer (some ⟨w.heap.size, 0, none⟩), .int .u64 150] 100)).alloc (.cells #[.pointer (some ⟨2, 79, none⟩), .pointer (some ⟨w.heap.size, 0, none⟩), .int .u64 150] 100)) (by rw [World.cell?_alloc_lt _ _ ⟨w.heap.size, 0, none⟩ (by simp; omega)]; simp)
 have st := Al2 t ⟨w.heap.size + 1 + 1 + 1, 0, none⟩ e old ((((w.alloc (.cells #[.pointer (some t)] 79)).alloc (.cells #[.pointer (some ⟨2, 79, none⟩), .pointer (some ⟨w.heap.size, 0, none⟩), .int .u64 150] 100)).alloc (.cells #[.pointer (some ⟨2, 79, none⟩), .pointer (some ⟨w.heap.size, 0, none⟩), .int .u64 150] 100)).alloc (.cells #[.int .i64 e] 36))
  (by rw [World.cell?_alloc_at _ _ _ _ (by simp)]; rfl)
  (by rw [World.cell?_alloc_lt _ _ t (by simp; omega), World.cell?_alloc_lt _ _ t (by simp; omega), World.cell?_alloc_lt _ _ t (by simp; omega), World.cell?_alloc_lt _ _ t htl]; exact ht0)
  (by rw [World.frozen?_alloc_old _ _ t (by simp; omega), World.frozen?_alloc_old _ _ t (by simp; omega), World.frozen?_alloc_old _ _ t (by simp; omega), World.frozen?_alloc_old _ _ t (Nat.ne_of_lt htl)]; exact hf0)
 go_enter Tryd.func31, Tryd.ntmps31
 go_wp2
 refine wp_loop_rounds 1 ?_
 rw [rounds_succ]
 go_wp2
 go_ret
 exact ⟨rfl, rfl⟩
end Go.Proofs.YtingoaihnlhiaaaDoor


namespace Go.Proofs.YtingoaihnlhiaaaDoor
variable [A7]
set_option linter.unusedSectionVars false
set_option linter.unusedVariables false
set_option linter.defProp false
set_option maxRecDepth 100000

def AaN : Af := .seq (.ops [po_ 2 (.mov (ci_ 0))] [0])
 (.seq (.ops [so_ 3 (.alloc (.val (.int .i64 ((0 : Nat) : Int))))] [0, 3])
 (.seq (.block 0 (.seq (.ops [mv_ 5 0,
  po_ 6 (.eqN 1 (.t 5) (.c .nilIface) false),
  mv_ 4 6] [0, 3, 4])
 (.cond (.t 4)
 (.seq (.ops [po_ 2 (.mov (ci_ 0))] [2])
  (.ret))
 (.seq (.ops [mv_ 8 0,
   po_ 9 (.iface 79 (.t 3)),
   so_ 10 (.call 31 [.t 8, .t 9]),
   mv_ 7 10] [3, 7])
  (.cond (.t 7)
  (.seq (.ops [po_ 11 (.load false 1 (.t 3)),
    mv_ 2 11] [2])
   (.ret))
  (.skip))))))
 (.seq (.ops [po_ 2 (.mov (.c (.int .i64 (-1))))] [2])
 (.ret))))
def Aav : List VR := [.tmp 2]
theorem AfE : Tryd.f12.body.bind (trC Tryd.prog Tryd.f12.ntmps) = some (er AaN) := by kernel_rfl
theorem AeT : trR Tryd.prog Tryd.f12.results.toList = some Aav := by kernel_rfl
def Aco := Ac AaN.eq_1
theorem Ac5 {K : TV → Prop} {e : Env} {H : List Ob} : res Aav e H K = res [.tmp 2] e H K := Aa rfl
def Xv := (And.intro @Aco @Ac5)
def Y7 := DN 12 Tryd.func12 AfE AeT rfl

end Go.Proofs.YtingoaihnlhiaaaDoor


namespace Go.Proofs.YtingoaihnlhiaaaDoor
open Go.RowKit
variable [A7] [Df]
set_option linter.unusedSectionVars false
set_option linter.unusedVariables false
set_option linter.unusedSimpArgs false

theorem Pz.refl {F : Nat → Prop} {w : World} (h : ∀ b, F b → b < w.heap.size) : Pz F w F w := ⟨rfl, rfl, rfl, Nat.le_refl _, fun _ _ => rfl, fun _ h => h, fun _ _ h => h, h⟩
theorem Pz.alloc {F F' : Nat → Prop} {w w' : World} (h : Pz F w F' w') (o : Obj) : Pz F w F' (w'.alloc o) :=
 ⟨h.os, h.tape, h.output, by have := h.size; simp; omega, fun b hb => (CX w' o (Nat.lt_of_lt_of_le hb h.size)).trans (h.same b hb), h.keepF, h.oldF, fun b hb => by have := h.ltF b hb; simp; omega⟩

/-- An error of the program's. -/
abbrev eno (n : Int) : TV := .ifc 36 (i64 n)

theorem Aje {n : Int} {id ver : Nat} {p : List (Nat × Nat)} {x x' : TV} {H : List Ob} {K : TV → List Ob → Prop} (ho : H[id]? = some (.obj ver x)) (hs2 : TK p x (i64 n) = some x') (hk : K (tb true) (H.set id (.obj ver x'))) :
  Aq Tryd.prog 31 [eno n, .ifc 79 (.op id ver p)] H K := by
 intro β F w vs hs hv
 obtain ⟨u, us, rfl, h1, h2⟩ := Ba.cons.1 hv
 obtain ⟨u2, us2, rfl, h3, h4⟩ := Ba.cons.1 h2
 rw [Ba.nil] at h4; subst h4
 -- the two arguments
 have e1 : u = .iface 36 (.int .i64 n) := by
  rcases h1 with h | h | ⟨xs0, h, rfl⟩
  ·cases h
  ·cases h
  ·rw [Aj] at h
   obtain ⟨v, rfl, vs, h, rfl⟩ := h
   rw [Aj] at h
   obtain ⟨rfl, _⟩ := h
   rfl
 obtain ⟨b, o, hbo, rfl⟩ : ∃ b o, β id ver = some (b, o) ∧ u2 = .iface 79 (.pointer (some ⟨b, o + D7 p, none⟩)) := by
  rcases h3 with h | h | ⟨xs0, h, rfl⟩
  ·cases h
  ·cases h
  ·rw [Aj] at h
   obtain ⟨v, rfl, vs, h, rfl⟩ := h
   rw [Aj] at h
   obtain ⟨_, b, o, hb, rfl⟩ := h
   exact ⟨b, o, hb, rfl⟩
 subst e1
 have hgl := hs.glob.at Df.k
 have hg : w.cell? ⟨0, 0, none⟩ = some (.iface 118 (.agg #[.pointer (some ⟨2, 26, none⟩)])) := hgl 0 _ rfl
 have hrow : ∀ c w, Aj c w (i64 n) [.int .i64 n] := fun c w => by rw [Aj]; exact ⟨rfl, rfl⟩
 obtain ⟨_, _, ht⟩ := hs.store ho hbo hs2 (hrow _ _)
 obtain ⟨t1, t2⟩ := ht 0 (by simp)
 obtain ⟨old, hold⟩ := Option.isSome_iff_exists.1 t1
 refine (Aon n ⟨b, o + D7 p, none⟩ old w hg hold t2).mono ?_
 rintro e w' ⟨rfl, rfl⟩
 have hst := ((((Pz.refl (F := F) hs.lt).alloc (.cells #[.pointer (some ⟨b, o + D7 p, none⟩)] 79)).alloc (.cells #[.pointer (some ⟨2, 79, none⟩), .pointer (some ⟨w.heap.size, 0, none⟩), .int .u64 150] 100)).alloc (.cells #[.pointer (some ⟨2, 79, none⟩), .pointer (some ⟨w.heap.size, 0, none⟩), .int .u64 150] 100)).alloc (.cells #[.int .i64 n] 36)
 obtain ⟨k1, k2, _⟩ := (hst.sim hs).store ho hbo hs2 (hrow _ _)
 exact ⟨_, tb true, β, _, F, rfl, hk, k1, hst.later.trans k2, Rep.of_val⟩

/-- api.Tell of an error of the program's, and of none. -/
theorem A3A {n : Int} : Et Tryd.prog 12 [eno n] (fun x => x = i64 n) := by
 refine Aq.toPureV (Y7 (by simp) ?_)
 simp -dsimp (disch := first | assumption | omega) only [↓Ag, Ad, Ai, Ah, eq_self, forall_const, Nat.reduceLT, Nat.reduceEqDiff, Nat.reduceSub, Nat.reduceMul, Nat.reduceMod, Nat.reduceDiv, Nat.reducePow, UInt8.reduceToNat, Int.reduceEq, Int.reduceLT, Int.reduceLE, ↓reduceIte, Nat.reduceAdd, Int.reduceToNat, reduceCtorEq, Nat.reduceLeDiff, ↓Xv]
 refine Aje (x := i64 ((0 : Nat) : Int)) (x' := i64 n) rfl (by rw [AeM]; rfl) ?_
 simp -dsimp (disch := first | assumption | omega) only [↓Ag, Ad, Ai, Ah, eq_self, forall_const, Nat.reduceLT, Nat.reduceEqDiff, Nat.reduceSub, Nat.reduceMul, Nat.reduceMod, Nat.reduceDiv, Nat.reducePow, UInt8.reduceToNat, Int.reduceEq, Int.reduceLT, Int.reduceLE, ↓reduceIte, Nat.reduceAdd, Int.reduceToNat, reduceCtorEq, Nat.reduceLeDiff, ↓Xv]
theorem ArE : Et Tryd.prog 12 [.val .nilIface] (fun x => x = i64 ((0 : Nat) : Int)) := by
 refine Aq.toPureV (Y7 (by simp) ?_)
 simp -dsimp (disch := first | assumption | omega) only [↓Ag, Ad, Ai, Ah, eq_self, forall_const, Nat.reduceLT, Nat.reduceEqDiff, Nat.reduceSub, Nat.reduceMul, Nat.reduceMod, Nat.reduceDiv, Nat.reducePow, UInt8.reduceToNat, Int.reduceEq, Int.reduceLT, Int.reduceLE, ↓reduceIte, Nat.reduceAdd, Int.reduceToNat, reduceCtorEq, Nat.reduceLeDiff, ↓Xv]
end Go.Proofs.YtingoaihnlhiaaaDoor


namespace Go.Proofs.YtingoaihnlhiaaaDoor
open Go.RowKit
variable [A7]
set_option linter.unusedSectionVars false
set_option linter.unusedVariables false
set_option linter.unusedSimpArgs false

set_option maxRecDepth 100000 in
/-- An id that came in. -/
theorem ZB {t : TypeId} (ht : Tryd.prog.underlying t = some (.array 20 5)) (hn : Tryd.prog.cellsOf t = 20) : IV Tryd.prog t idT (fun l => l.length = 20) :=
 Ir (AbS ht (k := 1) (by kernel_rfl) (by rw [hn]) (Ah6 Tryd.underlying5) (fun _ _ => rfl)) fun l h => ⟨l, by rw [AZ], h.1⟩
set_option maxRecDepth 100000 in
/-- Nodes that came in. -/
theorem AcG : IV Tryd.prog 22 (fun l : List Nd => .sl 22 (l.map ndT)) (fun l => ∀ n ∈ l, n.id.length = 20) := by
 refine Ir (Qk (k := 22) (B := Tryd.prog.bytesOf 51) Tryd.underlying22 (by kernel_rfl) rfl (ok := fun n : Nd => n.id.length = 20) (f := ndT) ?_ (fun a _ => Agy) (by decide)) fun l h => ⟨l, rfl, h.1⟩
 refine Ir (AbC Tryd.underlying51 (by kernel_rfl) (Q8 (off := 0) (n := 20) rfl (by kernel_rfl) (ZB Tryd.underlying40 (by kernel_rfl)) (Q8 (off := 20) (n := 1) rfl (by kernel_rfl)
  (Qk (k := 20) (B := Tryd.prog.bytesOf 40) Tryd.underlying23 (by kernel_rfl) rfl (ZB Tryd.underlying40 (by kernel_rfl)) (fun a _ => FQ) (by decide))
  (Q8 (off := 21) (n := 1) rfl (by kernel_rfl) (Afh Tryd.underlying2) AdY)))) fun x h => ?_
 obtain ⟨i, p, t, u⟩ := x
 refine ⟨⟨i, p, t⟩, ?_, h.1⟩
 rw [AP]
 simp only [AZ]
end Go.Proofs.YtingoaihnlhiaaaDoor


namespace Go.Proofs.YtingoaihnlhiaaaDoor
open Go.RowKit
variable [A7] [Df]
set_option linter.unusedSectionVars false
set_option linter.unusedVariables false
set_option linter.unusedSimpArgs false

theorem Ahb {l : List Nd} (h : Aiv l = true) : l.length ≤ 40 ∧ ∀ n ∈ l, n.ps.length ≤ 40 := by
 unfold Aiv at h
 rw [Bool.and_eq_true, decide_eq_true_eq, List.all_eq_true] at h
 exact ⟨h.1, fun n hn => by simpa using h.2 n hn⟩
end Go.Proofs.YtingoaihnlhiaaaDoor

